/- ParseQuery: the program's walk. Written by gen_pqry.py. -/
import Derived.Test.YtcdcpfcmhmhdjaaGreatDoorMg9
import Derived.Test.YtcdcpfcmhmhdjaaGreatDoorMg8
namespace Go.Proofs.YtcdcpfcmhmhdjaaGreatDoor
open Go.ChangeShapes Go.WideShapes Go.RowKit Go.Deep
def qryOr (o : Option DQuery) : DQuery := o.getD ⟨0, 0, [], []⟩
theorem strsAt_at {w : World} {g : Nat} {P : List (List UInt8)} (h : StrsAt w g P) {j : Nat} (hj : j < P.length) : w.cell? ⟨g, j, none⟩ = some (.string ⟨(atW P j).toArray⟩) := by
  unfold atW; rw [getD_lt hj]; exact h j hj
theorem atW_len {l : List UInt8} (hl : l.length ≤ 1048576) (j : Nat) : (atW (cutL 32 l) j).length ≤ 1048576 := by
  unfold atW
  by_cases h : j < (cutL 32 l).length
  · rw [getD_lt h]
    have := cutL_len 32 l _ (List.getElem_mem h); omega
  · rw [List.getD_eq_getElem?_getD, List.getElem?_eq_none (by omega)]; simp
theorem implQuery_fit {l : List UInt8} (h : fitB (cutL 32 l) = false) : implQuery l = none := by unfold implQuery; exact if_neg (fun k => by rw [h] at k; exact absurd k.1 (by simp))
theorem implQuery_ok {l : List UInt8} (h : okI (cutL 32 l) = false) : implQuery l = none := by unfold implQuery; exact if_neg (fun k => by rw [h] at k; exact absurd k.2.1 (by simp))
theorem implQuery_is {l : List UInt8} (h : isQueryB (qI (cutL 32 l)) = false) : implQuery l = none := by unfold implQuery; exact if_neg (fun k => by rw [h] at k; exact absurd k.2.2.1 (by simp))
theorem implQuery_no {l : List UInt8} (h : queryText (qI (cutL 32 l)) ≠ l) : implQuery l = none := by unfold implQuery; exact if_neg (fun k => h k.2.2.2)
theorem implQuery_yes {l : List UInt8} (h1 : fitB (cutL 32 l) = true) (h2 : okI (cutL 32 l) = true) (h3 : isQueryB (qI (cutL 32 l)) = true) (h4 : queryText (qI (cutL 32 l)) = l) : implQuery l = some (qI (cutL 32 l)) := by unfold implQuery; exact if_pos ⟨h1, h2, h3, h4⟩
theorem fitB_no {P : List (List UInt8)} (h : ¬ (4 ≤ P.length ∧ P.length % 2 = 0 ∧ P.length ≤ 10)) : fitB P = false := decide_eq_false h
theorem World.setCell_size (w : World) (p : Addr) (v : Value) : (w.setCell p v).heap.size = w.heap.size := by simp [World.setCell]
theorem cut2_len (l : List UInt8) : (Lib.cut l [46, 46]).1.length ≤ l.length ∧ (Lib.cut l [46, 46]).2.1.length ≤ l.length := by
  unfold Lib.cut
  split
  · simp only [List.length_take, List.length_drop]; omega
  · simp
theorem okC_succ (P : List (List UInt8)) (k : Nat) : okC P (k + 1) = (okC P k && qcB P k) := by unfold okC; rw [List.range_succ, List.all_append]; simp
theorem qcsI_succ (P : List (List UInt8)) (k : Nat) : qcsI P (k + 1) = qcsI P k ++ [qcI P k] := by unfold qcsI; rw [List.range_succ, List.map_append]; rfl
theorem qcsI_len (P : List (List UInt8)) (k : Nat) : (qcsI P k).length = k := by unfold qcsI; simp
theorem pV_i64 (p : List UInt8) : I64 (pV p) := by
  unfold pV
  cases h : parseI p with
  | none => simp [I64]
  | some n => have := parseI_some h; show I64 n; unfold I64; omega
theorem query_small {q : DQuery} (h : isQueryB q = true) : totQuery q ≤ 1048576 ∧ I64 q.id ∧ I64 q.tenant := by
  obtain ⟨_, h2, h3, _, _, h6⟩ := isQueryB_parts h
  have ht : 0 ≤ q.tenant ∧ q.tenant ≤ 3 := by
    unfold isQueryB at h
    simp only [Bool.and_eq_true] at h
    exact inB_true h.2.2.1
  refine ⟨by unfold totQuery; omega, ?_, ?_⟩ <;> (unfold I64; omega)
theorem impl_pAft {p : List UInt8} {c : UInt8} {n : Int} {b : Bool} (h1 : aV c p = n) (h2 : aB c p = b) (hp : p.length ≤ 1048576) (w : World) (hT : Tens Tryz.prog w) (hS : ErrS Tryz.prog w) (hR : ErrR Tryz.prog w) : Calls Tryz.prog 35 #[.string ⟨p.toArray⟩, .string ⟨#[c]⟩] w fun e w' => e = .returned (.tuple #[.int .i64 n, .bool b]) ∧ Gr w w' := h1 ▸ h2 ▸ impl_parseAfter p c hp w hT hS hR
theorem impl_pIn {p : List UInt8} {n : Int} {b : Bool} (h1 : pV p = n) (h2 : pB p = b) (hp : p.length ≤ 1048576) (w : World) (hT : Tens Tryz.prog w) (hS : ErrS Tryz.prog w) (hR : ErrR Tryz.prog w) : Calls Tryz.prog 38 #[.string ⟨p.toArray⟩] w fun e w' => e = .returned (.tuple #[.int .i64 n, .bool b]) ∧ Gr w w' := h1 ▸ h2 ▸ impl_pInt p hp w hT hS hR
theorem impl_dotsN {l X Y : List UInt8} {Z : Bool} (h : Lib.cut l [46, 46] = (X, Y, Z)) (w : World) (hM : MaxL w) (hl : l.length ≤ 1048576) : Calls Tryz.prog 37 #[.string ⟨l.toArray⟩, .string ⟨#[46, 46]⟩] w fun e w' => e = .returned (.tuple #[.string ⟨X.toArray⟩, .string ⟨Y.toArray⟩, .bool Z]) ∧ Gr w w' := by
  have := impl_dots l w hM hl
  rw [h] at this; exact this
theorem impl_splitN (l : List UInt8) (c : UInt8) (P : List (List UInt8)) (N : Nat) (hP : cutL c l = P) (hN : P.length = N) (w : World) (hM : MaxL w) (hl : l.length ≤ 1048576) : Calls Tryz.prog 34 #[.string ⟨l.toArray⟩, .string ⟨#[c]⟩] w fun e w' => ∃ g n, e = .returned (.slice (some ⟨g, 0, none⟩) N n) ∧ Gr w w' ∧ Hid (StrsAt w' g P ∧ w.heap.size ≤ g) := hN ▸ hP ▸ impl_split l c w hM hl
theorem impl_nums (l : List UInt8) (o : Option (List Int)) (b : Bool) (ho : parseAll (cutL 44 l) = o) (hb : o.isSome = b) (w : World) (hl : l.length ≤ 1048576) (hT : Tens Tryz.prog w) (hS : ErrS Tryz.prog w) (hR : ErrR Tryz.prog w) (hM : MaxL w) : Calls Tryz.prog 36 #[.string ⟨l.toArray⟩] w fun e w' => ∃ a n c, e = .returned (.tuple #[.slice a n c, .bool b]) ∧ Gr w w' ∧ PInts (In w.heap.size w'.heap.size) w' (.slice a n c) (o.getD []) := by
  subst ho hb
  exact (impl_parseNumbers l w hl hT hS hR hM).mono fun e w' ⟨r, he, hg, ho⟩ => by obtain ⟨a, n, c, rfl⟩ := ho.isSl; exact ⟨a, n, c, he, hg, ho⟩
set_option maxRecDepth 100000 in
set_option maxHeartbeats 4000000 in
theorem impl_ParseQuery (l : List UInt8) (w : World) (hl : l.length ≤ 1048576) (hT : Tens Tryz.prog w) (hS : ErrS Tryz.prog w) (hR : ErrR Tryz.prog w) (hM : MaxL w) : Calls Tryz.prog 12 #[.string ⟨l.toArray⟩] w fun e w' => ∃ v v', e = .returned (.tuple #[.agg #[.int .i64 (qryOr (implQuery l)).id, .int .i64 (qryOr (implQuery l)).tenant, v, v'], .bool (implQuery l).isSome]) ∧ Gr w w' ∧ ∃ m, w.heap.size ≤ m ∧ m ≤ w'.heap.size ∧ PConds (In m w'.heap.size) w' v (qryOr (implQuery l)).conds ∧ PInts (In w.heap.size m) w' v' (qryOr (implQuery l)).out := by
  have HL := Lib.hid hl
  have HT := Lib.hid hT
  have HES := Lib.hid hS
  have HER := Lib.hid hR
  have HM := Lib.hid hM
  have g0 : Gr w (w.alloc (.cells #[.int .i64 0, .int .i64 0, .slice none 0 0, .slice none 0 0] 27)) := (Gr.refl w).alloc _
  have hlt : w.heap.size < (w.alloc (.cells #[.int .i64 0, .int .i64 0, .slice none 0 0, .slice none 0 0] 27)).heap.size := by simp
  clear hl hT hS hR hM
  obtain ⟨P, HPP⟩ : ∃ P, Hid (cutL 32 l = P) := ⟨_, Lib.hid rfl⟩
  have HAW : Hid (∀ j, (atW P j).length ≤ 1048576) := Lib.hid (by rw [← HPP.out]; exact atW_len HL.out)
  obtain ⟨N, HN⟩ : ∃ N, Hid (P.length = N) := ⟨_, Lib.hid rfl⟩

  by_cases b1 : N < 4
  · have d4 : decide ((N : Int) < 4) = true := decide_eq_true (by omega)
    have HB := Lib.hid (implQuery_fit (l := l) (by rw [HPP.out]; exact fitB_no (by rw [HN.out]; omega)))
    clear b1
    go_enter Tryz.func12, Tryz.ntmps12
    go_wp2_with fail
    refine (impl_splitN l 32 P N HPP.out HN.out _ (maxL_gr HM.out g0) HL.out).mono ?_
    rintro e w1 ⟨g, n, rfl, g1, HSt⟩
    have k0 : w1.cell? ⟨w.heap.size, 0, none⟩ = some (.int .i64 0) := g1.cellv (by simp [go_sem])
    have k1 : w1.cell? ⟨w.heap.size, 1, none⟩ = some (.int .i64 0) := g1.cellv (by simp [go_sem])
    have k2 : w1.cell? ⟨w.heap.size, 2, none⟩ = some (.slice none 0 0) := g1.cellv (by simp [go_sem])
    have k3 : w1.cell? ⟨w.heap.size, 3, none⟩ = some (.slice none 0 0) := g1.cellv (by simp [go_sem])
    have f0 : w1.frozen? ⟨w.heap.size, 0, none⟩ = false := by rw [g1.frozen hlt]; simp [go_sem]
    have f1 : w1.frozen? ⟨w.heap.size, 1, none⟩ = false := by rw [g1.frozen hlt]; simp [go_sem]
    have f2 : w1.frozen? ⟨w.heap.size, 2, none⟩ = false := by rw [g1.frozen hlt]; simp [go_sem]
    have f3 : w1.frozen? ⟨w.heap.size, 3, none⟩ = false := by rw [g1.frozen hlt]; simp [go_sem]
    have G1 := Lib.hid (g0.trans g1)
    have hl1 : w.heap.size < w1.heap.size := Nat.lt_of_lt_of_le hlt g1.size
    clear g0 g1 hlt
    go_wp2_with fail
    refine bodyPost_ret (v := .tuple #[.agg #[.int .i64 0, .int .i64 0, .slice none 0 0, .slice none 0 0], .bool false]) (by simp [results, Tryz.results12, go_sem, *]) rfl ⟨_, _, by rw [HB.out]; rfl, ((((G1.out.setCell (Nat.le_refl _) _).setCell (Nat.le_refl _) _).setCell (Nat.le_refl _) _).setCell (Nat.le_refl _) _), w.heap.size, Nat.le_refl _, by simp only [World.setCell_size]; exact G1.out.size, by rw [HB.out]; exact OSl.nil _, by rw [HB.out]; exact OSl.nil _⟩
  have d4 : decide ((N : Int) < 4) = false := decide_eq_false (by omega)
  by_cases b2 : N % 2 = 0
  · have hrem : (N : Int) % 2 = 0 := by omega
    by_cases b3 : 10 < N
    · have d10 : decide ((10 : Int) < (N : Int)) = true := decide_eq_true (by omega)
      have HB := Lib.hid (implQuery_fit (l := l) (by rw [HPP.out]; exact fitB_no (by rw [HN.out]; omega)))
      clear b1 b2 b3
      go_enter Tryz.func12, Tryz.ntmps12
      go_wp2_with fail
      refine (impl_splitN l 32 P N HPP.out HN.out _ (maxL_gr HM.out g0) HL.out).mono ?_
      rintro e w1 ⟨g, n, rfl, g1, HSt⟩
      have k0 : w1.cell? ⟨w.heap.size, 0, none⟩ = some (.int .i64 0) := g1.cellv (by simp [go_sem])
      have k1 : w1.cell? ⟨w.heap.size, 1, none⟩ = some (.int .i64 0) := g1.cellv (by simp [go_sem])
      have k2 : w1.cell? ⟨w.heap.size, 2, none⟩ = some (.slice none 0 0) := g1.cellv (by simp [go_sem])
      have k3 : w1.cell? ⟨w.heap.size, 3, none⟩ = some (.slice none 0 0) := g1.cellv (by simp [go_sem])
      have f0 : w1.frozen? ⟨w.heap.size, 0, none⟩ = false := by rw [g1.frozen hlt]; simp [go_sem]
      have f1 : w1.frozen? ⟨w.heap.size, 1, none⟩ = false := by rw [g1.frozen hlt]; simp [go_sem]
      have f2 : w1.frozen? ⟨w.heap.size, 2, none⟩ = false := by rw [g1.frozen hlt]; simp [go_sem]
      have f3 : w1.frozen? ⟨w.heap.size, 3, none⟩ = false := by rw [g1.frozen hlt]; simp [go_sem]
      have G1 := Lib.hid (g0.trans g1)
      have hl1 : w.heap.size < w1.heap.size := Nat.lt_of_lt_of_le hlt g1.size
      clear g0 g1 hlt
      go_wp2_with fail
      refine bodyPost_ret (v := .tuple #[.agg #[.int .i64 0, .int .i64 0, .slice none 0 0, .slice none 0 0], .bool false]) (by simp [results, Tryz.results12, go_sem, *]) rfl ⟨_, _, by rw [HB.out]; rfl, ((((G1.out.setCell (Nat.le_refl _) _).setCell (Nat.le_refl _) _).setCell (Nat.le_refl _) _).setCell (Nat.le_refl _) _), w.heap.size, Nat.le_refl _, by simp only [World.setCell_size]; exact G1.out.size, by rw [HB.out]; exact OSl.nil _, by rw [HB.out]; exact OSl.nil _⟩
    · have d10 : decide ((10 : Int) < (N : Int)) = false := decide_eq_false (by omega)
      have HFIT : Hid (4 ≤ N ∧ N % 2 = 0 ∧ N ≤ 10) := Lib.hid ⟨by omega, b2, by omega⟩
      have i4 : (4 : Int) ≤ (N : Int) := by omega
      have i10 : (N : Int) ≤ 10 := by omega
      have i0 : (0 : Int) < (N : Int) := by omega
      have i1 : (1 : Int) < (N : Int) := by omega
      clear b1 b2 b3
      go_enter Tryz.func12, Tryz.ntmps12
      go_wp2_with fail
      refine (impl_splitN l 32 P N HPP.out HN.out _ (maxL_gr HM.out g0) HL.out).mono ?_
      rintro e w1 ⟨g, n, rfl, g1, HSt⟩
      have k0 : w1.cell? ⟨w.heap.size, 0, none⟩ = some (.int .i64 0) := g1.cellv (by simp [go_sem])
      have k1 : w1.cell? ⟨w.heap.size, 1, none⟩ = some (.int .i64 0) := g1.cellv (by simp [go_sem])
      have k2 : w1.cell? ⟨w.heap.size, 2, none⟩ = some (.slice none 0 0) := g1.cellv (by simp [go_sem])
      have k3 : w1.cell? ⟨w.heap.size, 3, none⟩ = some (.slice none 0 0) := g1.cellv (by simp [go_sem])
      have f0 : w1.frozen? ⟨w.heap.size, 0, none⟩ = false := by rw [g1.frozen hlt]; simp [go_sem]
      have f1 : w1.frozen? ⟨w.heap.size, 1, none⟩ = false := by rw [g1.frozen hlt]; simp [go_sem]
      have f2 : w1.frozen? ⟨w.heap.size, 2, none⟩ = false := by rw [g1.frozen hlt]; simp [go_sem]
      have f3 : w1.frozen? ⟨w.heap.size, 3, none⟩ = false := by rw [g1.frozen hlt]; simp [go_sem]
      have G1 := Lib.hid (g0.trans g1)
      have hl1 : w.heap.size < w1.heap.size := Nat.lt_of_lt_of_le hlt g1.size
      clear g0 g1 hlt
      have HST1 : Hid (StrsAt w1 g P) := Lib.hid HSt.out.1
      obtain ⟨I, A, HI, HA⟩ : ∃ I A, Hid (aV 113 (atW P 0) = I) ∧ Hid (aB 113 (atW P 0) = A) := ⟨_, _, Lib.hid rfl, Lib.hid rfl⟩
      obtain ⟨J, B, HJ, HBb⟩ : ∃ J B, Hid (aV 116 (atW P 1) = J) ∧ Hid (aB 116 (atW P 1) = B) := ⟨_, _, Lib.hid rfl, Lib.hid rfl⟩
      obtain ⟨o, C, HOo, HC⟩ : ∃ o C, Hid (outI P = o) ∧ Hid (o.isSome = C) := ⟨_, _, Lib.hid rfl, Lib.hid rfl⟩
      have HOP : Hid (parseAll (cutL 44 (atW P (N - 1))) = o) := Lib.hid (by rw [← HOo.out, ← HN.out]; rfl)
      have HHD : Hid (hdB P = (A && (B && C))) := Lib.hid (by unfold hdB; rw [HA.out, HBb.out, HOo.out, HC.out])
      have HQI : Hid (qI (cutL 32 l) = ⟨I, J, qcsI P (qn P), o.getD []⟩) := Lib.hid (by rw [HPP.out]; unfold qI; rw [HI.out, HJ.out, HOo.out])
      have c0 : w1.cell? ⟨g, 0, none⟩ = some (.string ⟨(atW P 0).toArray⟩) := strsAt_at HST1.out (by rw [HN.out]; exact Nat.lt_of_lt_of_le (by decide) HFIT.out.1)
      go_wp2_with fail
      refine (impl_pAft HI.out HA.out (HAW.out 0) _ (tab_gr HT.out G1.out) (errS_gr HES.out G1.out) (errR_gr HER.out G1.out)).mono ?_
      rintro e w2 ⟨rfl, g2⟩
      have c1 : w2.cell? ⟨g, 1, none⟩ = some (.string ⟨(atW P 1).toArray⟩) := g2.cellv (strsAt_at HST1.out (by rw [HN.out]; exact Nat.lt_of_lt_of_le (by decide) HFIT.out.1))
      have G2 := Lib.hid (G1.out.trans g2)
      have g12 := Lib.hid g2
      clear g2 c0
      go_wp2_with fail
      refine (impl_pAft HJ.out HBb.out (HAW.out 1) _ (tab_gr HT.out G2.out) (errS_gr HES.out G2.out) (errR_gr HER.out G2.out)).mono ?_
      rintro e w3 ⟨rfl, g3⟩
      have G3 := Lib.hid (G2.out.trans g3)
      have g13 := Lib.hid (g12.out.trans g3)
      have cz : w3.cell? ⟨g, N - 1, none⟩ = some (.string ⟨(atW P (N - 1)).toArray⟩) := g13.out.cellv (strsAt_at HST1.out (by rw [HN.out]; have := HFIT.out; omega))
      clear g3 c1
      go_wp2_with fail
      refine (impl_nums (atW P (N - 1)) o C HOP.out HC.out _ (HAW.out _) (tab_gr HT.out G3.out) (errS_gr HES.out G3.out) (errR_gr HER.out G3.out) (maxL_gr HM.out G3.out)).mono ?_
      rintro e w4 ⟨oa, on, oc, rfl, g4, hou⟩
      have g14 := g13.out.trans g4
      replace k0 := g14.cellv k0
      replace k1 := g14.cellv k1
      replace k2 := g14.cellv k2
      replace k3 := g14.cellv k3
      replace f0 := (g14.frozen (p := ⟨w.heap.size, 0, none⟩) hl1).trans f0
      replace f1 := (g14.frozen (p := ⟨w.heap.size, 1, none⟩) hl1).trans f1
      replace f2 := (g14.frozen (p := ⟨w.heap.size, 2, none⟩) hl1).trans f2
      replace f3 := (g14.frozen (p := ⟨w.heap.size, 3, none⟩) hl1).trans f3
      have hl4 : w.heap.size < w4.heap.size := Nat.lt_of_lt_of_le hl1 g14.size
      have G4 := Lib.hid (G1.out.trans g14)
      have HOUT := Lib.hid (hou.wide (lo' := w.heap.size + 1) (hi' := w4.heap.size) (by have := Nat.lt_of_lt_of_le hl1 g13.out.size; omega) (Nat.le_refl _))
      have HST4 := Lib.hid (HST1.out.gr g14)
      clear g4 g14 cz hou hl1 g12 g13 HST1 HSt
      have HC0 : Hid (PConds (In (w4.heap.size + 1) (w4.alloc (.cells #[.int .i64 I, .int .i64 J, .slice none 0 0, .slice oa on oc] 27)).heap.size) (w4.alloc (.cells #[.int .i64 I, .int .i64 J, .slice none 0 0, .slice oa on oc] 27)) (.slice none 0 0) []) := Lib.hid (OSl.nil _)

      cases A with
      | false =>
        go_wp2_with fail
        go_loopw [13, 14] (fun okv iv wr => ∃ (j k : Nat) (bo : Option Addr) (co : Nat), iv = .int .i64 j ∧ okv = .bool false ∧ Hid (j = 2 + 2 * k ∧ k ≤ qn P) ∧ wr.cell? ⟨w4.heap.size, 0, none⟩ = some (.int .i64 I) ∧ wr.cell? ⟨w4.heap.size, 1, none⟩ = some (.int .i64 J) ∧ wr.cell? ⟨w4.heap.size, 2, none⟩ = some (.slice bo (qcsI P k).length co) ∧ wr.cell? ⟨w4.heap.size, 3, none⟩ = some (.slice oa on oc) ∧ wr.frozen? ⟨w4.heap.size, 2, none⟩ = false ∧ Hid (PConds (In (w4.heap.size + 1) wr.heap.size) wr (.slice bo (qcsI P k).length co) (qcsI P k)) ∧ Gr w4 wr ∧ Hid (w4.heap.size < wr.heap.size)) (fun _ i _ => N - (intOf i).toNat)
        case atStart => exact ⟨2, 0, none, 0, rfl, rfl, Lib.hid ⟨rfl, Nat.zero_le _⟩, by simp [go_sem], by simp [go_sem], by simp [go_sem, qcsI], by simp [go_sem], by simp [go_sem], HC0, (Gr.refl _).alloc _, Lib.hid (by simp)⟩
        case round =>
          obtain ⟨j, k, bo, co, rfl, rfl, hjk, q0, q1, q2, q3, qf, HO, hg, HZ⟩ := hrel
          have HW := Lib.hid (G4.out.trans hg)
          have HKN : Hid (qn P = (N - 4) / 2) := Lib.hid (by unfold qn; rw [HN.out])
          have j0 : (0 : Int) ≤ (j : Int) := Int.natCast_nonneg _
          by_cases hlt : k < qn P
          · have HLT := Lib.hid hlt
            have j1 : (j : Int) + 1 < (N : Int) := by have := hjk.out; have := HKN.out; have := HFIT.out; omega
            have j2 : (j : Int) < (N : Int) := by omega
            have j3 : (j : Int) < (N : Int) - 2 := by have := hjk.out; have := HKN.out; have := HFIT.out; omega
            have cj : wr.cell? ⟨g, j, none⟩ = some (.string ⟨(atW P j).toArray⟩) := hg.cellv (strsAt_at HST4.out (by rw [HN.out]; omega))
            have cj1 : Hid (w4.cell? ⟨g, j + 1, none⟩ = some (.string ⟨(atW P (j + 1)).toArray⟩)) := Lib.hid (strsAt_at HST4.out (by rw [HN.out]; omega))
            obtain ⟨F, bF, HF, HbF⟩ : ∃ F bF, Hid (aV 102 (atW P j) = F) ∧ Hid (aB 102 (atW P j) = bF) := ⟨_, _, Lib.hid rfl, Lib.hid rfl⟩
            obtain ⟨X, Y, Z, HX⟩ : ∃ X Y Z, Hid (Lib.cut (atW P (j + 1)) [46, 46] = (X, Y, Z)) := ⟨_, _, _, Lib.hid rfl⟩
            have HXL : Hid (X.length ≤ 1048576 ∧ Y.length ≤ 1048576) := Lib.hid (by have h := cut2_len (atW P (j + 1)); rw [HX.out] at h; have := HAW.out (j + 1); simp only at h; omega)
            obtain ⟨L, bL, HLo, HbL⟩ : ∃ L bL, Hid (pV X = L) ∧ Hid (pB X = bL) := ⟨_, _, Lib.hid rfl, Lib.hid rfl⟩
            obtain ⟨H, bH, HHi, HbH⟩ : ∃ H bH, Hid (pV Y = H) ∧ Hid (pB Y = bH) := ⟨_, _, Lib.hid rfl, Lib.hid rfl⟩
            have HQC : Hid (qcsI P (k + 1) = qcsI P k ++ [⟨F, L, H⟩]) := Lib.hid (by
              rw [qcsI_succ]; unfold qcI
              have e1 : 2 + 2 * k = j := hjk.out.1.symm
              have e2 : 3 + 2 * k = j + 1 := by omega
              rw [e1, e2, HF.out, HX.out]; simp only; rw [HLo.out, HHi.out])
            have HQB : Hid (qcB P k = (bF && (bL && bH))) := Lib.hid (by
              unfold qcB
              have e1 : 2 + 2 * k = j := hjk.out.1.symm
              have e2 : 3 + 2 * k = j + 1 := by omega
              rw [e1, e2, HbF.out, HX.out]; simp only; rw [HbL.out, HbH.out])
            have H64 : Hid (I64 F ∧ I64 L ∧ I64 H) := Lib.hid ⟨by rw [← HF.out]; exact pV_i64 _, by rw [← HLo.out]; exact pV_i64 _, by rw [← HHi.out]; exact pV_i64 _⟩
            have HSZ : Hid (((qcsI P k).length + 1) * 24 ≤ 140737488355328) := Lib.hid (by rw [qcsI_len]; have := HKN.out; have := HFIT.out; have := HLT.out; omega)
            have HG := Lib.hid hg
            clear hlt
            go_wp2_with fail
            refine (impl_pAft HF.out HbF.out (HAW.out j) _ (tab_gr HT.out HW.out) (errS_gr HES.out HW.out) (errR_gr HER.out HW.out)).mono ?_
            rintro e w5 ⟨rfl, g5⟩
            have H5 := Lib.hid (HW.out.trans g5)
            have c5 := (HG.out.trans g5).cellv cj1.out
            go_wp2_with fail
            refine (impl_dotsN HX.out _ (maxL_gr HM.out H5.out) (HAW.out _)).mono ?_
            rintro e w6 ⟨rfl, g6⟩
            have H6 := Lib.hid (H5.out.trans g6)
            clear cj c5 j1 j2
            go_wp2_with fail
            refine (impl_pIn HLo.out HbL.out HXL.out.1 _ (tab_gr HT.out H6.out) (errS_gr HES.out H6.out) (errR_gr HER.out H6.out)).mono ?_
            rintro e w7 ⟨rfl, g7⟩
            have H7 := Lib.hid (H6.out.trans g7)
            go_wp2_with fail
            refine (impl_pIn HHi.out HbH.out HXL.out.2 _ (tab_gr HT.out H7.out) (errS_gr HES.out H7.out) (errR_gr HER.out H7.out)).mono ?_
            rintro e w8 ⟨rfl, g8⟩
            have gw8 : Gr wr w8 := ((g5.trans g6).trans g7).trans g8
            have s2 := gw8.cellv q2
            have HGW := Lib.hid gw8
            have HQ0 := Lib.hid q0
            have HQ1 := Lib.hid q1
            have HQ3 := Lib.hid q3
            have HQF := Lib.hid qf
            have HQ2 := Lib.hid q2
            clear g5 g6 g7 g8 gw8 q0 q1 q2 q3 qf hg
            go_wp2_with (at_builtin; refine push_o (w0 := wr) (wr := w8) (la := w8.heap.size) (hb := w8.heap.size) (lo := w4.heap.size + 1) 24 57 3 24 Tryz.underlying24 (z := .agg #[.int .i64 0, .int .i64 0, .int .i64 0]) (by kernel_rfl) rfl (by decide) (by decide) rfl _ _ rfl fr_cond ⟨F, L, H⟩ [.int .i64 F, .int .i64 L, .int .i64 H] rfl rfl rfl HO.out HZ.out HGW.out ⟨rfl, H64.out.1, H64.out.2.1, H64.out.2.2⟩ HGW.out.size (Nat.le_refl _) rfl (by simp [Value.oneCell']) HSZ.out ?_; intro g9 cap9 w9 hown9 hb9; have z0 := (hb9.cell (p := ⟨w4.heap.size, 0, none⟩) (Nat.lt_succ_self _)).trans (HGW.out.cellv HQ0.out); have z1 := (hb9.cell (p := ⟨w4.heap.size, 1, none⟩) (Nat.lt_succ_self _)).trans (HGW.out.cellv HQ1.out); have z2 := (hb9.cell (p := ⟨w4.heap.size, 2, none⟩) (Nat.lt_succ_self _)).trans (HGW.out.cellv HQ2.out); have z3 := (hb9.cell (p := ⟨w4.heap.size, 3, none⟩) (Nat.lt_succ_self _)).trans (HGW.out.cellv HQ3.out); have zf := (hb9.frozen (p := ⟨w4.heap.size, 2, none⟩) (Nat.lt_succ_self _)).trans ((HGW.out.frozen (p := ⟨w4.heap.size, 2, none⟩) HZ.out).trans HQF.out); replace hown9 := Lib.hid hown9; replace hb9 := Lib.hid hb9; clear s2)
            go_roundw
            case rel => exact ⟨j + 2, k + 1, some ⟨g9, 0, none⟩, cap9, by go_num, rfl, Lib.hid ⟨by have := hjk.out; omega, HLT.out⟩, by simp [go_sem, z0], by simp [go_sem, z1], by rw [HQC.out, List.length_append, List.length_singleton]; simp [go_sem, z2], by simp [go_sem, z3], by simp [go_sem, zf], Lib.hid (by
              have h := hown9.out.loc fr_cond (Loc.setCell (Loc.refl _ _) (p := ⟨w4.heap.size, 2, none⟩) (Nat.lt_succ_self _) (.slice (some ⟨g9, 0, none⟩) ((qcsI P k).length + 1) cap9)) (Nat.le_refl _)
              rw [HQC.out]
              rw [List.length_append, List.length_singleton] at h ⊢
              exact h.wide (Nat.le_refl _) (by simp [World.setCell])), (HG.out.trans' ((HGW.out.mono (by have := HZ.out; omega) : Below w4.heap.size wr w8).trans (hb9.out.mono (by omega)))).setCell (Nat.le_refl _) _, Lib.hid (by have := HZ.out; have := HGW.out.size; have := hb9.out.size; simp [World.setCell]; omega)⟩
            case measure => have := HLT.out; have := hjk.out; have := HKN.out; have := HFIT.out; simp only [intOf]; omega
          · obtain rfl : k = qn P := by have := hjk.out; omega
            have j3 : (N : Int) - 2 ≤ (j : Int) := by have := hjk.out; have := HKN.out; have := HFIT.out; omega
            have jd : decide ((j : Int) < (N : Int) - 2) = false := decide_eq_false (by omega)
            replace k0 := hg.cellv k0
            replace k1 := hg.cellv k1
            replace k2 := hg.cellv k2
            replace k3 := hg.cellv k3
            replace f0 := (hg.frozen (p := ⟨w.heap.size, 0, none⟩) hl4).trans f0
            replace f1 := (hg.frozen (p := ⟨w.heap.size, 1, none⟩) hl4).trans f1
            replace f2 := (hg.frozen (p := ⟨w.heap.size, 2, none⟩) hl4).trans f2
            replace f3 := (hg.frozen (p := ⟨w.heap.size, 3, none⟩) hl4).trans f3
            have hlr : w.heap.size < wr.heap.size := Nat.lt_of_lt_of_le hl4 hg.size
            have HG := Lib.hid hg
            clear hlt hg qf
            have HB := Lib.hid (implQuery_ok (l := l) (by rw [HPP.out]; unfold okI; rw [HHD.out]; rfl))
            go_wp2_with fail
            refine bodyPost_ret (v := .tuple #[.agg #[.int .i64 0, .int .i64 0, .slice none 0 0, .slice none 0 0], .bool false]) (by simp [results, Tryz.results12, go_sem, *]) rfl ⟨_, _, by rw [HB.out]; rfl, ((((HW.out.setCell (Nat.le_refl _) _).setCell (Nat.le_refl _) _).setCell (Nat.le_refl _) _).setCell (Nat.le_refl _) _), w.heap.size, Nat.le_refl _, by simp only [World.setCell_size]; exact HW.out.size, by rw [HB.out]; exact OSl.nil _, by rw [HB.out]; exact OSl.nil _⟩
      | true =>
        cases B with
        | false =>
          go_wp2_with fail
          go_loopw [13, 14] (fun okv iv wr => ∃ (j k : Nat) (bo : Option Addr) (co : Nat), iv = .int .i64 j ∧ okv = .bool false ∧ Hid (j = 2 + 2 * k ∧ k ≤ qn P) ∧ wr.cell? ⟨w4.heap.size, 0, none⟩ = some (.int .i64 I) ∧ wr.cell? ⟨w4.heap.size, 1, none⟩ = some (.int .i64 J) ∧ wr.cell? ⟨w4.heap.size, 2, none⟩ = some (.slice bo (qcsI P k).length co) ∧ wr.cell? ⟨w4.heap.size, 3, none⟩ = some (.slice oa on oc) ∧ wr.frozen? ⟨w4.heap.size, 2, none⟩ = false ∧ Hid (PConds (In (w4.heap.size + 1) wr.heap.size) wr (.slice bo (qcsI P k).length co) (qcsI P k)) ∧ Gr w4 wr ∧ Hid (w4.heap.size < wr.heap.size)) (fun _ i _ => N - (intOf i).toNat)
          case atStart => exact ⟨2, 0, none, 0, rfl, rfl, Lib.hid ⟨rfl, Nat.zero_le _⟩, by simp [go_sem], by simp [go_sem], by simp [go_sem, qcsI], by simp [go_sem], by simp [go_sem], HC0, (Gr.refl _).alloc _, Lib.hid (by simp)⟩
          case round =>
            obtain ⟨j, k, bo, co, rfl, rfl, hjk, q0, q1, q2, q3, qf, HO, hg, HZ⟩ := hrel
            have HW := Lib.hid (G4.out.trans hg)
            have HKN : Hid (qn P = (N - 4) / 2) := Lib.hid (by unfold qn; rw [HN.out])
            have j0 : (0 : Int) ≤ (j : Int) := Int.natCast_nonneg _
            by_cases hlt : k < qn P
            · have HLT := Lib.hid hlt
              have j1 : (j : Int) + 1 < (N : Int) := by have := hjk.out; have := HKN.out; have := HFIT.out; omega
              have j2 : (j : Int) < (N : Int) := by omega
              have j3 : (j : Int) < (N : Int) - 2 := by have := hjk.out; have := HKN.out; have := HFIT.out; omega
              have cj : wr.cell? ⟨g, j, none⟩ = some (.string ⟨(atW P j).toArray⟩) := hg.cellv (strsAt_at HST4.out (by rw [HN.out]; omega))
              have cj1 : Hid (w4.cell? ⟨g, j + 1, none⟩ = some (.string ⟨(atW P (j + 1)).toArray⟩)) := Lib.hid (strsAt_at HST4.out (by rw [HN.out]; omega))
              obtain ⟨F, bF, HF, HbF⟩ : ∃ F bF, Hid (aV 102 (atW P j) = F) ∧ Hid (aB 102 (atW P j) = bF) := ⟨_, _, Lib.hid rfl, Lib.hid rfl⟩
              obtain ⟨X, Y, Z, HX⟩ : ∃ X Y Z, Hid (Lib.cut (atW P (j + 1)) [46, 46] = (X, Y, Z)) := ⟨_, _, _, Lib.hid rfl⟩
              have HXL : Hid (X.length ≤ 1048576 ∧ Y.length ≤ 1048576) := Lib.hid (by have h := cut2_len (atW P (j + 1)); rw [HX.out] at h; have := HAW.out (j + 1); simp only at h; omega)
              obtain ⟨L, bL, HLo, HbL⟩ : ∃ L bL, Hid (pV X = L) ∧ Hid (pB X = bL) := ⟨_, _, Lib.hid rfl, Lib.hid rfl⟩
              obtain ⟨H, bH, HHi, HbH⟩ : ∃ H bH, Hid (pV Y = H) ∧ Hid (pB Y = bH) := ⟨_, _, Lib.hid rfl, Lib.hid rfl⟩
              have HQC : Hid (qcsI P (k + 1) = qcsI P k ++ [⟨F, L, H⟩]) := Lib.hid (by
                rw [qcsI_succ]; unfold qcI
                have e1 : 2 + 2 * k = j := hjk.out.1.symm
                have e2 : 3 + 2 * k = j + 1 := by omega
                rw [e1, e2, HF.out, HX.out]; simp only; rw [HLo.out, HHi.out])
              have HQB : Hid (qcB P k = (bF && (bL && bH))) := Lib.hid (by
                unfold qcB
                have e1 : 2 + 2 * k = j := hjk.out.1.symm
                have e2 : 3 + 2 * k = j + 1 := by omega
                rw [e1, e2, HbF.out, HX.out]; simp only; rw [HbL.out, HbH.out])
              have H64 : Hid (I64 F ∧ I64 L ∧ I64 H) := Lib.hid ⟨by rw [← HF.out]; exact pV_i64 _, by rw [← HLo.out]; exact pV_i64 _, by rw [← HHi.out]; exact pV_i64 _⟩
              have HSZ : Hid (((qcsI P k).length + 1) * 24 ≤ 140737488355328) := Lib.hid (by rw [qcsI_len]; have := HKN.out; have := HFIT.out; have := HLT.out; omega)
              have HG := Lib.hid hg
              clear hlt
              go_wp2_with fail
              refine (impl_pAft HF.out HbF.out (HAW.out j) _ (tab_gr HT.out HW.out) (errS_gr HES.out HW.out) (errR_gr HER.out HW.out)).mono ?_
              rintro e w5 ⟨rfl, g5⟩
              have H5 := Lib.hid (HW.out.trans g5)
              have c5 := (HG.out.trans g5).cellv cj1.out
              go_wp2_with fail
              refine (impl_dotsN HX.out _ (maxL_gr HM.out H5.out) (HAW.out _)).mono ?_
              rintro e w6 ⟨rfl, g6⟩
              have H6 := Lib.hid (H5.out.trans g6)
              clear cj c5 j1 j2
              go_wp2_with fail
              refine (impl_pIn HLo.out HbL.out HXL.out.1 _ (tab_gr HT.out H6.out) (errS_gr HES.out H6.out) (errR_gr HER.out H6.out)).mono ?_
              rintro e w7 ⟨rfl, g7⟩
              have H7 := Lib.hid (H6.out.trans g7)
              go_wp2_with fail
              refine (impl_pIn HHi.out HbH.out HXL.out.2 _ (tab_gr HT.out H7.out) (errS_gr HES.out H7.out) (errR_gr HER.out H7.out)).mono ?_
              rintro e w8 ⟨rfl, g8⟩
              have gw8 : Gr wr w8 := ((g5.trans g6).trans g7).trans g8
              have s2 := gw8.cellv q2
              have HGW := Lib.hid gw8
              have HQ0 := Lib.hid q0
              have HQ1 := Lib.hid q1
              have HQ3 := Lib.hid q3
              have HQF := Lib.hid qf
              have HQ2 := Lib.hid q2
              clear g5 g6 g7 g8 gw8 q0 q1 q2 q3 qf hg
              go_wp2_with (at_builtin; refine push_o (w0 := wr) (wr := w8) (la := w8.heap.size) (hb := w8.heap.size) (lo := w4.heap.size + 1) 24 57 3 24 Tryz.underlying24 (z := .agg #[.int .i64 0, .int .i64 0, .int .i64 0]) (by kernel_rfl) rfl (by decide) (by decide) rfl _ _ rfl fr_cond ⟨F, L, H⟩ [.int .i64 F, .int .i64 L, .int .i64 H] rfl rfl rfl HO.out HZ.out HGW.out ⟨rfl, H64.out.1, H64.out.2.1, H64.out.2.2⟩ HGW.out.size (Nat.le_refl _) rfl (by simp [Value.oneCell']) HSZ.out ?_; intro g9 cap9 w9 hown9 hb9; have z0 := (hb9.cell (p := ⟨w4.heap.size, 0, none⟩) (Nat.lt_succ_self _)).trans (HGW.out.cellv HQ0.out); have z1 := (hb9.cell (p := ⟨w4.heap.size, 1, none⟩) (Nat.lt_succ_self _)).trans (HGW.out.cellv HQ1.out); have z2 := (hb9.cell (p := ⟨w4.heap.size, 2, none⟩) (Nat.lt_succ_self _)).trans (HGW.out.cellv HQ2.out); have z3 := (hb9.cell (p := ⟨w4.heap.size, 3, none⟩) (Nat.lt_succ_self _)).trans (HGW.out.cellv HQ3.out); have zf := (hb9.frozen (p := ⟨w4.heap.size, 2, none⟩) (Nat.lt_succ_self _)).trans ((HGW.out.frozen (p := ⟨w4.heap.size, 2, none⟩) HZ.out).trans HQF.out); replace hown9 := Lib.hid hown9; replace hb9 := Lib.hid hb9; clear s2)
              go_roundw
              case rel => exact ⟨j + 2, k + 1, some ⟨g9, 0, none⟩, cap9, by go_num, rfl, Lib.hid ⟨by have := hjk.out; omega, HLT.out⟩, by simp [go_sem, z0], by simp [go_sem, z1], by rw [HQC.out, List.length_append, List.length_singleton]; simp [go_sem, z2], by simp [go_sem, z3], by simp [go_sem, zf], Lib.hid (by
                have h := hown9.out.loc fr_cond (Loc.setCell (Loc.refl _ _) (p := ⟨w4.heap.size, 2, none⟩) (Nat.lt_succ_self _) (.slice (some ⟨g9, 0, none⟩) ((qcsI P k).length + 1) cap9)) (Nat.le_refl _)
                rw [HQC.out]
                rw [List.length_append, List.length_singleton] at h ⊢
                exact h.wide (Nat.le_refl _) (by simp [World.setCell])), (HG.out.trans' ((HGW.out.mono (by have := HZ.out; omega) : Below w4.heap.size wr w8).trans (hb9.out.mono (by omega)))).setCell (Nat.le_refl _) _, Lib.hid (by have := HZ.out; have := HGW.out.size; have := hb9.out.size; simp [World.setCell]; omega)⟩
              case measure => have := HLT.out; have := hjk.out; have := HKN.out; have := HFIT.out; simp only [intOf]; omega
            · obtain rfl : k = qn P := by have := hjk.out; omega
              have j3 : (N : Int) - 2 ≤ (j : Int) := by have := hjk.out; have := HKN.out; have := HFIT.out; omega
              have jd : decide ((j : Int) < (N : Int) - 2) = false := decide_eq_false (by omega)
              replace k0 := hg.cellv k0
              replace k1 := hg.cellv k1
              replace k2 := hg.cellv k2
              replace k3 := hg.cellv k3
              replace f0 := (hg.frozen (p := ⟨w.heap.size, 0, none⟩) hl4).trans f0
              replace f1 := (hg.frozen (p := ⟨w.heap.size, 1, none⟩) hl4).trans f1
              replace f2 := (hg.frozen (p := ⟨w.heap.size, 2, none⟩) hl4).trans f2
              replace f3 := (hg.frozen (p := ⟨w.heap.size, 3, none⟩) hl4).trans f3
              have hlr : w.heap.size < wr.heap.size := Nat.lt_of_lt_of_le hl4 hg.size
              have HG := Lib.hid hg
              clear hlt hg qf
              have HB := Lib.hid (implQuery_ok (l := l) (by rw [HPP.out]; unfold okI; rw [HHD.out]; rfl))
              go_wp2_with fail
              refine bodyPost_ret (v := .tuple #[.agg #[.int .i64 0, .int .i64 0, .slice none 0 0, .slice none 0 0], .bool false]) (by simp [results, Tryz.results12, go_sem, *]) rfl ⟨_, _, by rw [HB.out]; rfl, ((((HW.out.setCell (Nat.le_refl _) _).setCell (Nat.le_refl _) _).setCell (Nat.le_refl _) _).setCell (Nat.le_refl _) _), w.heap.size, Nat.le_refl _, by simp only [World.setCell_size]; exact HW.out.size, by rw [HB.out]; exact OSl.nil _, by rw [HB.out]; exact OSl.nil _⟩
        | true =>
          cases C with
          | false =>
            go_wp2_with fail
            go_loopw [13, 14] (fun okv iv wr => ∃ (j k : Nat) (bo : Option Addr) (co : Nat), iv = .int .i64 j ∧ okv = .bool false ∧ Hid (j = 2 + 2 * k ∧ k ≤ qn P) ∧ wr.cell? ⟨w4.heap.size, 0, none⟩ = some (.int .i64 I) ∧ wr.cell? ⟨w4.heap.size, 1, none⟩ = some (.int .i64 J) ∧ wr.cell? ⟨w4.heap.size, 2, none⟩ = some (.slice bo (qcsI P k).length co) ∧ wr.cell? ⟨w4.heap.size, 3, none⟩ = some (.slice oa on oc) ∧ wr.frozen? ⟨w4.heap.size, 2, none⟩ = false ∧ Hid (PConds (In (w4.heap.size + 1) wr.heap.size) wr (.slice bo (qcsI P k).length co) (qcsI P k)) ∧ Gr w4 wr ∧ Hid (w4.heap.size < wr.heap.size)) (fun _ i _ => N - (intOf i).toNat)
            case atStart => exact ⟨2, 0, none, 0, rfl, rfl, Lib.hid ⟨rfl, Nat.zero_le _⟩, by simp [go_sem], by simp [go_sem], by simp [go_sem, qcsI], by simp [go_sem], by simp [go_sem], HC0, (Gr.refl _).alloc _, Lib.hid (by simp)⟩
            case round =>
              obtain ⟨j, k, bo, co, rfl, rfl, hjk, q0, q1, q2, q3, qf, HO, hg, HZ⟩ := hrel
              have HW := Lib.hid (G4.out.trans hg)
              have HKN : Hid (qn P = (N - 4) / 2) := Lib.hid (by unfold qn; rw [HN.out])
              have j0 : (0 : Int) ≤ (j : Int) := Int.natCast_nonneg _
              by_cases hlt : k < qn P
              · have HLT := Lib.hid hlt
                have j1 : (j : Int) + 1 < (N : Int) := by have := hjk.out; have := HKN.out; have := HFIT.out; omega
                have j2 : (j : Int) < (N : Int) := by omega
                have j3 : (j : Int) < (N : Int) - 2 := by have := hjk.out; have := HKN.out; have := HFIT.out; omega
                have cj : wr.cell? ⟨g, j, none⟩ = some (.string ⟨(atW P j).toArray⟩) := hg.cellv (strsAt_at HST4.out (by rw [HN.out]; omega))
                have cj1 : Hid (w4.cell? ⟨g, j + 1, none⟩ = some (.string ⟨(atW P (j + 1)).toArray⟩)) := Lib.hid (strsAt_at HST4.out (by rw [HN.out]; omega))
                obtain ⟨F, bF, HF, HbF⟩ : ∃ F bF, Hid (aV 102 (atW P j) = F) ∧ Hid (aB 102 (atW P j) = bF) := ⟨_, _, Lib.hid rfl, Lib.hid rfl⟩
                obtain ⟨X, Y, Z, HX⟩ : ∃ X Y Z, Hid (Lib.cut (atW P (j + 1)) [46, 46] = (X, Y, Z)) := ⟨_, _, _, Lib.hid rfl⟩
                have HXL : Hid (X.length ≤ 1048576 ∧ Y.length ≤ 1048576) := Lib.hid (by have h := cut2_len (atW P (j + 1)); rw [HX.out] at h; have := HAW.out (j + 1); simp only at h; omega)
                obtain ⟨L, bL, HLo, HbL⟩ : ∃ L bL, Hid (pV X = L) ∧ Hid (pB X = bL) := ⟨_, _, Lib.hid rfl, Lib.hid rfl⟩
                obtain ⟨H, bH, HHi, HbH⟩ : ∃ H bH, Hid (pV Y = H) ∧ Hid (pB Y = bH) := ⟨_, _, Lib.hid rfl, Lib.hid rfl⟩
                have HQC : Hid (qcsI P (k + 1) = qcsI P k ++ [⟨F, L, H⟩]) := Lib.hid (by
                  rw [qcsI_succ]; unfold qcI
                  have e1 : 2 + 2 * k = j := hjk.out.1.symm
                  have e2 : 3 + 2 * k = j + 1 := by omega
                  rw [e1, e2, HF.out, HX.out]; simp only; rw [HLo.out, HHi.out])
                have HQB : Hid (qcB P k = (bF && (bL && bH))) := Lib.hid (by
                  unfold qcB
                  have e1 : 2 + 2 * k = j := hjk.out.1.symm
                  have e2 : 3 + 2 * k = j + 1 := by omega
                  rw [e1, e2, HbF.out, HX.out]; simp only; rw [HbL.out, HbH.out])
                have H64 : Hid (I64 F ∧ I64 L ∧ I64 H) := Lib.hid ⟨by rw [← HF.out]; exact pV_i64 _, by rw [← HLo.out]; exact pV_i64 _, by rw [← HHi.out]; exact pV_i64 _⟩
                have HSZ : Hid (((qcsI P k).length + 1) * 24 ≤ 140737488355328) := Lib.hid (by rw [qcsI_len]; have := HKN.out; have := HFIT.out; have := HLT.out; omega)
                have HG := Lib.hid hg
                clear hlt
                go_wp2_with fail
                refine (impl_pAft HF.out HbF.out (HAW.out j) _ (tab_gr HT.out HW.out) (errS_gr HES.out HW.out) (errR_gr HER.out HW.out)).mono ?_
                rintro e w5 ⟨rfl, g5⟩
                have H5 := Lib.hid (HW.out.trans g5)
                have c5 := (HG.out.trans g5).cellv cj1.out
                go_wp2_with fail
                refine (impl_dotsN HX.out _ (maxL_gr HM.out H5.out) (HAW.out _)).mono ?_
                rintro e w6 ⟨rfl, g6⟩
                have H6 := Lib.hid (H5.out.trans g6)
                clear cj c5 j1 j2
                go_wp2_with fail
                refine (impl_pIn HLo.out HbL.out HXL.out.1 _ (tab_gr HT.out H6.out) (errS_gr HES.out H6.out) (errR_gr HER.out H6.out)).mono ?_
                rintro e w7 ⟨rfl, g7⟩
                have H7 := Lib.hid (H6.out.trans g7)
                go_wp2_with fail
                refine (impl_pIn HHi.out HbH.out HXL.out.2 _ (tab_gr HT.out H7.out) (errS_gr HES.out H7.out) (errR_gr HER.out H7.out)).mono ?_
                rintro e w8 ⟨rfl, g8⟩
                have gw8 : Gr wr w8 := ((g5.trans g6).trans g7).trans g8
                have s2 := gw8.cellv q2
                have HGW := Lib.hid gw8
                have HQ0 := Lib.hid q0
                have HQ1 := Lib.hid q1
                have HQ3 := Lib.hid q3
                have HQF := Lib.hid qf
                have HQ2 := Lib.hid q2
                clear g5 g6 g7 g8 gw8 q0 q1 q2 q3 qf hg
                go_wp2_with (at_builtin; refine push_o (w0 := wr) (wr := w8) (la := w8.heap.size) (hb := w8.heap.size) (lo := w4.heap.size + 1) 24 57 3 24 Tryz.underlying24 (z := .agg #[.int .i64 0, .int .i64 0, .int .i64 0]) (by kernel_rfl) rfl (by decide) (by decide) rfl _ _ rfl fr_cond ⟨F, L, H⟩ [.int .i64 F, .int .i64 L, .int .i64 H] rfl rfl rfl HO.out HZ.out HGW.out ⟨rfl, H64.out.1, H64.out.2.1, H64.out.2.2⟩ HGW.out.size (Nat.le_refl _) rfl (by simp [Value.oneCell']) HSZ.out ?_; intro g9 cap9 w9 hown9 hb9; have z0 := (hb9.cell (p := ⟨w4.heap.size, 0, none⟩) (Nat.lt_succ_self _)).trans (HGW.out.cellv HQ0.out); have z1 := (hb9.cell (p := ⟨w4.heap.size, 1, none⟩) (Nat.lt_succ_self _)).trans (HGW.out.cellv HQ1.out); have z2 := (hb9.cell (p := ⟨w4.heap.size, 2, none⟩) (Nat.lt_succ_self _)).trans (HGW.out.cellv HQ2.out); have z3 := (hb9.cell (p := ⟨w4.heap.size, 3, none⟩) (Nat.lt_succ_self _)).trans (HGW.out.cellv HQ3.out); have zf := (hb9.frozen (p := ⟨w4.heap.size, 2, none⟩) (Nat.lt_succ_self _)).trans ((HGW.out.frozen (p := ⟨w4.heap.size, 2, none⟩) HZ.out).trans HQF.out); replace hown9 := Lib.hid hown9; replace hb9 := Lib.hid hb9; clear s2)
                go_roundw
                case rel => exact ⟨j + 2, k + 1, some ⟨g9, 0, none⟩, cap9, by go_num, rfl, Lib.hid ⟨by have := hjk.out; omega, HLT.out⟩, by simp [go_sem, z0], by simp [go_sem, z1], by rw [HQC.out, List.length_append, List.length_singleton]; simp [go_sem, z2], by simp [go_sem, z3], by simp [go_sem, zf], Lib.hid (by
                  have h := hown9.out.loc fr_cond (Loc.setCell (Loc.refl _ _) (p := ⟨w4.heap.size, 2, none⟩) (Nat.lt_succ_self _) (.slice (some ⟨g9, 0, none⟩) ((qcsI P k).length + 1) cap9)) (Nat.le_refl _)
                  rw [HQC.out]
                  rw [List.length_append, List.length_singleton] at h ⊢
                  exact h.wide (Nat.le_refl _) (by simp [World.setCell])), (HG.out.trans' ((HGW.out.mono (by have := HZ.out; omega) : Below w4.heap.size wr w8).trans (hb9.out.mono (by omega)))).setCell (Nat.le_refl _) _, Lib.hid (by have := HZ.out; have := HGW.out.size; have := hb9.out.size; simp [World.setCell]; omega)⟩
                case measure => have := HLT.out; have := hjk.out; have := HKN.out; have := HFIT.out; simp only [intOf]; omega
              · obtain rfl : k = qn P := by have := hjk.out; omega
                have j3 : (N : Int) - 2 ≤ (j : Int) := by have := hjk.out; have := HKN.out; have := HFIT.out; omega
                have jd : decide ((j : Int) < (N : Int) - 2) = false := decide_eq_false (by omega)
                replace k0 := hg.cellv k0
                replace k1 := hg.cellv k1
                replace k2 := hg.cellv k2
                replace k3 := hg.cellv k3
                replace f0 := (hg.frozen (p := ⟨w.heap.size, 0, none⟩) hl4).trans f0
                replace f1 := (hg.frozen (p := ⟨w.heap.size, 1, none⟩) hl4).trans f1
                replace f2 := (hg.frozen (p := ⟨w.heap.size, 2, none⟩) hl4).trans f2
                replace f3 := (hg.frozen (p := ⟨w.heap.size, 3, none⟩) hl4).trans f3
                have hlr : w.heap.size < wr.heap.size := Nat.lt_of_lt_of_le hl4 hg.size
                have HG := Lib.hid hg
                clear hlt hg qf
                have HB := Lib.hid (implQuery_ok (l := l) (by rw [HPP.out]; unfold okI; rw [HHD.out]; rfl))
                go_wp2_with fail
                refine bodyPost_ret (v := .tuple #[.agg #[.int .i64 0, .int .i64 0, .slice none 0 0, .slice none 0 0], .bool false]) (by simp [results, Tryz.results12, go_sem, *]) rfl ⟨_, _, by rw [HB.out]; rfl, ((((HW.out.setCell (Nat.le_refl _) _).setCell (Nat.le_refl _) _).setCell (Nat.le_refl _) _).setCell (Nat.le_refl _) _), w.heap.size, Nat.le_refl _, by simp only [World.setCell_size]; exact HW.out.size, by rw [HB.out]; exact OSl.nil _, by rw [HB.out]; exact OSl.nil _⟩
          | true =>
            go_wp2_with fail
            go_loopw [13, 14] (fun okv iv wr => ∃ (j k : Nat) (B : Bool) (bo : Option Addr) (co : Nat), iv = .int .i64 j ∧ okv = .bool B ∧ Hid (j = 2 + 2 * k ∧ k ≤ qn P) ∧ Hid (B = okC P k) ∧ wr.cell? ⟨w4.heap.size, 0, none⟩ = some (.int .i64 I) ∧ wr.cell? ⟨w4.heap.size, 1, none⟩ = some (.int .i64 J) ∧ wr.cell? ⟨w4.heap.size, 2, none⟩ = some (.slice bo (qcsI P k).length co) ∧ wr.cell? ⟨w4.heap.size, 3, none⟩ = some (.slice oa on oc) ∧ wr.frozen? ⟨w4.heap.size, 2, none⟩ = false ∧ Hid (PConds (In (w4.heap.size + 1) wr.heap.size) wr (.slice bo (qcsI P k).length co) (qcsI P k)) ∧ Gr w4 wr ∧ Hid (w4.heap.size < wr.heap.size)) (fun _ i _ => N - (intOf i).toNat)
            case atStart => exact ⟨2, 0, true, none, 0, rfl, rfl, Lib.hid ⟨rfl, Nat.zero_le _⟩, Lib.hid rfl, by simp [go_sem], by simp [go_sem], by simp [go_sem, qcsI], by simp [go_sem], by simp [go_sem], HC0, (Gr.refl _).alloc _, Lib.hid (by simp)⟩
            case round =>
              obtain ⟨j, k, B, bo, co, rfl, rfl, hjk, hB, q0, q1, q2, q3, qf, HO, hg, HZ⟩ := hrel
              have HW := Lib.hid (G4.out.trans hg)
              have HKN : Hid (qn P = (N - 4) / 2) := Lib.hid (by unfold qn; rw [HN.out])
              have j0 : (0 : Int) ≤ (j : Int) := Int.natCast_nonneg _
              by_cases hlt : k < qn P
              · have HLT := Lib.hid hlt
                have j1 : (j : Int) + 1 < (N : Int) := by have := hjk.out; have := HKN.out; have := HFIT.out; omega
                have j2 : (j : Int) < (N : Int) := by omega
                have j3 : (j : Int) < (N : Int) - 2 := by have := hjk.out; have := HKN.out; have := HFIT.out; omega
                have cj : wr.cell? ⟨g, j, none⟩ = some (.string ⟨(atW P j).toArray⟩) := hg.cellv (strsAt_at HST4.out (by rw [HN.out]; omega))
                have cj1 : Hid (w4.cell? ⟨g, j + 1, none⟩ = some (.string ⟨(atW P (j + 1)).toArray⟩)) := Lib.hid (strsAt_at HST4.out (by rw [HN.out]; omega))
                obtain ⟨F, bF, HF, HbF⟩ : ∃ F bF, Hid (aV 102 (atW P j) = F) ∧ Hid (aB 102 (atW P j) = bF) := ⟨_, _, Lib.hid rfl, Lib.hid rfl⟩
                obtain ⟨X, Y, Z, HX⟩ : ∃ X Y Z, Hid (Lib.cut (atW P (j + 1)) [46, 46] = (X, Y, Z)) := ⟨_, _, _, Lib.hid rfl⟩
                have HXL : Hid (X.length ≤ 1048576 ∧ Y.length ≤ 1048576) := Lib.hid (by have h := cut2_len (atW P (j + 1)); rw [HX.out] at h; have := HAW.out (j + 1); simp only at h; omega)
                obtain ⟨L, bL, HLo, HbL⟩ : ∃ L bL, Hid (pV X = L) ∧ Hid (pB X = bL) := ⟨_, _, Lib.hid rfl, Lib.hid rfl⟩
                obtain ⟨H, bH, HHi, HbH⟩ : ∃ H bH, Hid (pV Y = H) ∧ Hid (pB Y = bH) := ⟨_, _, Lib.hid rfl, Lib.hid rfl⟩
                have HQC : Hid (qcsI P (k + 1) = qcsI P k ++ [⟨F, L, H⟩]) := Lib.hid (by
                  rw [qcsI_succ]; unfold qcI
                  have e1 : 2 + 2 * k = j := hjk.out.1.symm
                  have e2 : 3 + 2 * k = j + 1 := by omega
                  rw [e1, e2, HF.out, HX.out]; simp only; rw [HLo.out, HHi.out])
                have HQB : Hid (qcB P k = (bF && (bL && bH))) := Lib.hid (by
                  unfold qcB
                  have e1 : 2 + 2 * k = j := hjk.out.1.symm
                  have e2 : 3 + 2 * k = j + 1 := by omega
                  rw [e1, e2, HbF.out, HX.out]; simp only; rw [HbL.out, HbH.out])
                have H64 : Hid (I64 F ∧ I64 L ∧ I64 H) := Lib.hid ⟨by rw [← HF.out]; exact pV_i64 _, by rw [← HLo.out]; exact pV_i64 _, by rw [← HHi.out]; exact pV_i64 _⟩
                have HSZ : Hid (((qcsI P k).length + 1) * 24 ≤ 140737488355328) := Lib.hid (by rw [qcsI_len]; have := HKN.out; have := HFIT.out; have := HLT.out; omega)
                have HG := Lib.hid hg
                clear hlt
                go_wp2_with fail
                refine (impl_pAft HF.out HbF.out (HAW.out j) _ (tab_gr HT.out HW.out) (errS_gr HES.out HW.out) (errR_gr HER.out HW.out)).mono ?_
                rintro e w5 ⟨rfl, g5⟩
                have H5 := Lib.hid (HW.out.trans g5)
                have c5 := (HG.out.trans g5).cellv cj1.out
                go_wp2_with fail
                refine (impl_dotsN HX.out _ (maxL_gr HM.out H5.out) (HAW.out _)).mono ?_
                rintro e w6 ⟨rfl, g6⟩
                have H6 := Lib.hid (H5.out.trans g6)
                clear cj c5 j1 j2
                go_wp2_with fail
                refine (impl_pIn HLo.out HbL.out HXL.out.1 _ (tab_gr HT.out H6.out) (errS_gr HES.out H6.out) (errR_gr HER.out H6.out)).mono ?_
                rintro e w7 ⟨rfl, g7⟩
                have H7 := Lib.hid (H6.out.trans g7)
                go_wp2_with fail
                refine (impl_pIn HHi.out HbH.out HXL.out.2 _ (tab_gr HT.out H7.out) (errS_gr HES.out H7.out) (errR_gr HER.out H7.out)).mono ?_
                rintro e w8 ⟨rfl, g8⟩
                have gw8 : Gr wr w8 := ((g5.trans g6).trans g7).trans g8
                have s2 := gw8.cellv q2
                have HGW := Lib.hid gw8
                have HQ0 := Lib.hid q0
                have HQ1 := Lib.hid q1
                have HQ3 := Lib.hid q3
                have HQF := Lib.hid qf
                have HQ2 := Lib.hid q2
                clear g5 g6 g7 g8 gw8 q0 q1 q2 q3 qf hg
                cases B with
                | false =>
                  go_wp2_with (at_builtin; refine push_o (w0 := wr) (wr := w8) (la := w8.heap.size) (hb := w8.heap.size) (lo := w4.heap.size + 1) 24 57 3 24 Tryz.underlying24 (z := .agg #[.int .i64 0, .int .i64 0, .int .i64 0]) (by kernel_rfl) rfl (by decide) (by decide) rfl _ _ rfl fr_cond ⟨F, L, H⟩ [.int .i64 F, .int .i64 L, .int .i64 H] rfl rfl rfl HO.out HZ.out HGW.out ⟨rfl, H64.out.1, H64.out.2.1, H64.out.2.2⟩ HGW.out.size (Nat.le_refl _) rfl (by simp [Value.oneCell']) HSZ.out ?_; intro g9 cap9 w9 hown9 hb9; have z0 := (hb9.cell (p := ⟨w4.heap.size, 0, none⟩) (Nat.lt_succ_self _)).trans (HGW.out.cellv HQ0.out); have z1 := (hb9.cell (p := ⟨w4.heap.size, 1, none⟩) (Nat.lt_succ_self _)).trans (HGW.out.cellv HQ1.out); have z2 := (hb9.cell (p := ⟨w4.heap.size, 2, none⟩) (Nat.lt_succ_self _)).trans (HGW.out.cellv HQ2.out); have z3 := (hb9.cell (p := ⟨w4.heap.size, 3, none⟩) (Nat.lt_succ_self _)).trans (HGW.out.cellv HQ3.out); have zf := (hb9.frozen (p := ⟨w4.heap.size, 2, none⟩) (Nat.lt_succ_self _)).trans ((HGW.out.frozen (p := ⟨w4.heap.size, 2, none⟩) HZ.out).trans HQF.out); replace hown9 := Lib.hid hown9; replace hb9 := Lib.hid hb9; clear s2)
                  go_roundw
                  case rel => exact ⟨j + 2, k + 1, false, some ⟨g9, 0, none⟩, cap9, by go_num, rfl, Lib.hid ⟨by have := hjk.out; omega, HLT.out⟩, Lib.hid (by rw [okC_succ, ← hB.out, HQB.out]; rfl), by simp [go_sem, z0], by simp [go_sem, z1], by rw [HQC.out, List.length_append, List.length_singleton]; simp [go_sem, z2], by simp [go_sem, z3], by simp [go_sem, zf], Lib.hid (by
                    have h := hown9.out.loc fr_cond (Loc.setCell (Loc.refl _ _) (p := ⟨w4.heap.size, 2, none⟩) (Nat.lt_succ_self _) (.slice (some ⟨g9, 0, none⟩) ((qcsI P k).length + 1) cap9)) (Nat.le_refl _)
                    rw [HQC.out]
                    rw [List.length_append, List.length_singleton] at h ⊢
                    exact h.wide (Nat.le_refl _) (by simp [World.setCell])), (HG.out.trans' ((HGW.out.mono (by have := HZ.out; omega) : Below w4.heap.size wr w8).trans (hb9.out.mono (by omega)))).setCell (Nat.le_refl _) _, Lib.hid (by have := HZ.out; have := HGW.out.size; have := hb9.out.size; simp [World.setCell]; omega)⟩
                  case measure => have := HLT.out; have := hjk.out; have := HKN.out; have := HFIT.out; simp only [intOf]; omega
                | true =>
                  cases bF with
                  | false =>
                    go_wp2_with (at_builtin; refine push_o (w0 := wr) (wr := w8) (la := w8.heap.size) (hb := w8.heap.size) (lo := w4.heap.size + 1) 24 57 3 24 Tryz.underlying24 (z := .agg #[.int .i64 0, .int .i64 0, .int .i64 0]) (by kernel_rfl) rfl (by decide) (by decide) rfl _ _ rfl fr_cond ⟨F, L, H⟩ [.int .i64 F, .int .i64 L, .int .i64 H] rfl rfl rfl HO.out HZ.out HGW.out ⟨rfl, H64.out.1, H64.out.2.1, H64.out.2.2⟩ HGW.out.size (Nat.le_refl _) rfl (by simp [Value.oneCell']) HSZ.out ?_; intro g9 cap9 w9 hown9 hb9; have z0 := (hb9.cell (p := ⟨w4.heap.size, 0, none⟩) (Nat.lt_succ_self _)).trans (HGW.out.cellv HQ0.out); have z1 := (hb9.cell (p := ⟨w4.heap.size, 1, none⟩) (Nat.lt_succ_self _)).trans (HGW.out.cellv HQ1.out); have z2 := (hb9.cell (p := ⟨w4.heap.size, 2, none⟩) (Nat.lt_succ_self _)).trans (HGW.out.cellv HQ2.out); have z3 := (hb9.cell (p := ⟨w4.heap.size, 3, none⟩) (Nat.lt_succ_self _)).trans (HGW.out.cellv HQ3.out); have zf := (hb9.frozen (p := ⟨w4.heap.size, 2, none⟩) (Nat.lt_succ_self _)).trans ((HGW.out.frozen (p := ⟨w4.heap.size, 2, none⟩) HZ.out).trans HQF.out); replace hown9 := Lib.hid hown9; replace hb9 := Lib.hid hb9; clear s2)
                    go_roundw
                    case rel => exact ⟨j + 2, k + 1, false, some ⟨g9, 0, none⟩, cap9, by go_num, rfl, Lib.hid ⟨by have := hjk.out; omega, HLT.out⟩, Lib.hid (by rw [okC_succ, ← hB.out, HQB.out]; rfl), by simp [go_sem, z0], by simp [go_sem, z1], by rw [HQC.out, List.length_append, List.length_singleton]; simp [go_sem, z2], by simp [go_sem, z3], by simp [go_sem, zf], Lib.hid (by
                      have h := hown9.out.loc fr_cond (Loc.setCell (Loc.refl _ _) (p := ⟨w4.heap.size, 2, none⟩) (Nat.lt_succ_self _) (.slice (some ⟨g9, 0, none⟩) ((qcsI P k).length + 1) cap9)) (Nat.le_refl _)
                      rw [HQC.out]
                      rw [List.length_append, List.length_singleton] at h ⊢
                      exact h.wide (Nat.le_refl _) (by simp [World.setCell])), (HG.out.trans' ((HGW.out.mono (by have := HZ.out; omega) : Below w4.heap.size wr w8).trans (hb9.out.mono (by omega)))).setCell (Nat.le_refl _) _, Lib.hid (by have := HZ.out; have := HGW.out.size; have := hb9.out.size; simp [World.setCell]; omega)⟩
                    case measure => have := HLT.out; have := hjk.out; have := HKN.out; have := HFIT.out; simp only [intOf]; omega
                  | true =>
                    cases bL with
                    | false =>
                      go_wp2_with (at_builtin; refine push_o (w0 := wr) (wr := w8) (la := w8.heap.size) (hb := w8.heap.size) (lo := w4.heap.size + 1) 24 57 3 24 Tryz.underlying24 (z := .agg #[.int .i64 0, .int .i64 0, .int .i64 0]) (by kernel_rfl) rfl (by decide) (by decide) rfl _ _ rfl fr_cond ⟨F, L, H⟩ [.int .i64 F, .int .i64 L, .int .i64 H] rfl rfl rfl HO.out HZ.out HGW.out ⟨rfl, H64.out.1, H64.out.2.1, H64.out.2.2⟩ HGW.out.size (Nat.le_refl _) rfl (by simp [Value.oneCell']) HSZ.out ?_; intro g9 cap9 w9 hown9 hb9; have z0 := (hb9.cell (p := ⟨w4.heap.size, 0, none⟩) (Nat.lt_succ_self _)).trans (HGW.out.cellv HQ0.out); have z1 := (hb9.cell (p := ⟨w4.heap.size, 1, none⟩) (Nat.lt_succ_self _)).trans (HGW.out.cellv HQ1.out); have z2 := (hb9.cell (p := ⟨w4.heap.size, 2, none⟩) (Nat.lt_succ_self _)).trans (HGW.out.cellv HQ2.out); have z3 := (hb9.cell (p := ⟨w4.heap.size, 3, none⟩) (Nat.lt_succ_self _)).trans (HGW.out.cellv HQ3.out); have zf := (hb9.frozen (p := ⟨w4.heap.size, 2, none⟩) (Nat.lt_succ_self _)).trans ((HGW.out.frozen (p := ⟨w4.heap.size, 2, none⟩) HZ.out).trans HQF.out); replace hown9 := Lib.hid hown9; replace hb9 := Lib.hid hb9; clear s2)
                      go_roundw
                      case rel => exact ⟨j + 2, k + 1, false, some ⟨g9, 0, none⟩, cap9, by go_num, rfl, Lib.hid ⟨by have := hjk.out; omega, HLT.out⟩, Lib.hid (by rw [okC_succ, ← hB.out, HQB.out]; rfl), by simp [go_sem, z0], by simp [go_sem, z1], by rw [HQC.out, List.length_append, List.length_singleton]; simp [go_sem, z2], by simp [go_sem, z3], by simp [go_sem, zf], Lib.hid (by
                        have h := hown9.out.loc fr_cond (Loc.setCell (Loc.refl _ _) (p := ⟨w4.heap.size, 2, none⟩) (Nat.lt_succ_self _) (.slice (some ⟨g9, 0, none⟩) ((qcsI P k).length + 1) cap9)) (Nat.le_refl _)
                        rw [HQC.out]
                        rw [List.length_append, List.length_singleton] at h ⊢
                        exact h.wide (Nat.le_refl _) (by simp [World.setCell])), (HG.out.trans' ((HGW.out.mono (by have := HZ.out; omega) : Below w4.heap.size wr w8).trans (hb9.out.mono (by omega)))).setCell (Nat.le_refl _) _, Lib.hid (by have := HZ.out; have := HGW.out.size; have := hb9.out.size; simp [World.setCell]; omega)⟩
                      case measure => have := HLT.out; have := hjk.out; have := HKN.out; have := HFIT.out; simp only [intOf]; omega
                    | true =>
                      go_wp2_with (at_builtin; refine push_o (w0 := wr) (wr := w8) (la := w8.heap.size) (hb := w8.heap.size) (lo := w4.heap.size + 1) 24 57 3 24 Tryz.underlying24 (z := .agg #[.int .i64 0, .int .i64 0, .int .i64 0]) (by kernel_rfl) rfl (by decide) (by decide) rfl _ _ rfl fr_cond ⟨F, L, H⟩ [.int .i64 F, .int .i64 L, .int .i64 H] rfl rfl rfl HO.out HZ.out HGW.out ⟨rfl, H64.out.1, H64.out.2.1, H64.out.2.2⟩ HGW.out.size (Nat.le_refl _) rfl (by simp [Value.oneCell']) HSZ.out ?_; intro g9 cap9 w9 hown9 hb9; have z0 := (hb9.cell (p := ⟨w4.heap.size, 0, none⟩) (Nat.lt_succ_self _)).trans (HGW.out.cellv HQ0.out); have z1 := (hb9.cell (p := ⟨w4.heap.size, 1, none⟩) (Nat.lt_succ_self _)).trans (HGW.out.cellv HQ1.out); have z2 := (hb9.cell (p := ⟨w4.heap.size, 2, none⟩) (Nat.lt_succ_self _)).trans (HGW.out.cellv HQ2.out); have z3 := (hb9.cell (p := ⟨w4.heap.size, 3, none⟩) (Nat.lt_succ_self _)).trans (HGW.out.cellv HQ3.out); have zf := (hb9.frozen (p := ⟨w4.heap.size, 2, none⟩) (Nat.lt_succ_self _)).trans ((HGW.out.frozen (p := ⟨w4.heap.size, 2, none⟩) HZ.out).trans HQF.out); replace hown9 := Lib.hid hown9; replace hb9 := Lib.hid hb9; clear s2)
                      go_roundw
                      case rel => exact ⟨j + 2, k + 1, bH, some ⟨g9, 0, none⟩, cap9, by go_num, rfl, Lib.hid ⟨by have := hjk.out; omega, HLT.out⟩, Lib.hid (by rw [okC_succ, ← hB.out, HQB.out]; rfl), by simp [go_sem, z0], by simp [go_sem, z1], by rw [HQC.out, List.length_append, List.length_singleton]; simp [go_sem, z2], by simp [go_sem, z3], by simp [go_sem, zf], Lib.hid (by
                        have h := hown9.out.loc fr_cond (Loc.setCell (Loc.refl _ _) (p := ⟨w4.heap.size, 2, none⟩) (Nat.lt_succ_self _) (.slice (some ⟨g9, 0, none⟩) ((qcsI P k).length + 1) cap9)) (Nat.le_refl _)
                        rw [HQC.out]
                        rw [List.length_append, List.length_singleton] at h ⊢
                        exact h.wide (Nat.le_refl _) (by simp [World.setCell])), (HG.out.trans' ((HGW.out.mono (by have := HZ.out; omega) : Below w4.heap.size wr w8).trans (hb9.out.mono (by omega)))).setCell (Nat.le_refl _) _, Lib.hid (by have := HZ.out; have := HGW.out.size; have := hb9.out.size; simp [World.setCell]; omega)⟩
                      case measure => have := HLT.out; have := hjk.out; have := HKN.out; have := HFIT.out; simp only [intOf]; omega
              · obtain rfl : k = qn P := by have := hjk.out; omega
                have j3 : (N : Int) - 2 ≤ (j : Int) := by have := hjk.out; have := HKN.out; have := HFIT.out; omega
                have jd : decide ((j : Int) < (N : Int) - 2) = false := decide_eq_false (by omega)
                replace k0 := hg.cellv k0
                replace k1 := hg.cellv k1
                replace k2 := hg.cellv k2
                replace k3 := hg.cellv k3
                replace f0 := (hg.frozen (p := ⟨w.heap.size, 0, none⟩) hl4).trans f0
                replace f1 := (hg.frozen (p := ⟨w.heap.size, 1, none⟩) hl4).trans f1
                replace f2 := (hg.frozen (p := ⟨w.heap.size, 2, none⟩) hl4).trans f2
                replace f3 := (hg.frozen (p := ⟨w.heap.size, 3, none⟩) hl4).trans f3
                have hlr : w.heap.size < wr.heap.size := Nat.lt_of_lt_of_le hl4 hg.size
                have HG := Lib.hid hg
                clear hlt hg qf
                cases B with
                | false =>
                  have HB := Lib.hid (implQuery_ok (l := l) (by rw [HPP.out]; unfold okI; rw [← hB.out, Bool.and_false]))
                  go_wp2_with fail
                  refine bodyPost_ret (v := .tuple #[.agg #[.int .i64 0, .int .i64 0, .slice none 0 0, .slice none 0 0], .bool false]) (by simp [results, Tryz.results12, go_sem, *]) rfl ⟨_, _, by rw [HB.out]; rfl, ((((HW.out.setCell (Nat.le_refl _) _).setCell (Nat.le_refl _) _).setCell (Nat.le_refl _) _).setCell (Nat.le_refl _) _), w.heap.size, Nat.le_refl _, by simp only [World.setCell_size]; exact HW.out.size, by rw [HB.out]; exact OSl.nil _, by rw [HB.out]; exact OSl.nil _⟩
                | true =>
                  have HOK : Hid (okI (cutL 32 l) = true) := Lib.hid (by rw [HPP.out]; unfold okI; rw [← hB.out, HHD.out]; rfl)
                  have HOUT2 := Lib.hid (HOUT.out.gr fr_int HG.out)
                  cases hq : isQueryB ⟨I, J, qcsI P (qn P), o.getD []⟩ with
                  | false =>
                    have HQF := Lib.hid hq
                    have HB := Lib.hid (implQuery_is (l := l) (by rw [HQI.out]; exact hq))
                    clear hq
                    go_wp2_with fail
                    refine (impl_IsQuery_of HQF.out _ _ _ (rd_pconds HO.out) (rd_pints HOUT2.out)).mono ?_
                    rintro e w5 ⟨rfl, g5⟩
                    replace k0 := g5.cellv k0
                    replace k1 := g5.cellv k1
                    replace k2 := g5.cellv k2
                    replace k3 := g5.cellv k3
                    replace f0 := (g5.frozen (p := ⟨w.heap.size, 0, none⟩) hlr).trans f0
                    replace f1 := (g5.frozen (p := ⟨w.heap.size, 1, none⟩) hlr).trans f1
                    replace f2 := (g5.frozen (p := ⟨w.heap.size, 2, none⟩) hlr).trans f2
                    replace f3 := (g5.frozen (p := ⟨w.heap.size, 3, none⟩) hlr).trans f3
                    have G5 := Lib.hid (HW.out.trans g5)
                    clear g5 q0 q1 q2 q3
                    go_wp2_with fail
                    refine bodyPost_ret (v := .tuple #[.agg #[.int .i64 0, .int .i64 0, .slice none 0 0, .slice none 0 0], .bool false]) (by simp [results, Tryz.results12, go_sem, *]) rfl ⟨_, _, by rw [HB.out]; rfl, ((((G5.out.setCell (Nat.le_refl _) _).setCell (Nat.le_refl _) _).setCell (Nat.le_refl _) _).setCell (Nat.le_refl _) _), w.heap.size, Nat.le_refl _, by simp only [World.setCell_size]; exact G5.out.size, by rw [HB.out]; exact OSl.nil _, by rw [HB.out]; exact OSl.nil _⟩
                  | true =>
                    have HQT := Lib.hid hq
                    have HSM := Lib.hid (query_small hq)
                    obtain ⟨T, HTT⟩ : ∃ T, Hid (T = queryText ⟨I, J, qcsI P (qn P), o.getD []⟩) := ⟨_, Lib.hid rfl⟩
                    clear hq
                    go_wp2_with fail
                    refine (impl_IsQuery_of HQT.out _ _ _ (rd_pconds HO.out) (rd_pints HOUT2.out)).mono ?_
                    rintro e w5 ⟨rfl, g5⟩
                    replace k0 := g5.cellv k0
                    replace k1 := g5.cellv k1
                    replace k2 := g5.cellv k2
                    replace k3 := g5.cellv k3
                    replace f0 := (g5.frozen (p := ⟨w.heap.size, 0, none⟩) hlr).trans f0
                    replace f1 := (g5.frozen (p := ⟨w.heap.size, 1, none⟩) hlr).trans f1
                    replace f2 := (g5.frozen (p := ⟨w.heap.size, 2, none⟩) hlr).trans f2
                    replace f3 := (g5.frozen (p := ⟨w.heap.size, 3, none⟩) hlr).trans f3
                    have d0 := g5.cellv q0
                    have d1 := g5.cellv q1
                    have d2 := g5.cellv q2
                    have d3 := g5.cellv q3
                    have G5 := Lib.hid (HW.out.trans g5)
                    have hl5 : w.heap.size < w5.heap.size := Nat.lt_of_lt_of_le hlr g5.size
                    have HC5 := Lib.hid (HO.out.gr fr_cond g5)
                    have HO5 := Lib.hid (HOUT2.out.gr fr_int g5)
                    have HZ5 : Hid (w4.heap.size < wr.heap.size ∧ wr.heap.size ≤ w5.heap.size) := Lib.hid ⟨HZ.out, g5.size⟩
                    clear g5 q0 q1 q2 q3 hlr
                    cases ht : (T == l) with
                    | false =>
                      have HB := Lib.hid (implQuery_no (l := l) (by rw [HQI.out, ← HTT.out]; intro e; rw [e] at ht; simp at ht))
                      go_wp2_with fail
                      refine (Calls.mono (impl_FormatQuery ⟨I, J, qcsI P (qn P), o.getD []⟩ _ _ _ (rd_pconds HC5.out) (rd_pints HO5.out) HSM.out.1 HSM.out.2 (tab_gr HT.out G5.out)) fun e w' h => by rw [← HTT.out] at h; exact h).mono ?_
                      rintro e w6 ⟨rfl, g6⟩
                      replace k0 := g6.cellv k0
                      replace k1 := g6.cellv k1
                      replace k2 := g6.cellv k2
                      replace k3 := g6.cellv k3
                      replace f0 := (g6.frozen (p := ⟨w.heap.size, 0, none⟩) hl5).trans f0
                      replace f1 := (g6.frozen (p := ⟨w.heap.size, 1, none⟩) hl5).trans f1
                      replace f2 := (g6.frozen (p := ⟨w.heap.size, 2, none⟩) hl5).trans f2
                      replace f3 := (g6.frozen (p := ⟨w.heap.size, 3, none⟩) hl5).trans f3
                      have G6 := Lib.hid (G5.out.trans g6)
                      clear g6 d0 d1 d2 d3
                      go_wp2_with fail
                      refine bodyPost_ret (v := .tuple #[.agg #[.int .i64 0, .int .i64 0, .slice none 0 0, .slice none 0 0], .bool false]) (by simp [results, Tryz.results12, go_sem, *]) rfl ⟨_, _, by rw [HB.out]; rfl, ((((G6.out.setCell (Nat.le_refl _) _).setCell (Nat.le_refl _) _).setCell (Nat.le_refl _) _).setCell (Nat.le_refl _) _), w.heap.size, Nat.le_refl _, by simp only [World.setCell_size]; exact G6.out.size, by rw [HB.out]; exact OSl.nil _, by rw [HB.out]; exact OSl.nil _⟩
                    | true =>
                      have HB := Lib.hid ((implQuery_yes (l := l) (by rw [HPP.out]; exact decide_eq_true (by rw [HN.out]; exact HFIT.out)) HOK.out (by rw [HQI.out]; exact HQT.out) (by rw [HQI.out, ← HTT.out]; exact eq_of_beq ht)).trans (congrArg some HQI.out))
                      go_wp2_with fail
                      refine (Calls.mono (impl_FormatQuery ⟨I, J, qcsI P (qn P), o.getD []⟩ _ _ _ (rd_pconds HC5.out) (rd_pints HO5.out) HSM.out.1 HSM.out.2 (tab_gr HT.out G5.out)) fun e w' h => by rw [← HTT.out] at h; exact h).mono ?_
                      rintro e w6 ⟨rfl, g6⟩
                      replace k0 := g6.cellv k0
                      replace k1 := g6.cellv k1
                      replace k2 := g6.cellv k2
                      replace k3 := g6.cellv k3
                      replace f0 := (g6.frozen (p := ⟨w.heap.size, 0, none⟩) hl5).trans f0
                      replace f1 := (g6.frozen (p := ⟨w.heap.size, 1, none⟩) hl5).trans f1
                      replace f2 := (g6.frozen (p := ⟨w.heap.size, 2, none⟩) hl5).trans f2
                      replace f3 := (g6.frozen (p := ⟨w.heap.size, 3, none⟩) hl5).trans f3
                      replace d0 := g6.cellv d0
                      replace d1 := g6.cellv d1
                      replace d2 := g6.cellv d2
                      replace d3 := g6.cellv d3
                      have G6 := Lib.hid (G5.out.trans g6)
                      have HC6 := Lib.hid (HC5.out.gr fr_cond g6)
                      have HO6 := Lib.hid (HO5.out.gr fr_int g6)
                      have hz6 := g6.size
                      clear g6 hl5
                      go_wp2_with fail
                      have hv7 : PConds (In (w4.heap.size + 1) wr.heap.size) ((((w6.setCell ⟨w.heap.size, 0, none⟩ (.int .i64 I)).setCell ⟨w.heap.size, 1, none⟩ (.int .i64 J)).setCell ⟨w.heap.size, 2, none⟩ (.slice bo (qcsI P (qn P)).length co)).setCell ⟨w.heap.size, 3, none⟩ (.slice oa on oc)) (.slice bo (qcsI P (qn P)).length co) (qcsI P (qn P)) := HC6.out.frame fr_cond ((((((Agree.refl _ w6).setCell (p := ⟨w.heap.size, 0, none⟩) (fun b hb e => by have := hb.1; dsimp only at e; omega) (.int .i64 I)).setCell (p := ⟨w.heap.size, 1, none⟩) (fun b hb e => by have := hb.1; dsimp only at e; omega) (.int .i64 J)).setCell (p := ⟨w.heap.size, 2, none⟩) (fun b hb e => by have := hb.1; dsimp only at e; omega) (.slice bo (qcsI P (qn P)).length co)).setCell (p := ⟨w.heap.size, 3, none⟩) (fun b hb e => by have := hb.1; dsimp only at e; omega) (.slice oa on oc)))
                      have ho7 : PInts (In (w.heap.size + 1) w4.heap.size) ((((w6.setCell ⟨w.heap.size, 0, none⟩ (.int .i64 I)).setCell ⟨w.heap.size, 1, none⟩ (.int .i64 J)).setCell ⟨w.heap.size, 2, none⟩ (.slice bo (qcsI P (qn P)).length co)).setCell ⟨w.heap.size, 3, none⟩ (.slice oa on oc)) (.slice oa on oc) (o.getD []) := HO6.out.frame fr_int ((((((Agree.refl _ w6).setCell (p := ⟨w.heap.size, 0, none⟩) (fun b hb e => by have := hb.1; dsimp only at e; omega) (.int .i64 I)).setCell (p := ⟨w.heap.size, 1, none⟩) (fun b hb e => by have := hb.1; dsimp only at e; omega) (.int .i64 J)).setCell (p := ⟨w.heap.size, 2, none⟩) (fun b hb e => by have := hb.1; dsimp only at e; omega) (.slice bo (qcsI P (qn P)).length co)).setCell (p := ⟨w.heap.size, 3, none⟩) (fun b hb e => by have := hb.1; dsimp only at e; omega) (.slice oa on oc)))
                      refine bodyPost_ret (v := .tuple #[.agg #[.int .i64 I, .int .i64 J, .slice bo (qcsI P (qn P)).length co, .slice oa on oc], .bool true]) (by simp [results, Tryz.results12, go_sem, *]) rfl ⟨_, _, by rw [HB.out]; rfl, ((((G6.out.setCell (Nat.le_refl _) _).setCell (Nat.le_refl _) _).setCell (Nat.le_refl _) _).setCell (Nat.le_refl _) _), w4.heap.size, by omega, by simp only [World.setCell_size]; have := HZ5.out; omega, by rw [HB.out]; exact hv7.wide (by omega) (by simp only [World.setCell_size]; have := HZ5.out; omega), by rw [HB.out]; exact ho7.wide (by omega) (Nat.le_refl _)⟩
  · have hrem : (N : Int) % 2 = 1 := by omega
    have HB := Lib.hid (implQuery_fit (l := l) (by rw [HPP.out]; exact fitB_no (by rw [HN.out]; omega)))
    clear b1 b2
    go_enter Tryz.func12, Tryz.ntmps12
    go_wp2_with fail
    refine (impl_splitN l 32 P N HPP.out HN.out _ (maxL_gr HM.out g0) HL.out).mono ?_
    rintro e w1 ⟨g, n, rfl, g1, HSt⟩
    have k0 : w1.cell? ⟨w.heap.size, 0, none⟩ = some (.int .i64 0) := g1.cellv (by simp [go_sem])
    have k1 : w1.cell? ⟨w.heap.size, 1, none⟩ = some (.int .i64 0) := g1.cellv (by simp [go_sem])
    have k2 : w1.cell? ⟨w.heap.size, 2, none⟩ = some (.slice none 0 0) := g1.cellv (by simp [go_sem])
    have k3 : w1.cell? ⟨w.heap.size, 3, none⟩ = some (.slice none 0 0) := g1.cellv (by simp [go_sem])
    have f0 : w1.frozen? ⟨w.heap.size, 0, none⟩ = false := by rw [g1.frozen hlt]; simp [go_sem]
    have f1 : w1.frozen? ⟨w.heap.size, 1, none⟩ = false := by rw [g1.frozen hlt]; simp [go_sem]
    have f2 : w1.frozen? ⟨w.heap.size, 2, none⟩ = false := by rw [g1.frozen hlt]; simp [go_sem]
    have f3 : w1.frozen? ⟨w.heap.size, 3, none⟩ = false := by rw [g1.frozen hlt]; simp [go_sem]
    have G1 := Lib.hid (g0.trans g1)
    have hl1 : w.heap.size < w1.heap.size := Nat.lt_of_lt_of_le hlt g1.size
    clear g0 g1 hlt
    go_wp2_with fail
    refine bodyPost_ret (v := .tuple #[.agg #[.int .i64 0, .int .i64 0, .slice none 0 0, .slice none 0 0], .bool false]) (by simp [results, Tryz.results12, go_sem, *]) rfl ⟨_, _, by rw [HB.out]; rfl, ((((G1.out.setCell (Nat.le_refl _) _).setCell (Nat.le_refl _) _).setCell (Nat.le_refl _) _).setCell (Nat.le_refl _) _), w.heap.size, Nat.le_refl _, by simp only [World.setCell_size]; exact G1.out.size, by rw [HB.out]; exact OSl.nil _, by rw [HB.out]; exact OSl.nil _⟩
end Go.Proofs.YtcdcpfcmhmhdjaaGreatDoor
