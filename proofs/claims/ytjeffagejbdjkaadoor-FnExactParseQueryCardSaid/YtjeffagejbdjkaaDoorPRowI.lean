/- ParseRow: the program's walk. -/
import Derived.Test.YtjeffagejbdjkaaDoorPRowP
import Derived.Test.YtjeffagejbdjkaaDoorPSetJ
namespace Go.Proofs.YtjeffagejbdjkaaDoor
open Go.RowKit
theorem parseAll_go {ps : List (List UInt8)} {k : Nat} {n : Int} (h : k < ps.length) (hn : parseI ps[k] = some n) : parseAll (ps.drop k) = (parseAll (ps.drop (k + 1))).map (n :: ·) := by
  rw [List.drop_eq_getElem_cons h, parseAll, hn]
  cases parseAll (ps.drop (k + 1)) <;> rfl
theorem parseAll_stop {ps : List (List UInt8)} {k : Nat} (h : k < ps.length) (hn : parseI ps[k] = none) : parseAll (ps.drop k) = none := by rw [List.drop_eq_getElem_cons h, parseAll, hn]
theorem implRow_id {l F R : List UInt8} {IS : Bool} (h : Lib.cut l [58] = (F, R, IS)) (hf : parseI F = none) : implRow l = none := by unfold implRow; rw [h]; simp only [hf]
theorem implRow_vals {l F R : List UInt8} {IS : Bool} (h : Lib.cut l [58] = (F, R, IS)) (hr : parseAll (cutL 44 R) = none) : implRow l = none := by
  unfold implRow; rw [h]; simp only [hr]
  cases parseI F <;> rfl
theorem implRow_no {l F R : List UInt8} {IS : Bool} {i : Int} {vs : List Int} (h : Lib.cut l [58] = (F, R, IS)) (hf : parseI F = some i) (hr : parseAll (cutL 44 R) = some vs) (hc : ¬ (isRowB ⟨i, vs⟩ = true ∧ rowText ⟨i, vs⟩ = l)) : implRow l = none := by
  unfold implRow; rw [h]; simp only [hf, hr]; exact if_neg hc
theorem implRow_yes {l F R : List UInt8} {IS : Bool} {i : Int} {vs : List Int} (h : Lib.cut l [58] = (F, R, IS)) (hf : parseI F = some i) (hr : parseAll (cutL 44 R) = some vs) (hc : isRowB ⟨i, vs⟩ = true ∧ rowText ⟨i, vs⟩ = l) : implRow l = some ⟨i, vs⟩ := by
  unfold implRow; rw [h]; simp only [hf, hr]; exact if_pos hc
theorem opt_map_map {acc : List Int} {n : Int} (o : Option (List Int)) : (o.map (n :: ·)).map (acc ++ ·) = o.map ((acc ++ [n]) ++ ·) := by cases o <;> simp
set_option maxRecDepth 100000 in
set_option maxHeartbeats 3000000 in
theorem impl_parseNumbers (l : List UInt8) (w : World) (hl : l.length ≤ 1048576) (hT : Tens Tryd.prog w) (hS : ErrS Tryd.prog w) (hR : ErrR Tryd.prog w) (hM : MaxL w) : Calls Tryd.prog 69 #[.string ⟨l.toArray⟩] w fun e w' => ∃ r, e = .returned (.tuple #[r, .bool (parseAll (cutL 44 l)).isSome]) ∧ Gr w w' ∧ PInts (In w.heap.size w'.heap.size) w' r ((parseAll (cutL 44 l)).getD []) := by
  have HL := Lib.hid hl
  have HT := Lib.hid hT
  have HES := Lib.hid hS
  have HER := Lib.hid hR
  have HM := Lib.hid hM
  have hown0 := own_empty w 3 1 w.heap.size (Nat.le_refl _)
  have g0 : Gr w (w.alloc (.cells #[] 3)) := (Gr.refl w).alloc _
  clear hl hT hS hR hM
  obtain ⟨P, HP⟩ : ∃ P, Hid (P = cutL 44 l) := ⟨_, Lib.hid rfl⟩
  go_enter Tryd.func69, Tryd.ntmps69
  go_wp2_with fail
  refine (impl_split_of l 44 P HP.out.symm _ (maxL_gr HM.out g0) HL.out).mono ?_
  rintro e w1 ⟨g, n, rfl, g1, HSt⟩
  have G1 : Gr w w1 := g0.trans g1
  have hown1 := ownsRow_gr hown0 g1
  have HPL : Hid (P.length ≤ 1048577) := Lib.hid (by rw [HP.out]; have := cutL_count 44 l; have := HL.out; omega)
  have HPC0 : Hid (Pcs w1 g P (.slice (some ⟨w.heap.size, 0, none⟩) 0 0)) := Lib.hid ⟨HSt.out.1, fun e => by have h1 := HSt.out.2; have h2 : w.heap.size = g := Option.some.inj e; simp at h1; omega⟩
  have HP0 : Hid (0 < P.length) := Lib.hid (by rw [HP.out]; exact List.length_pos_iff.2 (cutL_ne 44 l))
  clear hown0 g0
  go_wp2_with fail
  go_loopw [4, 13] (fun ov iv wr => ∃ (k : Nat) (acc : List Int) (sa : Option Addr) (sc : Nat), k ≤ P.length ∧ iv = .int .i64 k ∧ ov = .slice sa acc.length sc ∧ OwnI wr w.heap.size ov acc ∧ Hid (parseAll P = (parseAll (P.drop k)).map (acc ++ ·) ∧ acc.length ≤ k ∧ ∀ x ∈ acc, I64 x) ∧ Hid (Pcs wr g P ov) ∧ Gr w wr) (fun _ i _ => P.length - (intOf i).toNat)
  case atStart => exact ⟨0, [], _, _, Nat.zero_le _, rfl, rfl, hown1, Lib.hid ⟨by rw [List.drop_zero]; cases parseAll P <;> simp, by simp, by simp⟩, HPC0, G1⟩
  case round =>
    obtain ⟨k, acc, sa, sc, hk, rfl, rfl, hown, hst, hpc, hg⟩ := hrel
    by_cases hlt : k < P.length
    · have HLT := Lib.hid hlt
      have HGO : Hid (∀ n, parseI P[k] = some n → parseAll (P.drop k) = (parseAll (P.drop (k + 1))).map (n :: ·)) := Lib.hid (fun n h => parseAll_go hlt h)
      have HBAD : Hid (parseI P[k] = none → parseAll (P.drop k) = none) := Lib.hid (fun h => parseAll_stop hlt h)
      have c0 : wr.cell? ⟨g, k, none⟩ = some (.string ⟨P[k].toArray⟩) := hpc.out.1 k hlt
      have HpM : Hid (P[k] ∈ P) := Lib.hid (List.getElem_mem hlt)
      generalize P[k] = p at HGO HBAD c0 HpM
      have HpL : Hid (p.length ≤ 1048576) := Lib.hid (by
        have h2 : p ∈ cutL 44 l := by rw [← HP.out]; exact HpM.out
        have := cutL_len 44 l p h2; have := HL.out; omega)
      have i0 : (0 : Int) ≤ (k : Int) := Int.natCast_nonneg _
      have i1 : (k : Int) < (P.length : Int) := by omega
      have i2 : (P.length : Int) ≤ 1048577 := by have := HPL.out; omega
      have HOW := Lib.hid hown
      clear hk hown
      cases hp : parseI p with
      | none =>
        have HF := Lib.hid hp
        have HB : Hid (parseAll (cutL 44 l) = none) := Lib.hid (by rw [← HP.out, hst.out.1, HBAD.out hp]; rfl)
        clear hp
        go_wp2_with fail
        refine (impl_ParseInt_no HF.out HpL.out _ (tab_gr HT.out hg) (errS_gr HES.out hg) (errR_gr HER.out hg)).mono ?_
        rintro e w3 ⟨rfl, gr3⟩
        go_wp2_with fail
        go_ret2
        exact ⟨_, by rw [HB.out]; rfl, hg.trans gr3, by rw [HB.out]; exact OSl.nil _⟩
      | some y =>
        have HF := Lib.hid hp
        have HY : Hid (I64 y) := Lib.hid (by have := parseI_some hp; unfold I64; omega)
        have HN2 : Hid (acc.length + 1 ≤ 17592186044416) := Lib.hid (by have := hst.out.2.1; have := HPL.out; omega)
        have hst2 : Hid (parseAll P = (parseAll (P.drop (k + 1))).map ((acc ++ [y]) ++ ·) ∧ (acc ++ [y]).length ≤ k + 1 ∧ ∀ x ∈ acc ++ [y], I64 x) := Lib.hid ⟨by rw [hst.out.1, HGO.out y hp, opt_map_map], by have := hst.out.2.1; simp; omega, fun x hx => by
          rcases List.mem_append.1 hx with h | h
          · exact hst.out.2.2 x h
          · rw [List.mem_singleton.1 h]; exact HY.out⟩
        clear hp
        go_wp2_with fail
        refine (impl_ParseInt_yes HF.out HpL.out _ (tab_gr HT.out hg) (errS_gr HES.out hg) (errR_gr HER.out hg)).mono ?_
        rintro e w3 ⟨rfl, gr3⟩
        have HG3 := Lib.hid (hg.trans gr3)
        have HO3 := Lib.hid (ownsRow_gr HOW.out gr3)
        have HPC3 := Lib.hid (hpc.out.gr gr3)
        go_wp2_with (at_builtin; refine push_ik rfl _ _ rfl acc y rfl rfl rfl HO3.out HN2.out HG3.out.size ?_; intro g6 cap6 w6 hown6 hb6 hc6 hd6)
        have HPC6 : Hid (Pcs w6 g P (.slice (some ⟨g6, 0, none⟩) (acc.length + 1) cap6)) := Lib.hid (HPC3.out.push HP0.out hc6 hd6)
        clear hc6 hd6
        go_roundw
        case rel => exact ⟨k + 1, acc ++ [y], some ⟨g6, 0, none⟩, cap6, HLT.out, by go_num, by simp, own_len_i hown6, hst2, HPC6, HG3.out.trans' hb6⟩
        case measure => have := HLT.out; simp only [intOf]; omega
    · obtain rfl : k = P.length := by omega
      have HE : Hid (parseAll (cutL 44 l) = some acc) := Lib.hid (by rw [← HP.out, hst.out.1, List.drop_length]; simp [parseAll])
      have HR := Lib.hid (own_priv hown hst.out.2.2)
      clear hlt hk hown
      go_wp2_with fail
      go_ret2
      exact ⟨_, by rw [HE.out]; rfl, hg, by rw [HE.out]; exact HR.out⟩
theorem impl_parseNumbers_no {l : List UInt8} (h : parseAll (cutL 44 l) = none) (w : World) (hl : l.length ≤ 1048576) (hT : Tens Tryd.prog w) (hS : ErrS Tryd.prog w) (hR : ErrR Tryd.prog w) (hM : MaxL w) : Calls Tryd.prog 69 #[.string ⟨l.toArray⟩] w fun e w' => ∃ a n c, e = .returned (.tuple #[.slice a n c, .bool false]) ∧ Gr w w' := by
  have := impl_parseNumbers l w hl hT hS hR hM
  rw [h] at this
  exact this.mono fun e w' ⟨r, he, hg, ho⟩ => by obtain ⟨a, n, c, rfl⟩ := ho.isSl; exact ⟨a, n, c, he, hg⟩
theorem impl_parseNumbers_yes {l : List UInt8} {vs : List Int} (h : parseAll (cutL 44 l) = some vs) (w : World) (hl : l.length ≤ 1048576) (hT : Tens Tryd.prog w) (hS : ErrS Tryd.prog w) (hR : ErrR Tryd.prog w) (hM : MaxL w) : Calls Tryd.prog 69 #[.string ⟨l.toArray⟩] w fun e w' => ∃ a n c, e = .returned (.tuple #[.slice a n c, .bool true]) ∧ Gr w w' ∧ PInts (In w.heap.size w'.heap.size) w' (.slice a n c) vs := by
  have := impl_parseNumbers l w hl hT hS hR hM
  rw [h] at this
  exact this.mono fun e w' ⟨r, he, hg, ho⟩ => by obtain ⟨a, n, c, rfl⟩ := ho.isSl; exact ⟨a, n, c, he, hg, ho⟩
def rowOr (o : Option DRow) : DRow := o.getD ⟨0, []⟩
theorem impl_parseNumbers_any (l : List UInt8) (w : World) (hl : l.length ≤ 1048576) (hT : Tens Tryd.prog w) (hS : ErrS Tryd.prog w) (hR : ErrR Tryd.prog w) (hM : MaxL w) : Calls Tryd.prog 69 #[.string ⟨l.toArray⟩] w fun e w' => ∃ a n c b, e = .returned (.tuple #[.slice a n c, .bool b]) ∧ Gr w w' :=
  (impl_parseNumbers l w hl hT hS hR hM).mono fun e w' ⟨r, he, hg, ho⟩ => by obtain ⟨a, n, c, rfl⟩ := ho.isSl; exact ⟨a, n, c, _, he, hg⟩
theorem totRow_three {r : DRow} (h : isRowB r = true) : totRow r ≤ 1048576 := by
  have := (isRow_parts h).2.2
  unfold totRow
  first | omega | (simp; omega)
set_option maxRecDepth 100000 in
set_option maxHeartbeats 3000000 in
theorem impl_ParseRow (l : List UInt8) (w : World) (hl : l.length ≤ 1048576) (hT : Tens Tryd.prog w) (hS : ErrS Tryd.prog w) (hR : ErrR Tryd.prog w) (hM : MaxL w) : Calls Tryd.prog 36 #[.string ⟨l.toArray⟩] w fun e w' => ∃ v, e = .returned (.tuple #[.agg #[.int .i64 (rowOr (implRow l)).id, v], .bool (implRow l).isSome]) ∧ Gr w w' ∧ PInts (In w.heap.size w'.heap.size) w' v (rowOr (implRow l)).vals := by
  have HL := Lib.hid hl
  have HT := Lib.hid hT
  have HES := Lib.hid hS
  have HER := Lib.hid hR
  have HM := Lib.hid hM
  have g0 : Gr w (w.alloc (.cells #[.int .i64 0, .slice none 0 0] 33)) := (Gr.refl w).alloc _
  have hlt : w.heap.size < (w.alloc (.cells #[.int .i64 0, .slice none 0 0] 33)).heap.size := by simp
  clear hl hT hS hR hM
  obtain ⟨F, R, IS, HC⟩ : ∃ F R IS, Hid (Lib.cut l [58] = (F, R, IS)) := ⟨_, _, _, Lib.hid rfl⟩
  have HFL : Hid (F.length ≤ 1048576) := Lib.hid (by have h := (cut_len l 58).1; rw [HC.out] at h; have := HL.out; simp only at h; omega)
  have HRL : Hid (R.length ≤ 1048576) := Lib.hid (by have h := (cut_len l 58).2; rw [HC.out] at h; have := HL.out; simp only at h; omega)
  go_enter Tryd.func36, Tryd.ntmps36
  go_wp2_with fail
  refine (impl_cut_of l 58 HC.out _ (maxL_gr HM.out g0) HL.out).mono ?_
  rintro e w1 ⟨rfl, g1⟩
  have a0 : w1.cell? ⟨w.heap.size, 0, none⟩ = some (.int .i64 0) := g1.cellv (by simp [go_sem])
  have a1 : w1.cell? ⟨w.heap.size, 1, none⟩ = some (.slice none 0 0) := g1.cellv (by simp [go_sem])
  have af0 : w1.frozen? ⟨w.heap.size, 0, none⟩ = false := by rw [g1.frozen hlt]; simp [go_sem]
  have af1 : w1.frozen? ⟨w.heap.size, 1, none⟩ = false := by rw [g1.frozen hlt]; simp [go_sem]
  have G1 := Lib.hid (g0.trans g1)
  have hl1 : w.heap.size < w1.heap.size := Nat.lt_of_lt_of_le hlt g1.size
  clear g0 g1 hlt
  cases hF : parseI F with
  | none =>
    have HF := Lib.hid hF
    have HB := Lib.hid (implRow_id HC.out hF)
    clear hF
    go_wp2_with fail
    refine (impl_ParseInt_no HF.out HFL.out _ (tab_gr HT.out G1.out) (errS_gr HES.out G1.out) (errR_gr HER.out G1.out)).mono ?_
    rintro e w2 ⟨rfl, g2⟩
    have G2 := Lib.hid (G1.out.trans g2)
    go_wp2_with fail
    refine (impl_parseNumbers_any R _ HRL.out (tab_gr HT.out G2.out) (errS_gr HES.out G2.out) (errR_gr HER.out G2.out) (maxL_gr HM.out G2.out)).mono ?_
    rintro e w3 ⟨a, n, c, b, rfl, g3⟩
    have g13 := g2.trans g3
    have k0 := g13.cellv a0
    have k1 := g13.cellv a1
    have f0 := (g13.frozen (p := ⟨w.heap.size, 0, none⟩) hl1).trans af0
    have f1 := (g13.frozen (p := ⟨w.heap.size, 1, none⟩) hl1).trans af1
    have hlt3 : w.heap.size < w3.heap.size := Nat.lt_of_lt_of_le hl1 g13.size
    have GZ := Lib.hid (G1.out.trans g13)
    clear a0 a1 af0 af1 hl1 g13 g2 g3
    go_wp2_with fail
    refine bodyPost_ret (v := .tuple #[.agg #[.int .i64 0, .slice none 0 0], .bool false]) (by simp [results, Tryd.results36, go_sem, *]) rfl ⟨_, by rw [HB.out]; rfl, ((GZ.out.setCell (Nat.le_refl _) _).setCell (Nat.le_refl _) _).alloc _, by rw [HB.out]; exact OSl.nil _⟩
  | some i =>
    have HF := Lib.hid hF
    have HI : Hid (I64 i) := Lib.hid (by have := parseI_some hF; unfold I64; omega)
    clear hF
    go_wp2_with fail
    refine (impl_ParseInt_yes HF.out HFL.out _ (tab_gr HT.out G1.out) (errS_gr HES.out G1.out) (errR_gr HER.out G1.out)).mono ?_
    rintro e w2 ⟨rfl, g2⟩
    have G2 := Lib.hid (G1.out.trans g2)
    cases hP : parseAll (cutL 44 R) with
    | none =>
      have HP := Lib.hid hP
      have HB := Lib.hid (implRow_vals HC.out hP)
      clear hP
      go_wp2_with fail
      refine (impl_parseNumbers_no HP.out _ HRL.out (tab_gr HT.out G2.out) (errS_gr HES.out G2.out) (errR_gr HER.out G2.out) (maxL_gr HM.out G2.out)).mono ?_
      rintro e w3 ⟨a, n, c, rfl, g3⟩
      have g13 := g2.trans g3
      have k0 := g13.cellv a0
      have k1 := g13.cellv a1
      have f0 := (g13.frozen (p := ⟨w.heap.size, 0, none⟩) hl1).trans af0
      have f1 := (g13.frozen (p := ⟨w.heap.size, 1, none⟩) hl1).trans af1
      have hlt3 : w.heap.size < w3.heap.size := Nat.lt_of_lt_of_le hl1 g13.size
      have GZ := Lib.hid (G1.out.trans g13)
      clear a0 a1 af0 af1 hl1 g13 g2 g3
      go_wp2_with fail
      refine bodyPost_ret (v := .tuple #[.agg #[.int .i64 0, .slice none 0 0], .bool false]) (by simp [results, Tryd.results36, go_sem, *]) rfl ⟨_, by rw [HB.out]; rfl, ((GZ.out.setCell (Nat.le_refl _) _).setCell (Nat.le_refl _) _).alloc _, by rw [HB.out]; exact OSl.nil _⟩
    | some vs =>
      have HP := Lib.hid hP
      clear hP
      go_wp2_with fail
      refine (impl_parseNumbers_yes HP.out _ HRL.out (tab_gr HT.out G2.out) (errS_gr HES.out G2.out) (errR_gr HER.out G2.out) (maxL_gr HM.out G2.out)).mono ?_
      rintro e w3 ⟨va, vn, vc, rfl, g3, hpv⟩
      have g13 := g2.trans g3
      have k0_3 := g13.cellv a0
      have k1_3 := g13.cellv a1
      have f0_3 := (g13.frozen (p := ⟨w.heap.size, 0, none⟩) hl1).trans af0
      have f1_3 := (g13.frozen (p := ⟨w.heap.size, 1, none⟩) hl1).trans af1
      have hlt3 : w.heap.size < w3.heap.size := Nat.lt_of_lt_of_le hl1 g13.size
      have G3 := Lib.hid (G1.out.trans g13)
      have hl2 : w.heap.size + 1 ≤ w2.heap.size := Nat.lt_of_lt_of_le hl1 g2.size
      have HPV := Lib.hid (hpv.wide (lo' := w.heap.size + 1) (hi' := w3.heap.size) hl2 (Nat.le_refl _))
      clear a0 a1 af0 af1 hl1 hl2 g13 g2 g3 hpv
      have g4 : Gr w3 (w3.alloc (.cells #[.int .i64 i, .slice va vn vc] 33)) := (Gr.refl w3).alloc _
      have hlt4 : w3.heap.size < (w3.alloc (.cells #[.int .i64 i, .slice va vn vc] 33)).heap.size := by simp
      have GA := Lib.hid (G3.out.trans g4)
      have HVA := Lib.hid (HPV.out.gr fr_int g4)
      cases h1 : isRowB ⟨i, vs⟩ with
      | false =>
        have H1 := Lib.hid h1
        have HB := Lib.hid (implRow_no HC.out HF.out HP.out (by rw [h1]; simp))
        clear h1
        go_wp2_with fail
        refine (calls_bb (impl_IsRow ⟨i, vs⟩ _ _ (rd_pints HVA.out)) H1.out).mono ?_
        rintro e w5 ⟨rfl, g5⟩
        have g35 := g4.trans g5
        have k0 := g35.cellv k0_3
        have k1 := g35.cellv k1_3
        have f0 := (g35.frozen (p := ⟨w.heap.size, 0, none⟩) hlt3).trans f0_3
        have f1 := (g35.frozen (p := ⟨w.heap.size, 1, none⟩) hlt3).trans f1_3
        have hlt5 : w.heap.size < w5.heap.size := Nat.lt_of_lt_of_le hlt3 g35.size
        have GZ := Lib.hid (G3.out.trans g35)
        clear k0_3 k1_3 f0_3 f1_3 hlt3 g35 g4 g5
        go_wp2_with fail
        refine bodyPost_ret (v := .tuple #[.agg #[.int .i64 0, .slice none 0 0], .bool false]) (by simp [results, Tryd.results36, go_sem, *]) rfl ⟨_, by rw [HB.out]; rfl, (GZ.out.setCell (Nat.le_refl _) _).setCell (Nat.le_refl _) _, by rw [HB.out]; exact OSl.nil _⟩
      | true =>
        have H1 := Lib.hid h1
        have HTR := Lib.hid (totRow_three h1)
        obtain ⟨T, HTT⟩ : ∃ T, Hid (T = rowText ⟨i, vs⟩) := ⟨_, Lib.hid rfl⟩
        clear h1
        go_wp2_with fail
        refine (calls_bb (impl_IsRow ⟨i, vs⟩ _ _ (rd_pints HVA.out)) H1.out).mono ?_
        rintro e w5 ⟨rfl, g5⟩
        have b0 : w5.cell? ⟨w3.heap.size, 0, none⟩ = some (.int .i64 i) := g5.cellv (by simp [go_sem])
        have b1 : w5.cell? ⟨w3.heap.size, 1, none⟩ = some (.slice va vn vc) := g5.cellv (by simp [go_sem])
        have hb5 : w3.heap.size < w5.heap.size := Nat.lt_of_lt_of_le hlt4 g5.size
        have g35 := g4.trans g5
        have HV5 := Lib.hid (HPV.out.gr fr_int g35)
        have G5 := Lib.hid (G3.out.trans g35)
        cases ht : (T == l) with
        | false =>
          have HB := Lib.hid (implRow_no HC.out HF.out HP.out (by rintro ⟨_, e⟩; rw [← HTT.out] at e; rw [e] at ht; simp at ht))
          go_wp2_with fail
          refine (Calls.mono (impl_FormatRow ⟨i, vs⟩ _ _ (rd_pints HV5.out) HTR.out HI.out (tab_gr HT.out G5.out)) fun e w' h => by rw [← HTT.out] at h; exact h).mono ?_
          rintro e w6 ⟨rfl, g6⟩
          have g36 := g35.trans g6
          have k0 := g36.cellv k0_3
          have k1 := g36.cellv k1_3
          have f0 := (g36.frozen (p := ⟨w.heap.size, 0, none⟩) hlt3).trans f0_3
          have f1 := (g36.frozen (p := ⟨w.heap.size, 1, none⟩) hlt3).trans f1_3
          have hlt6 : w.heap.size < w6.heap.size := Nat.lt_of_lt_of_le hlt3 g36.size
          have GZ := Lib.hid (G3.out.trans g36)
          clear k0_3 k1_3 f0_3 f1_3 hlt3 g35 g36 g4 g5 g6
          go_wp2_with fail
          refine bodyPost_ret (v := .tuple #[.agg #[.int .i64 0, .slice none 0 0], .bool false]) (by simp [results, Tryd.results36, go_sem, *]) rfl ⟨_, by rw [HB.out]; rfl, (GZ.out.setCell (Nat.le_refl _) _).setCell (Nat.le_refl _) _, by rw [HB.out]; exact OSl.nil _⟩
        | true =>
          have HB := Lib.hid (implRow_yes HC.out HF.out HP.out ⟨H1.out, by rw [← HTT.out]; exact eq_of_beq ht⟩)
          go_wp2_with fail
          refine (Calls.mono (impl_FormatRow ⟨i, vs⟩ _ _ (rd_pints HV5.out) HTR.out HI.out (tab_gr HT.out G5.out)) fun e w' h => by rw [← HTT.out] at h; exact h).mono ?_
          rintro e w6 ⟨rfl, g6⟩
          have g36 := g35.trans g6
          have k0 := g36.cellv k0_3
          have k1 := g36.cellv k1_3
          have f0 := (g36.frozen (p := ⟨w.heap.size, 0, none⟩) hlt3).trans f0_3
          have f1 := (g36.frozen (p := ⟨w.heap.size, 1, none⟩) hlt3).trans f1_3
          have d0 := g6.cellv b0
          have d1 := g6.cellv b1
          have hlt6 : w.heap.size < w6.heap.size := Nat.lt_of_lt_of_le hlt3 g36.size
          have GZ := Lib.hid (G3.out.trans g36)
          have HV6 := Lib.hid (HPV.out.gr fr_int g36)
          have hz36 := g36.size
          clear k0_3 k1_3 f0_3 f1_3 b0 b1 g35 g36 g4 g5 g6
          go_wp2_with fail
          have hv7 : PInts (In (w.heap.size + 1) w3.heap.size) ((w6.setCell ⟨w.heap.size, 0, none⟩ (.int .i64 i)).setCell ⟨w.heap.size, 1, none⟩ (.slice va vn vc)) (.slice va vn vc) vs := HV6.out.frame fr_int (((Agree.refl _ w6).setCell (p := ⟨w.heap.size, 0, none⟩) (fun b hb e => by have := hb.1; dsimp only at e; omega) (.int .i64 i)).setCell (p := ⟨w.heap.size, 1, none⟩) (fun b hb e => by have := hb.1; dsimp only at e; omega) (.slice va vn vc))
          refine bodyPost_ret (v := .tuple #[.agg #[.int .i64 i, .slice va vn vc], .bool true]) (by simp [results, Tryd.results36, go_sem, *]) rfl ⟨_, by rw [HB.out]; rfl, (GZ.out.setCell (Nat.le_refl _) _).setCell (Nat.le_refl _) _, by rw [HB.out]; exact hv7.wide (by omega) (by simp [World.setCell]; exact hz36)⟩
end Go.Proofs.YtjeffagejbdjkaaDoor
