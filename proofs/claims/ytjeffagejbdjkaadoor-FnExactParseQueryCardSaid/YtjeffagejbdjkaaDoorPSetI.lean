/- ParseSet: the walks. -/
import Derived.Test.YtjeffagejbdjkaaDoorCutI
import Derived.Test.YtjeffagejbdjkaaDoorSpanF
import Derived.Test.YtjeffagejbdjkaaDoorSc
import Derived.Test.YtjeffagejbdjkaaDoorGenInt
namespace Go.Proofs.YtjeffagejbdjkaaDoor
open Go.RowKit
theorem calls_n {P : Program} {f : FuncId} {args : Array Value} {w : World} {c b : Int} {R : World → Prop} (h : Calls P f args w fun e w' => e = .returned (.int .i64 c) ∧ R w') (hb : c = b) :
    Calls P f args w fun e w' => e = .returned (.int .i64 b) ∧ R w' := hb ▸ h
theorem calls_q {P : Program} {f : FuncId} {args : Array Value} {w : World} {c b : Bool} {R : World → Prop} (h : Calls P f args w fun e w' => e = .returned (.bool c) ∧ R w') (hb : c = b) :
    Calls P f args w fun e w' => e = .returned (.bool b) ∧ R w' := hb ▸ h
theorem inB_of {x lo hi : Int} (h : inB x lo hi = true) : lo ≤ x ∧ x ≤ hi := by simpa [inB] using h
theorem cutL_len (c : UInt8) : ∀ (l : List UInt8), ∀ p ∈ cutL c l, p.length ≤ l.length
  | [], p, h => by simp [cutL] at h; subst h; exact Nat.le_refl _
  | b :: r, p, h => by
    unfold cutL at h
    split at h
    · rcases List.mem_cons.1 h with rfl | h
      · simp
      · have := cutL_len c r p h; simp; omega
    · have ih := cutL_len c r
      split at h
      · rename_i q qs hq
        rw [hq] at ih
        rcases List.mem_cons.1 h with rfl | h
        · have := ih q (by simp); simp; omega
        · have := ih p (by simp [h]); simp; omega
      · simp at h; subst h; simp
theorem cutL_count (c : UInt8) (l : List UInt8) : (cutL c l).length ≤ l.length + 1 := by
  induction l with
  | nil => simp [cutL]
  | cons b r ih =>
    by_cases h : b = c
    · subst h; rw [cutL_hit]; simp; omega
    · rw [cutL_other h]
      cases hq : cutL c r with
      | nil => exact absurd hq (cutL_ne c r)
      | cons q qs => rw [hq] at ih; simp [glue] at *; omega
theorem numV_bound (p : List UInt8) : -999999999 ≤ numV p ∧ numV p ≤ 999999999 := by
  unfold numV
  cases h : parseI p with
  | none => simp
  | some n => have := parseI_some h; exact ⟨this.2.1, this.2.2⟩
theorem specSet_none {l : List UInt8} (h : l = noneT) : specSet l = some [] := by unfold specSet; rw [if_pos h]
theorem specSet_bad {l : List UInt8} (h : l ≠ noneT) (h2 : specAll (cutL 32 l) [] = none) : specSet l = none := by unfold specSet; rw [if_neg h, h2]; rfl
theorem specSet_no {l : List UInt8} {out : List Int} (h : l ≠ noneT) (h2 : specAll (cutL 32 l) [] = some out) (h3 : setText out ≠ l) : specSet l = none := by unfold specSet; rw [if_neg h, h2]; exact if_neg h3
theorem specSet_yes {l : List UInt8} {out : List Int} (h : l ≠ noneT) (h2 : specAll (cutL 32 l) [] = some out) (h3 : setText out = l) : specSet l = some out := by unfold specSet; rw [if_neg h, h2]; exact if_pos h3
theorem implSet_none {l : List UInt8} (h : l = noneT) : implSet l = some [] := by unfold implSet; rw [if_pos h]
theorem implSet_bad {l : List UInt8} (h : l ≠ noneT) (h2 : implAll (cutL 32 l) [] = none) : implSet l = none := by unfold implSet; rw [if_neg h, h2]; rfl
theorem implSet_no {l : List UInt8} {out : List Int} (h : l ≠ noneT) (h2 : implAll (cutL 32 l) [] = some out) (h3 : setText out ≠ l) : implSet l = none := by unfold implSet; rw [if_neg h, h2]; exact if_neg h3
theorem implSet_yes {l : List UInt8} {out : List Int} (h : l ≠ noneT) (h2 : implAll (cutL 32 l) [] = some out) (h3 : setText out = l) : implSet l = some out := by unfold implSet; rw [if_neg h, h2]; exact if_pos h3
theorem specAll_go {ps : List (List UInt8)} {k : Nat} {acc : List Int} (h : k < ps.length) (hw : wOk ps[k] = true) : specAll (ps.drop k) acc = specAll (ps.drop (k + 1)) (acc ++ rng (wA ps[k]) (wB ps[k])) := by rw [List.drop_eq_getElem_cons h, specAll, if_pos hw]
theorem specAll_stop {ps : List (List UInt8)} {k : Nat} {acc : List Int} (h : k < ps.length) (hw : wOk ps[k] = false) : specAll (ps.drop k) acc = none := by rw [List.drop_eq_getElem_cons h, specAll, if_neg (by rw [hw]; simp)]
theorem rngK_zero (acc : List Int) (a : Int) : acc ++ rngK a 0 = acc := by simp [rngK]
theorem rngK_next (acc : List Int) (a : Int) (j : Nat) : acc ++ rngK a (j + 1) = (acc ++ rngK a j) ++ [a + (j : Int)] := by rw [rngK_snoc, List.append_assoc]
theorem rngK_len (a : Int) (j : Nat) : (rngK a j).length = j := by simp [rngK]
/-- The pieces in block g stand, and the row at hand is another. -/
def Pcs (w : World) (g : Nat) (P : List (List UInt8)) (v : Value) : Prop := StrsAt w g P ∧ v.ownBlock ≠ some g
theorem Pcs.gr {w w' : World} {g : Nat} {P : List (List UInt8)} {v : Value} (h : Pcs w g P v) (k : Gr w w') : Pcs w' g P v := ⟨h.1.gr k, h.2⟩
theorem Pcs.push {w w' : World} {g g' n cap : Nat} {P : List (List UInt8)} {v : Value} (h : Pcs w g P v) (hP : 0 < P.length) (h3 : v.ownBlock = some g' ∨ g' = w.heap.size + 1) (h4 : ∀ k, k < w.heap.size → v.ownBlock ≠ some k → w'.heap[k]? = w.heap[k]?) : Pcs w' g P (.slice (some ⟨g', 0, none⟩) n cap) := by
  have hlt := World.block_lt_of_cell? w _ (h.1 0 hP)
  refine ⟨fun j hj => ?_, ?_⟩
  · have hc := h.1 j hj
    rw [World.cell?_of_block (w := w) (h4 g hlt h.2)]; exact hc
  · intro e
    have e2 : g' = g := Option.some.inj e
    rcases h3 with h3 | h3
    · exact h.2 (e2 ▸ h3)
    · have : g < w.heap.size := hlt
      omega
/-- A row of one's own of numbers. -/
abbrev OwnI (w : World) (lo : Nat) (v : Value) (ns : List Int) : Prop := w.ownsRow lo 3 1 v ns.length (ns.map (Value.int .i64))
theorem own_len_i {lo : Nat} {v : Value} {w : World} {ns : List Int} {y : Int} (h : w.ownsRow lo 3 1 v (ns.length + 1) ((ns ++ [y]).map (Value.int .i64))) : OwnI w lo v (ns ++ [y]) := by
  unfold OwnI; rw [List.length_append]; exact h
theorem own_priv {w : World} {lo : Nat} {v : Value} {ns : List Int} (h : OwnI w lo v ns) (hi : ∀ x ∈ ns, I64 x) : PInts (In lo w.heap.size) w v ns := pints_of rfl ⟨h.1, h.2.imp id (fun ⟨g, cap, cur, a, _, r⟩ => ⟨g, cap, cur, a, Nat.zero_le _, r⟩)⟩ hi (fun k hk => h.lt k hk)
theorem rngK_i64 {acc : List Int} {a : Int} {j : Nat} (h : ∀ x ∈ acc, I64 x) (ha : 0 ≤ a) (h1 : a + (j : Int) ≤ 100) : ∀ x ∈ acc ++ rngK a j, I64 x := by
  intro x hx
  rcases List.mem_append.1 hx with h2 | h2
  · exact h x h2
  · obtain ⟨k, hk, rfl⟩ := List.mem_map.1 h2
    have := List.mem_range.1 hk
    unfold I64; omega
theorem spec_FormatSet_any (v : Value) (xs : List Int) (w : World) (hv : RInts w v xs) : Calls Tryd.prog 14 #[v] w fun e w' => e = .returned (.string ⟨(setText xs).toArray⟩) ∧ Gr w w' := by
  cases hs : isSetB xs with
  | true => exact spec_FormatSet v xs w hv (by have := isSetB_len hs; omega)
  | false =>
    have HS := Lib.hid hs
    have HV := Lib.hid hv
    obtain ⟨a, n, c, rfl⟩ := hv.isSl
    clear hs hv
    go_enter Tryd.func14, Tryd.ntmps14
    go_wp2_with fail
    refine (spec_IsSet_of HS.out _ _ HV.out).mono ?_
    rintro e w1 ⟨rfl, g1⟩
    go_wp2_with fail
    go_ret
    exact ⟨ret_str (by rw [setText_no HS.out]), g1⟩
theorem spec_l2Cut_of (l : List UInt8) (c : UInt8) (P : List (List UInt8)) (hP : cutL c l = P) (hl : l.length ≤ 1048576) (w : World) : Calls Tryd.prog 66 #[.string ⟨l.toArray⟩, .int .u8 c.toNat] w fun e w' => ∃ g n, e = .returned (.slice (some ⟨g, 0, none⟩) P.length n) ∧ Gr w w' ∧ Hid (StrsAt w' g P ∧ w.heap.size ≤ g) := hP ▸ spec_l2Cut l c hl w
set_option maxRecDepth 100000 in
set_option maxHeartbeats 6000000 in
theorem spec_ParseSet (l : List UInt8) (w : World) (hl : l.length ≤ 1048576) : Calls Tryd.prog 39 #[.string ⟨l.toArray⟩] w fun e w' => ∃ r, e = .returned (.tuple #[r, .bool (specSet l).isSome]) ∧ RInts w' r ((specSet l).getD []) ∧ Gr w w' := by
  have HL := Lib.hid hl
  have hown0 := own_empty w 3 1 w.heap.size (Nat.le_refl _)
  have g0 : Gr w (w.alloc (.cells #[] 3)) := (Gr.refl w).alloc _
  clear hl
  by_cases hn : l = noneT
  · have HE := Lib.hid (specSet_none hn)
    have h1 : (l == [110, 111, 110, 101]) = true := by rw [hn]; rfl
    have HR : Hid (RInts (w.alloc (.cells #[] 3)) (.slice (some ⟨w.heap.size, 0, none⟩) 0 0) []) := Lib.hid (rd_pints (own_priv (ns := []) hown0 (by simp)))
    clear hn
    go_enter Tryd.func39, Tryd.ntmps39
    go_wp2_with fail
    go_ret2
    exact ⟨_, by rw [HE.out]; rfl, by rw [HE.out]; exact HR.out, g0⟩
  · have HNN := Lib.hid hn
    have h1 : (l == [110, 111, 110, 101]) = false := by rw [beq_eq_false_iff_ne]; exact hn
    clear hn
    go_enter Tryd.func39, Tryd.ntmps39
    go_wp2_with fail
    obtain ⟨P, HP⟩ : ∃ P, Hid (P = cutL 32 l) := ⟨_, Lib.hid rfl⟩
    refine (spec_l2Cut_of l 32 P HP.out.symm HL.out _).mono ?_
    rintro e w1 ⟨g, n, rfl, g1, HSt⟩
    have G1 : Gr w w1 := g0.trans g1
    have hown1 := ownsRow_gr hown0 g1
    have HPL : Hid (P.length ≤ 1048577) := Lib.hid (by rw [HP.out]; have := cutL_count 32 l; have := HL.out; omega)
    have HPC0 : Hid (Pcs w1 g P (.slice (some ⟨w.heap.size, 0, none⟩) 0 0)) := Lib.hid ⟨HSt.out.1, fun e => by have h1 := HSt.out.2; have h2 : w.heap.size = g := Option.some.inj e; simp at h1; omega⟩
    have HP0 : Hid (0 < P.length) := Lib.hid (by rw [HP.out]; exact List.length_pos_iff.2 (cutL_ne 32 l))
    clear hown0 g0
    go_wp2_with fail
    go_loopw [4, 6] (fun ov iv wr => ∃ (k : Nat) (acc : List Int) (sa : Option Addr) (sc : Nat), k ≤ P.length ∧ iv = .int .i64 k ∧ ov = .slice sa acc.length sc ∧ OwnI wr w.heap.size ov acc ∧ Hid (specAll P [] = specAll (P.drop k) acc ∧ acc.length ≤ 24 * k ∧ ∀ x ∈ acc, I64 x) ∧ Hid (Pcs wr g P ov) ∧ Gr w wr) (fun _ i _ => P.length - (intOf i).toNat)
    case atStart => exact ⟨0, [], _, _, Nat.zero_le _, rfl, rfl, hown1, Lib.hid ⟨by simp, by simp, by simp⟩, HPC0, G1⟩
    case round =>
      obtain ⟨k, acc, sa, sc, hk, rfl, rfl, hown, hst, hpc, hg⟩ := hrel
      by_cases hlt : k < P.length
      · have HLT := Lib.hid hlt
        have HGO : Hid (wOk P[k] = true → specAll (P.drop k) acc = specAll (P.drop (k + 1)) (acc ++ rng (wA P[k]) (wB P[k]))) := Lib.hid (fun h => specAll_go hlt h)
        have HSTP : Hid (wOk P[k] = false → specAll (P.drop k) acc = none) := Lib.hid (fun h => specAll_stop hlt h)
        have c0 : wr.cell? ⟨g, k, none⟩ = some (.string ⟨P[k].toArray⟩) := hpc.out.1 k hlt
        have HpM : Hid (P[k] ∈ P) := Lib.hid (List.getElem_mem hlt)
        generalize P[k] = p at HGO HSTP c0 HpM
        have HpL : Hid (p.length ≤ 1048576) := Lib.hid (by
          have h2 : p ∈ cutL 32 l := by rw [← HP.out]; exact HpM.out
          have := cutL_len 32 l p h2; have := HL.out; omega)
        have i0 : (0 : Int) ≤ (k : Int) := Int.natCast_nonneg _
        have i1 : (k : Int) < (P.length : Int) := by omega
        have i2 : (P.length : Int) ≤ 1048577 := by have := HPL.out; omega
        have HOW := Lib.hid hown
        clear hk hown
        go_wp2_with fail
        obtain ⟨Q, HQe⟩ : ∃ Q, Hid (Q = cutL 45 p) := ⟨_, Lib.hid rfl⟩
        refine (spec_l2Cut_of p 45 Q HQe.out.symm HpL.out _).mono ?_
        rintro e w2 ⟨g2, n2, rfl, gr2, HQ⟩
        have hq0 : 0 < Q.length := by rw [HQe.out]; exact List.length_pos_iff.2 (cutL_ne 45 p)
        obtain ⟨q, Hq⟩ : ∃ q, Hid (q = Q.getD 0 []) := ⟨_, Lib.hid rfl⟩
        have d0 : w2.cell? ⟨g2, 0, none⟩ = some (.string ⟨q.toArray⟩) := by rw [Hq.out, getD_lt hq0]; exact HQ.out.1 0 hq0
        have HqL : Hid (q.length ≤ 1048576) := Lib.hid (by
          have h2 : q ∈ cutL 45 p := by rw [Hq.out, getD_lt hq0, ← HQe.out]; exact List.getElem_mem hq0
          have := cutL_len 45 p q h2; have := HpL.out; omega)
        have j1 : (0 : Int) < (Q.length : Int) := by omega
        have HA : Hid (numV q = wA p) := Lib.hid (by unfold wA; rw [Hq.out, HQe.out])
        obtain ⟨A, HAe⟩ : ∃ A, Hid (A = wA p) := ⟨_, Lib.hid rfl⟩
        have HAn : Hid (numV q = A) := Lib.hid (by rw [HA.out, HAe.out])
        have HQ0 := Lib.hid hq0
        clear hq0 HA
        by_cases hq2 : Q.length = 2
        · have hq1 : 1 < Q.length := by omega
          obtain ⟨r, Hr⟩ : ∃ r, Hid (r = Q.getD 1 []) := ⟨_, Lib.hid rfl⟩
          have d1 : w2.cell? ⟨g2, 1, none⟩ = some (.string ⟨r.toArray⟩) := by rw [Hr.out, getD_lt hq1]; exact HQ.out.1 1 hq1
          have HrL : Hid (r.length ≤ 1048576) := Lib.hid (by
            have h2 : r ∈ cutL 45 p := by rw [Hr.out, getD_lt hq1, ← HQe.out]; exact List.getElem_mem hq1
            have := cutL_len 45 p r h2; have := HpL.out; omega)
          obtain ⟨B, HBe⟩ : ∃ B, Hid (B = wB p) := ⟨_, Lib.hid rfl⟩
          have HBn : Hid (numV r = B) := Lib.hid (by rw [HBe.out, Hr.out]; unfold wB; rw [← HQe.out, if_pos hq2])
          have j2 : ((Q.length : Int) == 2) = true := by simp; omega
          have j3 : (1 : Int) < (Q.length : Int) := by omega
          have j4 : ¬ (2 : Int) < (Q.length : Int) := by omega
          have HQ2 : Hid ((cutL 45 p).length ≤ 2) := Lib.hid (by rw [← HQe.out]; omega)
          clear hq1 hq2
          go_wp2_with fail
          refine (calls_n (spec_l2Num q HqL.out _) HAn.out).mono ?_
          rintro e w3 ⟨rfl, gr3⟩
          have d1' := gr3.cellv d1
          go_wp2_with fail
          refine (calls_n (spec_l2Num r HrL.out _) HBn.out).mono ?_
          rintro e w4 ⟨rfl, gr4⟩
          have G4 : Gr wr w4 := gr2.trans (gr3.trans gr4)
          cases ha : inB A 0 23 with
          | false =>
            have HI := Lib.hid ha
            have HB : Hid (specSet l = none) := Lib.hid (specSet_bad HNN.out (by
              rw [← HP.out, hst.out.1]
              refine HSTP.out ?_
              unfold wOk; rw [← HAe.out, ha]; simp))
            clear ha
            go_wp2_with fail
            refine (calls_q ((spec_l1In A 0 23 _).mono fun e w' h => ⟨h.1, h.2⟩) HI.out).mono ?_
            rintro e w5 ⟨rfl, rfl⟩
            go_wp2_with fail
            go_ret2
            refine ⟨_, by rw [HB.out]; rfl, by rw [HB.out]; exact rd_pints (own_priv (ns := []) (own_empty w4 3 1 w4.heap.size (Nat.le_refl _)) (by simp)), (hg.trans G4).alloc _⟩
          | true =>
            have HI := Lib.hid ha
            cases hb : inB B A 23 with
            | false =>
              have HI2 := Lib.hid hb
              have HB : Hid (specSet l = none) := Lib.hid (specSet_bad HNN.out (by
                rw [← HP.out, hst.out.1]
                refine HSTP.out ?_
                unfold wOk; rw [← HAe.out, ← HBe.out, hb]; simp))
              clear ha hb
              go_wp2_with fail
              refine (calls_q ((spec_l1In A 0 23 _).mono fun e w' h => ⟨h.1, h.2⟩) HI.out).mono ?_
              rintro e w5 ⟨rfl, rfl⟩
              go_wp2_with fail
              refine (calls_q ((spec_l1In B A 23 _).mono fun e w' h => ⟨h.1, h.2⟩) HI2.out).mono ?_
              rintro e w5 ⟨rfl, rfl⟩
              go_wp2_with fail
              go_ret2
              refine ⟨_, by rw [HB.out]; rfl, by rw [HB.out]; exact rd_pints (own_priv (ns := []) (own_empty w4 3 1 w4.heap.size (Nat.le_refl _)) (by simp)), (hg.trans G4).alloc _⟩
            | true =>
              have HI2 := Lib.hid hb
              have hAB : 0 ≤ A ∧ A ≤ B ∧ B ≤ 23 := by have h1 := inB_of ha; have h2 := inB_of hb; omega
              have HOk : Hid (specAll P [] = specAll (P.drop (k + 1)) (acc ++ rng A B)) := Lib.hid (by
                rw [hst.out.1, HGO.out (by unfold wOk; rw [← HAe.out, ← HBe.out, ha, hb, decide_eq_true HQ2.out]; rfl), ← HAe.out, ← HBe.out])
              have HOW4 := Lib.hid (ownsRow_gr HOW.out G4)
              have HAB := Lib.hid hAB
              have hA0 : 0 ≤ A := hAB.1
              have hB23 : B ≤ 23 := hAB.2.2
              have GW4 := Lib.hid (hg.trans G4)
              clear ha hb hAB
              go_wp2_with fail
              refine (calls_q ((spec_l1In A 0 23 _).mono fun e w' h => ⟨h.1, h.2⟩) HI.out).mono ?_
              rintro e w5 ⟨rfl, rfl⟩
              go_wp2_with fail
              refine (calls_q ((spec_l1In B A 23 _).mono fun e w' h => ⟨h.1, h.2⟩) HI2.out).mono ?_
              rintro e w5 ⟨rfl, rfl⟩
              go_wp2_with fail
              go_loopw [4, 10] (fun ov xv wr => ∃ (j : Nat) (ns : List Int) (sa : Option Addr) (sc : Nat), (j : Int) ≤ B - A + 1 ∧ xv = .int .i64 (A + j) ∧ ov = .slice sa ns.length sc ∧ OwnI wr w.heap.size ov ns ∧ Hid (ns = acc ++ rngK A j) ∧ Hid (Pcs wr g P ov) ∧ Gr w wr) (fun _ x _ => (B + 1 - intOf x).toNat)
              case atStart => exact ⟨0, acc, sa, sc, by have := HAB.out; omega, by simp, rfl, HOW4.out, Lib.hid (rngK_zero acc A).symm, Lib.hid (hpc.out.gr G4), hg.trans G4⟩
              case round =>
                obtain ⟨j, ns, sa', sc', hj, rfl, rfl, hown, hns, hpc5, hg5⟩ := hrel
                have hab := HAB.out
                have hnl : ns.length = acc.length + j := by rw [hns.out, List.length_append, rngK_len]
                have HNL := Lib.hid hnl
                clear hnl
                by_cases hx : A + (j : Int) ≤ B
                · have HNN2 : Hid (ns.length + 1 ≤ 17592186044416) := Lib.hid (by
                    have h1 := hst.out.2.1; have h2 := HLT.out; have h3 := HPL.out
                    rw [HNL.out]; omega)
                  have HO := Lib.hid hown
                  have HX := Lib.hid hx
                  have HNX : Hid (ns ++ [A + (j : Int)] = acc ++ rngK A (j + 1)) := Lib.hid (by rw [rngK_next, hns.out])
                  clear hown
                  go_wp2_with (at_builtin; refine push_ik rfl _ _ rfl ns (A + (j : Int)) rfl rfl rfl HO.out HNN2.out hg5.size ?_; intro g6 cap6 w6 hown6 hb6 hc6 hd6)
                  have HPC6 : Hid (Pcs w6 g P (.slice (some ⟨g6, 0, none⟩) (ns.length + 1) cap6)) := Lib.hid (hpc5.out.push HP0.out hc6 hd6)
                  clear hc6 hd6
                  go_roundw
                  case rel => exact ⟨j + 1, ns ++ [A + (j : Int)], some ⟨g6, 0, none⟩, cap6, by have := HX.out; omega, by congr 1; omega, by simp, own_len_i hown6, HNX, HPC6, hg5.trans' hb6⟩
                  case measure => have := HX.out; simp only [intOf]; omega
                · have hjj : j = (B - A + 1).toNat := by omega
                  have HNS : Hid (ns = acc ++ rng A B) := Lib.hid (by rw [← rngK_all, ← hjj]; exact hns.out)
                  have HI64 : Hid (∀ x ∈ ns, I64 x) := Lib.hid (by rw [HNS.out, ← rngK_all]; exact rngK_i64 hst.out.2.2 hab.1 (by omega))
                  have HLN : Hid (ns.length ≤ 24 * (k + 1)) := Lib.hid (by rw [HNL.out]; have := hst.out.2.1; omega)
                  have HOk2 : Hid (specAll P [] = specAll (P.drop (k + 1)) ns) := Lib.hid (by rw [HNS.out]; exact HOk.out)
                  clear hjj hj
                  go_wp2_with fail
                  go_roundw
                  case rel => exact ⟨k + 1, ns, sa', sc', HLT.out, by go_num, rfl, hown, Lib.hid ⟨HOk2.out, HLN.out, HI64.out⟩, hpc5, hg5⟩
                  case measure => have := HLT.out; simp only [intOf]; omega
        · by_cases hq3 : 2 < Q.length
          · have j2 : ((Q.length : Int) == 2) = false := by simp; omega
            have j4 : (2 : Int) < (Q.length : Int) := by omega
            have HB : Hid (specSet l = none) := Lib.hid (specSet_bad HNN.out (by
              rw [← HP.out, hst.out.1]
              refine HSTP.out ?_
              unfold wOk; rw [← HQe.out, decide_eq_false (by omega)]; rfl))
            clear hq2 hq3
            go_wp2_with fail
            refine (calls_n (spec_l2Num q HqL.out _) HAn.out).mono ?_
            rintro e w3 ⟨rfl, gr3⟩
            go_wp2_with fail
            go_ret2
            refine ⟨_, by rw [HB.out]; rfl, by rw [HB.out]; exact rd_pints (own_priv (ns := []) (own_empty w3 3 1 w3.heap.size (Nat.le_refl _)) (by simp)), (hg.trans (gr2.trans gr3)).alloc _⟩
          · have j2 : ((Q.length : Int) == 2) = false := by simp; omega
            have j4 : ¬ (2 : Int) < (Q.length : Int) := by omega
            have HBe : Hid (A = wB p) := Lib.hid (by rw [HAe.out]; unfold wB; rw [← HQe.out, if_neg hq2])
            have HQ2 : Hid ((cutL 45 p).length ≤ 2) := Lib.hid (by rw [← HQe.out]; omega)
            clear hq2 hq3
            go_wp2_with fail
            refine (calls_n (spec_l2Num q HqL.out _) HAn.out).mono ?_
            rintro e w4 ⟨rfl, gr4⟩
            have G4 : Gr wr w4 := gr2.trans gr4
            cases ha : inB A 0 23 with
            | false =>
              have HI := Lib.hid ha
              have HB : Hid (specSet l = none) := Lib.hid (specSet_bad HNN.out (by
                rw [← HP.out, hst.out.1]
                refine HSTP.out ?_
                unfold wOk; rw [← HAe.out, ha]; simp))
              clear ha
              go_wp2_with fail
              refine (calls_q ((spec_l1In A 0 23 _).mono fun e w' h => ⟨h.1, h.2⟩) HI.out).mono ?_
              rintro e w5 ⟨rfl, rfl⟩
              go_wp2_with fail
              go_ret2
              refine ⟨_, by rw [HB.out]; rfl, by rw [HB.out]; exact rd_pints (own_priv (ns := []) (own_empty w4 3 1 w4.heap.size (Nat.le_refl _)) (by simp)), (hg.trans G4).alloc _⟩
            | true =>
              have HI := Lib.hid ha
              cases hb : inB A A 23 with
              | false =>
                have HI2 := Lib.hid hb
                have HB : Hid (specSet l = none) := Lib.hid (specSet_bad HNN.out (by
                  rw [← HP.out, hst.out.1]
                  refine HSTP.out ?_
                  unfold wOk; rw [← HAe.out, ← HBe.out, hb]; simp))
                clear ha hb
                go_wp2_with fail
                refine (calls_q ((spec_l1In A 0 23 _).mono fun e w' h => ⟨h.1, h.2⟩) HI.out).mono ?_
                rintro e w5 ⟨rfl, rfl⟩
                go_wp2_with fail
                refine (calls_q ((spec_l1In A A 23 _).mono fun e w' h => ⟨h.1, h.2⟩) HI2.out).mono ?_
                rintro e w5 ⟨rfl, rfl⟩
                go_wp2_with fail
                go_ret2
                refine ⟨_, by rw [HB.out]; rfl, by rw [HB.out]; exact rd_pints (own_priv (ns := []) (own_empty w4 3 1 w4.heap.size (Nat.le_refl _)) (by simp)), (hg.trans G4).alloc _⟩
              | true =>
                have HI2 := Lib.hid hb
                have hAB : 0 ≤ A ∧ A ≤ A ∧ A ≤ 23 := by have h1 := inB_of ha; have h2 := inB_of hb; omega
                have HOk : Hid (specAll P [] = specAll (P.drop (k + 1)) (acc ++ rng A A)) := Lib.hid (by
                  rw [hst.out.1, HGO.out (by unfold wOk; rw [← HAe.out, ← HBe.out, ha, hb, decide_eq_true HQ2.out]; rfl), ← HAe.out, ← HBe.out])
                have HOW4 := Lib.hid (ownsRow_gr HOW.out G4)
                have HAB := Lib.hid hAB
                have hA0 : 0 ≤ A := hAB.1
                have hB23 : A ≤ 23 := hAB.2.2
                have GW4 := Lib.hid (hg.trans G4)
                clear ha hb hAB
                go_wp2_with fail
                refine (calls_q ((spec_l1In A 0 23 _).mono fun e w' h => ⟨h.1, h.2⟩) HI.out).mono ?_
                rintro e w5 ⟨rfl, rfl⟩
                go_wp2_with fail
                refine (calls_q ((spec_l1In A A 23 _).mono fun e w' h => ⟨h.1, h.2⟩) HI2.out).mono ?_
                rintro e w5 ⟨rfl, rfl⟩
                go_wp2_with fail
                go_loopw [4, 10] (fun ov xv wr => ∃ (j : Nat) (ns : List Int) (sa : Option Addr) (sc : Nat), (j : Int) ≤ A - A + 1 ∧ xv = .int .i64 (A + j) ∧ ov = .slice sa ns.length sc ∧ OwnI wr w.heap.size ov ns ∧ Hid (ns = acc ++ rngK A j) ∧ Hid (Pcs wr g P ov) ∧ Gr w wr) (fun _ x _ => (A + 1 - intOf x).toNat)
                case atStart => exact ⟨0, acc, sa, sc, by have := HAB.out; omega, by simp, rfl, HOW4.out, Lib.hid (rngK_zero acc A).symm, Lib.hid (hpc.out.gr G4), hg.trans G4⟩
                case round =>
                  obtain ⟨j, ns, sa', sc', hj, rfl, rfl, hown, hns, hpc5, hg5⟩ := hrel
                  have hab := HAB.out
                  have hnl : ns.length = acc.length + j := by rw [hns.out, List.length_append, rngK_len]
                  have HNL := Lib.hid hnl
                  clear hnl
                  by_cases hx : A + (j : Int) ≤ A
                  · have HNN2 : Hid (ns.length + 1 ≤ 17592186044416) := Lib.hid (by
                      have h1 := hst.out.2.1; have h2 := HLT.out; have h3 := HPL.out
                      rw [HNL.out]; omega)
                    have HO := Lib.hid hown
                    have HX := Lib.hid hx
                    have HNX : Hid (ns ++ [A + (j : Int)] = acc ++ rngK A (j + 1)) := Lib.hid (by rw [rngK_next, hns.out])
                    clear hown
                    go_wp2_with (at_builtin; refine push_ik rfl _ _ rfl ns (A + (j : Int)) rfl rfl rfl HO.out HNN2.out hg5.size ?_; intro g6 cap6 w6 hown6 hb6 hc6 hd6)
                    have HPC6 : Hid (Pcs w6 g P (.slice (some ⟨g6, 0, none⟩) (ns.length + 1) cap6)) := Lib.hid (hpc5.out.push HP0.out hc6 hd6)
                    clear hc6 hd6
                    go_roundw
                    case rel => exact ⟨j + 1, ns ++ [A + (j : Int)], some ⟨g6, 0, none⟩, cap6, by have := HX.out; omega, by congr 1; omega, by simp, own_len_i hown6, HNX, HPC6, hg5.trans' hb6⟩
                    case measure => have := HX.out; simp only [intOf]; omega
                  · have hjj : j = (A - A + 1).toNat := by omega
                    have HNS : Hid (ns = acc ++ rng A A) := Lib.hid (by rw [← rngK_all, ← hjj]; exact hns.out)
                    have HI64 : Hid (∀ x ∈ ns, I64 x) := Lib.hid (by rw [HNS.out, ← rngK_all]; exact rngK_i64 hst.out.2.2 hab.1 (by omega))
                    have HLN : Hid (ns.length ≤ 24 * (k + 1)) := Lib.hid (by rw [HNL.out]; have := hst.out.2.1; omega)
                    have HOk2 : Hid (specAll P [] = specAll (P.drop (k + 1)) ns) := Lib.hid (by rw [HNS.out]; exact HOk.out)
                    clear hjj hj
                    go_wp2_with fail
                    go_roundw
                    case rel => exact ⟨k + 1, ns, sa', sc', HLT.out, by go_num, rfl, hown, Lib.hid ⟨HOk2.out, HLN.out, HI64.out⟩, hpc5, hg5⟩
                    case measure => have := HLT.out; simp only [intOf]; omega
      · obtain rfl : k = P.length := by omega
        have HRI := Lib.hid (own_priv hown hst.out.2.2)
        have HAl : Hid (specAll (cutL 32 l) [] = some acc) := Lib.hid (by rw [← HP.out, hst.out.1, List.drop_length]; rfl)
        clear hlt hk hst hown
        by_cases ht : setText acc = l
        · have HE := Lib.hid (specSet_yes HNN.out HAl.out ht)
          have h2 : (l == l) = true := by simp
          go_wp2_with fail
          refine (calls_str (spec_FormatSet_any _ acc _ (rd_pints HRI.out)) ht).mono ?_
          rintro e w2 ⟨rfl, g2⟩
          go_wp2_with fail
          go_ret2
          exact ⟨_, by rw [HE.out]; rfl, by rw [HE.out]; exact RSlice.mono keeps_int g2 (rd_pints HRI.out), hg.trans g2⟩
        · have HE := Lib.hid (specSet_no HNN.out HAl.out ht)
          have h2 : (setText acc == l) = false := by simpa using ht
          clear ht
          go_wp2_with fail
          refine (spec_FormatSet_any _ acc _ (rd_pints HRI.out)).mono ?_
          rintro e w2 ⟨rfl, g2⟩
          go_wp2_with fail
          go_ret2
          exact ⟨_, by rw [HE.out]; rfl, by rw [HE.out]; exact rd_pints (own_priv (ns := []) (own_empty w2 3 1 w2.heap.size (Nat.le_refl _)) (by simp)), (hg.trans g2).alloc _⟩
end Go.Proofs.YtjeffagejbdjkaaDoor
