/- Sets picked out of the numbers: the plain laws. No program in sight. -/
import Derived.Test.YtcdcpfcmhmhdjaaPlain
import Derived.Test.YtcdcpfcmhmhdjaaMg0
import Derived.Test.YtcdcpfcmhmhdjaaMg1
import Derived.Test.YtcdcpfcmhmhdjaaOwns
import Derived.Test.YtcdcpfcmhmhdjaaPriv
import Derived.Test.YtcdcpfcmhmhdjaaOwn
import Derived.Test.YtcdcpfcmhmhdjaaBase
import Derived.Test.YtcdcpfcmhmhdjaaInts
import Derived.Test.YtcdcpfcmhmhdjaaSpread
namespace Go.Proofs.Ytcdcpfcmhmhdjaa
open Go.RowKit
theorem hasB_pick (f : Int → Bool) {i : Nat} (hi : i < 24) : hasB (pickL f) (i : Int) = f (i : Int) := by
  rw [Bool.eq_iff_iff, hasB_iff]
  unfold pickL upTo
  rw [List.mem_filter, List.mem_map]
  constructor
  · exact fun h => h.2
  · exact fun h => ⟨⟨i, List.mem_range.2 hi, rfl⟩, h⟩
theorem isSetB_pick (f : Int → Bool) : isSetB (pickL f) = true := by
  have hp : (pickL f).Pairwise (· < ·) := by
    unfold pickL upTo
    refine List.Pairwise.filter _ ?_
    rw [List.pairwise_map]
    refine List.Pairwise.imp ?_ List.pairwise_lt_range
    intro a b h
    exact Int.ofNat_lt.2 h
  refine isSetB_iff.2 ⟨fun i h => ?_, fun i h => ?_⟩
  · have hm : (pickL f)[i] ∈ pickL f := List.getElem_mem h
    generalize (pickL f)[i] = x at hm
    unfold pickL upTo at hm
    obtain ⟨k, hk, rfl⟩ := List.mem_map.1 (List.mem_filter.1 hm).1
    have := List.mem_range.1 hk
    omega
  · exact List.pairwise_iff_getElem.1 hp i (i + 1) (by omega) h (by omega)
theorem count_two (p q : Int → Bool) : ∀ l : List Int, (l.filter fun x => p x || q x).length + (l.filter fun x => p x && q x).length = (l.filter p).length + (l.filter q).length
  | [] => rfl
  | x :: l => by
    have ih := count_two p q l
    simp only [List.filter_cons]
    cases p x <;> cases q x <;> simp <;> omega
theorem pick_self {a : List Int} (h : isSetB a = true) : pickL (fun x => hasB a x) = a := by
  have := pick_set h (fun _ => true)
  rw [List.filter_eq_self.2 (fun _ _ => rfl)] at this
  simpa using this
end Go.Proofs.Ytcdcpfcmhmhdjaa

/- Probing in any order; the best order: the plain laws. No program in sight. -/
namespace Go.Proofs.Ytcdcpfcmhmhdjaa
open Go.RowKit
/-- What is left once the fields of a list have been probed. -/
def leftOf (x : DIndex) (r : DRow) (fs : List Int) : List Int := pickL (fun i => hasB (allIds x.queries) i && fs.all fun f => hasB (fnd x r f) i)
theorem ids_set {xs : List DQuery} (h : areQueriesB xs = true) : isSetB (allIds xs) = true := by
  unfold areQueriesB at h
  simp only [Bool.and_eq_true] at h
  obtain ⟨h1, _, h3⟩ := h
  refine isSetB_iff.2 ⟨fun i hi => ?_, fun i hi => ?_⟩
  · unfold allIds at hi ⊢
    have hi' : i < xs.length := by simpa using hi
    have := allB_iff.1 h3 i hi'
    unfold qOk isQueryB at this
    rw [getD_lt hi'] at this
    simp only [Bool.and_eq_true] at this
    have := inB_true this.2.1
    simpa using this
  · unfold allIds at hi ⊢
    have hi' : i + 1 < xs.length := by simpa using hi
    have := allB_iff.1 h1 (i + 1) hi'
    unfold qOrdAt at this
    rw [Bool.or_eq_true, decide_eq_true_eq, decide_eq_true_eq, Nat.add_sub_cancel, getD_lt hi', getD_lt (show i < xs.length by omega)] at this
    rcases this with h4 | h4
    · omega
    · simpa using h4
theorem stab_set {xs : List DQuery} (h : areQueriesB xs = true) (f v : Int) : isSetB (stabL xs f v) = true := by
  have hs := ids_set h
  have hp := isSetB_pw hs
  have hsub : (stabL xs f v).Sublist (allIds xs) := by
    unfold stabL stabTo allIds
    rw [List.take_length]
    exact List.Sublist.map _ List.filter_sublist
  have hp2 := hp.sublist hsub
  refine isSetB_iff.2 ⟨fun i hi => ?_, fun i hi => List.pairwise_iff_getElem.1 hp2 i (i + 1) (by omega) hi (by omega)⟩
  have hm := hsub.subset (List.getElem_mem hi)
  obtain ⟨j, hj, e⟩ := List.getElem_of_mem hm
  rw [← e]
  exact (isSetB_iff.1 hs).1 j hj
theorem eqSpansB_eq {a b : List DSpan} (h : eqSpansB a b = true) : a = b := by
  unfold eqSpansB at h
  rw [Bool.and_eq_true, decide_eq_true_eq] at h
  have h2 := allB_iff.1 h.2
  refine List.ext_getElem h.1 fun i hi hi' => ?_
  have := h2 i hi
  unfold spansEqAt eqSpanB at this
  rw [getD_lt hi, getD_lt hi'] at this
  simp only [Bool.and_eq_true, beq_iff_eq] at this
  obtain ⟨k1, k2, k3⟩ := this
  have k4 : a[i].set = b[i].set := by simpa [eqL] using k3
  cases ha : a[i]; cases hb : b[i]
  rw [ha, hb] at k1 k2 k4
  simp_all
/-- The queries that a row's value in a field admits. -/
theorem fnd_stab {x : DIndex} {r : DRow} (hx : isIndexB x = true) (hr : isRowB r = true) {f : Int} (h0 : 0 ≤ f) (h2 : f ≤ 2) : areQueriesB x.queries = true ∧ fnd x r f = stabL x.queries f (r.vals.getD f.toNat 0) ∧ inB (r.vals.getD f.toNat 0) 0 99 = true := by
  unfold isIndexB at hx
  rw [Bool.and_eq_true, Bool.and_eq_true, decide_eq_true_eq] at hx
  obtain ⟨hq, h3, hf⟩ := hx
  unfold isRowB at hr
  rw [Bool.and_eq_true, Bool.and_eq_true, decide_eq_true_eq] at hr
  obtain ⟨hv, _, h4⟩ := hr
  have hk : f.toNat < 3 := by omega
  have e1 := eqSpansB_eq (allB_iff.1 hf f.toNat (by omega))
  have e2 := allB_iff.1 hv f.toNat (by omega)
  unfold valAt at e2
  have hb := inB_true e2
  refine ⟨hq, ?_, e2⟩
  unfold fnd
  rw [e1, show ((f.toNat : Nat) : Int) = f by omega]
  have hok : idxOk x.queries f = true := by unfold idxOk; rw [hq, inB_mk h0 h2]; rfl
  exact (spans_good hok).1.find hb.1 (by omega)
theorem left_step {x : DIndex} {r : DRow} {fs : List Int} {f : Int} (hf : isSetB (fnd x r f) = true) : meetL (leftOf x r fs) (fnd x r f) = leftOf x r (fs ++ [f]) := by
  unfold meetL
  rw [show isSetB (leftOf x r fs) = true from isSetB_pick _, hf]
  simp only [Bool.and_self, if_true]
  unfold leftOf pickL
  refine List.filter_congr fun i hi => ?_
  obtain ⟨k, hk, rfl⟩ := List.mem_map.1 hi
  rw [show hasB ((upTo 24).filter fun i => hasB (allIds x.queries) i && fs.all fun f => hasB (fnd x r f) i) (k : Int) = _ from hasB_pick _ (List.mem_range.1 hk)]
  simp [List.all_append, Bool.and_assoc]
theorem left_none {x : DIndex} {r : DRow} {fs : List Int} (f : Int) (h : leftOf x r fs = []) : leftOf x r (fs ++ [f]) = [] := by
  unfold leftOf pickL at *
  rw [List.filter_eq_nil_iff] at *
  intro i hi
  have := h i hi
  simp only [List.all_append, Bool.and_eq_true] at *
  intro k
  simp_all
theorem set_left {x : DIndex} {r : DRow} {o : List Int} (hx : isIndexB x = true) (hr : isRowB r = true) (ho : isOrderB o = true) : ∀ k, k ≤ o.length → setTo x r o k = leftOf x r (o.take k)
  | 0, _ => by
    have hq : areQueriesB x.queries = true := (fnd_stab hx hr (f := 0) (by omega) (by omega)).1
    rw [setTo_zero, List.take_zero]
    unfold leftOf
    have := pick_set (ids_set hq) (fun _ => true)
    rw [List.filter_eq_self.2 (fun _ _ => rfl)] at this
    simpa using this.symm
  | k + 1, h => by
    have ih := set_left hx hr ho k (by omega)
    have hin := (isOrderB_at ho).2 k (by omega)
    have hf := fnd_stab hx hr hin.1 hin.2
    have hs : isSetB (fnd x r o[k]) = true := by rw [hf.2.1]; exact stab_set hf.1 _ _
    rw [List.take_succ_eq_append_getElem (by omega)]
    by_cases h0 : (setTo x r o k).length = 0
    · have e : setTo x r o (k + 1) = setTo x r o k := by
        have := step_stay h0
        unfold setTo; rw [this]
      have h1 : setTo x r o k = [] := List.eq_nil_of_length_eq_zero h0
      rw [e, h1]
      rw [ih] at h1
      exact (left_none _ h1).symm
    · rw [(step_go (by omega) h0).1, ih]
      exact left_step hs
theorem left_perm {x : DIndex} {r : DRow} {o : List Int} (ho : isOrderB o = true) : leftOf x r o = leftOf x r [0, 1, 2] := by
  unfold leftOf
  congr 1
  funext i
  congr 1
  have hl := (isOrderB_at ho).1
  have hin := (isOrderB_at ho).2
  unfold isOrderB at ho
  simp only [Bool.and_eq_true] at ho
  obtain ⟨_, m0, m1, m2⟩ := ho
  rw [hasB_iff] at m0 m1 m2
  rw [Bool.eq_iff_iff, List.all_eq_true, List.all_eq_true]
  constructor
  · intro h f hf
    simp only [List.mem_cons, List.not_mem_nil, or_false] at hf
    rcases hf with rfl | rfl | rfl
    · exact h 0 m0
    · exact h 1 m1
    · exact h 2 m2
  · intro h f hf
    obtain ⟨j, hj, rfl⟩ := List.getElem_of_mem hf
    have := hin j hj
    refine h _ ?_
    simp only [List.mem_cons, List.not_mem_nil, or_false]
    omega
theorem order_012 : isOrderB [0, 1, 2] = true := by decide
/-- Whatever the order, what is found is the same. -/
theorem probe_any {x : DIndex} {r : DRow} {o : List Int} (h : probeOk x r o = true) : (probeL x r o).1 = (probeL x r [0, 1, 2]).1 := by
  have h' := h
  unfold probeOk at h'
  simp only [Bool.and_eq_true] at h'
  obtain ⟨h1, h2, h3⟩ := h'
  rw [(probeL_yes h).1, (probeL_yes (probeOk_yes h1 h2 order_012)).1, set_left h1 h2 h3 _ (Nat.le_refl _), set_left h1 h2 order_012 _ (Nat.le_refl _), List.take_length, List.take_length]
  exact left_perm h3
theorem probe_work_no {x : DIndex} {r : DRow} {o : List Int} (h : 0 < (probeL x r o).2) : probeOk x r o = true := by
  cases hp : probeOk x r o with
  | true => rfl
  | false => rw [probeL_no hp] at h; simp at h
theorem stab_has {xs : List DQuery} (h : areQueriesB xs = true) {i : Nat} (hi : i < xs.length) (f v : Int) : hasB (stabL xs f v) xs[i].id = admB xs[i] f v := by
  have hp := isSetB_pw (ids_set h)
  unfold allIds at hp
  rw [List.pairwise_map] at hp
  rw [Bool.eq_iff_iff, hasB_iff]
  unfold stabL stabTo
  rw [List.take_length, List.mem_map]
  constructor
  · rintro ⟨q, hq, e⟩
    obtain ⟨hm, ha⟩ := List.mem_filter.1 hq
    obtain ⟨j, hj, rfl⟩ := List.getElem_of_mem hm
    have : i = j := by
      rcases Nat.lt_trichotomy i j with h1 | h1 | h1
      · have := List.pairwise_iff_getElem.1 hp i j hi hj h1; omega
      · exact h1
      · have := List.pairwise_iff_getElem.1 hp j i hj hi h1; omega
    subst this; exact ha
  · intro ha
    exact ⟨xs[i], List.mem_filter.2 ⟨List.getElem_mem hi, ha⟩, rfl⟩
/-- A row gets exactly the queries that it matches. -/
theorem match_has {x : DIndex} {r : DRow} (hx : isIndexB x = true) (hr : isRowB r = true) {i : Nat} (hi : i < x.queries.length) : hasB (probeL x r [0, 1, 2]).1 x.queries[i].id = matchB x.queries[i] r := by
  have f0 := fnd_stab hx hr (f := 0) (by omega) (by omega)
  have f1 := fnd_stab hx hr (f := 1) (by omega) (by omega)
  have f2 := fnd_stab hx hr (f := 2) (by omega) (by omega)
  have hq := f0.1
  have hid := (isSetB_iff.1 (ids_set hq)).1 i (by unfold allIds; simpa using hi)
  have hid' : 0 ≤ x.queries[i].id ∧ x.queries[i].id ≤ 23 := by unfold allIds at hid; simpa using hid
  obtain ⟨k, hk⟩ := Int.eq_ofNat_of_zero_le hid'.1
  have hall : hasB (allIds x.queries) x.queries[i].id = true := by
    rw [hasB_iff]; unfold allIds; exact List.mem_map.2 ⟨_, List.getElem_mem hi, rfl⟩
  have hqi : isQueryB x.queries[i] = true := by
    have h := hq
    unfold areQueriesB at h
    simp only [Bool.and_eq_true] at h
    have := allB_iff.1 h.2.2 i hi
    unfold qOk at this
    rwa [getD_lt hi] at this
  have hv : r.vals.length = 3 := by
    have h := hr
    unfold isRowB at h
    simp only [Bool.and_eq_true, decide_eq_true_eq] at h
    exact h.2.2
  rw [(probeL_yes (probeOk_yes hx hr order_012)).1, set_left hx hr order_012 _ (Nat.le_refl _), List.take_length]
  unfold leftOf
  rw [hk, hasB_pick _ (show k < 24 by omega), ← hk, hall]
  simp only [List.all_cons, List.all_nil, Bool.and_true, Bool.true_and]
  rw [f0.2.1, f1.2.1, f2.2.1, stab_has hq hi, stab_has hq hi, stab_has hq hi]
  unfold matchB
  rw [hqi, hr, hv]
  simp only [Bool.true_and]
  unfold allB admV
  simp [List.range_succ]
theorem match_no {x : DIndex} {r : DRow} (h : (isIndexB x && isRowB r) = false) : (probeL x r [0, 1, 2]).1 = [] := by
  have : probeOk x r [0, 1, 2] = false := by
    unfold probeOk
    rw [order_012, Bool.and_true]
    exact h
  rw [probeL_no this]
theorem best_min (x : DIndex) (rows : List DRow) : ∀ k j, j ≤ k → workL x rows (ordOf (bestI x rows k)) ≤ workL x rows (ordOf j)
  | 0, j, h => by
    obtain rfl : j = 0 := by omega
    exact Int.le_refl _
  | k + 1, j, h => by
    by_cases hc : workL x rows (ordOf (k + 1)) < workL x rows (ordOf (bestI x rows k))
    · rw [bestI_yes hc]
      by_cases e : j = k + 1
      · subst e; exact Int.le_refl _
      · have := best_min x rows k j (by omega); omega
    · rw [bestI_no hc]
      by_cases e : j = k + 1
      · subst e; omega
      · exact best_min x rows k j (by omega)
/-- The chosen order has the least work. -/
theorem best_least {x : DIndex} {rows : List DRow} (h : ¬ (bestL x rows).length = 0) : workL x rows (bestL x rows) ≤ workL x rows [2, 1, 0] ∧ workL x rows (bestL x rows) ≤ workL x rows [0, 1, 2] := by
  have hx : isIndexB x = true := by
    cases hx : isIndexB x with
    | true => rfl
    | false => rw [bestL_no hx] at h; simp at h
  rw [bestL_yes hx]
  exact ⟨best_min x rows 5 5 (by omega), best_min x rows 5 0 (by omega)⟩
end Go.Proofs.Ytcdcpfcmhmhdjaa

/- The drawing of values: the cursor. -/
namespace Go.Proofs.Ytcdcpfcmhmhdjaa
open Go.RowKit Go.ChangeShapes Go.WideShapes Go.Deep
def RByte (_ : World) (cs : List Value) (n : Int) : Prop := cs = [.int .u8 n] ∧ 0 ≤ n ∧ n ≤ 255
abbrev RBytes := RSlice 1 RByte
theorem keeps_byte : Keeps RByte := fun _ _ _ _ _ h => h
/-- The bytes of a code, all below block g. -/
def CodeAt (w : World) (g : Nat) (a : Option Addr) (n : Nat) : Prop := ∀ j, j < n → ∃ b off x, a = some ⟨b, off, none⟩ ∧ b < g ∧ w.cell? ⟨b, off + j, none⟩ = some (.int .u8 x) ∧ 0 ≤ x ∧ x ≤ 255
/-- A cursor. -/
def Cur (w : World) (g : Nat) : Prop := ∃ (a : Option Addr) (n c : Nat) (i : Nat) (h : Int), w.heap[g]? = some (.cells #[.slice a n c, .int .i64 i, .int .i64 h] 71) ∧ i ≤ n ∧ n ≤ c ∧ c ≤ 9223372036854775807 ∧ CodeAt w g a n
/-- Nothing but the cursor has changed. -/
abbrev Dr (g : Nat) (w w' : World) : Prop := Chg (fun b => b = g) w w'
theorem Chg.drewN {F : Nat → Prop} {a w : World} (h : Chg F a w) (n : Nat) : Chg F a (w.drewN n) := ⟨h.os, h.tape, h.output, h.size, h.block⟩
theorem CodeAt.keep {w w' : World} {g n : Nat} {a : Option Addr} (h : CodeAt w g a n) (k : ∀ b, b < g → w'.heap[b]? = w.heap[b]?) : CodeAt w' g a n := fun j hj => by
  obtain ⟨b, off, x, e, hb, hc, hx⟩ := h j hj
  exact ⟨b, off, x, e, hb, by rw [World.cell?_of_block (w := w) (k b hb)]; exact hc, hx⟩
theorem Cur.lt {w : World} {g : Nat} (h : Cur w g) : g < w.heap.size := by
  obtain ⟨a, n, c, i, q, hb, _⟩ := h
  exact (Array.getElem?_eq_some_iff.1 hb).1
theorem Cur.keep {w w' : World} {g : Nat} (h : Cur w g) (k : ∀ b, b ≤ g → w'.heap[b]? = w.heap[b]?) : Cur w' g := by
  obtain ⟨a, n, c, i, q, hb, h1, h2, h3, h4⟩ := h
  exact ⟨a, n, c, i, q, by rw [k g (Nat.le_refl _)]; exact hb, h1, h2, h3, h4.keep fun b hb => k b (Nat.le_of_lt hb)⟩
theorem Cur.gr {w w' : World} {g : Nat} (h : Cur w g) (k : Gr w w') : Cur w' g := h.keep fun b hb => k.block b (Nat.lt_of_le_of_lt hb h.lt)
theorem Cur.below {w w' : World} {g lo : Nat} (h : Cur w g) (hg : g < lo) (k : Below lo w w') : Cur w' g := h.keep fun b hb => k.block b (by omega)
theorem heap_set {w : World} {g k : Nat} {cs : Array Value} {t : TypeId} (h : w.heap[g]? = some (.cells cs t)) (v : Value) : (w.setCell ⟨g, k, none⟩ v).heap[g]? = some (.cells (cs.setIfInBounds k v) t) := by
  simp only [World.setCell, Array.getElem?_modify, h]
  simp
theorem and255 (x : Int) : 0 ≤ bits .and .i64 x 255 ∧ bits .and .i64 x 255 ≤ 255 := by
  unfold bits
  simp only [BitVec.toNat_and]
  have h1 : (BitVec.ofInt IntKind.i64.bits x).toNat &&& (BitVec.ofInt IntKind.i64.bits 255).toNat ≤ 255 := Nat.le_trans Nat.and_le_right (by decide)
  rw [IntKind.wrap_i64]
  omega
set_option maxRecDepth 100000 in
set_option maxHeartbeats 1000000 in
theorem spec_l1Byte (g : Nat) (w : World) (hc : Cur w g) : Calls Try.prog 67 #[.pointer (some ⟨g, 0, none⟩)] w fun e w' => ∃ x : Int, e = .returned (.int .i64 x) ∧ Hid (0 ≤ x ∧ x ≤ 255) ∧ Hid (Cur w' g ∧ Dr g w w') := by
  obtain ⟨a, n, c, i, h, hb, hin, hnc, hcm, hcode⟩ := hc
  have HC := Lib.hid hcode
  have HB := Lib.hid hb
  have c0 : w.cell? ⟨g, 0, none⟩ = some (.slice a n c) := by simp [World.cell?, hb]
  have c1 : w.cell? ⟨g, 1, none⟩ = some (.int .i64 i) := by simp [World.cell?, hb]
  have c2 : w.cell? ⟨g, 2, none⟩ = some (.int .i64 h) := by simp [World.cell?, hb]
  have f1 : w.frozen? ⟨g, 1, none⟩ = false := by simp [World.frozen?, hb]
  have f2 : w.frozen? ⟨g, 2, none⟩ = false := by simp [World.frozen?, hb]
  clear hb hcode
  by_cases hlt : i < n
  · obtain ⟨b, off, x, rfl, hbg, hx, hx0, hx1⟩ := HC.out i hlt
    have hlz : (i : Int) < (n : Int) := by omega
    have i0 : (0 : Int) ≤ (i : Int) := Int.natCast_nonneg _
    go_enter Try.func67, Try.ntmps67
    go_wp2_with fail
    go_quiet (fail)
    go_wp2_with fail
    go_quiet (fail)
    go_wp2_with fail
    go_quiet (fail)
    go_wp2_with fail
    go_ret
    refine ⟨_, rfl, Lib.hid (and255 _), Lib.hid ⟨⟨_, n, c, i + 1, _, heap_set (k := 1) (heap_set (k := 2) HB.out _) _, by omega, hnc, hcm, HC.out.keep fun b hb => ?_⟩, ?_⟩⟩
    · exact (Below.heap_setCell _ _ _ _ (by dsimp only; omega)).trans (Below.heap_setCell _ _ _ _ (by dsimp only; omega))
    · exact (((Chg.refl (fun b => b = g) w).setCell (p := ⟨g, 2, none⟩) rfl _).drewN _).setCell (p := ⟨g, 1, none⟩) rfl _
  · have hlz : ¬ (i : Int) < (n : Int) := by omega
    go_enter Try.func67, Try.ntmps67
    go_wp2_with fail
    go_quiet (fail)
    go_wp2_with fail
    go_quiet (fail)
    go_wp2_with fail
    go_ret
    refine ⟨_, rfl, Lib.hid (and255 _), Lib.hid ⟨⟨_, n, c, i, _, heap_set (k := 2) HB.out _, by omega, hnc, hcm, HC.out.keep fun b hb => ?_⟩, ?_⟩⟩
    · exact Below.heap_setCell _ _ _ _ (by dsimp only; omega)
    · first
      | exact ((Chg.refl (fun b => b = g) w).setCell (p := ⟨g, 2, none⟩) rfl _).drewN _
      | exact (((Chg.refl (fun b => b = g) w).setCell (p := ⟨g, 2, none⟩) rfl _).drewN _).drewN _
set_option maxRecDepth 100000 in
set_option maxHeartbeats 1000000 in
theorem spec_l1New (v : Value) (bs : List Int) (w : World) (hv : RBytes w v bs) : Calls Try.prog 22 #[v] w fun e w' => ∃ g, e = .returned (.pointer (some ⟨g, 0, none⟩)) ∧ Hid (w.heap.size ≤ g ∧ Cur w' g ∧ Gr w w') := by
  obtain ⟨a, c, rfl, hl, hm, hx⟩ := hv
  have hcode : CodeAt w w.heap.size a bs.length := fun j hj => by
    obtain ⟨b, off, cs, e, hlen, ⟨rfl, h0, h1⟩, hc⟩ := hx j hj
    have h := hc 0 (by simp)
    exact ⟨b, off, bs[j], e, World.block_lt_of_cell? w _ h, by simpa using h, h0, h1⟩
  have HC := Lib.hid hcode
  clear hx hcode
  generalize bs.length = n at *
  go_enter Try.func22, Try.ntmps22
  go_wp2_with fail
  go_loopw [3, 4] (fun vh vi wr => ∃ (h : Int) (k : Nat), vh = .int .i64 h ∧ vi = .int .i64 k ∧ k ≤ n ∧ wr = w) (fun _ vi _ => n - (intOf vi).toNat)
  case atStart => exact ⟨_, 0, rfl, rfl, Nat.zero_le _, rfl⟩
  case round =>
    obtain ⟨h, k, rfl, rfl, hk, rfl⟩ := hrel
    by_cases hlt : k < n
    · have hlz : (k : Int) < (n : Int) := by omega
      have i0 : (0 : Int) ≤ (k : Int) := Int.natCast_nonneg _
      obtain ⟨b, off, x, rfl, _, hx, hx0, hx1⟩ := HC.out k hlt
      by_cases h4 : (k : Int) < 4000
      · go_wp2_with fail
        go_roundw
        case rel => exact ⟨_, k + 1, rfl, by go_num, by omega, by first | trivial | rfl⟩
        case measure => simp [intOf]; omega
      · go_wp2_with fail
        go_ret
        exact ⟨_, rfl, Lib.hid ⟨Nat.le_refl _, ⟨_, n, c, 0, _, heap_alloc_new _ _, Nat.zero_le _, hl, hm, HC.out.keep fun b hb => Below.heap_alloc _ _ _ hb⟩, (Gr.refl _).alloc _⟩⟩
    · have hlz : ¬ (k : Int) < (n : Int) := by omega
      go_wp2_with fail
      go_ret
      exact ⟨_, rfl, Lib.hid ⟨Nat.le_refl _, ⟨_, n, c, 0, _, heap_alloc_new _ _, Nat.zero_le _, hl, hm, HC.out.keep fun b hb => Below.heap_alloc _ _ _ hb⟩, (Gr.refl _).alloc _⟩⟩
set_option maxRecDepth 100000 in
set_option maxHeartbeats 1000000 in
theorem spec_l1Below (g : Nat) (n : Int) (w : World) (hc : Cur w g) (hn : 0 < n) (hm : n ≤ 9223372036854775807) : Calls Try.prog 43 #[.pointer (some ⟨g, 0, none⟩), .int .i64 n] w fun e w' => ∃ x : Int, e = .returned (.int .i64 x) ∧ Hid (0 ≤ x ∧ x < n) ∧ Hid (Cur w' g ∧ Dr g w w') := by
  have HC := Lib.hid hc
  clear hc
  have n0 : ¬ n ≤ 0 := by omega
  have n1 : ¬ n = 0 := by omega
  by_cases h : n ≤ 256
  · go_enter Try.func43, Try.ntmps43
    go_wp2_with fail
    refine (spec_l1Byte g _ HC.out).mono ?_
    rintro e w1 ⟨x, rfl, hx, hk⟩
    have x0 := hx.out.1
    have x1 := hx.out.2
    go_wp2_with fail
    go_ret
    exact ⟨_, rfl, Lib.hid ⟨Int.emod_nonneg _ (by omega), Int.emod_lt_of_pos _ hn⟩, hk⟩
  · have n2 : ¬ n ≤ 256 := h
    go_enter Try.func43, Try.ntmps43
    go_wp2_with fail
    refine (spec_l1Byte g _ HC.out).mono ?_
    rintro e w1 ⟨x, rfl, hx, hk1⟩
    have x0 := hx.out.1
    have x1 := hx.out.2
    go_wp2_with fail
    refine (spec_l1Byte g _ hk1.out.1).mono ?_
    rintro e w2 ⟨y, rfl, hy, hk2⟩
    have y0 := hy.out.1
    have y1 := hy.out.2
    go_wp2_with fail
    refine (spec_l1Byte g _ hk2.out.1).mono ?_
    rintro e w3 ⟨z, rfl, hz, hk3⟩
    have z0 := hz.out.1
    have z1 := hz.out.2
    go_wp2_with fail
    refine (spec_l1Byte g _ hk3.out.1).mono ?_
    rintro e w4 ⟨u, rfl, hu, hk4⟩
    have u0 := hu.out.1
    have u1 := hu.out.2
    go_wp2_with fail
    go_ret
    exact ⟨_, rfl, Lib.hid ⟨Int.emod_nonneg _ (by omega), Int.emod_lt_of_pos _ hn⟩, Lib.hid ⟨hk4.out.1, ((hk1.out.2.trans hk2.out.2).trans hk3.out.2).trans hk4.out.2⟩⟩
set_option maxRecDepth 100000 in
theorem spec_l1Once (g : Nat) (n : Int) (w : World) (hc : Cur w g) (hn : 0 < n) (hm : n ≤ 9223372036854775807) : Calls Try.prog 47 #[.pointer (some ⟨g, 0, none⟩), .int .i64 n] w fun e w' => ∃ x : Bool, e = .returned (.bool x) ∧ Hid (Cur w' g ∧ Dr g w w') := by
  have HC := Lib.hid hc
  clear hc
  go_enter Try.func47, Try.ntmps47
  go_wp2_with fail
  refine (spec_l1Below g n _ HC.out hn hm).mono ?_
  rintro e w1 ⟨x, rfl, hx, hk⟩
  go_wp2_with fail
  go_ret
  exact ⟨_, rfl, hk⟩
set_option maxRecDepth 100000 in
set_option maxHeartbeats 1000000 in
theorem spec_l1PickInt (g : Nat) (v : Value) (xs : List Int) (w : World) (hc : Cur w g) (hv : ∀ w', Dr g w w' → RInts w' v xs) (hn : 0 < xs.length) : Calls Try.prog 46 #[.pointer (some ⟨g, 0, none⟩), v] w fun e w' => ∃ x : Int, e = .returned (.int .i64 x) ∧ Hid (x ∈ xs) ∧ Hid (Cur w' g ∧ Dr g w w') := by
  have HC := Lib.hid hc
  obtain ⟨a, c, rfl, _, _, _⟩ := (hv w (Chg.refl _ _)).open
  have HV := Lib.hid hv
  clear hc hv
  have hm : (xs.length : Int) ≤ 9223372036854775807 := by
    obtain ⟨_, _, e, h1, h2, _⟩ := (HV.out w (Chg.refl _ _)).open
    omega
  go_enter Try.func46, Try.ntmps46
  go_wp2_with fail
  refine (spec_l1Below g _ _ HC.out (by omega) hm).mono ?_
  rintro e w1 ⟨x, rfl, hx, hk⟩
  obtain ⟨k, hkx⟩ := Int.eq_ofNat_of_zero_le hx.out.1
  subst hkx
  have hlt : k < xs.length := by have := hx.out.2; omega
  have hlz : (k : Int) < (xs.length : Int) := by omega
  have i0 : (0 : Int) ≤ (k : Int) := Int.natCast_nonneg _
  obtain ⟨a', c', e', _, _, hat⟩ := (HV.out w1 hk.out.2).open
  obtain ⟨rfl, rfl⟩ : a = a' ∧ c = c' := by simpa using e'
  obtain ⟨b, off, rfl, hcell, _⟩ := hat k hlt
  clear hat e'
  go_wp2_with fail
  go_ret
  exact ⟨_, rfl, Lib.hid (List.getElem_mem hlt), hk⟩
theorem lit_ints {w w' : World} {g : Nat} (hg : g < w.heap.size) (xs : List Int) (hx : ∀ x ∈ xs, I64 x) (hl : xs.length ≤ 1000) (k : Dr g (w.alloc (.cells (xs.map (Value.int .i64)).toArray 3)) w') : RInts w' (.slice (some ⟨w.heap.size, 0, none⟩) xs.length xs.length) xs := by
  refine ⟨_, _, rfl, Nat.le_refl _, by omega, fun i hi => ⟨w.heap.size, 0, _, rfl, rfl, ⟨rfl, hx _ (List.getElem_mem hi)⟩, fun j hj => ?_⟩⟩
  have hb : w'.heap[w.heap.size]? = some (.cells (xs.map (Value.int .i64)).toArray 3) := by
    rw [k.block w.heap.size (by simp) (by omega)]; exact heap_alloc_new _ _
  have : j = 0 := by simpa using hj
  subst this
  simp [World.cell?, hb, hi]
end Go.Proofs.Ytcdcpfcmhmhdjaa

/- The drawing of values: what outlives it. No program in sight. -/
namespace Go.Proofs.Ytcdcpfcmhmhdjaa
open Go.RowKit Go.ChangeShapes Go.WideShapes Go.Deep
theorem Chg.belowT {F : Nat → Prop} {w w1 w2 : World} {lo : Nat} (h : Chg F w w1) (k : Below lo w1 w2) (hl : w.heap.size ≤ lo) : Chg F w w2 :=
  ⟨k.os.trans h.os, k.tape.trans h.tape, k.output.trans h.output, Nat.le_trans h.size k.size, fun b hb hn => (k.block b (by omega)).trans (h.block b hb hn)⟩
theorem own_dr {w w' : World} {g lo t sz n : Nat} {v : Value} {cs : List Value} (h : w.ownsRow lo t sz v n cs) (hg : g < lo) (k : Dr g w w') : w'.ownsRow lo t sz v n cs := by
  obtain ⟨h1, h2⟩ := h
  refine ⟨h1, ?_⟩
  rcases h2 with h0 | ⟨b, cap, cur, hv, hb, hgg, r⟩
  · exact Or.inl h0
  · exact Or.inr ⟨b, cap, cur, hv, hb, by rw [k.block b (Array.getElem?_eq_some_iff.1 hgg).1 (by omega)]; exact hgg, r⟩
end Go.Proofs.Ytcdcpfcmhmhdjaa

/- The drawing of values: stores above what was there. No program in sight. -/
namespace Go.Proofs.Ytcdcpfcmhmhdjaa
open Go.RowKit Go.ChangeShapes Go.WideShapes Go.Deep
theorem size_set (w : World) (p : Addr) (v : Value) : (w.setCell p v).heap.size = w.heap.size := by simp [World.setCell]
theorem Chg.setHigh {F : Nat → Prop} {w wr : World} (h : Chg F w wr) {p : Addr} (hp : w.heap.size ≤ p.block) (u : Value) : Chg F w (wr.setCell p u) :=
  ⟨h.os, h.tape, h.output, by rw [size_set]; exact h.size, fun b hb hn => (Below.heap_setCell _ _ _ _ (by omega)).trans (h.block b hb hn)⟩
end Go.Proofs.Ytcdcpfcmhmhdjaa

/- The drawing of values: a variable's box beside the result's. No program in sight. -/
namespace Go.Proofs.Ytcdcpfcmhmhdjaa
open Go.RowKit Go.ChangeShapes Go.WideShapes Go.Deep
/-- The result's box R (rc), the variable's box B (bc), and what the drawing has changed since w. -/
structure BX (t : TypeId) (w : World) (g R B : Nat) (rc bc : Array Value) (wr : World) : Prop where
  r : wr.heap[R]? = some (.cells rc t)
  b : wr.heap[B]? = some (.cells bc t)
  lt : g < w.heap.size ∧ w.heap.size ≤ R ∧ R < B
  cur : Cur wr g
  dr : Dr g w wr
section
variable {t : TypeId} {w wr w' : World} {g R B : Nat} {rc bc : Array Value}
theorem BX.ltB (h : BX t w g R B rc bc wr) : B < wr.heap.size := (Array.getElem?_eq_some_iff.1 h.b).1
theorem BX.draw (h : BX t w g R B rc bc wr) (k : Cur w' g ∧ Dr g wr w') : BX t w g R B rc bc w' := by
  have hB := h.ltB
  have hl := h.lt
  exact ⟨by rw [k.2.block R (by omega) (by omega)]; exact h.r, by rw [k.2.block B hB (by omega)]; exact h.b, h.lt, k.1, h.dr.trans k.2⟩
theorem BX.gr (h : BX t w g R B rc bc wr) (k : Gr wr w') : BX t w g R B rc bc w' := by
  have hB := h.ltB
  have hl := h.lt
  exact ⟨by rw [k.block R (by omega)]; exact h.r, by rw [k.block B hB]; exact h.b, h.lt, h.cur.gr k, h.dr.belowT k h.dr.size⟩
theorem BX.below (h : BX t w g R B rc bc wr) {lo : Nat} (hlo : B < lo) (k : Below lo wr w') : BX t w g R B rc bc w' := by
  have hl := h.lt
  exact ⟨by rw [k.block R (by omega)]; exact h.r, by rw [k.block B hlo]; exact h.b, h.lt, h.cur.below (by omega) k, h.dr.belowT k (by omega)⟩
theorem BX.set (h : BX t w g R B rc bc wr) {k : Nat} (v : Value) {bc' : Array Value} (e : bc.setIfInBounds k v = bc') : BX t w g R B rc bc' (wr.setCell ⟨B, k, none⟩ v) := by
  have hl := h.lt
  have hs := heap_set (k := k) h.b v
  rw [e] at hs
  refine ⟨by rw [Below.heap_setCell _ _ _ _ (by dsimp only; omega)]; exact h.r, hs, h.lt, h.cur.keep fun b hb => Below.heap_setCell _ _ _ _ (by dsimp only; omega), ?_⟩
  exact ⟨h.dr.os, h.dr.tape, h.dr.output, by rw [size_set]; exact h.dr.size, fun b hb hn => (Below.heap_setCell _ _ _ _ (by dsimp only; omega)).trans (h.dr.block b hb hn)⟩
/-- A store far above w, into neither box. -/
theorem BX.other (h : BX t w g R B rc bc wr) {p : Addr} (hp : R < p.block) (hB : p.block ≠ B) (v : Value) : BX t w g R B rc bc (wr.setCell p v) := by
  have hl := h.lt
  refine ⟨by rw [Below.heap_setCell _ _ _ _ (by omega)]; exact h.r, by rw [Below.heap_setCell _ _ _ _ (by omega)]; exact h.b, h.lt, h.cur.keep fun b hb => Below.heap_setCell _ _ _ _ (by omega), ?_⟩
  exact ⟨h.dr.os, h.dr.tape, h.dr.output, by rw [size_set]; exact h.dr.size, fun b hb hn => (Below.heap_setCell _ _ _ _ (by omega)).trans (h.dr.block b hb hn)⟩
theorem BX.cell (h : BX t w g R B rc bc wr) {k : Nat} {v : Value} (e : bc[k]? = some v) : wr.cell? ⟨B, k, none⟩ = some v := by simp [World.cell?, h.b, e]
theorem BX.cellR (h : BX t w g R B rc bc wr) {k : Nat} {v : Value} (e : rc[k]? = some v) : wr.cell? ⟨R, k, none⟩ = some v := by simp [World.cell?, h.r, e]
theorem BX.frz (h : BX t w g R B rc bc wr) (j : Nat) : wr.frozen? ⟨B, j, none⟩ = false ∧ wr.frozen? ⟨R, j, none⟩ = false := by
  constructor <;> simp [World.frozen?, h.b, h.r]
end
theorem two_other {wr : World} {q R : Nat} (h : q ≠ R) {a b : Nat} {x y : Value} : ((wr.setCell ⟨R, a, none⟩ x).setCell ⟨R, b, none⟩ y).heap[q]? = wr.heap[q]? :=
  (Below.heap_setCell _ _ _ _ h).trans (Below.heap_setCell _ _ _ _ h)
end Go.Proofs.Ytcdcpfcmhmhdjaa

/- The drawing of values: how wide a range is. No program in sight. -/
namespace Go.Proofs.Ytcdcpfcmhmhdjaa
open Go.RowKit
def wides : List Int := [3, 6, 100]
theorem wides_i64 : ∀ x ∈ wides, I64 x := by
  intro x hx
  simp only [wides, List.mem_cons, List.not_mem_nil, or_false] at hx
  unfold I64
  omega
theorem wides_in {x : Int} (hx : x ∈ wides) : 3 ≤ x ∧ x ≤ 100 := by
  simp only [wides, List.mem_cons, List.not_mem_nil, or_false] at hx
  omega
end Go.Proofs.Ytcdcpfcmhmhdjaa

/- The drawing of values: rows of numbers. No program in sight. -/
namespace Go.Proofs.Ytcdcpfcmhmhdjaa
open Go.RowKit Go.ChangeShapes Go.WideShapes Go.Deep
theorem oints_dr {w w' : World} {g lo : Nat} {v : Value} {xs : List Int} (h : OInts lo w v xs) (hg : g < lo) (k : Dr g w w') : OInts lo w' v xs := ⟨own_dr h.1 hg k, h.2⟩
theorem mul_small {a b : Int} (ha : 0 ≤ a ∧ a < 3) (hb : 0 ≤ b ∧ b < 2) : 0 ≤ a * b ∧ a * b ≤ 2 := by
  refine ⟨Int.mul_nonneg ha.1 hb.1, ?_⟩
  have : a * b ≤ 2 * b := Int.mul_le_mul_of_nonneg_right (by omega) hb.1
  omega
end Go.Proofs.Ytcdcpfcmhmhdjaa

/- append(out, xs...) of elements that were there before: the row is the call's own, what its elements hold is old. No program in sight. -/
namespace Go.Proofs.Ytcdcpfcmhmhdjaa
open Go.ChangeShapes Go.WideShapes Go.RowKit Go.Deep
theorem flatC_append {sz n m : Nat} {cs ds : Nat → List Value} : flatC sz (n + m) (fun i => if i < n then cs i else ds (i - n)) = flatC sz n cs ++ flatC sz m ds := by
  by_cases hs : 0 < sz
  · apply List.ext_getElem?; intro p
    rw [flatC_get, List.getElem?_append, flatC_len, flatC_get, flatC_get, Nat.add_mul]
    by_cases h : p < n * sz
    · have h2 : p / sz < n := (Nat.div_lt_iff_lt_mul hs).2 h
      rw [if_pos h, if_pos h, if_pos (by omega), if_pos h2]
    · rw [if_neg h]
      have h2 : ¬ p / sz < n := fun h' => h ((Nat.div_lt_iff_lt_mul hs).1 h')
      obtain ⟨q, rfl⟩ : ∃ q, p = q + n * sz := ⟨p - n * sz, by omega⟩
      have e1 : (q + n * sz) / sz = q / sz + n := by rw [Nat.add_mul_div_right _ _ hs]
      have e2 : (q + n * sz) % sz = q % sz := Nat.add_mul_mod_self_right ..
      by_cases h3 : q < m * sz
      · have h4 : q + n * sz < n * sz + m * sz := by omega
        have h5 : ¬ q / sz + n < n := by omega
        rw [if_pos h4, e1, e2, if_neg h5, Nat.add_sub_cancel, Nat.add_sub_cancel, if_pos h3]
      · have h4 : ¬ q + n * sz < n * sz + m * sz := by omega
        rw [if_neg h4, Nat.add_sub_cancel, if_neg h3]
  · have : sz = 0 := by omega
    subst this
    simp [flatC]
/-- A row of the call's own whose elements read, in the world W before, as xs. -/
def ORd {α : Type} (t sz : Nat) (R : World → List Value → α → Prop) (W w : World) (v : Value) (xs : List α) : Prop :=
  ∃ cs, w.ownsRow W.heap.size t sz v xs.length (flatC sz xs.length cs) ∧ ∀ i (h : i < xs.length), (cs i).length = sz ∧ R W (cs i) xs[i]
def OneCells {α : Type} (R : World → List Value → α → Prop) : Prop := ∀ w cs x, R w cs x → ∀ c ∈ cs, c.oneCell' = true
section
variable {α : Type} {t sz : Nat} {R : World → List Value → α → Prop} {W w w' : World} {v : Value} {xs : List α}
theorem ORd.reads (hR : Keeps R) (hg : Gr W w) (h : ORd t sz R W w v xs) : RSlice sz R w v xs := by
  obtain ⟨cs, ⟨h1, h2⟩, h3⟩ := h
  rcases h2 with ⟨rfl, h0⟩ | ⟨g, cap, cur, rfl, _, hgg, hn, hm, hs, ht⟩
  · exact ⟨none, 0, by simp [h0], by omega, by omega, fun i hi => absurd hi (by omega)⟩
  · refine ⟨_, cap, rfl, hn, by simpa [maxLen] using hm, fun i hi => ⟨g, 0, cs i, rfl, (h3 i hi).1, hR _ _ _ _ hg (h3 i hi).2, fun j hj => ?_⟩⟩
    have hjs : j < sz := by rw [← (h3 i hi).1]; exact hj
    have e : cur[i * sz + j]? = some ((cs i).getD j undef) := by
      have h4 : (cur.toList.take (xs.length * sz))[i * sz + j]? = some ((cs i).getD j undef) := by rw [ht]; exact flatC_at hi hjs
      rw [List.getElem?_take, if_pos (idx_lt hi hjs)] at h4
      simpa using h4
    simp [World.cell?, hgg, e, hj]
theorem ORd.gr (h : ORd t sz R W w v xs) (hg : Gr w w') : ORd t sz R W w' v xs := by
  obtain ⟨cs, ⟨h1, h2⟩, h3⟩ := h
  refine ⟨cs, ⟨h1, ?_⟩, h3⟩
  rcases h2 with h0 | ⟨g, cap, cur, hv, hb, hgg, r⟩
  · exact Or.inl h0
  · exact Or.inr ⟨g, cap, cur, hv, hb, by rw [hg.block g (Array.getElem?_eq_some_iff.1 hgg).1]; exact hgg, r⟩
theorem ORd.nil (W w : World) : ORd t sz R W w (.slice none 0 0) [] := ⟨fun _ => [], ⟨by simp [flatC], Or.inl ⟨rfl, rfl⟩⟩, fun i hi => absurd hi (Nat.not_lt_zero _)⟩
theorem ORd.made (hg : Gr W w) : ORd t sz R W (w.alloc (.cells #[] t)) (.slice (some ⟨w.heap.size, 0, none⟩) 0 0) [] :=
  ⟨fun _ => [], ⟨by simp [flatC], Or.inr ⟨_, 0, #[], rfl, hg.size, heap_alloc_new w _, Nat.le_refl _, Nat.zero_le _, by simp, by simp [flatC]⟩⟩, fun i hi => absurd hi (Nat.not_lt_zero _)⟩
end
theorem spread_r {α : Type} {P : Program} {ops : Array Oper} {rest : List Oper} {o : Oper} {a : Act} {Q : Exit → Act → World → Prop} {W w : World} {R : World → List Value → α → Prop} (t e size bytes : Nat) {z : Value} (ht : P.underlying t = some (.slice e))
    (hi : (P.info? e).map (fun i => (i.zero, i.size, i.bytes)) = some (some z, size, bytes)) (hzs : z.cells.size = size) (hsz : 0 < size) (hby : 0 < bytes) (h1 : OneCells R) (hgd : o.guard = none) (s x : Operand)
    (ho : o.op = .call { callee := .builtin .append, args := #[s, x], argTypes := #[t, t] }) {v u : Value} {xs ys : List α}
    (hs : a.eval s = v) (hx : a.eval x = u) (hown : ORd e size R W w v xs) (hy : RSlice size R W u ys) (hg : Gr W w) (hn : (xs.length + ys.length) * bytes ≤ 140737488355328)
    (h : ∀ b c' w', ORd e size R W w' (.slice b (xs ++ ys).length c') (xs ++ ys) → Below W.heap.size w w' → wpList P ops Q rest (a.put o.dst (.slice b (xs ++ ys).length c')) w') :
    wpList P ops Q (o :: rest) a w := by
  obtain ⟨cs, hrow, hel⟩ := hown
  obtain ⟨ad, c, ds, rfl, hds, hsrc⟩ := hy.src
  have hsrc' : SrcAt w ad (flatC size ys.length ds) := by
    rcases hsrc with h | ⟨b, off, h1, h2⟩
    · exact Or.inl h
    · exact Or.inr ⟨b, off, h1, fun j u hj => hg.cellv (h2 j u hj)⟩
  refine spread t e size bytes ht hi hzs hsz hby hgd s x ho (flatC size ys.length ds) hs hx hrow (flatC_len ..) hsrc' (fun u hu => ?_) hn hg.size fun v' w' k1 k2 _ _ => ?_
  · obtain ⟨p, hp, rfl⟩ := List.getElem_of_mem hu
    have hp' : p < ys.length * size := by rw [flatC_len] at hp; exact hp
    have hlt : p / size < ys.length := (Nat.div_lt_iff_lt_mul hsz).2 hp'
    have e0 := List.getElem?_eq_getElem hp
    rw [flatC_get, if_pos hp'] at e0
    have hm : p % size < (ds (p / size)).length := by rw [(hds _ hlt).1]; exact Nat.mod_lt _ hsz
    have e1 : (flatC size ys.length ds)[p] = (ds (p / size))[p % size] := by
      have := Option.some.inj e0
      rw [← this]; simp [hm]
    rw [e1]
    exact h1 _ _ _ (hds _ hlt).2 _ (List.getElem_mem hm)
  · have hO : ORd e size R W w' v' (xs ++ ys) := by
      refine ⟨fun i => if i < xs.length then cs i else ds (i - xs.length), by rw [List.length_append, flatC_append]; exact k1, fun i hi => ?_⟩
      by_cases hlt : i < xs.length
      · simp only [if_pos hlt, List.getElem_append_left hlt]; exact hel i hlt
      · have hi' : i - xs.length < ys.length := by simp at hi; omega
        simp only [if_neg hlt, List.getElem_append_right (Nat.le_of_not_lt hlt)]
        exact hds _ hi'
    obtain ⟨cs', hr', _⟩ := id hO
    obtain ⟨b, c', rfl, _⟩ := row_form (t := e) (sz := size) (w := w') ⟨hr'.1, by
      rcases hr'.2 with h0 | ⟨g, cap, cur, hv, _, r⟩
      · exact Or.inl h0
      · exact Or.inr ⟨g, cap, cur, hv, Nat.zero_le _, r⟩⟩
    exact h b c' w' hO k2
theorem RInts.one {w : World} {u : Value} {xs : List Int} (h : RInts w u xs) : u.oneCell' = true := by
  obtain ⟨a, c, rfl⟩ := h.form; rfl
theorem one_version : OneCells RVersion := fun _ _ _ ⟨u, h, _, hu, _⟩ c hc => by
  subst h
  simp only [List.mem_cons, List.not_mem_nil, or_false] at hc
  rcases hc with rfl | rfl | rfl | rfl
  · rfl
  · exact hu.one
  · rfl
  · rfl
theorem one_row : OneCells RRow := fun _ _ _ ⟨u, h, _, hu⟩ c hc => by
  subst h
  simp only [List.mem_cons, List.not_mem_nil, or_false] at hc
  rcases hc with rfl | rfl
  · rfl
  · exact hu.one
theorem one_cond : OneCells RCond := fun _ _ _ h c hc => by
  rw [h.1] at hc
  simp only [List.mem_cons, List.not_mem_nil, or_false] at hc
  rcases hc with rfl | rfl | rfl <;> rfl
end Go.Proofs.Ytcdcpfcmhmhdjaa
