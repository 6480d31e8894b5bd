/- BuildIndex: the plain law; a copied row of conditions. No program in sight. -/
import Derived.Test.YtnnapjaggahjgaaSpread2
import Derived.Test.YtnnapjaggahjgaaOwnPush
import Derived.Test.YtnnapjaggahjgaaStabiR
namespace Go.Proofs.Ytnnapjaggahjgaa
open Go.RowKit
theorem ORd.conds {t : Nat} {W w : World} {v : Value} {xs : List DCond} (h : ORd t 3 RCond W w v xs) : OSl t 3 PCond (In W.heap.size w.heap.size) w v xs := by
  obtain ⟨cs, h1, h3⟩ := h
  refine ⟨cs, ⟨h1.1, ?_⟩, fun g hg => h1.lt g hg, fun _ _ => False, fun i hi => ⟨(h3 i hi).1, (h3 i hi).2, fun b hb => hb.elim, fun _ _ _ _ hb => hb.elim⟩⟩
  rcases h1.2 with h0 | ⟨g, cap, cur, hv, _, r⟩
  · exact Or.inl h0
  · exact Or.inr ⟨g, cap, cur, hv, Nat.zero_le _, r⟩
def fldsTo (xs : List DQuery) (k : Nat) : List (List DSpan) := (List.range k).map fun i : Nat => idxL xs (i : Int)
theorem fldsTo_succ (xs : List DQuery) (k : Nat) : fldsTo xs (k + 1) = fldsTo xs k ++ [idxL xs (k : Int)] := by simp [fldsTo, List.range_succ]
theorem fldsTo_len (xs : List DQuery) (k : Nat) : (fldsTo xs k).length = k := by simp [fldsTo]
def buildL (xs : List DQuery) : DIndex := if areQueriesB xs then ⟨xs, fldsTo xs 3⟩ else ⟨[], []⟩
theorem buildL_yes {xs : List DQuery} (h : areQueriesB xs = true) : buildL xs = ⟨xs, fldsTo xs 3⟩ := by unfold buildL; rw [if_pos h]
theorem buildL_no {xs : List DQuery} (h : areQueriesB xs = false) : buildL xs = ⟨[], []⟩ := by unfold buildL; rw [h]; rfl
theorem buildL_small (xs : List DQuery) : sumT cntQuery (buildL xs).queries + sumT (sumT cntSpan) (buildL xs).fields ≤ 3 * totL totQuery xs + 22503 := by
  unfold buildL
  split
  · have h1 := cnt_QueryS xs
    have h2 : sumT (sumT cntSpan) (fldsTo xs 3) ≤ 7500 * (fldsTo xs 3).length := sumT_const _ fun x hx => by
      obtain ⟨i, hi, rfl⟩ := List.getElem_of_mem hx
      have : (fldsTo xs 3)[i] = idxL xs (i : Int) := by simp [fldsTo]
      rw [this]; exact idxL_small xs _
    rw [fldsTo_len] at h2
    simp only
    omega
  · simp [sumT]
def qTo (xs : List DQuery) (k : Nat) : List DQuery := xs.take k
theorem qTo_succ {xs : List DQuery} {k : Nat} (h : k < xs.length) : qTo xs (k + 1) = qTo xs k ++ [xs[k]] := List.take_succ_eq_append_getElem h
theorem qTo_len {xs : List DQuery} {k : Nat} (h : k ≤ xs.length) : (qTo xs k).length = k := by unfold qTo; rw [List.length_take]; omega
theorem qTo_all (xs : List DQuery) : qTo xs xs.length = xs := List.take_length
end Go.Proofs.Ytnnapjaggahjgaa
