/- BestOrder: the plain law. No program in sight. -/
import Derived.Test.YtnnapjaggahjgaaWork2
namespace Go.Proofs.Ytnnapjaggahjgaa
open Go.RowKit
def ords : List (List Int) := [[0, 1, 2], [0, 2, 1], [1, 0, 2], [1, 2, 0], [2, 0, 1], [2, 1, 0]]
def ordOf (k : Nat) : List Int := ords.getD k []
theorem ords_len : ords.length = 6 := rfl
theorem ordOf_at {k : Nat} (h : k < ords.length) : ords[k] = ordOf k := (getD_lt h).symm
/-- Which order is best among the first k + 1. -/
def bestI (x : DIndex) (rows : List DRow) : Nat → Nat
  | 0 => 0
  | k + 1 => if workL x rows (ordOf (k + 1)) < workL x rows (ordOf (bestI x rows k)) then k + 1 else bestI x rows k
theorem bestI_le (x : DIndex) (rows : List DRow) : ∀ k, bestI x rows k ≤ k
  | 0 => Nat.le_refl _
  | k + 1 => by have := bestI_le x rows k; unfold bestI; split <;> omega
theorem bestI_yes {x : DIndex} {rows : List DRow} {k : Nat} (h : workL x rows (ordOf (k + 1)) < workL x rows (ordOf (bestI x rows k))) : bestI x rows (k + 1) = k + 1 := by rw [bestI, if_pos h]
theorem bestI_no {x : DIndex} {rows : List DRow} {k : Nat} (h : ¬ workL x rows (ordOf (k + 1)) < workL x rows (ordOf (bestI x rows k))) : bestI x rows (k + 1) = bestI x rows k := by rw [bestI, if_neg h]
def bestL (x : DIndex) (rows : List DRow) : List Int := if isIndexB x then ordOf (bestI x rows 5) else []
theorem bestL_yes {x : DIndex} {rows : List DRow} (h : isIndexB x = true) : bestL x rows = ordOf (bestI x rows 5) := by unfold bestL; rw [if_pos h]
theorem bestL_no {x : DIndex} {rows : List DRow} (h : isIndexB x = false) : bestL x rows = [] := by unfold bestL; rw [h]; rfl
theorem ordOf_len : ∀ {k : Nat}, k < 6 → (ordOf k).length = 3
  | 0, _ => rfl
  | 1, _ => rfl
  | 2, _ => rfl
  | 3, _ => rfl
  | 4, _ => rfl
  | 5, _ => rfl
theorem bestL_small (x : DIndex) (rows : List DRow) : sumT cntI (bestL x rows) ≤ 9 := by
  have h := cnt_IntS (bestL x rows)
  unfold bestL at h ⊢
  split
  · rename_i hi
    rw [if_pos hi, ordOf_len (by have := bestI_le x rows 5; omega)] at h
    exact h
  · simp [sumT]
end Go.Proofs.Ytnnapjaggahjgaa
