/- AreRows: the walks. -/
import Derived.Test.YtcdcpfcmhmhdjaaGreatDoorLawD
namespace Go.Proofs.YtcdcpfcmhmhdjaaGreatDoor
open Go.RowKit
def rowOk (xs : List DRow) (j : Nat) : Bool := isRowB (xs.getD j ⟨0, []⟩)
def ordAt (xs : List DRow) (j : Nat) : Bool := decide (j = 0) || decide ((xs.getD (j - 1) ⟨0, []⟩).id < (xs.getD j ⟨0, []⟩).id)
def areRowsB (xs : List DRow) : Bool := allB xs.length (ordAt xs) && (decide (xs.length ≤ 32) && allB xs.length (rowOk xs))
theorem rowOk_eq {xs : List DRow} {k : Nat} (h : k < xs.length) : rowOk xs k = isRowB xs[k] := by unfold rowOk; rw [getD_lt h]
theorem ordAt_zero {xs : List DRow} {k : Nat} (h : k = 0) : ordAt xs k = true := by simp [ordAt, h]
theorem ordAt_yes {xs : List DRow} {k : Nat} (h : k < xs.length) (h1 : k - 1 < xs.length) (h2 : xs[k-1].id < xs[k].id) : ordAt xs k = true := by
  unfold ordAt; rw [getD_lt h, getD_lt h1]; simp [h2]
theorem ordAt_no {xs : List DRow} {k : Nat} (h : k < xs.length) (h1 : k - 1 < xs.length) (h0 : 0 < k) (h2 : xs[k].id ≤ xs[k-1].id) : ordAt xs k = false := by
  unfold ordAt; rw [getD_lt h, getD_lt h1]; simp; omega
theorem areRowsB_ord {xs : List DRow} {k : Nat} (h : k < xs.length) (h1 : ordAt xs k = false) : areRowsB xs = false := by
  unfold areRowsB; rw [allB_false k h h1]; rfl
theorem areRowsB_row {xs : List DRow} {k : Nat} (h : k < xs.length) (h1 : isRowB xs[k] = false) : areRowsB xs = false := by
  unfold areRowsB; rw [allB_false (p := rowOk xs) k h (by rw [rowOk_eq h]; exact h1)]; simp
end Go.Proofs.YtcdcpfcmhmhdjaaGreatDoor
