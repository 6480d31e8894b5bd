/- IsRow: the walks. -/
import Derived.Test.YtcdcpfcmhmhdjaaDoorLawC
namespace Go.Proofs.YtcdcpfcmhmhdjaaDoor
open Go.RowKit
/-- One value of a row lies in its bounds. -/
def valAt (xs : List Int) (j : Nat) : Bool := inB (xs.getD j 0) 0 99
def isRowB (x : DRow) : Bool := allB x.vals.length (valAt x.vals) && (inB x.id 0 999 && decide (x.vals.length = 3))
theorem isRowB_no {id : Int} {xs : List Int} (k : Nat) (hk : k < xs.length) (h : inB xs[k] 0 99 = false) : isRowB ⟨id, xs⟩ = false := by
  unfold isRowB; rw [allB_false k hk (by unfold valAt; rw [getD_lt hk]; exact h)]; rfl
theorem isRowB_all {id : Int} {xs : List Int} (h : ∀ j, j < xs.length → valAt xs j = true) : isRowB ⟨id, xs⟩ = (inB id 0 999 && decide (xs.length = 3)) := by
  unfold isRowB; rw [allB_true h]; rfl
theorem valAt_mk {xs : List Int} {k : Nat} (hk : k < xs.length) (h : inB xs[k] 0 99 = true) : valAt xs k = true := by unfold valAt; rw [getD_lt hk]; exact h
-- gen FnExactIsRow IsRow Row
-- endgen
end Go.Proofs.YtcdcpfcmhmhdjaaDoor
