/- AreRows: the walk of the reference and of the law. -/
import Derived.Test.YtcdcpfcmhmhdjaaGreatDoorLawE
import Derived.Test.YtcdcpfcmhmhdjaaGreatDoorExt
namespace Go.Proofs.YtcdcpfcmhmhdjaaGreatDoor
open Go.RowKit
theorem areRowsB_end {xs : List DRow} (h : ∀ j, j < xs.length → (ordAt xs j = true ∧ rowOk xs j = true)) : areRowsB xs = decide (xs.length ≤ 32) := by
  unfold areRowsB; rw [allB_true (fun j hj => (h j hj).1), allB_true (fun j hj => (h j hj).2)]; simp
theorem spec_IsRow_of {x : DRow} {b : Bool} (h : isRowB x = b) (u : Value) (w : World) (hx : RInts w u x.vals) : Calls Tryz.prog 45 #[.agg #[.int .i64 x.id, u]] w fun e w' => e = .returned (.bool b) ∧ Gr w w' := h ▸ spec_IsRow x u w hx
-- gen FnExactAreRows AreRows RowS
-- endgen
end Go.Proofs.YtcdcpfcmhmhdjaaGreatDoor
