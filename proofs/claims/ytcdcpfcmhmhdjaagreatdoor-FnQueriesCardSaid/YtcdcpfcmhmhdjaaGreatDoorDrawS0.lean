/- The drawing of values: rows of numbers. No program in sight. -/
import Derived.Test.YtcdcpfcmhmhdjaaGreatDoorDrawC
import Derived.Test.YtcdcpfcmhmhdjaaGreatDoorInts
namespace Go.Proofs.YtcdcpfcmhmhdjaaGreatDoor
open Go.RowKit Go.ChangeShapes Go.WideShapes Go.Deep
theorem oints_dr {w w' : World} {g lo : Nat} {v : Value} {xs : List Int} (h : OInts lo w v xs) (hg : g < lo) (k : Dr g w w') : OInts lo w' v xs := ⟨own_dr h.1 hg k, h.2⟩
theorem mul_small {a b : Int} (ha : 0 ≤ a ∧ a < 3) (hb : 0 ≤ b ∧ b < 2) : 0 ≤ a * b ∧ a * b ≤ 2 := by
  refine ⟨Int.mul_nonneg ha.1 hb.1, ?_⟩
  have : a * b ≤ 2 * b := Int.mul_le_mul_of_nonneg_right (by omega) hb.1
  omega
end Go.Proofs.YtcdcpfcmhmhdjaaGreatDoor
