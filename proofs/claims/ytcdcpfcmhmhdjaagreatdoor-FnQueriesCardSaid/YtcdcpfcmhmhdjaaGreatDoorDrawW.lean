/- The drawing of values: how wide a range is. No program in sight. -/
import Derived.Test.YtcdcpfcmhmhdjaaGreatDoorBase
namespace Go.Proofs.YtcdcpfcmhmhdjaaGreatDoor
open Go.RowKit
def wides : List Int := [3, 6, 100]
theorem wides_i64 : ∀ x ∈ wides, I64 x := by
  intro x hx
  simp only [wides, List.mem_cons, List.not_mem_nil, or_false] at hx
  unfold I64
  omega
theorem wides_in {x : Int} (hx : x ∈ wides) : 3 ≤ x ∧ x ≤ 100 := by
  simp only [wides, List.mem_cons, List.not_mem_nil, or_false] at hx
  omega
end Go.Proofs.YtcdcpfcmhmhdjaaGreatDoor
