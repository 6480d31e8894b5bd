/- A []byte argument, read. -/
import Derived.Test.YtcdcpfcmhmhdjaaDoorRd
import Derived.Test.YtcdcpfcmhmhdjaaDoorDraw
namespace Go.Proofs.YtcdcpfcmhmhdjaaDoor
open Go.ChangeShapes Go.WideShapes Go.RowKit Go.Deep
theorem rd_byte {H : Type} {enc : TypeId × Value → H} {P : Program} {w : World} {base : Nat} {spare : Nat → Bool} {held : Bool} {t : TypeId} (ht : P.underlying t = some (.int .u8)) : Reads enc P w base spare held t RByte := fun n cs x h => by
  obtain ⟨k, rfl, _, hw⟩ := DataW.trod_int ht h
  exact ⟨k, rfl, by have := bounds_u8 hw; omega⟩
end Go.Proofs.YtcdcpfcmhmhdjaaDoor
