/- IsVisible and IsRow: the walks. -/
import Derived.Test.YtcdcpfcmhmhdjaaGreatDoorGenRow
import Derived.Test.YtcdcpfcmhmhdjaaGreatDoorGenVersion
import Derived.Test.YtcdcpfcmhmhdjaaGreatDoorSc
namespace Go.Proofs.YtcdcpfcmhmhdjaaGreatDoor
open Go.RowKit
/-- IsVisible of a version. -/
def isVisB (x : DVersion) (t : Int) : Bool := decide (x.born ≤ t) && (x.died == -1 || decide (x.died > t))
-- gen FnExactIsVisible IsVisible Version int
-- endgen
end Go.Proofs.YtcdcpfcmhmhdjaaGreatDoor
