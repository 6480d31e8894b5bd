/- IsVisible and IsRow: the walks. -/
import Derived.Test.YtcdcpfcmhmhdjaaDoorGenRow
import Derived.Test.YtcdcpfcmhmhdjaaDoorGenVersion
import Derived.Test.YtcdcpfcmhmhdjaaDoorSc
namespace Go.Proofs.YtcdcpfcmhmhdjaaDoor
open Go.RowKit
/-- IsVisible of a version. -/
def isVisB (x : DVersion) (t : Int) : Bool := decide (x.born ≤ t) && (x.died == -1 || decide (x.died > t))
-- gen FnExactIsVisible IsVisible Version int
-- endgen
end Go.Proofs.YtcdcpfcmhmhdjaaDoor
