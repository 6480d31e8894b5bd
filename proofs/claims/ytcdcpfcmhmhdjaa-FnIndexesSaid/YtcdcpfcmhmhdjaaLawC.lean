/- IsVisible and IsRow: the walks. -/
import Derived.Test.YtcdcpfcmhmhdjaaGenRow
import Derived.Test.YtcdcpfcmhmhdjaaGenVersion
import Derived.Test.YtcdcpfcmhmhdjaaSc
namespace Go.Proofs.Ytcdcpfcmhmhdjaa
open Go.RowKit
/-- IsVisible of a version. -/
def isVisB (x : DVersion) (t : Int) : Bool := decide (x.born ≤ t) && (x.died == -1 || decide (x.died > t))
-- gen FnExactIsVisible IsVisible Version int
-- endgen
end Go.Proofs.Ytcdcpfcmhmhdjaa
