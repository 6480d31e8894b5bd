/- IsVisible and IsRow: the walks. -/
import Derived.Test.YtgadgidhomijpaaGenRow
import Derived.Test.YtgadgidhomijpaaGenVersion
import Derived.Test.YtgadgidhomijpaaSc
namespace Go.Proofs.Ytgadgidhomijpaa
open Go.RowKit
/-- IsVisible of a version. -/
def isVisB (x : DVersion) (t : Int) : Bool := decide (x.born ≤ t) && (x.died == -1 || decide (x.died > t))
-- gen FnExactIsVisible IsVisible Version int
-- endgen
end Go.Proofs.Ytgadgidhomijpaa
