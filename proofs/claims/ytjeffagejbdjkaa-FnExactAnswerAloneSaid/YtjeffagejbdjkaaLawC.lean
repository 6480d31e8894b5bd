/- IsVisible and IsRow: the walks. -/
import Derived.Test.YtjeffagejbdjkaaGenRow
import Derived.Test.YtjeffagejbdjkaaGenVersion
import Derived.Test.YtjeffagejbdjkaaSc
namespace Go.Proofs.Ytjeffagejbdjkaa
open Go.RowKit
/-- IsVisible of a version. -/
def isVisB (x : DVersion) (t : Int) : Bool := decide (x.born ≤ t) && (x.died == -1 || decide (x.died > t))
-- gen FnExactIsVisible IsVisible Version int
-- endgen
end Go.Proofs.Ytjeffagejbdjkaa
