/- IsVisible and IsRow: the walks. -/
import Derived.Test.YtjeffagejbdjkaaDoorGenRow
import Derived.Test.YtjeffagejbdjkaaDoorGenVersion
import Derived.Test.YtjeffagejbdjkaaDoorSc
namespace Go.Proofs.YtjeffagejbdjkaaDoor
open Go.RowKit
/-- IsVisible of a version. -/
def isVisB (x : DVersion) (t : Int) : Bool := decide (x.born ≤ t) && (x.died == -1 || decide (x.died > t))
-- gen FnExactIsVisible IsVisible Version int
-- endgen
end Go.Proofs.YtjeffagejbdjkaaDoor
