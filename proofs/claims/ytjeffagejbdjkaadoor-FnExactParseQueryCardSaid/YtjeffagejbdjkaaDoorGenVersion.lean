/- The law's own helpers: GenVersion. Written by gen_law.py. -/
import Derived.Test.YtjeffagejbdjkaaDoorGenInt
namespace Go.Proofs.YtjeffagejbdjkaaDoor
open Go.RowKit
set_option linter.unusedSimpArgs false
end Go.Proofs.YtjeffagejbdjkaaDoor
