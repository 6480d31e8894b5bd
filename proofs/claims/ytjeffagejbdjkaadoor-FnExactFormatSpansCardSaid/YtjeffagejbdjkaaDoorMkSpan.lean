/- The law's own helpers: marks, and what holds them. Written by gen_mark.py. -/
import Derived.Test.YtjeffagejbdjkaaDoorMkInt
import Derived.Test.YtjeffagejbdjkaaDoorGenSpan
namespace Go.Proofs.YtjeffagejbdjkaaDoor
open Go.RowKit
set_option linter.unusedSimpArgs false
end Go.Proofs.YtjeffagejbdjkaaDoor
