/- The law's own helpers: GenVersion. Written by gen_law.py. -/
import Derived.Test.YtjeffagejbdjkaaGenInt
namespace Go.Proofs.Ytjeffagejbdjkaa
open Go.RowKit
set_option linter.unusedSimpArgs false
end Go.Proofs.Ytjeffagejbdjkaa
