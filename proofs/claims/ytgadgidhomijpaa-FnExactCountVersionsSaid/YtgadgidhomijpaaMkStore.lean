/- The law's own helpers: marks, and what holds them. Written by gen_mark.py. -/
import Derived.Test.YtgadgidhomijpaaMkVersion
import Derived.Test.YtgadgidhomijpaaGenStore
namespace Go.Proofs.Ytgadgidhomijpaa
open Go.RowKit
set_option linter.unusedSimpArgs false
end Go.Proofs.Ytgadgidhomijpaa
