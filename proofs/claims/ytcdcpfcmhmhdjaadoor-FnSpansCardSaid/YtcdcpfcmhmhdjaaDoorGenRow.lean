/- The law's own helpers: GenRow. Written by gen_law.py. -/
import Derived.Test.YtcdcpfcmhmhdjaaDoorGenInt
namespace Go.Proofs.YtcdcpfcmhmhdjaaDoor
open Go.RowKit
set_option linter.unusedSimpArgs false
end Go.Proofs.YtcdcpfcmhmhdjaaDoor
