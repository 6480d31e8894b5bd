/- The law's own helpers: GenQuery. Written by gen_law.py. -/
import Derived.Test.YtcdcpfcmhmhdjaaDoorGenCond
namespace Go.Proofs.YtcdcpfcmhmhdjaaDoor
open Go.RowKit
set_option linter.unusedSimpArgs false
end Go.Proofs.YtcdcpfcmhmhdjaaDoor
