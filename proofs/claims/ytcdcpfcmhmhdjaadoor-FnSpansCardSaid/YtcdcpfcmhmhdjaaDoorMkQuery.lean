/- The law's own helpers: marks, and what holds them. Written by gen_mark.py. -/
import Derived.Test.YtcdcpfcmhmhdjaaDoorMkCond
import Derived.Test.YtcdcpfcmhmhdjaaDoorGenQuery
namespace Go.Proofs.YtcdcpfcmhmhdjaaDoor
open Go.RowKit
set_option linter.unusedSimpArgs false
end Go.Proofs.YtcdcpfcmhmhdjaaDoor
