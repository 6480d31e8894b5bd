/- The law's own helpers: marks, and what holds them. Written by gen_mark.py. -/
import Derived.Test.YtcdcpfcmhmhdjaaDoorMkInt
import Derived.Test.YtcdcpfcmhmhdjaaDoorGenSpan
namespace Go.Proofs.YtcdcpfcmhmhdjaaDoor
open Go.RowKit
set_option linter.unusedSimpArgs false
end Go.Proofs.YtcdcpfcmhmhdjaaDoor
