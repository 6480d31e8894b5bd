/- The law's own helpers: marks, and what holds them. Written by gen_mark.py. -/
import Derived.Test.YtcdcpfcmhmhdjaaMkInt
import Derived.Test.YtcdcpfcmhmhdjaaGenSpan
namespace Go.Proofs.Ytcdcpfcmhmhdjaa
open Go.RowKit
set_option linter.unusedSimpArgs false
end Go.Proofs.Ytcdcpfcmhmhdjaa
