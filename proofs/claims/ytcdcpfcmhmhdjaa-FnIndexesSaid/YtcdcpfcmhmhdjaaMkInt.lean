/- The law's own helpers: marks, and what holds them. Written by gen_mark.py. -/
import Derived.Test.YtcdcpfcmhmhdjaaGenInt
namespace Go.Proofs.Ytcdcpfcmhmhdjaa
open Go.RowKit
set_option linter.unusedSimpArgs false
end Go.Proofs.Ytcdcpfcmhmhdjaa
