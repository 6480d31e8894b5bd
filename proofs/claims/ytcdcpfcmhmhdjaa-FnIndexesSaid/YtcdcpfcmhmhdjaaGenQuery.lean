/- The law's own helpers: GenQuery. Written by gen_law.py. -/
import Derived.Test.YtcdcpfcmhmhdjaaGenCond
namespace Go.Proofs.Ytcdcpfcmhmhdjaa
open Go.RowKit
set_option linter.unusedSimpArgs false
end Go.Proofs.Ytcdcpfcmhmhdjaa
