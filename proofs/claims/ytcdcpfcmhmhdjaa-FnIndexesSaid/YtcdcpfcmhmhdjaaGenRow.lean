/- The law's own helpers: GenRow. Written by gen_law.py. -/
import Derived.Test.YtcdcpfcmhmhdjaaGenInt
namespace Go.Proofs.Ytcdcpfcmhmhdjaa
open Go.RowKit
set_option linter.unusedSimpArgs false
end Go.Proofs.Ytcdcpfcmhmhdjaa
