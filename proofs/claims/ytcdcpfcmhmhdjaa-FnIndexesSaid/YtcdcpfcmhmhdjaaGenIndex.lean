/- The law's own helpers: GenIndex. Written by gen_law.py. -/
import Derived.Test.YtcdcpfcmhmhdjaaGenQuery
import Derived.Test.YtcdcpfcmhmhdjaaGenSpan
namespace Go.Proofs.Ytcdcpfcmhmhdjaa
open Go.RowKit
set_option linter.unusedSimpArgs false
end Go.Proofs.Ytcdcpfcmhmhdjaa
