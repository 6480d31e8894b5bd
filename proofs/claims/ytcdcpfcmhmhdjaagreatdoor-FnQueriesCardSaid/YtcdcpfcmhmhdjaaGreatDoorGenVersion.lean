/- The law's own helpers: GenVersion. Written by gen_law.py. -/
import Derived.Test.YtcdcpfcmhmhdjaaGreatDoorGenInt
namespace Go.Proofs.YtcdcpfcmhmhdjaaGreatDoor
open Go.RowKit
set_option linter.unusedSimpArgs false
end Go.Proofs.YtcdcpfcmhmhdjaaGreatDoor
