/- The law's own helpers: GenQuery. Written by gen_law.py. -/
import Derived.Test.YtcdcpfcmhmhdjaaGreatDoorGenCond
namespace Go.Proofs.YtcdcpfcmhmhdjaaGreatDoor
open Go.RowKit
set_option linter.unusedSimpArgs false
end Go.Proofs.YtcdcpfcmhmhdjaaGreatDoor
