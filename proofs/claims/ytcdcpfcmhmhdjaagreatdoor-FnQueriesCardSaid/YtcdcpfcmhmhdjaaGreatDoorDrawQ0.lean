/- The drawing of values: stores above what was there. No program in sight. -/
import Derived.Test.YtcdcpfcmhmhdjaaGreatDoorDrawC
namespace Go.Proofs.YtcdcpfcmhmhdjaaGreatDoor
open Go.RowKit Go.ChangeShapes Go.WideShapes Go.Deep
theorem size_set (w : World) (p : Addr) (v : Value) : (w.setCell p v).heap.size = w.heap.size := by simp [World.setCell]
theorem Chg.setHigh {F : Nat → Prop} {w wr : World} (h : Chg F w wr) {p : Addr} (hp : w.heap.size ≤ p.block) (u : Value) : Chg F w (wr.setCell p u) :=
  ⟨h.os, h.tape, h.output, by rw [size_set]; exact h.size, fun b hb hn => (Below.heap_setCell _ _ _ _ (by omega)).trans (h.block b hb hn)⟩
end Go.Proofs.YtcdcpfcmhmhdjaaGreatDoor
