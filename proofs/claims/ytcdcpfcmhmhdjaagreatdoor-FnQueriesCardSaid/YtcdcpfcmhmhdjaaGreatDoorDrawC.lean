/- The drawing of values: what outlives it. No program in sight. -/
import Derived.Test.YtcdcpfcmhmhdjaaGreatDoorDraw
import Derived.Test.YtcdcpfcmhmhdjaaGreatDoorOwn
namespace Go.Proofs.YtcdcpfcmhmhdjaaGreatDoor
open Go.RowKit Go.ChangeShapes Go.WideShapes Go.Deep
theorem Chg.belowT {F : Nat → Prop} {w w1 w2 : World} {lo : Nat} (h : Chg F w w1) (k : Below lo w1 w2) (hl : w.heap.size ≤ lo) : Chg F w w2 :=
  ⟨k.os.trans h.os, k.tape.trans h.tape, k.output.trans h.output, Nat.le_trans h.size k.size, fun b hb hn => (k.block b (by omega)).trans (h.block b hb hn)⟩
theorem own_dr {w w' : World} {g lo t sz n : Nat} {v : Value} {cs : List Value} (h : w.ownsRow lo t sz v n cs) (hg : g < lo) (k : Dr g w w') : w'.ownsRow lo t sz v n cs := by
  obtain ⟨h1, h2⟩ := h
  refine ⟨h1, ?_⟩
  rcases h2 with h0 | ⟨b, cap, cur, hv, hb, hgg, r⟩
  · exact Or.inl h0
  · exact Or.inr ⟨b, cap, cur, hv, hb, by rw [k.block b (Array.getElem?_eq_some_iff.1 hgg).1 (by omega)]; exact hgg, r⟩
end Go.Proofs.YtcdcpfcmhmhdjaaGreatDoor
