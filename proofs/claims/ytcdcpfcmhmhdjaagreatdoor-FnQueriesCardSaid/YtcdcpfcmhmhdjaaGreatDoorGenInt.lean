/- The law's own helpers: GenInt. Written by gen_law.py. -/
import Derived.Test.YtcdcpfcmhmhdjaaGreatDoorPriv
namespace Go.Proofs.YtcdcpfcmhmhdjaaGreatDoor
open Go.RowKit
set_option linter.unusedSimpArgs false
theorem totL_eq {α : Type} (f : α → Nat) (xs : List α) : totL f xs = xs.length + sumT f xs := rfl
theorem RSlice.isSl {α : Type} {sz : Nat} {R : World → List Value → α → Prop} {w : World} {v : Value} {xs : List α} (h : RSlice sz R w v xs) : IsSl v := by
  obtain ⟨a, cap, rfl, _⟩ := h
  exact ⟨_, _, _, rfl⟩
end Go.Proofs.YtcdcpfcmhmhdjaaGreatDoor
