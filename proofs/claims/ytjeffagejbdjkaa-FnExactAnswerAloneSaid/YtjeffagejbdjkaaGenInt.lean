/- The law's own helpers: GenInt. Written by gen_law.py. -/
import Derived.Test.YtjeffagejbdjkaaPriv
namespace Go.Proofs.Ytjeffagejbdjkaa
open Go.RowKit
set_option linter.unusedSimpArgs false
theorem totL_eq {α : Type} (f : α → Nat) (xs : List α) : totL f xs = xs.length + sumT f xs := rfl
theorem RSlice.isSl {α : Type} {sz : Nat} {R : World → List Value → α → Prop} {w : World} {v : Value} {xs : List α} (h : RSlice sz R w v xs) : IsSl v := by
  obtain ⟨a, cap, rfl, _⟩ := h
  exact ⟨_, _, _, rfl⟩
theorem laws_szIntS_gr (v : Value) (left : Int) (xs : List Int) (w : World) (hx : RInts w v xs) (h0 : 0 ≤ left) (h1 : left ≤ 1048576) :
    Calls Try.prog 30 #[v, .int .i64 left] w fun e w' => e = .returned (.int .i64 (szV xs.length left)) ∧ Gr w w' :=
  (laws_szIntS v left xs w hx h0 h1).mono fun _ _ h => ⟨h.1, h.2 ▸ Gr.refl _⟩
theorem laws_eqIntS_same (v u : Value) (xs : List Int) (w : World) (hx : RInts w v xs) (hy : RInts w u xs) :
    Calls Try.prog 36 #[v, u] w fun e w' => e = .returned (.bool true) ∧ Gr w w' :=
  (laws_eqIntS v u xs xs w hx hy).mono fun _ _ h => ⟨by rw [h.1]; simp [eqL], h.2⟩
theorem laws_toIntS_fresh (v : Value) (xs : List Int) (w : World) (hx : RInts w v xs) (hb : xs.length ≤ 4294967296) :
    Calls Try.prog 33 #[v] w fun e w' => ∃ u, e = .returned u ∧ IsSl u ∧ Fresh w.heap.size RInts w' u xs ∧ Gr w w' :=
  (laws_toIntS v xs w hx hb).mono fun _ _ ⟨u, h1, h2, h3⟩ => ⟨u, h1, h2.isSl, h2.fresh, h3⟩
theorem laws_toIntS_own (v : Value) (xs : List Int) (w : World) (hx : RInts w v xs) (hb : xs.length ≤ 4294967296) :
    Calls Try.prog 33 #[v] w fun e w' => ∃ u, e = .returned u ∧ IsSl u ∧ Gr w w' ∧ PInts (In w.heap.size w'.heap.size) w' u xs :=
  (laws_toIntS v xs w hx hb).mono fun _ _ ⟨u, h1, h2, h3⟩ => ⟨u, h1, h2.isSl, h3, h2.priv⟩
end Go.Proofs.Ytjeffagejbdjkaa
