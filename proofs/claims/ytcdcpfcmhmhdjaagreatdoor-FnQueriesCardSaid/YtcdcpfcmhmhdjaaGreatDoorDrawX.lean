/- The drawing of values: a variable's box beside the result's. No program in sight. -/
import Derived.Test.YtcdcpfcmhmhdjaaGreatDoorDrawC
import Derived.Test.YtcdcpfcmhmhdjaaGreatDoorDrawQ0
namespace Go.Proofs.YtcdcpfcmhmhdjaaGreatDoor
open Go.RowKit Go.ChangeShapes Go.WideShapes Go.Deep
/-- The result's box R (rc), the variable's box B (bc), and what the drawing has changed since w. -/
structure BX (t : TypeId) (w : World) (g R B : Nat) (rc bc : Array Value) (wr : World) : Prop where
  r : wr.heap[R]? = some (.cells rc t)
  b : wr.heap[B]? = some (.cells bc t)
  lt : g < w.heap.size ∧ w.heap.size ≤ R ∧ R < B
  cur : Cur wr g
  dr : Dr g w wr
section
variable {t : TypeId} {w wr w' : World} {g R B : Nat} {rc bc : Array Value}
theorem BX.ltB (h : BX t w g R B rc bc wr) : B < wr.heap.size := (Array.getElem?_eq_some_iff.1 h.b).1
theorem BX.draw (h : BX t w g R B rc bc wr) (k : Cur w' g ∧ Dr g wr w') : BX t w g R B rc bc w' := by
  have hB := h.ltB
  have hl := h.lt
  exact ⟨by rw [k.2.block R (by omega) (by omega)]; exact h.r, by rw [k.2.block B hB (by omega)]; exact h.b, h.lt, k.1, h.dr.trans k.2⟩
theorem BX.gr (h : BX t w g R B rc bc wr) (k : Gr wr w') : BX t w g R B rc bc w' := by
  have hB := h.ltB
  have hl := h.lt
  exact ⟨by rw [k.block R (by omega)]; exact h.r, by rw [k.block B hB]; exact h.b, h.lt, h.cur.gr k, h.dr.belowT k h.dr.size⟩
theorem BX.below (h : BX t w g R B rc bc wr) {lo : Nat} (hlo : B < lo) (k : Below lo wr w') : BX t w g R B rc bc w' := by
  have hl := h.lt
  exact ⟨by rw [k.block R (by omega)]; exact h.r, by rw [k.block B hlo]; exact h.b, h.lt, h.cur.below (by omega) k, h.dr.belowT k (by omega)⟩
theorem BX.set (h : BX t w g R B rc bc wr) {k : Nat} (v : Value) {bc' : Array Value} (e : bc.setIfInBounds k v = bc') : BX t w g R B rc bc' (wr.setCell ⟨B, k, none⟩ v) := by
  have hl := h.lt
  have hs := heap_set (k := k) h.b v
  rw [e] at hs
  refine ⟨by rw [Below.heap_setCell _ _ _ _ (by dsimp only; omega)]; exact h.r, hs, h.lt, h.cur.keep fun b hb => Below.heap_setCell _ _ _ _ (by dsimp only; omega), ?_⟩
  exact ⟨h.dr.os, h.dr.tape, h.dr.output, by rw [size_set]; exact h.dr.size, fun b hb hn => (Below.heap_setCell _ _ _ _ (by dsimp only; omega)).trans (h.dr.block b hb hn)⟩
/-- A store far above w, into neither box. -/
theorem BX.other (h : BX t w g R B rc bc wr) {p : Addr} (hp : R < p.block) (hB : p.block ≠ B) (v : Value) : BX t w g R B rc bc (wr.setCell p v) := by
  have hl := h.lt
  refine ⟨by rw [Below.heap_setCell _ _ _ _ (by omega)]; exact h.r, by rw [Below.heap_setCell _ _ _ _ (by omega)]; exact h.b, h.lt, h.cur.keep fun b hb => Below.heap_setCell _ _ _ _ (by omega), ?_⟩
  exact ⟨h.dr.os, h.dr.tape, h.dr.output, by rw [size_set]; exact h.dr.size, fun b hb hn => (Below.heap_setCell _ _ _ _ (by omega)).trans (h.dr.block b hb hn)⟩
theorem BX.cell (h : BX t w g R B rc bc wr) {k : Nat} {v : Value} (e : bc[k]? = some v) : wr.cell? ⟨B, k, none⟩ = some v := by simp [World.cell?, h.b, e]
theorem BX.cellR (h : BX t w g R B rc bc wr) {k : Nat} {v : Value} (e : rc[k]? = some v) : wr.cell? ⟨R, k, none⟩ = some v := by simp [World.cell?, h.r, e]
theorem BX.frz (h : BX t w g R B rc bc wr) (j : Nat) : wr.frozen? ⟨B, j, none⟩ = false ∧ wr.frozen? ⟨R, j, none⟩ = false := by
  constructor <;> simp [World.frozen?, h.b, h.r]
end
theorem two_other {wr : World} {q R : Nat} (h : q ≠ R) {a b : Nat} {x y : Value} : ((wr.setCell ⟨R, a, none⟩ x).setCell ⟨R, b, none⟩ y).heap[q]? = wr.heap[q]? :=
  (Below.heap_setCell _ _ _ _ h).trans (Below.heap_setCell _ _ _ _ h)
end Go.Proofs.YtcdcpfcmhmhdjaaGreatDoor
