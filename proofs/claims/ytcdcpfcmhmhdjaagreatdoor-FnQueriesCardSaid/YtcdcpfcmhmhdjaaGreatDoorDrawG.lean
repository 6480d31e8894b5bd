/- The drawing of values: boxes that stand while the cursor moves; what outlives it. No program in sight. -/
import Derived.Test.YtcdcpfcmhmhdjaaGreatDoorDrawC
import Derived.Test.YtcdcpfcmhmhdjaaGreatDoorDrawX
import Derived.Test.YtcdcpfcmhmhdjaaGreatDoorDrawL
import Derived.Test.YtcdcpfcmhmhdjaaGreatDoorDrawR
namespace Go.Proofs.YtcdcpfcmhmhdjaaGreatDoor
open Go.RowKit Go.ChangeShapes Go.WideShapes Go.Deep
/-- A box stands. -/
def Std (t : TypeId) (B : Nat) (bc : Array Value) (w : World) : Prop := w.heap[B]? = some (.cells bc t)
section
variable {t : TypeId} {B g k : Nat} {bc : Array Value} {w w' : World}
theorem Std.new (w : World) : Std t w.heap.size bc (w.alloc (.cells bc t)) := heap_alloc_new _ _
theorem Std.lt (h : Std t B bc w) : B < w.heap.size := (Array.getElem?_eq_some_iff.1 h).1
theorem Std.gr (h : Std t B bc w) (k : Gr w w') : Std t B bc w' := (k.block B h.lt).trans h
theorem Std.dr (h : Std t B bc w) (hB : B ≠ g) (k : Dr g w w') : Std t B bc w' := (k.block B h.lt hB).trans h
theorem Std.set (h : Std t B bc w) {p : Addr} (hp : p.block ≠ B) (v : Value) : Std t B bc (w.setCell p v) := (Below.heap_setCell _ _ _ _ (Ne.symm hp)).trans h
theorem Std.put (h : Std t B bc w) {v : Value} {bc' : Array Value} (e : bc.setIfInBounds k v = bc') : Std t B bc' (w.setCell ⟨B, k, none⟩ v) := by
  subst e; exact heap_set h v
theorem Std.cell (h : Std t B bc w) {v : Value} (e : bc[k]? = some v) : w.cell? ⟨B, k, none⟩ = some v := by
  have h' : w.heap[B]? = some (.cells bc t) := h
  simp [World.cell?, h', e]
theorem Std.frz (h : Std t B bc w) (j : Nat) : w.frozen? ⟨B, j, none⟩ = false := by
  have h' : w.heap[B]? = some (.cells bc t) := h
  simp [World.frozen?, h']
end
theorem Chg.loc {g lo : Nat} {w w' : World} (k : Dr g w w') (hg : g < lo) : Loc lo w w' := ⟨k.size, fun b h1 h2 => k.block b h2 (by omega)⟩
section
variable {α : Type} {lo g : Nat} {R : World → Value → α → Prop} {w w' : World} {v : Value} {x : α}
theorem Fresh.dr (h : Fresh lo R w v x) (hg : g < lo) (k : Dr g w w') : Fresh lo R w' v x := h.loc (Chg.loc k hg)
theorem Fresh.set (h : Fresh lo R w v x) {p : Addr} (hp : p.block < lo) (u : Value) : Fresh lo R (w.setCell p u) v x := h.loc ((Loc.refl lo w).setCell hp u)
end
theorem OInts.fresh1 {lo : Nat} {w : World} {v : Value} {xs : List Int} (h : OInts lo w v xs) : Fresh lo RInts w v xs := fun _ k => (oints_keep h fun b h1 h2 => k.2 b h1 h2).reads
theorem PRows.fresh1 {lo hi : Nat} {w : World} {v : Value} {xs : List DRow} (h : PRows (In lo hi) w v xs) : Fresh lo RRows w v xs := OSl.fresh h fr_row fun h => rd_prows h
theorem TwoRow.fresh1 {lo : Nat} {w : World} {u x : Value} {cs : List DCond} {os : List Int} (h : TwoRow lo w u x cs os) : Fresh lo RConds w u cs ∧ Fresh lo RInts w x os := by
  constructor
  · intro w' k
    obtain ⟨F1, F2, h1, _, h3, _⟩ := h
    exact rd_pconds (h1.frame fr_cond fun b hb hl => k.2 b (h3 b hb).1.1 hl)
  · intro w' k
    obtain ⟨F1, F2, _, h2, _, h4⟩ := h
    exact rd_pints (h2.frame fr_int fun b hb hl => k.2 b (h4 b hb).1 hl)
end Go.Proofs.YtcdcpfcmhmhdjaaGreatDoor
