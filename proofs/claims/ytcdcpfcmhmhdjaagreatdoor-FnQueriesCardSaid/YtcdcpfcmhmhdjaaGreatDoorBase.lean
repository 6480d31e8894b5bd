/- Words for what a value stands for in memory, and small laws on them. No program in sight. -/
import Derived.Test.YtcdcpfcmhmhdjaaGreatDoorRows
import Derived.WalkKit
import Derived.WalkSpells
import Derived.WalkLawsBesides
import Derived.ProofKit
import Derived.OpenShut
import Derived.ShutString
import Derived.ChangeOld
import Derived.Below
import Derived.Lib.Hide
import Derived.Lib.SmallJoins
import Derived.BigQuiet
import Derived.Deep.QuietTactic
import Derived.Deep.RegionHeld3
import Derived.Deep.DeepFit
import Derived.Deep.LoopGhost
import Derived.Outline
namespace Go.Proofs.YtcdcpfcmhmhdjaaGreatDoor
open Go.ChangeShapes Go.WideShapes Go.RowKit Go.Deep

/-- The number fits int. -/
def I64 (n : Int) : Prop := -9223372036854775808 ≤ n ∧ n ≤ 9223372036854775807
theorem I64.lo {n : Int} (h : I64 n) : -9223372036854775808 ≤ n := h.1
theorem I64.hi {n : Int} (h : I64 n) : n ≤ 9223372036854775807 := h.2
theorem i64_of_wf {n : Int} (h : (Lit.int .i64 n).wf = true) : I64 n := by
  have := bounds_i64 h
  unfold I64; omega

/-! ### What reads as data -/
/-- A row of cells. -/
def CellsAt (w : World) (b off : Nat) (cs : List Value) : Prop := ∀ j (h : j < cs.length), w.cell? ⟨b, off + j, none⟩ = some cs[j]
/-- v is a slice whose elements, each of sz cells, read as xs. -/
def RSlice {α : Type} (sz : Nat) (R : World → List Value → α → Prop) (w : World) (v : Value) (xs : List α) : Prop :=
  ∃ a cap, v = .slice a xs.length cap ∧ xs.length ≤ cap ∧ cap ≤ 9223372036854775807 ∧ ∀ i (h : i < xs.length), ∃ b off cs, a = some ⟨b, off, none⟩ ∧ cs.length = sz ∧ R w cs xs[i] ∧ CellsAt w b (off + i * sz) cs
def RInt (_ : World) (cs : List Value) (n : Int) : Prop := cs = [.int .i64 n] ∧ I64 n
abbrev RInts := RSlice 1 RInt

/-- A slice, in its form. -/
def IsSl (v : Value) : Prop := ∃ a n c, v = .slice a n c
/-- Nothing that was there has changed. -/
abbrev Gr (w w' : World) : Prop := Below w.heap.size w w'
theorem Gr.refl (w : World) : Gr w w := Below.refl _ _
theorem Gr.trans {a b c : World} (h : Gr a b) (k : Gr b c) : Gr a c := Below.trans h (Below.mono k h.size)
theorem Gr.trans' {a b c : World} (h : Gr a b) (k : Below a.heap.size b c) : Gr a c := Below.trans h k
theorem Gr.alloc {a w : World} (h : Gr a w) (o : Obj) : Gr a (w.alloc o) := Below.alloc h h.size o
theorem Gr.drew {a w : World} (h : Gr a w) : Gr a w.drew := Below.drew h
theorem Gr.setCell {a w : World} (h : Gr a w) {p : Addr} (hp : a.heap.size ≤ p.block) (u : Value) : Gr a (w.setCell p u) := Below.setCell h hp u
theorem Gr.drewN {a w : World} (h : Gr a w) (n : Nat) : Gr a (w.drewN n) := ⟨h.os, h.tape, h.output, h.size, h.block⟩
theorem Gr.cellv {w w' : World} (h : Gr w w') {p : Addr} {v : Value} (hv : w.cell? p = some v) : w'.cell? p = some v := by
  rw [Below.cell h (World.block_lt_of_cell? w p hv)]; exact hv
theorem CellsAt.mono {w w' : World} (h : Gr w w') {b off : Nat} {cs : List Value} (hc : CellsAt w b off cs) : CellsAt w' b off cs :=
  fun j hj => h.cellv (hc j hj)
/-- A reading of elements that outlives new memory. -/
def Keeps {α : Type} (R : World → List Value → α → Prop) : Prop := ∀ w w' cs x, Gr w w' → R w cs x → R w' cs x
theorem keeps_int : Keeps RInt := fun _ _ _ _ _ h => h
theorem RSlice.mono {α : Type} {sz : Nat} {R : World → List Value → α → Prop} (hR : Keeps R) {w w' : World} (h : Gr w w') {v : Value} {xs : List α} (hx : RSlice sz R w v xs) : RSlice sz R w' v xs := by
  obtain ⟨a, cap, hv, h1, h2, hc⟩ := hx
  refine ⟨a, cap, hv, h1, h2, fun i hi => ?_⟩
  obtain ⟨b, off, cs, ha, hl, hr, hcc⟩ := hc i hi
  exact ⟨b, off, cs, ha, hl, hR _ _ _ _ h hr, hcc.mono h⟩
theorem RInts.mono {w w' : World} (h : Gr w w') {v : Value} {xs : List Int} (hx : RInts w v xs) : RInts w' v xs := RSlice.mono keeps_int h hx
/-- An integer slice, opened for a walk. -/
def IntsAt (w : World) (a : Option Addr) (xs : List Int) : Prop := ∀ i (h : i < xs.length), ∃ b off, a = some ⟨b, off, none⟩ ∧ w.cell? ⟨b, off + i, none⟩ = some (.int .i64 xs[i]) ∧ I64 xs[i]
theorem RInts.open {w : World} {v : Value} {xs : List Int} (h : RInts w v xs) : ∃ a cap, v = .slice a xs.length cap ∧ xs.length ≤ cap ∧ cap ≤ 9223372036854775807 ∧ IntsAt w a xs := by
  obtain ⟨a, cap, hv, h1, h2, hc⟩ := h
  refine ⟨a, cap, hv, h1, h2, fun i hi => ?_⟩
  obtain ⟨b, off, cs, ha, hl, ⟨hr, hi64⟩, hcc⟩ := hc i hi
  subst hr
  refine ⟨b, off, ha, ?_, hi64⟩
  have := hcc 0 (by simp)
  simpa using this
theorem IntsAt.mono {w w' : World} (h : Gr w w') {a : Option Addr} {xs : List Int} (hx : IntsAt w a xs) : IntsAt w' a xs := fun i hi => by
  obtain ⟨b, off, ha, hc, hn⟩ := hx i hi
  exact ⟨b, off, ha, h.cellv hc, hn⟩

/-- To halt a walk at an operation. -/
theorem stopHere {p : Prop} (h : Hid p) : p := h
theorem goOn {p : Prop} (h : p) : Hid p := h

/-! ### The data of the program -/
/-- A condition of a query. -/
structure DCond where
  field : Int
  low : Int
  high : Int
structure DRow where
  id : Int
  vals : List Int
structure DQuery where
  id : Int
  tenant : Int
  conds : List DCond
  out : List Int
structure DSpan where
  lo : Int
  hi : Int
  set : List Int
structure DVersion where
  id : Int
  vals : List Int
  born : Int
  died : Int
structure DIndex where
  queries : List DQuery
  fields : List (List DSpan)
structure DStore where
  segs : List (List DVersion)
  now : Int
/-- What the cells of each stand for. -/
def RCond (_ : World) (cs : List Value) (c : DCond) : Prop := cs = [.int .i64 c.field, .int .i64 c.low, .int .i64 c.high] ∧ I64 c.field ∧ I64 c.low ∧ I64 c.high
def RRow (w : World) (cs : List Value) (r : DRow) : Prop := ∃ u, cs = [.int .i64 r.id, u] ∧ I64 r.id ∧ RInts w u r.vals
abbrev RConds := RSlice 3 RCond
def RQuery (w : World) (cs : List Value) (q : DQuery) : Prop := ∃ u x, cs = [.int .i64 q.id, .int .i64 q.tenant, u, x] ∧ I64 q.id ∧ I64 q.tenant ∧ RConds w u q.conds ∧ RInts w x q.out
def RSpan (w : World) (cs : List Value) (s : DSpan) : Prop := ∃ u, cs = [.int .i64 s.lo, .int .i64 s.hi, u] ∧ I64 s.lo ∧ I64 s.hi ∧ RInts w u s.set
def RVersion (w : World) (cs : List Value) (v : DVersion) : Prop := ∃ u, cs = [.int .i64 v.id, u, .int .i64 v.born, .int .i64 v.died] ∧ I64 v.id ∧ RInts w u v.vals ∧ I64 v.born ∧ I64 v.died
abbrev RRows := RSlice 2 RRow
abbrev RQueries := RSlice 4 RQuery
abbrev RSpans := RSlice 3 RSpan
abbrev RVersions := RSlice 4 RVersion
def ROf {α : Type} (R : World → Value → α → Prop) (w : World) (cs : List Value) (x : α) : Prop := ∃ v, cs = [v] ∧ R w v x
abbrev RSpanss := RSlice 1 (ROf RSpans)
abbrev RVersionss := RSlice 1 (ROf RVersions)
def RIndex (w : World) (cs : List Value) (x : DIndex) : Prop := ∃ u y, cs = [u, y] ∧ RQueries w u x.queries ∧ RSpanss w y x.fields
def RStore (w : World) (cs : List Value) (s : DStore) : Prop := ∃ u, cs = [u, .int .i64 s.now] ∧ RVersionss w u s.segs ∧ I64 s.now
theorem len_int : ∀ w cs x, RInt w cs x → cs.length = 1 := fun _ _ _ h => by rw [h.1]; rfl
theorem len_cond : ∀ w cs x, RCond w cs x → cs.length = 3 := fun _ _ _ h => by rw [h.1]; rfl
theorem len_row : ∀ w cs x, RRow w cs x → cs.length = 2 := fun _ _ _ ⟨_, h, _⟩ => by rw [h]; rfl
theorem len_query : ∀ w cs x, RQuery w cs x → cs.length = 4 := fun _ _ _ ⟨_, _, h, _⟩ => by rw [h]; rfl
theorem len_span : ∀ w cs x, RSpan w cs x → cs.length = 3 := fun _ _ _ ⟨_, h, _⟩ => by rw [h]; rfl
theorem len_version : ∀ w cs x, RVersion w cs x → cs.length = 4 := fun _ _ _ ⟨_, h, _⟩ => by rw [h]; rfl
theorem len_of {α : Type} {R : World → Value → α → Prop} : ∀ w cs x, ROf R w cs x → cs.length = 1 := fun _ _ _ ⟨_, h, _⟩ => by rw [h]; rfl
theorem keeps_cond : Keeps RCond := fun _ _ _ _ _ h => h
theorem keeps_row : Keeps RRow := fun _ _ _ _ hg ⟨u, h1, h2, h3⟩ => ⟨u, h1, h2, h3.mono hg⟩
theorem keeps_query : Keeps RQuery := fun _ _ _ _ hg ⟨u, x, h1, h2, h3, h4, h5⟩ => ⟨u, x, h1, h2, h3, RSlice.mono keeps_cond hg h4, h5.mono hg⟩
theorem keeps_span : Keeps RSpan := fun _ _ _ _ hg ⟨u, h1, h2, h3, h4⟩ => ⟨u, h1, h2, h3, h4.mono hg⟩
theorem keeps_version : Keeps RVersion := fun _ _ _ _ hg ⟨u, h1, h2, h3, h4⟩ => ⟨u, h1, h2, h3.mono hg, h4⟩
theorem keeps_of {α : Type} {sz : Nat} {R : World → List Value → α → Prop} (h : Keeps R) : Keeps (ROf (RSlice sz R)) := fun _ _ _ _ hg ⟨v, h1, h2⟩ => ⟨v, h1, RSlice.mono h hg h2⟩
theorem keeps_index : Keeps RIndex := fun _ _ _ _ hg ⟨u, y, h1, h2, h3⟩ => ⟨u, y, h1, RSlice.mono keeps_query hg h2, RSlice.mono (keeps_of keeps_span) hg h3⟩
theorem keeps_store : Keeps RStore := fun _ _ _ _ hg ⟨u, h1, h2, h3⟩ => ⟨u, h1, RSlice.mono (keeps_of keeps_version) hg h2, h3⟩

/-! ### Readings that hang on memory from lo on alone -/
/-- From block lo on, what was there is as it was. -/
def Loc (lo : Nat) (w w' : World) : Prop := w.heap.size ≤ w'.heap.size ∧ ∀ b, lo ≤ b → b < w.heap.size → w'.heap[b]? = w.heap[b]?
theorem Loc.refl (lo : Nat) (w : World) : Loc lo w w := ⟨Nat.le_refl _, fun _ _ _ => rfl⟩
theorem Loc.of_gr {lo : Nat} {w w' : World} (h : Gr w w') : Loc lo w w' := ⟨h.size, fun b _ hb => h.block b hb⟩
theorem Loc.trans {lo : Nat} {a b c : World} (h : Loc lo a b) (k : Loc lo b c) : Loc lo a c := ⟨Nat.le_trans h.1 k.1, fun i hi hl => (k.2 i hi (Nat.lt_of_lt_of_le hl h.1)).trans (h.2 i hi hl)⟩
theorem Loc.le {lo lo' : Nat} {w w' : World} (h : Loc lo' w w') (hl : lo' ≤ lo) : Loc lo w w' := ⟨h.1, fun b hb => h.2 b (by omega)⟩
theorem Loc.setCell {lo : Nat} {w w' : World} (h : Loc lo w w') {p : Addr} (hp : p.block < lo) (u : Value) : Loc lo w (w'.setCell p u) :=
  ⟨by simp [World.setCell]; exact h.1, fun b hb hl => by rw [Below.heap_setCell _ _ _ _ (by omega)]; exact h.2 b hb hl⟩
theorem Loc.drew {lo : Nat} {w w' : World} (h : Loc lo w w') : Loc lo w w'.drew := h
def Fresh {α : Type} (lo : Nat) (R : World → Value → α → Prop) (w : World) (v : Value) (x : α) : Prop := ∀ w', Loc lo w w' → R w' v x
theorem Fresh.reads {α : Type} {lo : Nat} {R : World → Value → α → Prop} {w : World} {v : Value} {x : α} (h : Fresh lo R w v x) : R w v x := h w (Loc.refl _ _)
theorem Fresh.loc {α : Type} {lo : Nat} {R : World → Value → α → Prop} {w w' : World} {v : Value} {x : α} (h : Fresh lo R w v x) (hl : Loc lo w w') : Fresh lo R w' v x := fun w'' k => h w'' (hl.trans k)
theorem Fresh.mono {α : Type} {lo : Nat} {R : World → Value → α → Prop} {w w' : World} {v : Value} {x : α} (h : Fresh lo R w v x) (hg : Gr w w') : Fresh lo R w' v x := h.loc (Loc.of_gr hg)
theorem Fresh.le {α : Type} {lo lo' : Nat} {R : World → Value → α → Prop} {w : World} {v : Value} {x : α} (h : Fresh lo R w v x) (hl : lo' ≤ lo) : Fresh lo' R w v x := fun w' k => h w' (k.le hl)
theorem Loc.cell {lo : Nat} {w w' : World} (h : Loc lo w w') {b o : Nat} (hb : lo ≤ b) {v : Value} (hv : w.cell? ⟨b, o, none⟩ = some v) : w'.cell? ⟨b, o, none⟩ = some v := by
  rw [World.cell?_of_block (w := w) (h.2 b hb (World.block_lt_of_cell? w _ hv))]; exact hv
/-- A row while it is filled: of n elements, each of sz cells, the first k are as cs says, the rest as z. -/
def fillC (sz n k : Nat) (z : List Value) (cs : Nat → List Value) : List Value := (List.range (n * sz)).map fun p => if p / sz < k then (cs (p / sz)).getD (p % sz) undef else z.getD (p % sz) undef
theorem fillC_get (sz n k : Nat) (z : List Value) (cs : Nat → List Value) (p : Nat) : (fillC sz n k z cs)[p]? = if p < n * sz then some (if p / sz < k then (cs (p / sz)).getD (p % sz) undef else z.getD (p % sz) undef) else none := by
  unfold fillC; by_cases h : p < n * sz <;> simp [h]
theorem fillC_len (sz n k : Nat) (z : List Value) (cs : Nat → List Value) : (fillC sz n k z cs).length = n * sz := by simp [fillC]
/-- cs, but at k. -/
def updC (cs : Nat → List Value) (k : Nat) (c : List Value) : Nat → List Value := fun i => if i = k then c else cs i
theorem updC_at (cs : Nat → List Value) (k : Nat) (c : List Value) : updC cs k c k = c := by simp [updC]
theorem updC_ne (cs : Nat → List Value) {k i : Nat} (c : List Value) (h : i ≠ k) : updC cs k c i = cs i := by simp [updC, h]
theorem fillC_set1 {n k : Nat} {z : List Value} {cs : Nat → List Value} {a : Value} (h : k < n) : (fillC 1 n k z cs).toArray.setIfInBounds k a = (fillC 1 n (k + 1) z (updC cs k [a])).toArray := by
  apply Array.ext'; apply List.ext_getElem?; intro p
  simp only [List.setIfInBounds_toArray]
  rw [List.getElem?_set, fillC_len, fillC_get, fillC_get]
  by_cases e : k = p
  · subst e; simp [h, updC, Nat.mod_one]
  · simp only [if_neg e, Nat.div_one, Nat.mul_one, Nat.mod_one, updC, if_neg (Ne.symm e)]
    by_cases h1 : p < n <;> simp [h1]
    by_cases h2 : p < k <;> simp [h2, show p < k + 1 ↔ p < k from by omega]
theorem fillC_set2 {n k : Nat} {z : List Value} {cs : Nat → List Value} {a b : Value} (h : k < n) : ((fillC 2 n k z cs).toArray.setIfInBounds (k * 2) a).setIfInBounds (k * 2 + 1) b = (fillC 2 n (k + 1) z (updC cs k [a, b])).toArray := by
  apply Array.ext'; apply List.ext_getElem?; intro p
  simp only [List.setIfInBounds_toArray]
  rw [List.getElem?_set, List.getElem?_set, List.length_set, fillC_len, fillC_get, fillC_get]
  by_cases e0 : p = k * 2
  · subst e0; simp [show k * 2 < n * 2 from by omega, updC, show k * 2 / 2 = k from by omega, show k * 2 % 2 = 0 from by omega]
  · by_cases e1 : p = k * 2 + 1
    · subst e1; simp [show k * 2 + 1 < n * 2 from by omega, updC, show (k * 2 + 1) / 2 = k from by omega, show (k * 2 + 1) % 2 = 1 from by omega]
    · simp only [if_neg (Ne.symm e0), if_neg (Ne.symm e1), updC, if_neg (show ¬ p / 2 = k from by omega)]
      by_cases h1 : p < n * 2 <;> simp [h1]
      by_cases h2 : p / 2 < k <;> simp [h2, show p / 2 < k + 1 ↔ p / 2 < k from by omega]
theorem fillC_set3 {n k : Nat} {z : List Value} {cs : Nat → List Value} {a b c : Value} (h : k < n) : (((fillC 3 n k z cs).toArray.setIfInBounds (k * 3) a).setIfInBounds (k * 3 + 1) b).setIfInBounds (k * 3 + 2) c = (fillC 3 n (k + 1) z (updC cs k [a, b, c])).toArray := by
  apply Array.ext'; apply List.ext_getElem?; intro p
  simp only [List.setIfInBounds_toArray]
  rw [List.getElem?_set, List.getElem?_set, List.getElem?_set, List.length_set, List.length_set, fillC_len, fillC_get, fillC_get]
  by_cases e0 : p = k * 3
  · subst e0; simp [show k * 3 < n * 3 from by omega, updC, show k * 3 / 3 = k from by omega, show k * 3 % 3 = 0 from by omega]
  · by_cases e1 : p = k * 3 + 1
    · subst e1; simp [show k * 3 + 1 < n * 3 from by omega, updC, show (k * 3 + 1) / 3 = k from by omega, show (k * 3 + 1) % 3 = 1 from by omega]
    · by_cases e2 : p = k * 3 + 2
      · subst e2; simp [show k * 3 + 2 < n * 3 from by omega, updC, show (k * 3 + 2) / 3 = k from by omega, show (k * 3 + 2) % 3 = 2 from by omega]
      · simp only [if_neg (Ne.symm e0), if_neg (Ne.symm e1), if_neg (Ne.symm e2), updC, if_neg (show ¬ p / 3 = k from by omega)]
        by_cases h1 : p < n * 3 <;> simp [h1]
        by_cases h2 : p / 3 < k <;> simp [h2, show p / 3 < k + 1 ↔ p / 3 < k from by omega]
theorem fillC_set4 {n k : Nat} {z : List Value} {cs : Nat → List Value} {a b c d : Value} (h : k < n) : ((((fillC 4 n k z cs).toArray.setIfInBounds (k * 4) a).setIfInBounds (k * 4 + 1) b).setIfInBounds (k * 4 + 2) c).setIfInBounds (k * 4 + 3) d = (fillC 4 n (k + 1) z (updC cs k [a, b, c, d])).toArray := by
  apply Array.ext'; apply List.ext_getElem?; intro p
  simp only [List.setIfInBounds_toArray]
  rw [List.getElem?_set, List.getElem?_set, List.getElem?_set, List.getElem?_set, List.length_set, List.length_set, List.length_set, fillC_len, fillC_get, fillC_get]
  by_cases e0 : p = k * 4
  · subst e0; simp [show k * 4 < n * 4 from by omega, updC, show k * 4 / 4 = k from by omega, show k * 4 % 4 = 0 from by omega]
  · by_cases e1 : p = k * 4 + 1
    · subst e1; simp [show k * 4 + 1 < n * 4 from by omega, updC, show (k * 4 + 1) / 4 = k from by omega, show (k * 4 + 1) % 4 = 1 from by omega]
    · by_cases e2 : p = k * 4 + 2
      · subst e2; simp [show k * 4 + 2 < n * 4 from by omega, updC, show (k * 4 + 2) / 4 = k from by omega, show (k * 4 + 2) % 4 = 2 from by omega]
      · by_cases e3 : p = k * 4 + 3
        · subst e3; simp [show k * 4 + 3 < n * 4 from by omega, updC, show (k * 4 + 3) / 4 = k from by omega, show (k * 4 + 3) % 4 = 3 from by omega]
        · simp only [if_neg (Ne.symm e0), if_neg (Ne.symm e1), if_neg (Ne.symm e2), if_neg (Ne.symm e3), updC, if_neg (show ¬ p / 4 = k from by omega)]
          by_cases h1 : p < n * 4 <;> simp [h1]
          by_cases h2 : p / 4 < k <;> simp [h2, show p / 4 < k + 1 ↔ p / 4 < k from by omega]

theorem fillC_zero {z : Value} {sz : Nat} (hz : z.cells.size = sz) (n : Nat) (cs : Nat → List Value) : madeCells z.cells (n * sz) = (fillC sz n 0 z.cells.toList cs).toArray := by
  apply Array.ext'
  apply List.ext_getElem?
  intro p
  simp only
  rw [fillC_get]
  by_cases h : p < n * sz
  · have hs : 0 < sz := Nat.pos_of_ne_zero (fun e => by subst e; simp at h)
    have hm : p % sz < z.cells.size := by rw [hz]; exact Nat.mod_lt _ hs
    simp only [madeCells, hz, Array.toList_map, Array.toList_range, List.getElem?_map, List.getElem?_range h, Option.map_some, if_pos h, Nat.not_lt_zero, if_false]
    rw [getElem!_pos z.cells _ hm]
    simp [hm]
  · simp [madeCells, h]
theorem make_fill {P : Program} {t e : TypeId} {z : Value} {sz bytes : Nat} (ht : P.underlying t = some (.slice e)) (hi : (P.info? e).map (fun i => (i.zero, i.size, i.bytes)) = some (some z, sz, bytes)) (hz : z.cells.size = sz) (hby : bytes ≤ 64)
    (w : World) (n : Nat) (hb : n ≤ 4294967296) (cs : Nat → List Value) :
    (Instr.makeSlice t (.int .i64 n) (.int .i64 n)).run P w = .ok (.slice (some ⟨w.heap.size, 0, none⟩) n n) (w.alloc (.cells (fillC sz n 0 z.cells.toList cs).toArray e)) := by
  obtain ⟨i, hi, hz0, hs, hbs⟩ := info_parts hi
  have hmul : (i.bytes : Int) * (n : Int) ≤ 281474976710656 := by
    rw [hbs]
    have h1 : bytes * n ≤ 64 * 4294967296 := Nat.mul_le_mul hby hb
    have h2 : ((bytes * n : Nat) : Int) ≤ 281474976710656 := by omega
    rwa [Int.natCast_mul] at h2
  have h := run_make (P := P) w t e i _ ht hi hz0 .i64 .i64 (n : Int) n (by omega) (by omega) hmul (by omega)
  rw [h, hs, Int.toNat_natCast, fillC_zero hz n cs]
theorem fill_cell {w : World} {g sz n k p : Nat} {z : List Value} {cs : Nat → List Value} {e : TypeId} (hg : w.heap[g]? = some (.cells (fillC sz n k z cs).toArray e (0, 0))) (hp : p < n * sz) : ∃ x, w.cell? ⟨g, p, none⟩ = some x := by
  refine ⟨_, by simp [World.cell?, hg, fillC_get, hp]; rfl⟩

/-- The first k elements stand for those of xs, whatever becomes of memory below lo. -/
def ElemsTo {α : Type} (R : World → List Value → α → Prop) (lo : Nat) (w : World) (xs : List α) (k : Nat) (cs : Nat → List Value) : Prop := ∀ w', Loc lo w w' → ∀ i (h : i < xs.length), i < k → R w' (cs i) xs[i]
theorem ElemsTo.zero {α : Type} {R : World → List Value → α → Prop} {lo : Nat} {w : World} {xs : List α} {cs : Nat → List Value} : ElemsTo R lo w xs 0 cs := fun _ _ _ _ h => absurd h (Nat.not_lt_zero _)
theorem ElemsTo.step {α : Type} {R : World → List Value → α → Prop} {lo : Nat} {w W : World} {xs : List α} {k : Nat} {cs : Nat → List Value} (h : ElemsTo R lo w xs k cs) (hl : Loc lo w W) {c : List Value} (hk : k < xs.length) (hc : ∀ w', Loc lo W w' → R w' c xs[k]) :
    ElemsTo R lo W xs (k + 1) (updC cs k c) := fun w' hw i hi hik => by
  by_cases e : i = k
  · subst e; rw [updC_at]; exact hc w' hw
  · rw [updC_ne cs c e]; exact h w' (hl.trans hw) i hi (by omega)
theorem fill_slice {α : Type} {R : World → List Value → α → Prop} {lo g sz : Nat} {w : World} {xs : List α} {z : List Value} {cs : Nat → List Value} {e : TypeId} (hR : ∀ w cs x, R w cs x → cs.length = sz)
    (hg : w.heap[g]? = some (.cells (fillC sz xs.length xs.length z cs).toArray e (0, 0))) (hcs : ElemsTo R (g + 1) w xs xs.length cs) (hlo : lo ≤ g) (hb : xs.length ≤ 9223372036854775807) :
    Fresh lo (RSlice sz R) w (.slice (some ⟨g, 0, none⟩) xs.length xs.length) xs := fun w' hw => by
  refine ⟨some ⟨g, 0, none⟩, xs.length, rfl, Nat.le_refl _, hb, fun i hi => ⟨g, 0, cs i, rfl, hR _ _ _ (hcs w' (hw.le (by omega)) i hi hi), hcs w' (hw.le (by omega)) i hi hi, fun j hj => ?_⟩⟩
  have hlen := hR _ _ _ (hcs w' (hw.le (by omega)) i hi hi)
  have hlt := (Array.getElem?_eq_some_iff.1 hg).1
  have hg' : w'.heap[g]? = some (.cells (fillC sz xs.length xs.length z cs).toArray e (0, 0)) := by rw [hw.2 g hlo hlt]; exact hg
  have hs : 0 < sz := by omega
  have hjs : j < sz := by omega
  have hp : i * sz + j < xs.length * sz := by
    have : (i + 1) * sz ≤ xs.length * sz := Nat.mul_le_mul_right _ hi
    rw [Nat.add_mul] at this; omega
  have hd : (i * sz + j) / sz = i := by rw [Nat.mul_comm, Nat.mul_add_div hs, Nat.div_eq_of_lt hjs]; rfl
  have hm : (i * sz + j) % sz = j := by rw [Nat.mul_comm, Nat.mul_add_mod, Nat.mod_eq_of_lt hjs]
  simp only [World.cell?, hg', Nat.zero_add, List.getElem?_toArray, fillC_get, if_pos hp, hd, hm, if_pos hi]
  simp [hj]

/-! ### Sizes -/
/-- What is left of a purse behind t; -1 if it does not last. -/
def szV (t : Nat) (left : Int) : Int := if (t : Int) ≤ left then left - t else -1
theorem szV_yes {t : Nat} {left : Int} (h : (t : Int) ≤ left) : szV t left = left - t := by unfold szV; rw [if_pos h]
theorem szV_no {t : Nat} {left : Int} (h : left < (t : Int)) : szV t left = -1 := by unfold szV; rw [if_neg (by omega)]
def sumT {α : Type} (f : α → Nat) (xs : List α) : Nat := (xs.map f).sum
def totL {α : Type} (f : α → Nat) (xs : List α) : Nat := xs.length + sumT f xs
theorem sumT_take {α : Type} (f : α → Nat) (xs : List α) (k : Nat) (h : k < xs.length) : sumT f (xs.take (k + 1)) = sumT f (xs.take k) + f xs[k] := by
  unfold sumT; rw [List.take_succ_eq_append_getElem h, List.map_append, List.sum_append, List.map_singleton, List.sum_singleton]
theorem sumT_le {α : Type} (f : α → Nat) (xs : List α) (k : Nat) : sumT f (xs.take k) ≤ sumT f xs := by
  unfold sumT
  conv => rhs; rw [← List.take_append_drop k xs]
  rw [List.map_append, List.sum_append]; omega
theorem sumT_mem {α : Type} (f : α → Nat) (xs : List α) (k : Nat) (h : k < xs.length) : f xs[k] ≤ sumT f xs := by
  have := sumT_le f xs (k + 1); rw [sumT_take f xs k h] at this; omega
def totRow (r : DRow) : Nat := r.vals.length
def totCond (_ : DCond) : Nat := 0
def totQuery (q : DQuery) : Nat := q.conds.length + q.out.length
def totSpan (s : DSpan) : Nat := s.set.length
def totVersion (v : DVersion) : Nat := v.vals.length
def totIndex (x : DIndex) : Nat := totL totQuery x.queries + totL (totL totSpan) x.fields
def totStore (s : DStore) : Nat := totL (totL totVersion) s.segs

/-! ### Endings -/
theorem ret_bool {a b : Bool} (h : a = b) : Ending.returned (.bool a) = .returned (.bool b) := by rw [h]
theorem ret_int {k : IntKind} {a b : Int} (h : a = b) : Ending.returned (.int k a) = .returned (.int k b) := by rw [h]
theorem ret_str {a b : ByteArray} (h : a = b) : Ending.returned (.string a) = .returned (.string b) := by rw [h]

/-! ### A test of every index -/
/-- Does p hold at every index below n? -/
def allB (n : Nat) (p : Nat → Bool) : Bool := (List.range n).all p
theorem allB_true {n : Nat} {p : Nat → Bool} (h : ∀ j, j < n → p j = true) : allB n p = true := by simp [allB]; exact h
theorem allB_false {n : Nat} {p : Nat → Bool} (k : Nat) (hk : k < n) (h : p k = false) : allB n p = false := by
  simp only [allB, List.all_eq_false]; exact ⟨k, by simpa using hk, by simp [h]⟩
theorem allB_iff {n : Nat} {p : Nat → Bool} : allB n p = true ↔ ∀ j, j < n → p j = true := by simp [allB]
/-- Does p hold at some index below n? -/
def anyB (n : Nat) (p : Nat → Bool) : Bool := (List.range n).any p
theorem anyB_true {n : Nat} {p : Nat → Bool} (k : Nat) (hk : k < n) (h : p k = true) : anyB n p = true := by
  simp only [anyB, List.any_eq_true]; exact ⟨k, by simpa using hk, h⟩
theorem anyB_false {n : Nat} {p : Nat → Bool} (h : ∀ j, j < n → p j = false) : anyB n p = false := by
  simp only [anyB, List.any_eq_false]; intro x hx; rw [h x (by simpa using hx)]; simp
theorem anyB_iff {n : Nat} {p : Nat → Bool} : anyB n p = true ↔ ∃ j, j < n ∧ p j = true := by simp [anyB]
theorem getD_lt {α : Type} {xs : List α} {k : Nat} {d : α} (h : k < xs.length) : xs.getD k d = xs[k] := by simp [h]
theorem below_succ {k : Nat} {p : Nat → Prop} (h : ∀ j, j < k → p j) (hk : p k) : ∀ j, j < k + 1 → p j := fun j hj => by
  rcases Nat.lt_succ_iff_lt_or_eq.1 hj with h' | rfl
  · exact h j h'
  · exact hk
end Go.Proofs.YtcdcpfcmhmhdjaaGreatDoor
