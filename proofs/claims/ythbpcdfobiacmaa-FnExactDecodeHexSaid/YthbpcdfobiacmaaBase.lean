/- Words for what a value stands for in memory, and small laws on them. No program in sight. -/
import Derived.Test.YthbpcdfobiacmaaRows
import Derived.WalkKit
import Derived.WalkSpells
import Derived.WalkLawsBesides
import Derived.ProofKit
import Derived.OpenShut
import Derived.ShutString
import Derived.ChangeOld
import Derived.Below
import Derived.Lib.Hide
import Derived.Lib.SmallJoins
import Derived.BigQuiet
import Derived.Deep.QuietTactic
import Derived.Deep.RegionHeld3
import Derived.Deep.DeepFit
import Derived.Deep.LoopGhost
import Derived.Outline
namespace Go.Proofs.Ythbpcdfobiacmaa
open Go.ChangeShapes Go.WideShapes Go.RowKit Go.Deep

/-- The number fits int. -/
def I64 (n : Int) : Prop := -9223372036854775808 ≤ n ∧ n ≤ 9223372036854775807
theorem I64.lo {n : Int} (h : I64 n) : -9223372036854775808 ≤ n := h.1
theorem I64.hi {n : Int} (h : I64 n) : n ≤ 9223372036854775807 := h.2
theorem i64_of_wf {n : Int} (h : (Lit.int .i64 n).wf = true) : I64 n := by
  have := bounds_i64 h
  unfold I64; omega

/-! ### What reads as data -/
/-- A row of cells. -/
def CellsAt (w : World) (b off : Nat) (cs : List Value) : Prop := ∀ j (h : j < cs.length), w.cell? ⟨b, off + j, none⟩ = some cs[j]
/-- v is a slice whose elements, each of sz cells, read as xs. -/
def RSlice {α : Type} (sz : Nat) (R : World → List Value → α → Prop) (w : World) (v : Value) (xs : List α) : Prop :=
  ∃ a cap, v = .slice a xs.length cap ∧ xs.length ≤ cap ∧ cap ≤ 9223372036854775807 ∧ ∀ i (h : i < xs.length), ∃ b off cs, a = some ⟨b, off, none⟩ ∧ cs.length = sz ∧ R w cs xs[i] ∧ CellsAt w b (off + i * sz) cs
def RInt (_ : World) (cs : List Value) (n : Int) : Prop := cs = [.int .i64 n] ∧ I64 n
abbrev RInts := RSlice 1 RInt

/-- Nothing that was there has changed. -/
abbrev Gr (w w' : World) : Prop := Below w.heap.size w w'
theorem Gr.refl (w : World) : Gr w w := Below.refl _ _
theorem Gr.trans {a b c : World} (h : Gr a b) (k : Gr b c) : Gr a c := Below.trans h (Below.mono k h.size)
theorem Gr.trans' {a b c : World} (h : Gr a b) (k : Below a.heap.size b c) : Gr a c := Below.trans h k
theorem Gr.alloc {a w : World} (h : Gr a w) (o : Obj) : Gr a (w.alloc o) := Below.alloc h h.size o
theorem Gr.drew {a w : World} (h : Gr a w) : Gr a w.drew := Below.drew h
theorem Gr.drewN {a w : World} (h : Gr a w) (n : Nat) : Gr a (w.drewN n) := ⟨h.os, h.tape, h.output, h.size, h.block⟩
theorem Gr.cellv {w w' : World} (h : Gr w w') {p : Addr} {v : Value} (hv : w.cell? p = some v) : w'.cell? p = some v := by
  rw [Below.cell h (World.block_lt_of_cell? w p hv)]; exact hv
theorem CellsAt.mono {w w' : World} (h : Gr w w') {b off : Nat} {cs : List Value} (hc : CellsAt w b off cs) : CellsAt w' b off cs :=
  fun j hj => h.cellv (hc j hj)
/-- A reading of elements that outlives new memory. -/
def Keeps {α : Type} (R : World → List Value → α → Prop) : Prop := ∀ w w' cs x, Gr w w' → R w cs x → R w' cs x
theorem keeps_int : Keeps RInt := fun _ _ _ _ _ h => h
theorem RSlice.mono {α : Type} {sz : Nat} {R : World → List Value → α → Prop} (hR : Keeps R) {w w' : World} (h : Gr w w') {v : Value} {xs : List α} (hx : RSlice sz R w v xs) : RSlice sz R w' v xs := by
  obtain ⟨a, cap, hv, h1, h2, hc⟩ := hx
  refine ⟨a, cap, hv, h1, h2, fun i hi => ?_⟩
  obtain ⟨b, off, cs, ha, hl, hr, hcc⟩ := hc i hi
  exact ⟨b, off, cs, ha, hl, hR _ _ _ _ h hr, hcc.mono h⟩
theorem RInts.mono {w w' : World} (h : Gr w w') {v : Value} {xs : List Int} (hx : RInts w v xs) : RInts w' v xs := RSlice.mono keeps_int h hx
/-- An integer slice, opened for a walk. -/
def IntsAt (w : World) (a : Option Addr) (xs : List Int) : Prop := ∀ i (h : i < xs.length), ∃ b off, a = some ⟨b, off, none⟩ ∧ w.cell? ⟨b, off + i, none⟩ = some (.int .i64 xs[i]) ∧ I64 xs[i]
theorem RInts.open {w : World} {v : Value} {xs : List Int} (h : RInts w v xs) : ∃ a cap, v = .slice a xs.length cap ∧ xs.length ≤ cap ∧ cap ≤ 9223372036854775807 ∧ IntsAt w a xs := by
  obtain ⟨a, cap, hv, h1, h2, hc⟩ := h
  refine ⟨a, cap, hv, h1, h2, fun i hi => ?_⟩
  obtain ⟨b, off, cs, ha, hl, ⟨hr, hi64⟩, hcc⟩ := hc i hi
  subst hr
  refine ⟨b, off, ha, ?_, hi64⟩
  have := hcc 0 (by simp)
  simpa using this
theorem IntsAt.mono {w w' : World} (h : Gr w w') {a : Option Addr} {xs : List Int} (hx : IntsAt w a xs) : IntsAt w' a xs := fun i hi => by
  obtain ⟨b, off, ha, hc, hn⟩ := hx i hi
  exact ⟨b, off, ha, h.cellv hc, hn⟩

/-- To halt a walk at an operation. -/
theorem stopHere {p : Prop} (h : Hid p) : p := h
theorem goOn {p : Prop} (h : p) : Hid p := h

/-! ### The data of the program -/
/-- A condition of a query. -/
structure DCond where
  field : Int
  low : Int
  high : Int
structure DRow where
  id : Int
  vals : List Int
structure DQuery where
  id : Int
  tenant : Int
  conds : List DCond
  out : List Int
structure DSpan where
  lo : Int
  hi : Int
  set : List Int
structure DVersion where
  id : Int
  vals : List Int
  born : Int
  died : Int
structure DIndex where
  queries : List DQuery
  fields : List (List DSpan)
structure DStore where
  segs : List (List DVersion)
  now : Int
/-- What the cells of each stand for. -/
def RCond (_ : World) (cs : List Value) (c : DCond) : Prop := cs = [.int .i64 c.field, .int .i64 c.low, .int .i64 c.high] ∧ I64 c.field ∧ I64 c.low ∧ I64 c.high
def RRow (w : World) (cs : List Value) (r : DRow) : Prop := ∃ u, cs = [.int .i64 r.id, u] ∧ I64 r.id ∧ RInts w u r.vals
abbrev RConds := RSlice 3 RCond
def RQuery (w : World) (cs : List Value) (q : DQuery) : Prop := ∃ u x, cs = [.int .i64 q.id, .int .i64 q.tenant, u, x] ∧ I64 q.id ∧ I64 q.tenant ∧ RConds w u q.conds ∧ RInts w x q.out
def RSpan (w : World) (cs : List Value) (s : DSpan) : Prop := ∃ u, cs = [.int .i64 s.lo, .int .i64 s.hi, u] ∧ I64 s.lo ∧ I64 s.hi ∧ RInts w u s.set
def RVersion (w : World) (cs : List Value) (v : DVersion) : Prop := ∃ u, cs = [.int .i64 v.id, u, .int .i64 v.born, .int .i64 v.died] ∧ I64 v.id ∧ RInts w u v.vals ∧ I64 v.born ∧ I64 v.died
abbrev RRows := RSlice 2 RRow
abbrev RQueries := RSlice 4 RQuery
abbrev RSpans := RSlice 3 RSpan
abbrev RVersions := RSlice 4 RVersion
def ROf {α : Type} (R : World → Value → α → Prop) (w : World) (cs : List Value) (x : α) : Prop := ∃ v, cs = [v] ∧ R w v x
abbrev RSpanss := RSlice 1 (ROf RSpans)
abbrev RVersionss := RSlice 1 (ROf RVersions)
def RIndex (w : World) (cs : List Value) (x : DIndex) : Prop := ∃ u y, cs = [u, y] ∧ RQueries w u x.queries ∧ RSpanss w y x.fields
def RStore (w : World) (cs : List Value) (s : DStore) : Prop := ∃ u, cs = [u, .int .i64 s.now] ∧ RVersionss w u s.segs ∧ I64 s.now
theorem keeps_cond : Keeps RCond := fun _ _ _ _ _ h => h
theorem keeps_row : Keeps RRow := fun _ _ _ _ hg ⟨u, h1, h2, h3⟩ => ⟨u, h1, h2, h3.mono hg⟩
theorem keeps_query : Keeps RQuery := fun _ _ _ _ hg ⟨u, x, h1, h2, h3, h4, h5⟩ => ⟨u, x, h1, h2, h3, RSlice.mono keeps_cond hg h4, h5.mono hg⟩
theorem keeps_span : Keeps RSpan := fun _ _ _ _ hg ⟨u, h1, h2, h3, h4⟩ => ⟨u, h1, h2, h3, h4.mono hg⟩
theorem keeps_version : Keeps RVersion := fun _ _ _ _ hg ⟨u, h1, h2, h3, h4⟩ => ⟨u, h1, h2, h3.mono hg, h4⟩
theorem keeps_of {α : Type} {sz : Nat} {R : World → List Value → α → Prop} (h : Keeps R) : Keeps (ROf (RSlice sz R)) := fun _ _ _ _ hg ⟨v, h1, h2⟩ => ⟨v, h1, RSlice.mono h hg h2⟩
theorem keeps_index : Keeps RIndex := fun _ _ _ _ hg ⟨u, y, h1, h2, h3⟩ => ⟨u, y, h1, RSlice.mono keeps_query hg h2, RSlice.mono (keeps_of keeps_span) hg h3⟩
theorem keeps_store : Keeps RStore := fun _ _ _ _ hg ⟨u, h1, h2, h3⟩ => ⟨u, h1, RSlice.mono (keeps_of keeps_version) hg h2, h3⟩

/-! ### Endings -/
theorem ret_bool {a b : Bool} (h : a = b) : Ending.returned (.bool a) = .returned (.bool b) := by rw [h]
theorem ret_int {k : IntKind} {a b : Int} (h : a = b) : Ending.returned (.int k a) = .returned (.int k b) := by rw [h]
theorem ret_str {a b : ByteArray} (h : a = b) : Ending.returned (.string a) = .returned (.string b) := by rw [h]

/-! ### A test of every index -/
/-- Does p hold at every index below n? -/
def allB (n : Nat) (p : Nat → Bool) : Bool := (List.range n).all p
theorem allB_true {n : Nat} {p : Nat → Bool} (h : ∀ j, j < n → p j = true) : allB n p = true := by simp [allB]; exact h
theorem allB_false {n : Nat} {p : Nat → Bool} (k : Nat) (hk : k < n) (h : p k = false) : allB n p = false := by
  simp only [allB, List.all_eq_false]; exact ⟨k, by simpa using hk, by simp [h]⟩
theorem allB_iff {n : Nat} {p : Nat → Bool} : allB n p = true ↔ ∀ j, j < n → p j = true := by simp [allB]
/-- Does p hold at some index below n? -/
def anyB (n : Nat) (p : Nat → Bool) : Bool := (List.range n).any p
theorem anyB_true {n : Nat} {p : Nat → Bool} (k : Nat) (hk : k < n) (h : p k = true) : anyB n p = true := by
  simp only [anyB, List.any_eq_true]; exact ⟨k, by simpa using hk, h⟩
theorem anyB_false {n : Nat} {p : Nat → Bool} (h : ∀ j, j < n → p j = false) : anyB n p = false := by
  simp only [anyB, List.any_eq_false]; intro x hx; rw [h x (by simpa using hx)]; simp
theorem anyB_iff {n : Nat} {p : Nat → Bool} : anyB n p = true ↔ ∃ j, j < n ∧ p j = true := by simp [anyB]
theorem getD_lt {α : Type} {xs : List α} {k : Nat} {d : α} (h : k < xs.length) : xs.getD k d = xs[k] := by simp [h]
theorem below_succ {k : Nat} {p : Nat → Prop} (h : ∀ j, j < k → p j) (hk : p k) : ∀ j, j < k + 1 → p j := fun j hj => by
  rcases Nat.lt_succ_iff_lt_or_eq.1 hj with h' | rfl
  · exact h j h'
  · exact hk
end Go.Proofs.Ythbpcdfobiacmaa
