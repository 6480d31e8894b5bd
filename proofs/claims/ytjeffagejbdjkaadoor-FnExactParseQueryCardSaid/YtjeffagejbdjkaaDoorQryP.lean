/- FormatQuery: the plain law; two strings appended in one statement. -/
import Derived.Test.YtjeffagejbdjkaaDoorSpanP
import Derived.Test.YtjeffagejbdjkaaDoorLawJ
namespace Go.Proofs.YtjeffagejbdjkaaDoor
open Go.ChangeShapes Go.WideShapes Go.RowKit Go.Deep
def fWord (c : DCond) : List UInt8 := [102] ++ Lib.itoa c.field
def rWord (c : DCond) : List UInt8 := Lib.itoa c.low ++ [46, 46] ++ Lib.itoa c.high
def condWord (c : DCond) : List UInt8 := [32, 102] ++ Lib.itoa c.field ++ [32] ++ Lib.itoa c.low ++ [46, 46] ++ Lib.itoa c.high
def headText (q : DQuery) : List UInt8 := [113] ++ Lib.itoa q.id ++ [32, 116] ++ Lib.itoa q.tenant
def condsText (cs : List DCond) : List UInt8 := (cs.map condWord).flatten
def queryText (q : DQuery) : List UInt8 := if isQueryB q then headText q ++ condsText q.conds ++ [32, 111, 117, 116, 32] ++ numsText q.out else []
theorem queryText_yes {q : DQuery} (h : isQueryB q = true) : queryText q = headText q ++ condsText q.conds ++ [32, 111, 117, 116, 32] ++ numsText q.out := by unfold queryText; rw [h]; rfl
theorem queryText_no {q : DQuery} (h : isQueryB q = false) : queryText q = [] := by unfold queryText; rw [h]; rfl
/-- The words of the first i conditions. -/
def condWords (cs : List DCond) : List (List UInt8) := (cs.map fun c => [fWord c, rWord c]).flatten
theorem condWords_tail (cs : List DCond) : Lib.joinTail [32] (condWords cs) = condsText cs := by
  induction cs with
  | nil => rfl
  | cons c r ih =>
    unfold condWords condsText at *
    unfold Lib.joinTail at *
    rw [List.map_cons, List.flatten_cons, List.map_append, List.flatten_append, ih, List.map_cons, List.flatten_cons]
    simp [condWord, fWord, rWord]
def queryWords (q : DQuery) : List (List UInt8) := [[113] ++ Lib.itoa q.id, [116] ++ Lib.itoa q.tenant] ++ condWords q.conds ++ [[111, 117, 116], numsText q.out]
theorem queryWords_join (q : DQuery) : Lib.join (queryWords q) [32] = headText q ++ condsText q.conds ++ [32, 111, 117, 116, 32] ++ numsText q.out := by
  rw [← condWords_tail]
  unfold queryWords headText
  rw [List.cons_append, List.cons_append, Lib.join_cons]
  simp [Lib.joinTail]
theorem condWord_len {c : DCond} (h1 : I64 c.field) (h2 : I64 c.low) (h3 : I64 c.high) : (condWord c).length ≤ 68 := by
  have a := itoa_len h1; have b := itoa_len h2; have d := itoa_len h3
  unfold condWord
  simp only [List.length_append, List.length_cons, List.length_nil]
  omega
theorem condsText_snoc {cs : List DCond} {i : Nat} (h : i < cs.length) : condsText (cs.take (i + 1)) = condsText (cs.take i) ++ condWord cs[i] := by
  unfold condsText
  rw [List.take_succ_eq_append_getElem h, List.map_append, List.flatten_append]; simp
theorem condWords_snoc {cs : List DCond} {i : Nat} (h : i < cs.length) : condWords (cs.take (i + 1)) = condWords (cs.take i) ++ [fWord cs[i], rWord cs[i]] := by
  unfold condWords
  rw [List.take_succ_eq_append_getElem h, List.map_append, List.flatten_append]; simp
theorem condWords_len (cs : List DCond) : (condWords cs).length = 2 * cs.length := by
  induction cs with
  | nil => rfl
  | cons c r ih => unfold condWords at *; simp only [List.map_cons, List.flatten_cons, List.length_append, ih, List.length_cons, List.length_nil]; omega
theorem condsText_len {cs : List DCond} (h : ∀ i (h : i < cs.length), I64 cs[i].field ∧ I64 cs[i].low ∧ I64 cs[i].high) : ∀ i, i ≤ cs.length → (condsText (cs.take i)).length ≤ 68 * i := by
  intro i
  induction i with
  | zero => intro _; simp [condsText]
  | succ i ih =>
    intro hi
    have h1 := ih (by omega)
    obtain ⟨a, b, c⟩ := h i hi
    have h2 := condWord_len a b c
    rw [condsText_snoc hi, List.length_append]
    omega
/-- append(out, x, y), strings. -/
theorem push_s2 {ops : Array Oper} {rest : List Oper} {o : Oper} {a : Act} {Q : Exit → Act → World → Prop} {w wr : World} (hgd : o.guard = none) (s x : Operand)
    (ho : o.op = .call { callee := .builtin .append, args := #[s, x], argTypes := #[68, 68] }) {base : Nat} {v : Value} (ns ys : List ByteArray) (hys : ys ≠ [])
    (hs : a.eval s = v) (hx : a.eval x = .slice (some ⟨wr.heap.size, 0, none⟩) ys.length ys.length) (hw : w = wr.alloc (.cells (ys.map Value.string).toArray 9)) (hown : wr.ownsRow base 9 1 v ns.length (ns.map Value.string))
    (hn : ns.length + ys.length ≤ 8796093022208) (hbase : base ≤ wr.heap.size)
    (h : ∀ g cap w', w'.ownsRow base 9 1 (.slice (some ⟨g, 0, none⟩) (ns.length + ys.length) cap) (ns.length + ys.length) ((ns ++ ys).map Value.string) → Below base wr w' → wpList Tryd.prog ops Q rest (a.put o.dst (.slice (some ⟨g, 0, none⟩) (ns.length + ys.length) cap)) w') :
    wpList Tryd.prog ops Q (o :: rest) a w := by
  have hpos : 0 < ys.length := List.length_pos_iff.2 hys
  have hi : (Tryd.prog.info? 9).map (fun i => (i.zero, i.size, i.bytes)) = some (some (.string ByteArray.empty), 1, 16) := by kernel_rfl
  obtain ⟨i, hi, hz, hs', hb'⟩ := info_parts hi
  subst hw
  have hn1 : ns.length + ys.length ≤ maxLen := by simp only [maxLen]; omega
  refine wpList_append_lies _ hgd s x 68 ho base 9 i (.string ByteArray.empty) 1 16 Tryd.underlying68 hi hz hs' hb' rfl (by decide) v ns.length (ns.map Value.string) hs (hown.alloc _) ⟨wr.heap.size, 0, none⟩ ys.length ys.length (ys.map Value.string) hx (by simp) (World.news_of_block (heap_alloc_new wr _)) (by simp [Value.oneCell']) hpos hn1 (by omega) (by simp; omega) (wr.heap.size + 1) (by simp) ?_
  intro g cap w' ho' hg hlie _
  exact h g cap w' (by rw [List.map_append]; exact ho') (((Below.refl _ _).alloc hbase _).grown hg (by simp; omega) fun k hk => (hown.lt k hk).1)
/-- A row that was made whole. -/
theorem own_made (wr : World) (bs : List ByteArray) (base : Nat) (hb : base ≤ wr.heap.size) (hm : bs.length ≤ 1000000) : (wr.alloc (.cells (bs.map Value.string).toArray 9)).ownsRow base 9 1 (.slice (some ⟨wr.heap.size, 0, none⟩) bs.length bs.length) bs.length (bs.map Value.string) :=
  ⟨by simp, .inr ⟨wr.heap.size, bs.length, _, rfl, hb, heap_alloc_new wr _, Nat.le_refl _, by simp only [maxLen]; omega, by simp, by simp only [Nat.mul_one]; exact List.take_of_length_le (by simp)⟩⟩
end Go.Proofs.YtjeffagejbdjkaaDoor
