/- Rows of the call's own: an append of one element, a string out of bytes. No program in sight. -/
import Derived.Test.YtcdcpfcmhmhdjaaGreatDoorBase
import Derived.Deep.AppendLies
namespace Go.Proofs.YtcdcpfcmhmhdjaaGreatDoor
open Go.ChangeShapes Go.WideShapes Go.RowKit Go.Deep
/-- append(out, x): one element, laid into a block of its own first. -/
theorem push {P : Program} {ops : Array Oper} {rest : List Oper} {o : Oper} {a : Act} {Q : Exit → Act → World → Prop} {w wr : World} (t e size bytes : Nat) {z : Value} (ht : P.underlying t = some (.slice e))
    (hi : (P.info? e).map (fun i => (i.zero, i.size, i.bytes)) = some (some z, size, bytes)) (hzs : z.cells.size = size) (hsz : 0 < size) (hby : 0 < bytes) (hgd : o.guard = none) (s x : Operand)
    (ho : o.op = .call { callee := .builtin .append, args := #[s, x], argTypes := #[t, t] }) {base n : Nat} {v : Value} {xs : List Value} (news : List Value)
    (hs : a.eval s = v) (hx : a.eval x = .slice (some ⟨wr.heap.size, 0, none⟩) 1 1) (hw : w = wr.alloc (.cells news.toArray e)) (hown : wr.ownsRow base e size v n xs) (hl : news.length = size) (h1 : ∀ u ∈ news, u.oneCell' = true)
    (hn : (n + 1) * bytes ≤ 140737488355328) (hbase : base ≤ wr.heap.size)
    (h : ∀ g cap w', w'.ownsRow base e size (.slice (some ⟨g, 0, none⟩) (n + 1) cap) (n + 1) (xs ++ news) → Below base wr w' → (v.ownBlock = some g ∨ g = wr.heap.size + 1) → (∀ k, k < wr.heap.size → v.ownBlock ≠ some k → w'.heap[k]? = wr.heap[k]?) → wpList P ops Q rest (a.put o.dst (.slice (some ⟨g, 0, none⟩) (n + 1) cap)) w') :
    wpList P ops Q (o :: rest) a w := by
  obtain ⟨i, hi, hz, hs', hb'⟩ := info_parts hi
  subst hw
  have hn1 : n + 1 ≤ maxLen := by
    have := Nat.le_mul_of_pos_right (n + 1) hby
    simp only [maxLen]; omega
  refine wpList_append_lies _ hgd s x t ho base e i z size bytes ht hi hz hs' hb' hzs hsz v n xs hs (hown.alloc _) ⟨wr.heap.size, 0, none⟩ 1 1 news hx (by omega) (World.news_of_block (heap_alloc_new wr _)) h1 (by omega) hn1 hn (by simp; omega) (wr.heap.size + 1) (by simp) ?_
  intro g cap w' ho' hg hlie _
  refine h g cap w' ho' (((Below.refl _ _).alloc hbase _).grown hg (by simp; omega) fun k hk => (hown.lt k hk).1) hlie fun k hk hne => ?_
  rw [hg.block k (by simp; omega) (fun e => hne e.symm), Below.heap_alloc wr _ k hk]
/-- An empty row made by the call. -/
theorem own_empty (wr : World) (e size base : Nat) (hb : base ≤ wr.heap.size) : (wr.alloc (.cells #[] e)).ownsRow base e size (.slice (some ⟨wr.heap.size, 0, none⟩) 0 0) 0 [] :=
  World.ownsRow_made wr #[] 0 hb (Nat.zero_le _) (by simp)
/-- string(out). -/
theorem run_conv_own {P : Program} {w : World} {lo n : Nat} {v : Value} {ns : List Int} (src e dst : TypeId) (hs : P.underlying src = some (.slice e)) (he : P.underlying e = some (.int .u8)) (hd : P.underlying dst = some .string)
    (h : w.ownsRow lo e 1 v n (ns.map (Value.int .u8))) (hn : n = ns.length) : (convert src dst v).run P w = .ok (.string (strOfNums ns)) w := by
  subst hn
  rcases h.2 with ⟨rfl, h0⟩ | ⟨g, cap, cur, rfl, _, hg, hnc, hm, hcs, ht⟩
  · have : ns = [] := List.eq_nil_of_length_eq_zero h0
    subst this
    exact run_convert_bytes_nil w src e hs he 0 0 dst hd
  · refine run_convert_bytes_arg w src e hs he g 0 ns.length cap ns rfl (fun i hi => ?_) dst hd
    have e : cur[i]? = some (.int .u8 ns[i]) := by
      have h4 : (cur.toList.take (ns.length * 1))[i]? = (ns.map (Value.int .u8))[i]? := by rw [ht]
      rw [List.getElem?_take, if_pos (by omega)] at h4
      simpa [hi] using h4
    simp [World.cell?, hg, e, hi]
/-- .. of one cell. -/
theorem push1 {P : Program} {ops : Array Oper} {rest : List Oper} {o : Oper} {a : Act} {Q : Exit → Act → World → Prop} {w wr : World} (t e bytes : Nat) {z : Value} (ht : P.underlying t = some (.slice e))
    (hi : (P.info? e).map (fun i => (i.zero, i.size, i.bytes)) = some (some z, 1, bytes)) (hzs : z.cells.size = 1) (hby : 0 < bytes) {α : Type} (f : α → Value) (hf : ∀ x, (f x).oneCell' = true) (hgd : o.guard = none) (s x : Operand)
    (ho : o.op = .call { callee := .builtin .append, args := #[s, x], argTypes := #[t, t] }) {base : Nat} {v : Value} (ns : List α) (y : α)
    (hs : a.eval s = v) (hx : a.eval x = .slice (some ⟨wr.heap.size, 0, none⟩) 1 1) (hw : w = wr.alloc (.cells #[f y] e)) (hown : wr.ownsRow base e 1 v ns.length (ns.map f))
    (hn : (ns.length + 1) * bytes ≤ 140737488355328) (hbase : base ≤ wr.heap.size)
    (h : ∀ g cap w', w'.ownsRow base e 1 (.slice (some ⟨g, 0, none⟩) (ns.length + 1) cap) (ns.length + 1) ((ns ++ [y]).map f) → Below base wr w' → (v.ownBlock = some g ∨ g = wr.heap.size + 1) → (∀ k, k < wr.heap.size → v.ownBlock ≠ some k → w'.heap[k]? = wr.heap[k]?) → wpList P ops Q rest (a.put o.dst (.slice (some ⟨g, 0, none⟩) (ns.length + 1) cap)) w') :
    wpList P ops Q (o :: rest) a w :=
  push t e 1 bytes ht hi hzs (by decide) hby hgd s x ho [f y] hs hx hw hown rfl (by simpa using hf y) hn hbase fun g cap w' h1 => h g cap w' (by simpa using h1)
/-- append(out, x, ..) inside a region that draws its order. -/
theorem step_push {P : Program} {ops : Array Oper} {o : Oper} {a : Act} {K : Act → World → Prop} {Q : Exit → Act → World → Prop} {E : Prop} {w wr : World} (t e size bytes : Nat) {z : Value} (ht : P.underlying t = some (.slice e))
    (hi : (P.info? e).map (fun i => (i.zero, i.size, i.bytes)) = some (some z, size, bytes)) (hzs : z.cells.size = size) (hsz : 0 < size) (hby : 0 < bytes) (hgd : o.guard = none) (s x : Operand)
    (ho : o.op = .call { callee := .builtin .append, args := #[s, x], argTypes := #[t, t] }) {base n : Nat} {v : Value} {xs : List Value} (m : Nat) (hm : 0 < m) (news : List Value)
    (hs : a.eval s = v) (hx : a.eval x = .slice (some ⟨wr.heap.size, 0, none⟩) m m) (hw : w = (wr.alloc (.cells news.toArray e)).drew) (hown : wr.ownsRow base e size v n xs) (hl : news.length = m * size) (h1 : ∀ u ∈ news, u.oneCell' = true)
    (hn : (n + m) * bytes ≤ 140737488355328) (hbase : base ≤ wr.heap.size)
    (h : ∀ g cap w', w'.ownsRow base e size (.slice (some ⟨g, 0, none⟩) (n + m) cap) (n + m) (xs ++ news) → Below base wr w' → (v.ownBlock = some g ∨ g = wr.heap.size + 1) → (∀ k, k < wr.heap.size → v.ownBlock ≠ some k → w'.heap[k]? = wr.heap[k]?) → K (a.put o.dst (.slice (some ⟨g, 0, none⟩) (n + m) cap)) w') :
    if Region.wanted o (yielded ops a.tmps) = true then Oper.wp P o a w K Q else E := by
  obtain ⟨i, hi, hz, hs', hb'⟩ := info_parts hi
  subst hw
  have hn1 : n + m ≤ maxLen := by
    have := Nat.le_mul_of_pos_right (n + m) hby
    simp only [maxLen]; omega
  have hown' : (wr.alloc (.cells news.toArray e)).drew.ownsRow base e size v n xs := hown.alloc _
  refine step_append_lies _ hgd s x t ho base e i z size bytes ht hi hz hs' hb' hzs hsz v n xs hs hown' ⟨wr.heap.size, 0, none⟩ m m news hx hl (World.news_of_block (cs := news.toArray) (t := e) (fr := (0, 0)) (heap_alloc_new wr _)) h1 hm hn1 hn (by simp; omega) (wr.heap.size + 1) (by simp) ?_
  intro g cap w' ho' hg hlie _
  have hbl : Below base wr (wr.alloc (.cells news.toArray e)).drew := ((Below.refl _ _).alloc hbase _).drew
  refine h g cap w' ho' (hbl.grown hg (by simp; omega) fun k hk => (hown.lt k hk).1) hlie fun k hk hne => ?_
  rw [hg.block k (by simp; omega) (fun e => hne e.symm)]
  exact Below.heap_alloc wr _ k hk
theorem step_push_b {ops : Array Oper} {o : Oper} {a : Act} {K : Act → World → Prop} {Q : Exit → Act → World → Prop} {E : Prop} {w wr : World} (hgd : o.guard = none) (s x : Operand)
    (ho : o.op = .call { callee := .builtin .append, args := #[s, x], argTypes := #[22, 22] }) {base : Nat} {v : Value} (ns : List Int) (y z : Int)
    (hs : a.eval s = v) (hx : a.eval x = .slice (some ⟨wr.heap.size, 0, none⟩) 2 2) (hw : w = (wr.alloc (.cells #[.int .u8 y, .int .u8 z] 5)).drew) (hown : wr.ownsRow base 5 1 v ns.length (ns.map (Value.int .u8)))
    (hn : ns.length + 2 ≤ 140737488355328) (hbase : base ≤ wr.heap.size)
    (h : ∀ g cap w', w'.ownsRow base 5 1 (.slice (some ⟨g, 0, none⟩) (ns.length + 2) cap) (ns.length + 2) ((ns ++ [y, z]).map (Value.int .u8)) → Below base wr w' → K (a.put o.dst (.slice (some ⟨g, 0, none⟩) (ns.length + 2) cap)) w') :
    if Region.wanted o (yielded ops a.tmps) = true then Oper.wp Tryz.prog o a w K Q else E :=
  step_push 22 5 1 1 Tryz.underlying22 (z := .int .u8 0) (by kernel_rfl) rfl (by decide) (by decide) hgd s x ho 2 (by decide) [.int .u8 y, .int .u8 z] hs hx hw hown rfl (by simp [Value.oneCell']) (by omega) hbase fun g cap w' h1 h2 _ _ => h g cap w' (by simpa using h1) h2
/-- append(out, b), bytes. -/
theorem push_b {ops : Array Oper} {rest : List Oper} {o : Oper} {a : Act} {Q : Exit → Act → World → Prop} {w wr : World} (hgd : o.guard = none) (s x : Operand)
    (ho : o.op = .call { callee := .builtin .append, args := #[s, x], argTypes := #[22, 22] }) {base : Nat} {v : Value} (ns : List Int) (y : Int)
    (hs : a.eval s = v) (hx : a.eval x = .slice (some ⟨wr.heap.size, 0, none⟩) 1 1) (hw : w = wr.alloc (.cells #[.int .u8 y] 5)) (hown : wr.ownsRow base 5 1 v ns.length (ns.map (Value.int .u8)))
    (hn : ns.length + 1 ≤ 140737488355328) (hbase : base ≤ wr.heap.size)
    (h : ∀ g cap w', w'.ownsRow base 5 1 (.slice (some ⟨g, 0, none⟩) (ns.length + 1) cap) (ns.length + 1) ((ns ++ [y]).map (Value.int .u8)) → Below base wr w' → wpList Tryz.prog ops Q rest (a.put o.dst (.slice (some ⟨g, 0, none⟩) (ns.length + 1) cap)) w') :
    wpList Tryz.prog ops Q (o :: rest) a w :=
  push1 22 5 1 Tryz.underlying22 (z := .int .u8 0) (by kernel_rfl) rfl (by decide) (Value.int .u8) (fun _ => rfl) hgd s x ho ns y hs hx hw hown (by omega) hbase fun g cap w' h1 h2 _ _ => h g cap w' h1 h2
theorem conv_b {w : World} {lo n : Nat} {v : Value} {ns : List Int} (h : w.ownsRow lo 5 1 v n (ns.map (Value.int .u8))) (hn : n = ns.length) : (convert 22 9 v).run Tryz.prog w = .ok (.string (strOfNums ns)) w :=
  run_conv_own 22 5 9 Tryz.underlying22 Tryz.underlying5 Tryz.underlying9 h hn
/-- append(out, n), integers. -/
theorem push_i {ops : Array Oper} {rest : List Oper} {o : Oper} {a : Act} {Q : Exit → Act → World → Prop} {w wr : World} (hgd : o.guard = none) (s x : Operand)
    (ho : o.op = .call { callee := .builtin .append, args := #[s, x], argTypes := #[25, 25] }) {base : Nat} {v : Value} (ns : List Int) (y : Int)
    (hs : a.eval s = v) (hx : a.eval x = .slice (some ⟨wr.heap.size, 0, none⟩) 1 1) (hw : w = wr.alloc (.cells #[.int .i64 y] 3)) (hown : wr.ownsRow base 3 1 v ns.length (ns.map (Value.int .i64)))
    (hn : ns.length + 1 ≤ 17592186044416) (hbase : base ≤ wr.heap.size)
    (h : ∀ g cap w', w'.ownsRow base 3 1 (.slice (some ⟨g, 0, none⟩) (ns.length + 1) cap) (ns.length + 1) ((ns ++ [y]).map (Value.int .i64)) → Below base wr w' → wpList Tryz.prog ops Q rest (a.put o.dst (.slice (some ⟨g, 0, none⟩) (ns.length + 1) cap)) w') :
    wpList Tryz.prog ops Q (o :: rest) a w :=
  push1 25 3 8 Tryz.underlying25 (z := .int .i64 0) (by kernel_rfl) rfl (by decide) (Value.int .i64) (fun _ => rfl) hgd s x ho ns y hs hx hw hown (by omega) hbase fun g cap w' h1 h2 _ _ => h g cap w' h1 h2
end Go.Proofs.YtcdcpfcmhmhdjaaGreatDoor
