/- Appends inside a region that draws its order, behind another operation that has made memory: no draw stands on the world. No program in sight. -/
import Derived.Test.YtcdcpfcmhmhdjaaGreatDoorOwnPush
namespace Go.Proofs.YtcdcpfcmhmhdjaaGreatDoor
open Go.ChangeShapes Go.WideShapes Go.RowKit Go.Deep
theorem step_push_n {P : Program} {ops : Array Oper} {o : Oper} {a : Act} {K : Act → World → Prop} {Q : Exit → Act → World → Prop} {E : Prop} {w wr : World} (t e size bytes : Nat) {z : Value} (ht : P.underlying t = some (.slice e))
    (hi : (P.info? e).map (fun i => (i.zero, i.size, i.bytes)) = some (some z, size, bytes)) (hzs : z.cells.size = size) (hsz : 0 < size) (hby : 0 < bytes) (hgd : o.guard = none) (s x : Operand)
    (ho : o.op = .call { callee := .builtin .append, args := #[s, x], argTypes := #[t, t] }) {base n : Nat} {v : Value} {xs : List Value} (m : Nat) (hm : 0 < m) (news : List Value)
    (hs : a.eval s = v) (hx : a.eval x = .slice (some ⟨wr.heap.size, 0, none⟩) m m) (hw : w = wr.alloc (.cells news.toArray e)) (hown : wr.ownsRow base e size v n xs) (hl : news.length = m * size) (h1 : ∀ u ∈ news, u.oneCell' = true)
    (hn : (n + m) * bytes ≤ 140737488355328) (hbase : base ≤ wr.heap.size)
    (h : ∀ g cap w', w'.ownsRow base e size (.slice (some ⟨g, 0, none⟩) (n + m) cap) (n + m) (xs ++ news) → Below base wr w' → (v.ownBlock = some g ∨ g = wr.heap.size + 1) → (∀ k, k < wr.heap.size → v.ownBlock ≠ some k → w'.heap[k]? = wr.heap[k]?) → K (a.put o.dst (.slice (some ⟨g, 0, none⟩) (n + m) cap)) w') :
    if Region.wanted o (yielded ops a.tmps) = true then Oper.wp P o a w K Q else E := by
  obtain ⟨i, hi, hz, hs', hb'⟩ := info_parts hi
  subst hw
  have hn1 : n + m ≤ maxLen := by
    have := Nat.le_mul_of_pos_right (n + m) hby
    simp only [maxLen]; omega
  refine step_append_lies _ hgd s x t ho base e i z size bytes ht hi hz hs' hb' hzs hsz v n xs hs (hown.alloc _) ⟨wr.heap.size, 0, none⟩ m m news hx hl (World.news_of_block (cs := news.toArray) (t := e) (fr := (0, 0)) (heap_alloc_new wr _)) h1 hm hn1 hn (by simp; omega) (wr.heap.size + 1) (by simp) ?_
  intro g cap w' ho' hg hlie _
  refine h g cap w' ho' (((Below.refl _ _).alloc hbase _).grown hg (by simp; omega) fun k hk => (hown.lt k hk).1) hlie fun k hk hne => ?_
  rw [hg.block k (by simp; omega) (fun e => hne e.symm), Below.heap_alloc wr _ k hk]
section
variable {α : Type} {P : Program} {O : (Nat → Prop) → World → List Value → α → Prop} {ops : Array Oper} {o : Oper} {a : Act} {Q : Exit → Act → World → Prop} {w0 wr w : World}
theorem step_push_on {K : Act → World → Prop} {E : Prop} {la hb lo : Nat} (t e size bytes : Nat) {z : Value} (ht : P.underlying t = some (.slice e))
    (hi : (P.info? e).map (fun i => (i.zero, i.size, i.bytes)) = some (some z, size, bytes)) (hzs : z.cells.size = size) (hsz : 0 < size) (hby : 0 < bytes) (hgd : o.guard = none) (s x : Operand)
    (ho : o.op = .call { callee := .builtin .append, args := #[s, x], argTypes := #[t, t] }) (hO : FramedE O) {v : Value} {ys : List α} (y : α) (c : List Value)
    (hs : a.eval s = v) (hx : a.eval x = .slice (some ⟨wr.heap.size, 0, none⟩) 1 1) (hw : w = wr.alloc (.cells c.toArray e)) (hown : OSl e size O (In lo w0.heap.size) w0 v ys) (hlo : lo ≤ w0.heap.size) (hg : Gr w0 wr)
    (hy : O (In la hb) wr c y) (ha : w0.heap.size ≤ la) (hhb : hb ≤ wr.heap.size) (hl : c.length = size) (h1 : ∀ u ∈ c, u.oneCell' = true) (hn : (ys.length + 1) * bytes ≤ 140737488355328)
    (h : ∀ g cap w', OSl e size O (In lo w'.heap.size) w' (.slice (some ⟨g, 0, none⟩) (ys ++ [y]).length cap) (ys ++ [y]) → Below lo wr w' → K (a.put o.dst (.slice (some ⟨g, 0, none⟩) (ys ++ [y]).length cap)) w') :
    if Region.wanted o (yielded ops a.tmps) = true then Oper.wp P o a w K Q else E := by
  obtain ⟨cs, hE⟩ := hown
  have hrow : wr.ownsRow lo e size v ys.length (flatC size ys.length cs) := (hE.frame hO (hg.agree _)).row fun b hb => hb.1
  refine step_push_n t e size bytes ht hi hzs hsz hby hgd s x ho 1 (by decide) c hs hx hw hrow (by simpa using hl) h1 hn (Nat.le_trans hlo hg.size) fun g cap w' k1 k2 k3 k4 => ?_
  have := h g cap w' (hE.pushed hO hlo hg hy ha hhb hl k1 k2 k3 k4) k2
  rwa [List.length_append, List.length_singleton] at this
end
/-- append(out, xs...), integers, inside a region that draws its order. -/
theorem step_spread_i {ops : Array Oper} {o : Oper} {a : Act} {K : Act → World → Prop} {Q : Exit → Act → World → Prop} {E : Prop} {w : World} (hgd : o.guard = none) (s x : Operand)
    (ho : o.op = .call { callee := .builtin .append, args := #[s, x], argTypes := #[25, 25] }) {base : Nat} {v : Value} (ns : List Int) {ys : List Int} {ad : Option Addr} {c : Nat}
    (hs : a.eval s = v) (hx : a.eval x = .slice ad ys.length c) (hown : OInts base w v ns) (hsrc : SrcAt w ad (ys.map (Value.int .i64))) (hy : ∀ x ∈ ys, I64 x) (hn : ns.length + ys.length ≤ 17592186044416) (hbase : base ≤ w.heap.size)
    (h : ∀ b c' w', OInts base w' (.slice b (ns ++ ys).length c') (ns ++ ys) → Below base w w' → K (a.put o.dst (.slice b (ns ++ ys).length c')) w') :
    if Region.wanted o (yielded ops a.tmps) = true then Oper.wp Tryz.prog o a w K Q else E :=
  step_spread 25 3 1 8 Tryz.underlying25 (z := .int .i64 0) (by kernel_rfl) rfl (by decide) (by decide) hgd s x ho (ys.map (Value.int .i64)) hs hx hown.1 (by simp) hsrc (by simp [Value.oneCell']) (by omega) hbase fun v' w' h1 h2 _ _ => by
    have hO : OInts base w' v' (ns ++ ys) := ⟨by simpa using h1, fun x hx => (List.mem_append.1 hx).elim (hown.2 x) (hy x)⟩
    obtain ⟨b, c', rfl⟩ := hO.reads.form
    exact h b c' w' hO h2
/-- .. onto an empty slice that the same region has made. -/
theorem step_copy_i {ops : Array Oper} {o : Oper} {a : Act} {K : Act → World → Prop} {Q : Exit → Act → World → Prop} {E : Prop} {w wr : World} (hgd : o.guard = none) (s x : Operand)
    (ho : o.op = .call { callee := .builtin .append, args := #[s, x], argTypes := #[25, 25] }) {ys : List Int} {ad : Option Addr} {c : Nat}
    (hs : a.eval s = .slice (some ⟨wr.heap.size, 0, none⟩) 0 0) (hx : a.eval x = .slice ad ys.length c) (hw : w = wr.alloc (.cells #[] 3) ∨ w = (wr.alloc (.cells #[] 3)).drew) (hsrc : SrcAt wr ad (ys.map (Value.int .i64))) (hy : ∀ x ∈ ys, I64 x) (hn : ys.length ≤ 4294967296)
    (h : ∀ b c' w', OInts wr.heap.size w' (.slice b ys.length c') ys → Gr wr w' → K (a.put o.dst (.slice b ys.length c')) w') :
    if Region.wanted o (yielded ops a.tmps) = true then Oper.wp Tryz.prog o a w K Q else E := by
  have hg : Gr wr w := by
    rcases hw with rfl | rfl
    · exact (Gr.refl _).alloc _
    · exact ((Gr.refl _).alloc _).drew
  have ho0 : OInts wr.heap.size w (.slice (some ⟨wr.heap.size, 0, none⟩) 0 0) [] := by
    rcases hw with rfl | rfl <;> exact ⟨own_empty wr _ _ _ (Nat.le_refl _), fun _ h => absurd h (by simp)⟩
  refine step_spread_i hgd s x ho [] hs hx ho0 ?_ hy (by simp; omega) hg.size fun b c' w' h1 h2 => ?_
  · rcases hsrc with h | ⟨b, off, h1, h2⟩
    · exact Or.inl h
    · exact Or.inr ⟨b, off, h1, fun j u hj => hg.cellv (h2 j u hj)⟩
  · simp only [List.nil_append] at h1 ⊢
    exact h b c' w' h1 (hg.trans' h2)
end Go.Proofs.YtcdcpfcmhmhdjaaGreatDoor
