/- append(out, x): an element with memory of its own, onto a row of one's own. No program in sight. -/
import Derived.Test.YtcdcpfcmhmhdjaaGreatDoorSpread
namespace Go.Proofs.YtcdcpfcmhmhdjaaGreatDoor
open Go.ChangeShapes Go.WideShapes Go.RowKit Go.Deep
section
variable {α : Type} {P : Program} {O : (Nat → Prop) → World → List Value → α → Prop} {ops : Array Oper} {o : Oper} {a : Act} {Q : Exit → Act → World → Prop} {w0 wr w : World}
theorem OSlE.pushed {t sz lo la hb : Nat} {v : Value} {ys : List α} {cs : Nat → List Value} {y : α} {c : List Value} (hO : FramedE O) (h : OSlE t sz O (In lo w0.heap.size) w0 v ys cs) (hlo : lo ≤ w0.heap.size) (hg : Gr w0 wr) (hy : O (In la hb) wr c y) (ha : w0.heap.size ≤ la) (hb : hb ≤ wr.heap.size) (hc : c.length = sz)
    {g cap : Nat} {w' : World} (h1 : w'.ownsRow lo t sz (.slice (some ⟨g, 0, none⟩) (ys.length + 1) cap) (ys.length + 1) (flatC sz ys.length cs ++ c)) (h2 : Below lo wr w') (h3 : v.ownBlock = some g ∨ g = wr.heap.size + 1) (h4 : ∀ k, k < wr.heap.size → v.ownBlock ≠ some k → w'.heap[k]? = wr.heap[k]?) :
    OSl t sz O (In lo w'.heap.size) w' (.slice (some ⟨g, 0, none⟩) (ys ++ [y]).length cap) (ys ++ [y]) := by
  have hp := OSlE.push (v' := .slice (some ⟨g, 0, none⟩) (ys.length + 1) cap) hO h hlo hg hy ha hb hc h1 h2.size (fun k hk => by
    have e : g = k := Option.some.inj hk
    subst e
    rcases h3 with h3 | h3
    · exact Or.inl h3
    · exact Or.inr (by omega)) h4
  rw [List.length_append, List.length_singleton]
  exact ⟨_, hp⟩
theorem push_o {rest : List Oper} {la hb lo : Nat} (t e size bytes : Nat) {z : Value} (ht : P.underlying t = some (.slice e))
    (hi : (P.info? e).map (fun i => (i.zero, i.size, i.bytes)) = some (some z, size, bytes)) (hzs : z.cells.size = size) (hsz : 0 < size) (hby : 0 < bytes) (hgd : o.guard = none) (s x : Operand)
    (ho : o.op = .call { callee := .builtin .append, args := #[s, x], argTypes := #[t, t] }) (hO : FramedE O) {v : Value} {ys : List α} (y : α) (c : List Value)
    (hs : a.eval s = v) (hx : a.eval x = .slice (some ⟨wr.heap.size, 0, none⟩) 1 1) (hw : w = wr.alloc (.cells c.toArray e)) (hown : OSl e size O (In lo w0.heap.size) w0 v ys) (hlo : lo ≤ w0.heap.size) (hg : Gr w0 wr)
    (hy : O (In la hb) wr c y) (ha : w0.heap.size ≤ la) (hhb : hb ≤ wr.heap.size) (hl : c.length = size) (h1 : ∀ u ∈ c, u.oneCell' = true) (hn : (ys.length + 1) * bytes ≤ 140737488355328)
    (h : ∀ g cap w', OSl e size O (In lo w'.heap.size) w' (.slice (some ⟨g, 0, none⟩) (ys ++ [y]).length cap) (ys ++ [y]) → Below lo wr w' → wpList P ops Q rest (a.put o.dst (.slice (some ⟨g, 0, none⟩) (ys ++ [y]).length cap)) w') :
    wpList P ops Q (o :: rest) a w := by
  obtain ⟨cs, hE⟩ := hown
  have hrow : wr.ownsRow lo e size v ys.length (flatC size ys.length cs) := (hE.frame hO (hg.agree _)).row fun b hb => hb.1
  refine push t e size bytes ht hi hzs hsz hby hgd s x ho c hs hx hw hrow hl h1 hn (Nat.le_trans hlo hg.size) fun g cap w' k1 k2 k3 k4 => ?_
  have := h g cap w' (hE.pushed hO hlo hg hy ha hhb hl k1 k2 k3 k4) k2
  rwa [List.length_append, List.length_singleton] at this
theorem step_push_o {K : Act → World → Prop} {E : Prop} {la hb lo : Nat} (t e size bytes : Nat) {z : Value} (ht : P.underlying t = some (.slice e))
    (hi : (P.info? e).map (fun i => (i.zero, i.size, i.bytes)) = some (some z, size, bytes)) (hzs : z.cells.size = size) (hsz : 0 < size) (hby : 0 < bytes) (hgd : o.guard = none) (s x : Operand)
    (ho : o.op = .call { callee := .builtin .append, args := #[s, x], argTypes := #[t, t] }) (hO : FramedE O) {v : Value} {ys : List α} (y : α) (c : List Value)
    (hs : a.eval s = v) (hx : a.eval x = .slice (some ⟨wr.heap.size, 0, none⟩) 1 1) (hw : w = (wr.alloc (.cells c.toArray e)).drew) (hown : OSl e size O (In lo w0.heap.size) w0 v ys) (hlo : lo ≤ w0.heap.size) (hg : Gr w0 wr)
    (hy : O (In la hb) wr c y) (ha : w0.heap.size ≤ la) (hhb : hb ≤ wr.heap.size) (hl : c.length = size) (h1 : ∀ u ∈ c, u.oneCell' = true) (hn : (ys.length + 1) * bytes ≤ 140737488355328)
    (h : ∀ g cap w', OSl e size O (In lo w'.heap.size) w' (.slice (some ⟨g, 0, none⟩) (ys ++ [y]).length cap) (ys ++ [y]) → Below lo wr w' → K (a.put o.dst (.slice (some ⟨g, 0, none⟩) (ys ++ [y]).length cap)) w') :
    if Region.wanted o (yielded ops a.tmps) = true then Oper.wp P o a w K Q else E := by
  obtain ⟨cs, hE⟩ := hown
  have hrow : wr.ownsRow lo e size v ys.length (flatC size ys.length cs) := (hE.frame hO (hg.agree _)).row fun b hb => hb.1
  refine step_push t e size bytes ht hi hzs hsz hby hgd s x ho 1 (by decide) c hs hx hw hrow (by simpa using hl) h1 hn (Nat.le_trans hlo hg.size) fun g cap w' k1 k2 k3 k4 => ?_
  have := h g cap w' (hE.pushed hO hlo hg hy ha hhb hl k1 k2 k3 k4) k2
  rwa [List.length_append, List.length_singleton] at this
end
section
variable {α : Type} {t sz : Nat} {O : (Nat → Prop) → World → List Value → α → Prop} {F : Nat → Prop} {w w' : World} {v : Value} {xs : List α} {cs : Nat → List Value} {G : Nat → Nat → Prop}
theorem Parts.frame (hO : FramedE O) (h : Parts O sz F w v xs cs G) (k : Agree F w w') : Parts O sz F w' v xs cs G := ⟨h.1, fun i hi => by
  obtain ⟨a, b, c, d⟩ := h.2 i hi
  exact ⟨a, hO _ _ _ _ _ (k.mono fun b hb => (c b hb).1) b, c, d⟩⟩
end
end Go.Proofs.YtcdcpfcmhmhdjaaGreatDoor
