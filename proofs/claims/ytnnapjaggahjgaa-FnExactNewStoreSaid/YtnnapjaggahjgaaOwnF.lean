/- append(out, x) onto a row of one's own whose blocks are any set; a row whose element has been changed for one with other blocks. No program in sight. -/
import Derived.Test.YtnnapjaggahjgaaOwnPush
namespace Go.Proofs.Ytnnapjaggahjgaa
open Go.ChangeShapes Go.WideShapes Go.RowKit Go.Deep
section
variable {α : Type} {P : Program} {O : (Nat → Prop) → World → List Value → α → Prop} {ops : Array Oper} {o : Oper} {a : Act} {Q : Exit → Act → World → Prop} {w0 wr w w1 w' : World} {F F' : Nat → Prop} {t sz : Nat} {v v' : Value} {xs : List α} {cs : Nat → List Value}
/-- F, and what came from block n up to m. -/
def Plus (F : Nat → Prop) (n m b : Nat) : Prop := F b ∨ In n m b
theorem OSlE.pushF {lo a b : Nat} {c : List Value} {y : α} (hO : FramedE O) (h : OSlE t sz O F w v xs cs) (hF : ∀ b, F b → b < w.heap.size) (hg : Gr w w1) (hy : O (In a b) w1 c y) (ha : w.heap.size ≤ a) (hb : b ≤ w1.heap.size) (hc : c.length = sz)
    (hrow : w'.ownsRow lo t sz v' (xs.length + 1) (flatC sz xs.length cs ++ c)) (hw : w1.heap.size ≤ w'.heap.size) (hb' : ∀ g, v'.ownBlock = some g → v.ownBlock = some g ∨ w1.heap.size ≤ g)
    (hk : ∀ k, k < w1.heap.size → v.ownBlock ≠ some k → w'.heap[k]? = w1.heap[k]?) : OSlE t sz O (Plus F w.heap.size w'.heap.size) w' v' (xs ++ [y]) (updC cs xs.length c) := by
  obtain ⟨h1, h2, G, h3⟩ := h
  have hsz := hg.size
  refine ⟨?_, fun g hgv => ?_, fun i => if i = xs.length then In a b else G i, fun i hi => ?_⟩
  · have := hrow
    rw [List.length_append, List.length_singleton, flatC_snoc hc]
    refine ⟨this.1, ?_⟩
    rcases this.2 with h0 | ⟨g, cap, cur, hv, _, r⟩
    · exact Or.inl h0
    · exact Or.inr ⟨g, cap, cur, hv, Nat.zero_le _, r⟩
  · rcases hb' g hgv with hv | hv
    · exact Or.inl (h2 g hv)
    · exact Or.inr ⟨by omega, (hrow.lt g hgv).2⟩
  · by_cases e : i = xs.length
    · subst e
      refine ⟨by rw [updC_at]; exact hc, ?_, ?_, ?_⟩
      · rw [updC_at]
        simp only [if_true, List.getElem_concat_length]
        refine hO _ _ _ _ _ (fun k hk' hl => hk k hl fun hv => ?_) hy
        have := hF k (h2 k hv)
        have := hk'.1
        omega
      · simp only [if_true]
        intro k hk'
        refine ⟨Or.inr ⟨by have := hk'.1; omega, by have := hk'.2; omega⟩, fun hv => ?_⟩
        rcases hb' k hv with hv | hv
        · have := hF k (h2 k hv); have := hk'.1; omega
        · have := hk'.2; omega
      · intro j hj hne k hk'
        simp only [if_true] at hk'
        simp only [if_neg hne]
        intro hkj
        have := hF k ((h3 j (by simp at hj; omega)).2.2.1 k hkj).1
        have := hk'.1
        omega
    · have hi' : i < xs.length := by simp at hi; omega
      obtain ⟨q1, q2, q3, q4⟩ := h3 i hi'
      refine ⟨by rw [updC_ne _ _ e]; exact q1, ?_, ?_, ?_⟩
      · rw [updC_ne _ _ e]
        simp only [if_neg e, List.getElem_append_left hi']
        refine hO _ _ _ _ _ (fun k hk' hl => ?_) q2
        rw [hk k (by omega) (q3 k hk').2, hg.block k hl]
      · simp only [if_neg e]
        intro k hk'
        refine ⟨Or.inl (q3 k hk').1, fun hv => ?_⟩
        rcases hb' k hv with hv | hv
        · exact (q3 k hk').2 hv
        · have := hF k (q3 k hk').1; omega
      · intro j hj hne k hk'
        simp only [if_neg e] at hk'
        by_cases ej : j = xs.length
        · simp only [if_pos ej]
          intro hkj
          have := hF k (q3 k hk').1
          have := hkj.1
          omega
        · simp only [if_neg ej]
          exact q4 j (by simp at hj; omega) hne k hk'
theorem push_f {rest : List Oper} {la hb lo : Nat} (t e size bytes : Nat) {z : Value} (ht : P.underlying t = some (.slice e))
    (hi : (P.info? e).map (fun i => (i.zero, i.size, i.bytes)) = some (some z, size, bytes)) (hzs : z.cells.size = size) (hsz : 0 < size) (hby : 0 < bytes) (hgd : o.guard = none) (s x : Operand)
    (ho : o.op = .call { callee := .builtin .append, args := #[s, x], argTypes := #[t, t] }) (hO : FramedE O) {v : Value} {ys : List α} (y : α) (c : List Value)
    (hs : a.eval s = v) (hx : a.eval x = .slice (some ⟨wr.heap.size, 0, none⟩) 1 1) (hw : w = wr.alloc (.cells c.toArray e)) (hown : OSl e size O F w0 v ys) (hF : ∀ b, F b → lo ≤ b ∧ b < w0.heap.size) (hlo : lo ≤ w0.heap.size) (hg : Gr w0 wr)
    (hy : O (In la hb) wr c y) (ha : w0.heap.size ≤ la) (hhb : hb ≤ wr.heap.size) (hl : c.length = size) (h1 : ∀ u ∈ c, u.oneCell' = true) (hn : (ys.length + 1) * bytes ≤ 140737488355328)
    (h : ∀ g cap w', OSl e size O (Plus F w0.heap.size w'.heap.size) w' (.slice (some ⟨g, 0, none⟩) (ys ++ [y]).length cap) (ys ++ [y]) → Chg F wr w' → wpList P ops Q rest (a.put o.dst (.slice (some ⟨g, 0, none⟩) (ys ++ [y]).length cap)) w') :
    wpList P ops Q (o :: rest) a w := by
  obtain ⟨cs, hE⟩ := hown
  have hrow : wr.ownsRow lo e size v ys.length (flatC size ys.length cs) := (hE.frame hO (hg.agree _)).row fun b hb => (hF b hb).1
  have hvF := hE.2.1
  refine push t e size bytes ht hi hzs hsz hby hgd s x ho c hs hx hw hrow hl h1 hn (Nat.le_trans hlo hg.size) fun g cap w' k1 k2 k3 k4 => ?_
  have hp := OSlE.pushF (v' := .slice (some ⟨g, 0, none⟩) (ys.length + 1) cap) hO hE (fun b hb => (hF b hb).2) hg hy ha hhb hl k1 k2.size (fun k hk => by
    have e : g = k := Option.some.inj hk
    subst e
    rcases k3 with h3 | h3
    · exact Or.inl h3
    · exact Or.inr (by omega)) k4
  have := h g cap w' (by rw [List.length_append, List.length_singleton]; exact ⟨_, hp⟩) ⟨k2.os, k2.tape, k2.output, k2.size, fun b hb hn => k4 b hb fun hv => hn (hvF b hv)⟩
  rwa [List.length_append, List.length_singleton] at this
/-- One element changed for one whose blocks are H: some of its own elder ones, some of blocks that nobody had. -/
theorem Parts.upd2 {G : Nat → Nat → Prop} {H : Nat → Prop} {k : Nat} {c : List Value} {y : α} (hO : FramedE O) (h : Parts O sz F w v xs cs G) (hk : k < xs.length) (hrow : w'.ownsRow 0 t sz v xs.length (flatC sz xs.length (updC cs k c))) (hc : c.length = sz) (hy : O H w' c y)
    (hH : ∀ b, H b → G k b ∨ ¬ F b) (hF : ∀ b, F b → F' b) (hHF : ∀ b, H b → F' b) (hch : Chg (fun b => G k b ∨ v.ownBlock = some b) w w') : OSl t sz O F' w' v (xs.set k y) := by
  refine ⟨updC cs k c, by rw [List.length_set]; exact hrow, fun g hg => hF g (h.1 g hg), fun i => if i = k then H else G i, fun i hi => ?_⟩
  have hi' : i < xs.length := by simpa using hi
  obtain ⟨q1, q2, q3, q4⟩ := h.2 i hi'
  by_cases e : i = k
  · subst e
    simp only [if_true]
    refine ⟨by rw [updC_at]; exact hc, by rw [updC_at]; simpa using hy, fun b hb => ⟨hHF b hb, fun hv => ?_⟩, fun j hj hne b hb => ?_⟩
    · rcases hH b hb with hg | hg
      · exact (q3 b hg).2 hv
      · exact hg (h.1 b hv)
    · simp only [if_neg hne]
      intro hj'
      have hjl : j < xs.length := by simpa using hj
      rcases hH b hb with hg | hg
      · exact q4 j hjl hne b hg hj'
      · exact hg ((h.2 j hjl).2.2.1 b hj').1
  · simp only [if_neg e]
    refine ⟨by rw [updC_ne _ _ e]; exact q1, ?_, fun b hb => ⟨hF b (q3 b hb).1, (q3 b hb).2⟩, fun j hj hne b hb => ?_⟩
    · rw [updC_ne _ _ e, List.getElem_set_ne (Ne.symm e)]
      refine hO _ _ _ _ _ (fun b hb hl => hch.block b hl fun hg => ?_) q2
      rcases hg with hg | hg
      · exact q4 k hk (Ne.symm e) b hb hg
      · exact (q3 b hb).2 hg
    · by_cases ej : j = k
      · subst ej
        simp only [if_true]
        intro hj'
        rcases hH b hj' with hg | hg
        · exact q4 j hk (Ne.symm e) b hb hg
        · exact hg (q3 b hb).1
      · simp only [if_neg ej]
        exact q4 j (by simpa using hj) hne b hb
end
end Go.Proofs.Ytnnapjaggahjgaa
