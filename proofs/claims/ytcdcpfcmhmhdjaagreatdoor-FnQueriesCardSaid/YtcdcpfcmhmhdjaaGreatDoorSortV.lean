/- append(out, x) and append(out, xs...): the row is the call's own, its elements read in every world of a kind. No program in sight. -/
import Derived.Test.YtcdcpfcmhmhdjaaGreatDoorSpread2
import Derived.Test.YtcdcpfcmhmhdjaaGreatDoorOwnPush
namespace Go.Proofs.YtcdcpfcmhmhdjaaGreatDoor
open Go.ChangeShapes Go.WideShapes Go.RowKit Go.Deep
/-- A row of the call's own (at lo or above) whose elements read in every world that Q holds of. -/
def ORq {α : Type} (t sz : Nat) (R : World → List Value → α → Prop) (Q : World → Prop) (lo : Nat) (w : World) (v : Value) (xs : List α) : Prop :=
  ∃ cs, w.ownsRow lo t sz v xs.length (flatC sz xs.length cs) ∧ ∀ i (h : i < xs.length), (cs i).length = sz ∧ ∀ w', Q w' → R w' (cs i) xs[i]
section
variable {α : Type} {t sz lo : Nat} {R : World → List Value → α → Prop} {Q Q' : World → Prop} {w w' : World} {v : Value} {xs : List α}
theorem ORq.made (h : lo ≤ w.heap.size) : ORq t sz R Q lo (w.alloc (.cells #[] t)) (.slice (some ⟨w.heap.size, 0, none⟩) 0 0) [] :=
  ⟨fun _ => [], ⟨by simp [flatC], Or.inr ⟨_, 0, #[], rfl, h, heap_alloc_new w _, Nat.le_refl _, Nat.zero_le _, by simp, by simp [flatC]⟩⟩, fun i hi => absurd hi (Nat.not_lt_zero _)⟩
theorem ORq.gr (h : ORq t sz R Q lo w v xs) (hg : Gr w w') : ORq t sz R Q lo w' v xs := by
  obtain ⟨cs, ⟨h1, h2⟩, h3⟩ := h
  refine ⟨cs, ⟨h1, ?_⟩, h3⟩
  rcases h2 with h0 | ⟨g, cap, cur, hv, hb, hgg, r⟩
  · exact Or.inl h0
  · exact Or.inr ⟨g, cap, cur, hv, hb, by rw [hg.block g (Array.getElem?_eq_some_iff.1 hgg).1]; exact hgg, r⟩
theorem ORq.imp (h : ORq t sz R Q lo w v xs) (k : ∀ w', Q' w' → Q w') : ORq t sz R Q' lo w v xs := by
  obtain ⟨cs, h1, h3⟩ := h
  exact ⟨cs, h1, fun i hi => ⟨(h3 i hi).1, fun w' hw => (h3 i hi).2 w' (k w' hw)⟩⟩
theorem ORq.lt (h : ORq t sz R Q lo w v xs) {g : Nat} (hg : v.ownBlock = some g) : lo ≤ g ∧ g < w.heap.size := by
  obtain ⟨cs, h1, _⟩ := h; exact h1.lt g hg
theorem ORq.reads (h : ORq t sz R Q lo w v xs) (hq : Q w) : RSlice sz R w v xs := by
  obtain ⟨cs, ⟨h1, h2⟩, h3⟩ := h
  rcases h2 with ⟨rfl, h0⟩ | ⟨g, cap, cur, rfl, _, hgg, hn, hm, hs, ht⟩
  · exact ⟨none, 0, by simp [h0], by omega, by omega, fun i hi => absurd hi (by omega)⟩
  · refine ⟨_, cap, rfl, hn, by simpa [maxLen] using hm, fun i hi => ⟨g, 0, cs i, rfl, (h3 i hi).1, (h3 i hi).2 _ hq, fun j hj => ?_⟩⟩
    have hjs : j < sz := by rw [← (h3 i hi).1]; exact hj
    have e : cur[i * sz + j]? = some ((cs i).getD j undef) := by
      have h4 : (cur.toList.take (xs.length * sz))[i * sz + j]? = some ((cs i).getD j undef) := by rw [ht]; exact flatC_at hi hjs
      rw [List.getElem?_take, if_pos (idx_lt hi hjs)] at h4
      simpa using h4
    simp [World.cell?, hgg, e, hj]
end
theorem push_q {α : Type} {P : Program} {ops : Array Oper} {rest : List Oper} {o : Oper} {a : Act} {K : Exit → Act → World → Prop} {w wr : World} {R : World → List Value → α → Prop} {Q Q' : World → Prop} {lo : Nat} (t e size bytes : Nat) {z : Value} (ht : P.underlying t = some (.slice e))
    (hi : (P.info? e).map (fun i => (i.zero, i.size, i.bytes)) = some (some z, size, bytes)) (hzs : z.cells.size = size) (hsz : 0 < size) (hby : 0 < bytes) (hgd : o.guard = none) (s x : Operand)
    (ho : o.op = .call { callee := .builtin .append, args := #[s, x], argTypes := #[t, t] }) {v : Value} {ys : List α} (y : α) (c : List Value)
    (hs : a.eval s = v) (hx : a.eval x = .slice (some ⟨wr.heap.size, 0, none⟩) 1 1) (hw : w = wr.alloc (.cells c.toArray e)) (hown : ORq e size R Q lo wr v ys) (hlo : lo ≤ wr.heap.size) (hl : c.length = size) (h1 : ∀ u ∈ c, u.oneCell' = true)
    (hQ : ∀ w', Q' w' → Q w') (hy : ∀ w', Q' w' → R w' c y) (hn : (ys.length + 1) * bytes ≤ 140737488355328)
    (h : ∀ g cap w', ORq e size R Q' lo w' (.slice (some ⟨g, 0, none⟩) (ys ++ [y]).length cap) (ys ++ [y]) → Below lo wr w' → (v.ownBlock = some g ∨ g = wr.heap.size + 1) → (∀ k, k < wr.heap.size → v.ownBlock ≠ some k → w'.heap[k]? = wr.heap[k]?) → wpList P ops K rest (a.put o.dst (.slice (some ⟨g, 0, none⟩) (ys ++ [y]).length cap)) w') :
    wpList P ops K (o :: rest) a w := by
  obtain ⟨cs, hrow, hel⟩ := hown
  refine push t e size bytes ht hi hzs hsz hby hgd s x ho c hs hx hw hrow hl h1 hn hlo fun g cap w' k1 k2 k3 k4 => ?_
  have hO : ORq e size R Q' lo w' (.slice (some ⟨g, 0, none⟩) (ys ++ [y]).length cap) (ys ++ [y]) := by
    refine ⟨updC cs ys.length c, ?_, fun i hi => ?_⟩
    · rw [List.length_append, List.length_singleton, flatC_snoc hl]; exact k1
    · by_cases e : i = ys.length
      · subst e
        exact ⟨by rw [updC_at]; exact hl, fun w' hw' => by rw [updC_at]; simpa using hy w' hw'⟩
      · have hi' : i < ys.length := by simp at hi; omega
        refine ⟨by rw [updC_ne _ _ e]; exact (hel i hi').1, fun w' hw' => ?_⟩
        rw [updC_ne _ _ e, List.getElem_append_left hi']
        exact (hel i hi').2 w' (hQ w' hw')
  have := h g cap w' hO k2 k3 k4
  rwa [List.length_append, List.length_singleton] at this
theorem spread_q {α : Type} {P : Program} {ops : Array Oper} {rest : List Oper} {o : Oper} {a : Act} {K : Exit → Act → World → Prop} {W w : World} {R : World → List Value → α → Prop} {Q : World → Prop} {lo : Nat} (t e size bytes : Nat) {z : Value} (ht : P.underlying t = some (.slice e))
    (hi : (P.info? e).map (fun i => (i.zero, i.size, i.bytes)) = some (some z, size, bytes)) (hzs : z.cells.size = size) (hsz : 0 < size) (hby : 0 < bytes) (h1 : OneCells R) (hR : Keeps R) (hgd : o.guard = none) (s x : Operand)
    (ho : o.op = .call { callee := .builtin .append, args := #[s, x], argTypes := #[t, t] }) {v u : Value} {xs ys : List α}
    (hs : a.eval s = v) (hx : a.eval x = u) (hown : ORq e size R Q lo w v xs) (hy : RSlice size R W u ys) (hg : Gr W w) (hQ : ∀ w', Q w' → Gr W w') (hlo : lo ≤ w.heap.size) (hn : (xs.length + ys.length) * bytes ≤ 140737488355328)
    (h : ∀ b c' w', ORq e size R Q lo w' (.slice b (xs ++ ys).length c') (xs ++ ys) → Below lo w w' → (∀ k, k < w.heap.size → v.ownBlock ≠ some k → w'.heap[k]? = w.heap[k]?) → wpList P ops K rest (a.put o.dst (.slice b (xs ++ ys).length c')) w') :
    wpList P ops K (o :: rest) a w := by
  obtain ⟨cs, hrow, hel⟩ := hown
  obtain ⟨ad, c, ds, rfl, hds, hsrc⟩ := hy.src
  have hsrc' : SrcAt w ad (flatC size ys.length ds) := by
    rcases hsrc with h | ⟨b, off, h1, h2⟩
    · exact Or.inl h
    · exact Or.inr ⟨b, off, h1, fun j u hj => hg.cellv (h2 j u hj)⟩
  refine spread t e size bytes ht hi hzs hsz hby hgd s x ho (flatC size ys.length ds) hs hx hrow (flatC_len ..) hsrc' (fun u hu => ?_) hn hlo fun v' w' k1 k2 _ k4 => ?_
  · obtain ⟨p, hp, rfl⟩ := List.getElem_of_mem hu
    have hp' : p < ys.length * size := by rw [flatC_len] at hp; exact hp
    have hlt : p / size < ys.length := (Nat.div_lt_iff_lt_mul hsz).2 hp'
    have e0 := List.getElem?_eq_getElem hp
    rw [flatC_get, if_pos hp'] at e0
    have hm : p % size < (ds (p / size)).length := by rw [(hds _ hlt).1]; exact Nat.mod_lt _ hsz
    have e1 : (flatC size ys.length ds)[p] = (ds (p / size))[p % size] := by
      have := Option.some.inj e0
      rw [← this]; simp [hm]
    rw [e1]
    exact h1 _ _ _ (hds _ hlt).2 _ (List.getElem_mem hm)
  · have hO : ORq e size R Q lo w' v' (xs ++ ys) := by
      refine ⟨fun i => if i < xs.length then cs i else ds (i - xs.length), by rw [List.length_append, flatC_append]; exact k1, fun i hi => ?_⟩
      by_cases hlt : i < xs.length
      · simp only [if_pos hlt, List.getElem_append_left hlt]; exact hel i hlt
      · have hi' : i - xs.length < ys.length := by simp at hi; omega
        simp only [if_neg hlt, List.getElem_append_right (Nat.le_of_not_lt hlt)]
        exact ⟨(hds _ hi').1, fun w' hw' => hR _ _ _ _ (hQ w' hw') (hds _ hi').2⟩
    obtain ⟨cs', hr', _⟩ := id hO
    obtain ⟨b, c', rfl, _⟩ := row_form (t := e) (sz := size) (w := w') ⟨hr'.1, by
      rcases hr'.2 with h0 | ⟨g, cap, cur, hv, _, r⟩
      · exact Or.inl h0
      · exact Or.inr ⟨g, cap, cur, hv, Nat.zero_le _, r⟩⟩
    exact h b c' w' hO k2 k4
end Go.Proofs.YtcdcpfcmhmhdjaaGreatDoor
