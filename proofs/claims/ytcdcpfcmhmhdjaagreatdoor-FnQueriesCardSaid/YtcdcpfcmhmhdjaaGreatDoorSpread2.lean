/- append(out, xs...) of elements that were there before: the row is the call's own, what its elements hold is old. No program in sight. -/
import Derived.Test.YtcdcpfcmhmhdjaaGreatDoorSpread
namespace Go.Proofs.YtcdcpfcmhmhdjaaGreatDoor
open Go.ChangeShapes Go.WideShapes Go.RowKit Go.Deep
theorem flatC_append {sz n m : Nat} {cs ds : Nat → List Value} : flatC sz (n + m) (fun i => if i < n then cs i else ds (i - n)) = flatC sz n cs ++ flatC sz m ds := by
  by_cases hs : 0 < sz
  · apply List.ext_getElem?; intro p
    rw [flatC_get, List.getElem?_append, flatC_len, flatC_get, flatC_get, Nat.add_mul]
    by_cases h : p < n * sz
    · have h2 : p / sz < n := (Nat.div_lt_iff_lt_mul hs).2 h
      rw [if_pos h, if_pos h, if_pos (by omega), if_pos h2]
    · rw [if_neg h]
      have h2 : ¬ p / sz < n := fun h' => h ((Nat.div_lt_iff_lt_mul hs).1 h')
      obtain ⟨q, rfl⟩ : ∃ q, p = q + n * sz := ⟨p - n * sz, by omega⟩
      have e1 : (q + n * sz) / sz = q / sz + n := by rw [Nat.add_mul_div_right _ _ hs]
      have e2 : (q + n * sz) % sz = q % sz := Nat.add_mul_mod_self_right ..
      by_cases h3 : q < m * sz
      · have h4 : q + n * sz < n * sz + m * sz := by omega
        have h5 : ¬ q / sz + n < n := by omega
        rw [if_pos h4, e1, e2, if_neg h5, Nat.add_sub_cancel, Nat.add_sub_cancel, if_pos h3]
      · have h4 : ¬ q + n * sz < n * sz + m * sz := by omega
        rw [if_neg h4, Nat.add_sub_cancel, if_neg h3]
  · have : sz = 0 := by omega
    subst this
    simp [flatC]
/-- A row of the call's own whose elements read, in the world W before, as xs. -/
def ORd {α : Type} (t sz : Nat) (R : World → List Value → α → Prop) (W w : World) (v : Value) (xs : List α) : Prop :=
  ∃ cs, w.ownsRow W.heap.size t sz v xs.length (flatC sz xs.length cs) ∧ ∀ i (h : i < xs.length), (cs i).length = sz ∧ R W (cs i) xs[i]
def OneCells {α : Type} (R : World → List Value → α → Prop) : Prop := ∀ w cs x, R w cs x → ∀ c ∈ cs, c.oneCell' = true
section
variable {α : Type} {t sz : Nat} {R : World → List Value → α → Prop} {W w w' : World} {v : Value} {xs : List α}
theorem ORd.reads (hR : Keeps R) (hg : Gr W w) (h : ORd t sz R W w v xs) : RSlice sz R w v xs := by
  obtain ⟨cs, ⟨h1, h2⟩, h3⟩ := h
  rcases h2 with ⟨rfl, h0⟩ | ⟨g, cap, cur, rfl, _, hgg, hn, hm, hs, ht⟩
  · exact ⟨none, 0, by simp [h0], by omega, by omega, fun i hi => absurd hi (by omega)⟩
  · refine ⟨_, cap, rfl, hn, by simpa [maxLen] using hm, fun i hi => ⟨g, 0, cs i, rfl, (h3 i hi).1, hR _ _ _ _ hg (h3 i hi).2, fun j hj => ?_⟩⟩
    have hjs : j < sz := by rw [← (h3 i hi).1]; exact hj
    have e : cur[i * sz + j]? = some ((cs i).getD j undef) := by
      have h4 : (cur.toList.take (xs.length * sz))[i * sz + j]? = some ((cs i).getD j undef) := by rw [ht]; exact flatC_at hi hjs
      rw [List.getElem?_take, if_pos (idx_lt hi hjs)] at h4
      simpa using h4
    simp [World.cell?, hgg, e, hj]
theorem ORd.gr (h : ORd t sz R W w v xs) (hg : Gr w w') : ORd t sz R W w' v xs := by
  obtain ⟨cs, ⟨h1, h2⟩, h3⟩ := h
  refine ⟨cs, ⟨h1, ?_⟩, h3⟩
  rcases h2 with h0 | ⟨g, cap, cur, hv, hb, hgg, r⟩
  · exact Or.inl h0
  · exact Or.inr ⟨g, cap, cur, hv, hb, by rw [hg.block g (Array.getElem?_eq_some_iff.1 hgg).1]; exact hgg, r⟩
theorem ORd.nil (W w : World) : ORd t sz R W w (.slice none 0 0) [] := ⟨fun _ => [], ⟨by simp [flatC], Or.inl ⟨rfl, rfl⟩⟩, fun i hi => absurd hi (Nat.not_lt_zero _)⟩
theorem ORd.made (hg : Gr W w) : ORd t sz R W (w.alloc (.cells #[] t)) (.slice (some ⟨w.heap.size, 0, none⟩) 0 0) [] :=
  ⟨fun _ => [], ⟨by simp [flatC], Or.inr ⟨_, 0, #[], rfl, hg.size, heap_alloc_new w _, Nat.le_refl _, Nat.zero_le _, by simp, by simp [flatC]⟩⟩, fun i hi => absurd hi (Nat.not_lt_zero _)⟩
end
theorem spread_r {α : Type} {P : Program} {ops : Array Oper} {rest : List Oper} {o : Oper} {a : Act} {Q : Exit → Act → World → Prop} {W w : World} {R : World → List Value → α → Prop} (t e size bytes : Nat) {z : Value} (ht : P.underlying t = some (.slice e))
    (hi : (P.info? e).map (fun i => (i.zero, i.size, i.bytes)) = some (some z, size, bytes)) (hzs : z.cells.size = size) (hsz : 0 < size) (hby : 0 < bytes) (h1 : OneCells R) (hgd : o.guard = none) (s x : Operand)
    (ho : o.op = .call { callee := .builtin .append, args := #[s, x], argTypes := #[t, t] }) {v u : Value} {xs ys : List α}
    (hs : a.eval s = v) (hx : a.eval x = u) (hown : ORd e size R W w v xs) (hy : RSlice size R W u ys) (hg : Gr W w) (hn : (xs.length + ys.length) * bytes ≤ 140737488355328)
    (h : ∀ b c' w', ORd e size R W w' (.slice b (xs ++ ys).length c') (xs ++ ys) → Below W.heap.size w w' → wpList P ops Q rest (a.put o.dst (.slice b (xs ++ ys).length c')) w') :
    wpList P ops Q (o :: rest) a w := by
  obtain ⟨cs, hrow, hel⟩ := hown
  obtain ⟨ad, c, ds, rfl, hds, hsrc⟩ := hy.src
  have hsrc' : SrcAt w ad (flatC size ys.length ds) := by
    rcases hsrc with h | ⟨b, off, h1, h2⟩
    · exact Or.inl h
    · exact Or.inr ⟨b, off, h1, fun j u hj => hg.cellv (h2 j u hj)⟩
  refine spread t e size bytes ht hi hzs hsz hby hgd s x ho (flatC size ys.length ds) hs hx hrow (flatC_len ..) hsrc' (fun u hu => ?_) hn hg.size fun v' w' k1 k2 _ _ => ?_
  · obtain ⟨p, hp, rfl⟩ := List.getElem_of_mem hu
    have hp' : p < ys.length * size := by rw [flatC_len] at hp; exact hp
    have hlt : p / size < ys.length := (Nat.div_lt_iff_lt_mul hsz).2 hp'
    have e0 := List.getElem?_eq_getElem hp
    rw [flatC_get, if_pos hp'] at e0
    have hm : p % size < (ds (p / size)).length := by rw [(hds _ hlt).1]; exact Nat.mod_lt _ hsz
    have e1 : (flatC size ys.length ds)[p] = (ds (p / size))[p % size] := by
      have := Option.some.inj e0
      rw [← this]; simp [hm]
    rw [e1]
    exact h1 _ _ _ (hds _ hlt).2 _ (List.getElem_mem hm)
  · have hO : ORd e size R W w' v' (xs ++ ys) := by
      refine ⟨fun i => if i < xs.length then cs i else ds (i - xs.length), by rw [List.length_append, flatC_append]; exact k1, fun i hi => ?_⟩
      by_cases hlt : i < xs.length
      · simp only [if_pos hlt, List.getElem_append_left hlt]; exact hel i hlt
      · have hi' : i - xs.length < ys.length := by simp at hi; omega
        simp only [if_neg hlt, List.getElem_append_right (Nat.le_of_not_lt hlt)]
        exact hds _ hi'
    obtain ⟨cs', hr', _⟩ := id hO
    obtain ⟨b, c', rfl, _⟩ := row_form (t := e) (sz := size) (w := w') ⟨hr'.1, by
      rcases hr'.2 with h0 | ⟨g, cap, cur, hv, _, r⟩
      · exact Or.inl h0
      · exact Or.inr ⟨g, cap, cur, hv, Nat.zero_le _, r⟩⟩
    exact h b c' w' hO k2
theorem RInts.one {w : World} {u : Value} {xs : List Int} (h : RInts w u xs) : u.oneCell' = true := by
  obtain ⟨a, c, rfl⟩ := h.form; rfl
theorem one_version : OneCells RVersion := fun _ _ _ ⟨u, h, _, hu, _⟩ c hc => by
  subst h
  simp only [List.mem_cons, List.not_mem_nil, or_false] at hc
  rcases hc with rfl | rfl | rfl | rfl
  · rfl
  · exact hu.one
  · rfl
  · rfl
theorem one_row : OneCells RRow := fun _ _ _ ⟨u, h, _, hu⟩ c hc => by
  subst h
  simp only [List.mem_cons, List.not_mem_nil, or_false] at hc
  rcases hc with rfl | rfl
  · rfl
  · exact hu.one
theorem one_cond : OneCells RCond := fun _ _ _ h c hc => by
  rw [h.1] at hc
  simp only [List.mem_cons, List.not_mem_nil, or_false] at hc
  rcases hc with rfl | rfl | rfl <;> rfl
end Go.Proofs.YtcdcpfcmhmhdjaaGreatDoor
