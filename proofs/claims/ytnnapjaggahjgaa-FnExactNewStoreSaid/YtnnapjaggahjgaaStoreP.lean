/- IsStore: the plain law. No program in sight. -/
import Derived.Test.YtnnapjaggahjgaaCount
import Derived.Test.YtnnapjaggahjgaaLawC
import Derived.Test.YtnnapjaggahjgaaLawD
import Derived.Test.YtnnapjaggahjgaaMatch
namespace Go.Proofs.Ytnnapjaggahjgaa
open Go.ChangeShapes Go.WideShapes Go.RowKit Go.Deep
/-- append(out, x): an element that was there before, onto a row of the call's own. -/
theorem push_r {α : Type} {P : Program} {ops : Array Oper} {rest : List Oper} {o : Oper} {a : Act} {Q : Exit → Act → World → Prop} {W wr w : World} {R : World → List Value → α → Prop} (t e size bytes : Nat) {z : Value} (ht : P.underlying t = some (.slice e))
    (hi : (P.info? e).map (fun i => (i.zero, i.size, i.bytes)) = some (some z, size, bytes)) (hzs : z.cells.size = size) (hsz : 0 < size) (hby : 0 < bytes) (hgd : o.guard = none) (s x : Operand)
    (ho : o.op = .call { callee := .builtin .append, args := #[s, x], argTypes := #[t, t] }) {v : Value} {xs : List α} (y : α) (c : List Value)
    (hs : a.eval s = v) (hx : a.eval x = .slice (some ⟨wr.heap.size, 0, none⟩) 1 1) (hw : w = wr.alloc (.cells c.toArray e)) (hown : ORd e size R W wr v xs) (hy : R W c y) (hg : Gr W wr) (hl : c.length = size) (h1 : ∀ u ∈ c, u.oneCell' = true)
    (hn : (xs.length + 1) * bytes ≤ 140737488355328)
    (h : ∀ g cap w', ORd e size R W w' (.slice (some ⟨g, 0, none⟩) (xs ++ [y]).length cap) (xs ++ [y]) → Below W.heap.size wr w' → wpList P ops Q rest (a.put o.dst (.slice (some ⟨g, 0, none⟩) (xs ++ [y]).length cap)) w') :
    wpList P ops Q (o :: rest) a w := by
  obtain ⟨cs, hrow, hel⟩ := hown
  refine push t e size bytes ht hi hzs hsz hby hgd s x ho c hs hx hw hrow hl h1 hn hg.size fun g cap w' k1 k2 _ _ => ?_
  have hO : ORd e size R W w' (.slice (some ⟨g, 0, none⟩) (xs.length + 1) cap) (xs ++ [y]) := by
    refine ⟨updC cs xs.length c, by rw [List.length_append, List.length_singleton, flatC_snoc hl]; exact k1, fun i hi => ?_⟩
    by_cases hlt : i < xs.length
    · rw [updC_ne _ _ (by omega), List.getElem_append_left hlt]; exact hel i hlt
    · obtain rfl : i = xs.length := by simp at hi; omega
      rw [updC_at, List.getElem_concat_length rfl]; exact ⟨hl, hy⟩
  have := h g cap w' (by rw [List.length_append, List.length_singleton]; exact hO) k2
  rwa [List.length_append, List.length_singleton] at this
/-- A version by itself. -/
def versOk (now : Int) (v : DVersion) : Bool := isRowB ⟨v.id, v.vals⟩ && (inB v.born 0 now && (v.died == -1 || inB v.died (v.born + 1) now))
def meetB (v w : DVersion) : Bool := isVisB v w.born || isVisB w v.born
def clashB (v w : DVersion) : Bool := v.id == w.id && meetB v w
def apartB (a b : DVersion) : Bool := a.id != b.id || ((a.died != -1 && decide (a.died ≤ b.born)) || (b.died != -1 && decide (b.died ≤ a.born)))
theorem versOk_parts {now : Int} {v : DVersion} (h : versOk now v = true) : isRowB ⟨v.id, v.vals⟩ = true ∧ 0 ≤ v.born ∧ v.born ≤ now ∧ (v.died = -1 ∨ (v.born + 1 ≤ v.died ∧ v.died ≤ now)) := by
  unfold versOk at h
  simp only [Bool.and_eq_true, Bool.or_eq_true, beq_iff_eq] at h
  obtain ⟨h1, h2, h3⟩ := h
  have := inB_true h2
  refine ⟨h1, this.1, this.2, ?_⟩
  rcases h3 with h3 | h3
  · exact Or.inl h3
  · exact Or.inr (inB_true h3)
theorem apart_clash {now : Int} {a b : DVersion} (ha : versOk now a = true) (hb : versOk now b = true) : apartB a b = !clashB a b := by
  have h1 := (versOk_parts ha).2
  have h2 := (versOk_parts hb).2
  unfold apartB clashB meetB isVisB
  rw [Bool.eq_iff_iff]
  simp only [Bool.or_eq_true, Bool.and_eq_true, bne_iff_ne, ne_eq, decide_eq_true_eq, Bool.not_eq_true', Bool.and_eq_false_iff, beq_eq_false_iff_ne, Bool.or_eq_false_iff, decide_eq_false_iff_not]
  by_cases he : a.id = b.id
  · simp only [he, not_true_eq_false, false_or]
    omega
  · simp [he]
def dv : DVersion := ⟨0, [], 0, 0⟩
def clearB (l : List DVersion) (v : DVersion) (n : Nat) : Bool := allB n fun k => !clashB v (l.getD k dv)
def verAtB (l : List DVersion) (now : Int) (i : Nat) : Bool := versOk now (l.getD i dv) && clearB l (l.getD i dv) i
def segOkB (g : List DVersion) : Bool := decide (g.length ≤ 4)
def isStoreB (s : DStore) : Bool := (inB s.segs.length 1 8 && inB s.now 0 100000) && (s.segs.all segOkB && allB (allV s).length (verAtB (allV s) s.now))
theorem isStoreB_1 {s : DStore} (h : inB s.segs.length 1 8 = false) : isStoreB s = false := by unfold isStoreB; rw [h]; rfl
theorem isStoreB_2 {s : DStore} (h : inB s.now 0 100000 = false) : isStoreB s = false := by unfold isStoreB; rw [h, Bool.and_false]; rfl
theorem isStoreB_seg {s : DStore} {k : Nat} (hk : k < s.segs.length) (h : ¬ s.segs[k].length ≤ 4) : isStoreB s = false := by
  unfold isStoreB; rw [all_no hk (by unfold segOkB; simpa using h), Bool.false_and, Bool.and_false]
theorem isStoreB_ver {s : DStore} {i : Nat} (hi : i < (allV s).length) (h : verAtB (allV s) s.now i = false) : isStoreB s = false := by
  unfold isStoreB; rw [allB_false i hi h, Bool.and_false, Bool.and_false]
theorem isStoreB_yes {s : DStore} (h1 : inB s.segs.length 1 8 = true) (h2 : inB s.now 0 100000 = true) (h3 : ∀ j (h : j < s.segs.length), s.segs[j].length ≤ 4) (h4 : ∀ j, j < (allV s).length → verAtB (allV s) s.now j = true) : isStoreB s = true := by
  unfold isStoreB; rw [h1, h2, all_yes (fun j hj => by unfold segOkB; simpa using h3 j hj), allB_true h4]; rfl
theorem verAt_1 {l : List DVersion} {now : Int} {i : Nat} (hi : i < l.length) (h : versOk now l[i] = false) : verAtB l now i = false := by unfold verAtB; rw [getD_lt hi, h]; rfl
theorem verAt_2 {l : List DVersion} {now : Int} {i k : Nat} (hi : i < l.length) (hk : k < i) (h : clashB l[i] l[k] = true) : verAtB l now i = false := by
  have hk' : k < l.length := by omega
  unfold verAtB clearB; rw [getD_lt hi, allB_false k hk (by rw [getD_lt hk', h]; rfl), Bool.and_false]
theorem verAt_3 {l : List DVersion} {now : Int} {i : Nat} (hi : i < l.length) (h : versOk now l[i] = true) (hk : ∀ k (h : k < l.length), k < i → clashB l[i] l[k] = false) : verAtB l now i = true := by
  unfold verAtB clearB; rw [getD_lt hi, h, allB_true (fun k hki => by have hk' : k < l.length := by omega
                                                                      rw [getD_lt hk', hk k hk' hki]; rfl)]; rfl
theorem verAt_ok {l : List DVersion} {now : Int} {i : Nat} (hi : i < l.length) (h : verAtB l now i = true) : versOk now l[i] = true := by
  unfold verAtB at h; rw [getD_lt hi, Bool.and_eq_true] at h; exact h.1
/-- What a store that holds says of its parts. -/
theorem isStoreB_parts {s : DStore} (h : isStoreB s = true) : (1 ≤ s.segs.length ∧ s.segs.length ≤ 8) ∧ ∀ j (h : j < s.segs.length), s.segs[j].length ≤ 4 := by
  unfold isStoreB at h
  simp only [Bool.and_eq_true, List.all_eq_true] at h
  obtain ⟨⟨h1, _⟩, h3, _⟩ := h
  have := inB_true h1
  refine ⟨by omega, fun j hj => ?_⟩
  have := h3 _ (List.getElem_mem hj)
  simpa [segOkB] using this
theorem partV_at {xs : List (List DVersion)} {k j : Nat} (hk : k < xs.length) (hj : j < xs[k].length) : ∃ h : (partV xs k).length + j < xs.flatten.length, xs.flatten[(partV xs k).length + j] = xs[k][j] := by
  have e : xs.flatten = partV xs k ++ (xs[k] ++ (xs.drop (k + 1)).flatten) := by
    unfold partV
    conv => lhs; rw [← List.take_append_drop k xs, List.flatten_append, List.drop_eq_getElem_cons hk, List.flatten_cons]
  have hl : (partV xs k).length + j < xs.flatten.length := by rw [e]; simp; omega
  refine ⟨hl, ?_⟩
  have : xs.flatten[(partV xs k).length + j]? = some xs[k][j] := by
    rw [e, List.getElem?_append_right (Nat.le_add_right _ _), Nat.add_sub_cancel_left, List.getElem?_append_left hj, List.getElem?_eq_getElem hj]
  rw [List.getElem?_eq_getElem hl] at this
  exact Option.some.inj this
theorem partV_next {xs : List (List DVersion)} {k : Nat} (hk : k < xs.length) : (partV xs (k + 1)).length = (partV xs k).length + xs[k].length := by rw [partV_succ hk, List.length_append]
theorem partV_zero (xs : List (List DVersion)) : (partV xs 0).length = 0 := by simp [partV]
theorem allV_eq (xs : List (List DVersion)) (n : Int) : allV ⟨xs, n⟩ = xs.flatten := rfl
end Go.Proofs.Ytnnapjaggahjgaa
