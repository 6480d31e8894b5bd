/- ParseRow: the plain law: what the two readers make is one and the same. No program in sight. -/
import Derived.Test.YtjeffagejbdjkaaDoorPSetP
import Derived.Test.YtjeffagejbdjkaaDoorRowF
namespace Go.Proofs.YtjeffagejbdjkaaDoor
open Go.RowKit
/-- All pieces read as numbers. -/
def parseAll : List (List UInt8) → Option (List Int)
  | [] => some []
  | p :: ps => match parseI p with
    | none => none
    | some n => match parseAll ps with
      | none => none
      | some r => some (n :: r)
theorem parseAll_map {xs : List Int} (h : ∀ x ∈ xs, -999999999 ≤ x ∧ x ≤ 999999999) : parseAll (xs.map Lib.itoa) = some xs := by
  induction xs with
  | nil => rfl
  | cons x r ih =>
    have hx := h x (by simp)
    rw [List.map_cons, parseAll, parseI_itoa hx.1 hx.2, ih (fun y hy => h y (by simp [hy]))]
theorem numV_map {xs : List Int} (h : ∀ x ∈ xs, -999999999 ≤ x ∧ x ≤ 999999999) : (xs.map Lib.itoa).map numV = xs := by
  induction xs with
  | nil => rfl
  | cons x r ih =>
    have hx := h x (by simp)
    rw [List.map_cons, List.map_cons, numV_itoa hx.1 hx.2, ih (fun y hy => h y (by simp [hy]))]
def rowId (l : List UInt8) : Int := numV ((cutL 58 l).getD 0 [])
def rowVals (l : List UInt8) : List Int := if (cutL 58 l).length = 2 then (cutL 44 ((cutL 58 l).getD 1 [])).map numV else []
def specRow (l : List UInt8) : Option DRow := if l ≠ [] ∧ rowText ⟨rowId l, rowVals l⟩ = l then some ⟨rowId l, rowVals l⟩ else none
def implRow (l : List UInt8) : Option DRow := match parseI (Lib.cut l [58]).1, parseAll (cutL 44 (Lib.cut l [58]).2.1) with
  | some i, some vs => if isRowB ⟨i, vs⟩ = true ∧ rowText ⟨i, vs⟩ = l then some ⟨i, vs⟩ else none
  | _, _ => none
theorem isRow_parts {r : DRow} (h : isRowB r = true) : (∀ x ∈ r.vals, 0 ≤ x ∧ x ≤ 99) ∧ (0 ≤ r.id ∧ r.id ≤ 999) ∧ r.vals.length = 3 := by
  unfold isRowB at h
  simp only [Bool.and_eq_true, decide_eq_true_eq] at h
  refine ⟨fun x hx => ?_, by have := h.2.1; simpa [inB] using this, h.2.2⟩
  obtain ⟨j, hj, rfl⟩ := List.getElem_of_mem hx
  have := allB_iff.1 h.1 j hj
  unfold valAt at this
  rw [getD_lt hj] at this
  simpa [inB] using this
theorem digits_no {c : UInt8} (hc : isDg c = false) {n : Int} (h : 0 ≤ n) : ∀ b ∈ Lib.itoa n, b ≠ c := fun b hb => dg_ne (itoa_dg h b hb) hc
theorem join_no {c s : UInt8} (hs : s ≠ c) : ∀ {ws : List (List UInt8)}, (∀ w ∈ ws, ∀ b ∈ w, b ≠ c) → ∀ b ∈ Lib.join ws [s], b ≠ c
  | [], _, b, hb => by simp [Lib.join_nil] at hb
  | x :: r, h, b, hb => by
    rw [Lib.join_cons] at hb
    rcases List.mem_append.1 hb with h1 | h1
    · exact h x (by simp) b h1
    · unfold Lib.joinTail at h1
      obtain ⟨y, hy, hb2⟩ := List.mem_flatten.1 h1
      obtain ⟨z, hz, rfl⟩ := List.mem_map.1 hy
      rcases List.mem_append.1 hb2 with h3 | h3
      · rw [List.mem_singleton.1 h3]; exact hs
      · exact h z (by simp [hz]) b h3
theorem row_cut {r : DRow} (h : isRowB r = true) : cutL 58 (rowText r) = [Lib.itoa r.id, numsText r.vals] ∧ Lib.cut (rowText r) [58] = (Lib.itoa r.id, numsText r.vals, true) ∧ cutL 44 (numsText r.vals) = r.vals.map Lib.itoa := by
  obtain ⟨h1, h2, h3⟩ := isRow_parts h
  have hne : r.vals.map Lib.itoa ≠ [] := by intro e; have := congrArg List.length e; rw [List.length_map, h3] at this; simp at this
  have d58 : ∀ b ∈ Lib.itoa r.id, b ≠ 58 := digits_no (by decide) h2.1
  have v44 : ∀ w ∈ r.vals.map Lib.itoa, ∀ b ∈ w, b ≠ 44 := by
    intro w hw; obtain ⟨x, hx, rfl⟩ := List.mem_map.1 hw; exact digits_no (by decide) (h1 x hx).1
  have v58 : ∀ w ∈ r.vals.map Lib.itoa, ∀ b ∈ w, b ≠ 58 := by
    intro w hw; obtain ⟨x, hx, rfl⟩ := List.mem_map.1 hw; exact digits_no (by decide) (h1 x hx).1
  have n58 : ∀ b ∈ numsText r.vals, b ≠ 58 := join_no (by decide) v58
  have e : rowText r = Lib.itoa r.id ++ 58 :: numsText r.vals := by rw [rowText_yes h]; simp
  have hc : cutL 58 (rowText r) = [Lib.itoa r.id, numsText r.vals] := by rw [e, cutL_two d58, cutL_lone n58]
  refine ⟨hc, ?_, cutL_join _ hne v44⟩
  rcases cut_cut 58 (rowText r) with ⟨h5, _⟩ | ⟨x, y, h5, h6, h7, h8⟩
  · rw [hc] at h5; simp at h5
  · rw [hc] at h7
    have e3 := List.cons.inj h7
    have e4 : x = Lib.itoa r.id := e3.1.symm
    subst e4
    rw [e] at h5
    have e5 : y = numsText r.vals := ((List.cons.inj (List.append_cancel_left h5)).2).symm
    rw [h8, e5]
theorem row_read {r : DRow} (h : isRowB r = true) : rowId (rowText r) = r.id ∧ rowVals (rowText r) = r.vals ∧ implRow (rowText r) = some r := by
  obtain ⟨h1, h2, h3⟩ := isRow_parts h
  obtain ⟨c1, c2, c3⟩ := row_cut h
  have hb : ∀ x ∈ r.vals, -999999999 ≤ x ∧ x ≤ 999999999 := fun x hx => by have := h1 x hx; omega
  refine ⟨?_, ?_, ?_⟩
  · unfold rowId; rw [c1]; exact numV_itoa (by omega) (by omega)
  · unfold rowVals; rw [c1]
    show (cutL 44 (numsText r.vals)).map numV = r.vals
    rw [c3, numV_map hb]
  · unfold implRow; rw [c2]
    simp only
    rw [parseI_itoa (by omega) (by omega), c3, parseAll_map hb]
    exact if_pos ⟨h, rfl⟩
theorem implRow_some {l : List UInt8} {r : DRow} (h : implRow l = some r) : isRowB r = true ∧ rowText r = l := by
  unfold implRow at h
  split at h
  · split at h
    · rename_i hc; injection h with h; subst h; exact hc
    · cases h
  · cases h
theorem specRow_eq (l : List UInt8) : specRow l = implRow l := by
  unfold specRow
  by_cases hc : l ≠ [] ∧ rowText ⟨rowId l, rowVals l⟩ = l
  · rw [if_pos hc]
    have hr : isRowB ⟨rowId l, rowVals l⟩ = true := by
      cases h : isRowB ⟨rowId l, rowVals l⟩ with
      | true => rfl
      | false => have := hc.2; rw [rowText_no h] at this; exact absurd this.symm hc.1
    have := (row_read hr).2.2
    rw [hc.2] at this
    exact this.symm
  · rw [if_neg hc]
    cases h : implRow l with
    | none => rfl
    | some r =>
      obtain ⟨h1, h2⟩ := implRow_some h
      obtain ⟨k1, k2, _⟩ := row_read h1
      rw [h2] at k1 k2
      refine absurd ⟨?_, ?_⟩ hc
      · intro e
        rw [e, rowText_yes h1] at h2
        simp at h2
      · rw [k1, k2]; exact h2
theorem implRow_len {l : List UInt8} {r : DRow} (h : implRow l = some r) : r.vals.length = 3 := (isRow_parts (implRow_some h).1).2.2
end Go.Proofs.YtjeffagejbdjkaaDoor
