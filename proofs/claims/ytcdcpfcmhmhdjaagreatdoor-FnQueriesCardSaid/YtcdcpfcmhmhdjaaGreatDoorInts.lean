/- The functions over slices of integers: readers (hasInt, HasMember, IsSet, eqIntS, szIntS) and the copier toIntS. -/
import Derived.Test.YtcdcpfcmhmhdjaaGreatDoorSc
namespace Go.Proofs.YtcdcpfcmhmhdjaaGreatDoor
open Go.RowKit
/-- xs in memory of the call's own, from block lo on. -/
def OInts (lo : Nat) (w : World) (v : Value) (xs : List Int) : Prop := w.ownsRow lo 3 1 v xs.length (xs.map (Value.int .i64)) ∧ ∀ x ∈ xs, I64 x
theorem OInts.reads {lo : Nat} {w : World} {v : Value} {xs : List Int} (h : OInts lo w v xs) : RInts w v xs := by
  obtain ⟨⟨h1, h2⟩, h3⟩ := h
  rcases h2 with ⟨rfl, h0⟩ | ⟨g, cap, cur, rfl, _, hg, hn, hm, hs, ht⟩
  · refine ⟨none, 0, by simp [h0], by omega, by omega, fun i hi => by omega⟩
  · refine ⟨_, cap, rfl, hn, by simpa [maxLen] using hm, fun i hi => ⟨g, 0, [.int .i64 xs[i]], rfl, rfl, ⟨rfl, h3 _ (List.getElem_mem hi)⟩, fun j hj => ?_⟩⟩
    have hj0 : j = 0 := by simpa using hj
    subst hj0
    have e : cur[i]? = some (.int .i64 xs[i]) := by
      have h4 : (cur.toList.take (xs.length * 1))[i]? = (xs.map (Value.int .i64))[i]? := by rw [ht]
      rw [List.getElem?_take, if_pos (by omega)] at h4
      simpa [hi] using h4
    simp [World.cell?, hg, e]
theorem OInts.loc {lo : Nat} {w w' : World} {v : Value} {xs : List Int} (h : OInts lo w v xs) (hl : Loc lo w w') : OInts lo w' v xs := by
  refine ⟨⟨h.1.1, ?_⟩, h.2⟩
  rcases h.1.2 with h0 | ⟨g, cap, cur, hv, hb, hgg, r⟩
  · exact Or.inl h0
  · exact Or.inr ⟨g, cap, cur, hv, hb, by rw [hl.2 g hb (Array.getElem?_eq_some_iff.1 hgg).1]; exact hgg, r⟩
theorem OInts.fresh {lo : Nat} {w : World} {v : Value} {xs : List Int} (h : OInts lo w v xs) : Fresh lo RInts w v xs := fun _ hl => (h.loc hl).reads
theorem OInts.isSl {lo : Nat} {w : World} {v : Value} {xs : List Int} (h : OInts lo w v xs) : IsSl v := by
  obtain ⟨a, cap, rfl, -, -, -⟩ := h.reads
  exact ⟨_, _, _, rfl⟩
theorem OInts.mono {lo : Nat} {w w' : World} {v : Value} {xs : List Int} (h : OInts lo w v xs) (hg : Gr w w') : OInts lo w' v xs := by
  refine ⟨⟨h.1.1, ?_⟩, h.2⟩
  rcases h.1.2 with h0 | ⟨g, cap, cur, hv, hb, hgg, r⟩
  · exact Or.inl h0
  · exact Or.inr ⟨g, cap, cur, hv, hb, by rw [hg.block g (Array.getElem?_eq_some_iff.1 hgg).1]; exact hgg, r⟩
theorem OInts.le {lo lo' : Nat} {w : World} {v : Value} {xs : List Int} (h : OInts lo w v xs) (hl : lo' ≤ lo) : OInts lo' w v xs := ⟨Joins.ownsRow_le h.1 hl, h.2⟩
theorem drop_cons {α : Type} {xs : List α} {k : Nat} (h : k < xs.length) : xs.drop k = xs[k] :: xs.drop (k + 1) := List.drop_eq_getElem_cons h
def zeroI (xs : List Int) (k : Nat) : List Value := (List.range xs.length).map fun i => Value.int .i64 (if i < k then xs.getD i 0 else 0)
theorem zeroI_get (xs : List Int) (k i : Nat) : (zeroI xs k)[i]? = if i < xs.length then some (Value.int .i64 (if i < k then xs.getD i 0 else 0)) else none := by
  unfold zeroI
  by_cases h : i < xs.length <;> simp [h]
theorem zeroI_step {xs : List Int} {k : Nat} (h : k < xs.length) : (zeroI xs k).toArray.setIfInBounds k (.int .i64 xs[k]) = (zeroI xs (k + 1)).toArray := by
  apply Array.ext'
  apply List.ext_getElem?
  intro i
  simp only [List.setIfInBounds_toArray]
  rw [List.getElem?_set, zeroI_get, zeroI_get]
  have hl : (zeroI xs k).length = xs.length := by simp [zeroI]
  by_cases hik : k = i
  · subst hik
    simp [hl, h]
  · simp only [if_neg hik]
    by_cases h1 : i < k
    · simp [h1, show i < k + 1 from by omega]
    · simp [h1, show ¬ i < k + 1 from by omega]
theorem zeroI_at {xs : List Int} {k : Nat} (h : k < xs.length) : (zeroI xs k)[k]? = some (.int .i64 0) := by rw [zeroI_get]; simp [h]
theorem zeroI_end (xs : List Int) : zeroI xs xs.length = xs.map (Value.int .i64) := by
  apply List.ext_getElem?
  intro i
  rw [zeroI_get]
  by_cases h : i < xs.length <;> simp [h]
theorem zeroI_len (xs : List Int) (k : Nat) : (zeroI xs k).length = xs.length := by simp [zeroI]
theorem zeroI_zero (xs : List Int) : zeroI xs 0 = List.replicate xs.length (Value.int .i64 0) := by
  apply List.ext_getElem?
  intro i
  rw [zeroI_get]
  by_cases h : i < xs.length <;> simp [h]
theorem make_ints {P : Program} {t e : TypeId} (ht : P.underlying t = some (.slice e)) (hi : (P.info? e).map (fun i => (i.zero, i.size, i.bytes)) = some (some (.int .i64 0), 1, 8)) (w : World) (xs : List Int) (hb : xs.length ≤ 4294967296) :
    (Instr.makeSlice t (.int .i64 xs.length) (.int .i64 xs.length)).run P w = .ok (.slice (some ⟨w.heap.size, 0, none⟩) xs.length xs.length) (w.alloc (.cells (zeroI xs 0).toArray e)) := by
  obtain ⟨i, hi, hz, hs, hby⟩ := info_parts hi
  have h := run_make (P := P) w t e i _ ht hi hz .i64 .i64 (xs.length : Int) xs.length (by omega) (by omega) (by rw [hby]; omega) (by omega)
  rw [h, hs]
  have e1 : madeCells (Value.int .i64 0).cells ((xs.length : Int).toNat * 1) = (zeroI xs 0).toArray := by
    apply Array.ext'
    simp only [Value.cells, Int.toNat_natCast, Nat.mul_one]
    rw [toList_madeCells_one]
    rw [zeroI_zero]
  rw [e1]
  simp
theorem own_zeroI {w : World} {g lo : Nat} {xs : List Int} {cap : Nat} (hg : w.heap[g]? = some (.cells (zeroI xs xs.length).toArray 3 (0, 0))) (hm : cap ≤ 9223372036854775807) (hi : ∀ i (h : i < xs.length), I64 xs[i])
    (hl : xs.length ≤ cap ∧ lo ≤ g) : OInts lo w (.slice (some ⟨g, 0, none⟩) xs.length xs.length) xs := by
  refine ⟨⟨by simp, Or.inr ⟨g, xs.length, _, rfl, hl.2, hg, Nat.le_refl _, by simp [maxLen]; omega, by simp [zeroI_len], by simp only [Nat.mul_one]; rw [zeroI_end]; exact List.take_of_length_le (by simp)⟩⟩, fun x hx => ?_⟩
  obtain ⟨i, h, rfl⟩ := List.getElem_of_mem hx
  exact hi i h
theorem cell_of_row {w : World} {g : Nat} {cs : List Value} {t : TypeId} (h : w.heap[g]? = some (.cells cs.toArray t (0, 0))) (i : Nat) : w.cell? ⟨g, i, none⟩ = cs[i]? := by simp [World.cell?, h]
/-- Is n an element? -/
def hasB (xs : List Int) (n : Int) : Bool := anyB xs.length fun i => xs.getD i 0 == n
theorem hasB_iff {xs : List Int} {n : Int} : hasB xs n = true ↔ n ∈ xs := by
  unfold hasB; rw [anyB_iff]
  constructor
  · rintro ⟨j, hj, h⟩; rw [getD_lt hj] at h; simp at h; exact h ▸ List.getElem_mem hj
  · intro h; obtain ⟨j, hj, rfl⟩ := List.getElem_of_mem h; exact ⟨j, hj, by rw [getD_lt hj]; simp⟩
/-- Are two lists equal? -/
def eqL (xs ys : List Int) : Bool := decide (xs = ys)
theorem eqL_yes {xs ys : List Int} (hl : xs.length = ys.length) (h : ∀ j, j < xs.length → (xs.getD j 0 == ys.getD j 0) = true) : eqL xs ys = true := by
  unfold eqL
  simp only [decide_eq_true_eq]
  refine List.ext_getElem hl fun i h1 h2 => ?_
  have := h i h1
  rw [getD_lt h1, getD_lt h2] at this
  simpa using this
theorem eqL_no {xs ys : List Int} (k : Nat) (h1 : k < xs.length) (h2 : k < ys.length) (h : (xs[k] != ys[k]) = true) : eqL xs ys = false := by
  unfold eqL
  simp only [decide_eq_false_iff_not]
  rintro rfl
  simp at h
/-- Is every element in range and above the one before? -/
def isSetB (xs : List Int) : Bool := allB xs.length fun i => inB (xs.getD i 0) 0 23 && (i == 0 || decide (xs.getD (i - 1) 0 < xs.getD i 0))
end Go.Proofs.YtcdcpfcmhmhdjaaGreatDoor
