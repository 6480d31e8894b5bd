/- A text cut at a byte: the plain laws. No program in sight. -/
import Derived.Test.YtcdcpfcmhmhdjaaDoorSetI
import Derived.Lib.Split
namespace Go.Proofs.YtcdcpfcmhmhdjaaDoor
open Go.RowKit
/-- The pieces of a text between the bytes c. -/
def cutL (c : UInt8) : List UInt8 → List (List UInt8)
  | [] => [[]]
  | b :: r => if b = c then [] :: cutL c r else match cutL c r with
    | p :: ps => (b :: p) :: ps
    | [] => [[b]]
theorem cutL_ne (c : UInt8) : ∀ l, cutL c l ≠ []
  | [] => by simp [cutL]
  | b :: r => by
    unfold cutL
    split
    · simp
    · split <;> simp
/-- A piece put ahead of the first. -/
def glue (a : List UInt8) : List (List UInt8) → List (List UInt8)
  | p :: ps => (a ++ p) :: ps
  | [] => [a]
theorem glue_nil (c : UInt8) (l : List UInt8) : glue [] (cutL c l) = cutL c l := by
  cases h : cutL c l with
  | nil => exact absurd h (cutL_ne c l)
  | cons p ps => rfl
theorem cutL_hit (c : UInt8) (r : List UInt8) : cutL c (c :: r) = [] :: cutL c r := by
  rw [cutL, if_pos rfl]
theorem cutL_other {b c : UInt8} (h : b ≠ c) (r : List UInt8) : cutL c (b :: r) = glue [b] (cutL c r) := by
  rw [cutL, if_neg h]
  cases cutL c r <;> rfl
theorem glue_glue (a b : List UInt8) (ps : List (List UInt8)) : glue a (glue b ps) = glue (a ++ b) ps := by
  cases ps with
  | nil => rfl
  | cons p ps => simp [glue]
theorem cutL_pre {c : UInt8} : ∀ (a r : List UInt8), (∀ b ∈ a, b ≠ c) → cutL c (a ++ r) = glue a (cutL c r)
  | [], r, _ => by rw [List.nil_append, glue_nil]
  | b :: a, r, h => by
    rw [List.cons_append, cutL_other (h b (by simp)), cutL_pre a r (fun x hx => h x (by simp [hx])), glue_glue]; rfl
theorem cutL_lone {c : UInt8} {a : List UInt8} (h : ∀ b ∈ a, b ≠ c) : cutL c a = [a] := by
  have := cutL_pre a [] h
  rw [List.append_nil] at this
  rw [this]; simp [cutL, glue]
theorem cutL_two {c : UInt8} {a r : List UInt8} (h : ∀ b ∈ a, b ≠ c) : cutL c (a ++ c :: r) = a :: cutL c r := by
  rw [cutL_pre a _ h, cutL_hit]; simp [glue]
theorem cutL_join {c : UInt8} : ∀ (ws : List (List UInt8)), ws ≠ [] → (∀ w ∈ ws, ∀ b ∈ w, b ≠ c) → cutL c (Lib.join ws [c]) = ws
  | [], h, _ => absurd rfl h
  | [x], _, h => by rw [Lib.join_one]; exact cutL_lone (h x (by simp))
  | x :: y :: r, _, h => by
    have ih := cutL_join (y :: r) (by simp) (fun w hw => h w (by simp [List.mem_cons] at hw ⊢; exact Or.inr hw))
    have e : Lib.join (x :: y :: r) [c] = x ++ c :: Lib.join (y :: r) [c] := by
      rw [Lib.join_cons, Lib.join_cons]; simp [Lib.joinTail]
    rw [e, cutL_two (h x (by simp)), ih]
theorem index_cons (c b : UInt8) (l : List UInt8) : Lib.index (b :: l) [c] = if c = b then 0 else if Lib.index l [c] == -1 then -1 else Lib.index l [c] + 1 := by
  rw [Lib.index]
  by_cases h : c = b
  · subst h; simp [List.isPrefixOf]
  · rw [if_neg h, if_neg]
    simp [List.isPrefixOf, h]
theorem cut_index (c : UInt8) : ∀ l : List UInt8, (Lib.index l [c] = -1 ∧ cutL c l = [l]) ∨ (∃ i : Nat, Lib.index l [c] = i ∧ i < l.length ∧ cutL c l = l.take i :: cutL c (l.drop (i + 1)) ∧ l = l.take i ++ c :: l.drop (i + 1) ∧ ∀ b ∈ l.take i, b ≠ c)
  | [] => Or.inl ⟨rfl, rfl⟩
  | b :: l => by
    rw [index_cons]
    by_cases h : c = b
    · subst h
      right
      exact ⟨0, by simp, by simp, by rw [cutL_hit]; rfl, rfl, by simp⟩
    · rw [if_neg h]
      rcases cut_index c l with ⟨h1, h2⟩ | ⟨i, h1, h2, h3, h4, h5⟩
      · left
        rw [h1]
        exact ⟨by simp, by rw [cutL_other (Ne.symm h), h2]; rfl⟩
      · right
        refine ⟨i + 1, ?_, by simpa using h2, ?_, by rw [List.take_succ_cons, List.drop_succ_cons, List.cons_append, ← h4], by simp only [List.take_succ_cons, List.mem_cons]; rintro x (rfl | hx); exact Ne.symm h; exact h5 x hx⟩
        · rw [h1, if_neg (by simp)]; simp
        · rw [cutL_other (Ne.symm h), h3]; rfl
theorem splitK_cut (c : UInt8) : ∀ (k : Nat) (l : List UInt8), (cutL c l).length ≤ k + 1 → Lib.splitK [c] 0 k l = cutL c l
  | 0, l, h => by
    rcases cut_index c l with ⟨_, h2⟩ | ⟨i, _, _, h3, _⟩
    · rw [h2]; rfl
    · rw [h3] at h
      have := List.length_pos_iff.2 (cutL_ne c (l.drop (i + 1)))
      rw [List.length_cons] at h; omega
  | k + 1, l, h => by
    unfold Lib.splitK
    rcases cut_index c l with ⟨h1, h2⟩ | ⟨i, h1, _, h3, _⟩
    · rw [h1, h2]; rfl
    · rw [h3] at h
      rw [h1, if_neg (by simp), h3]
      have e : (l.drop (((i : Nat) : Int).toNat + [c].length)) = l.drop (i + 1) := by simp
      rw [e, splitK_cut c k _ (by simpa using h)]
      simp
theorem countFrom_cut (c : UInt8) : ∀ (fuel : Nat) (l : List UInt8), l.length < fuel → (cutL c l).length = Lib.countFrom [c] fuel l + 1
  | 0, l, h => absurd h (Nat.not_lt_zero _)
  | fuel + 1, l, h => by
    unfold Lib.countFrom
    rcases cut_index c l with ⟨h1, h2⟩ | ⟨i, h1, h3, h4, h5, h6⟩
    · rw [h1, h2]; rfl
    · rw [h1, if_neg (by simp), h4]
      have e : (l.drop (((i : Nat) : Int).toNat + [c].length)) = l.drop (i + 1) := by simp
      rw [e, List.length_cons, countFrom_cut c fuel _ (by rw [List.length_drop]; omega)]
      omega
theorem split_cut (c : UInt8) (l : List UInt8) : Lib.split l [c] = cutL c l := by
  unfold Lib.split Lib.count
  exact splitK_cut c _ l (by rw [countFrom_cut c (l.length + 1) l (by omega)]; exact Nat.le_refl _)
theorem cut_cut (c : UInt8) (l : List UInt8) : (cutL c l = [l] ∧ Lib.cut l [c] = (l, [], false)) ∨ (∃ a r, l = a ++ c :: r ∧ (∀ b ∈ a, b ≠ c) ∧ cutL c l = a :: cutL c r ∧ Lib.cut l [c] = (a, r, true)) := by
  rcases cut_index c l with ⟨h1, h2⟩ | ⟨i, h1, h3, h4, h5, h6⟩
  · left
    exact ⟨h2, by unfold Lib.cut; rw [h1]; rfl⟩
  · right
    refine ⟨l.take i, l.drop (i + 1), h5, h6, h4, ?_⟩
    · unfold Lib.cut
      rw [h1, if_pos (Int.natCast_nonneg _)]
      simp
end Go.Proofs.YtcdcpfcmhmhdjaaDoor
