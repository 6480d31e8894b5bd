/- Sets as lists: plain laws. No program in sight. -/
import Derived.Test.YtcdcpfcmhmhdjaaPriv
namespace Go.Proofs.Ytcdcpfcmhmhdjaa
open Go.RowKit
/-- The numbers below n. -/
def upTo (n : Nat) : List Int := (List.range n).map fun i : Nat => (i : Int)
theorem upTo_succ (n : Nat) : upTo (n + 1) = upTo n ++ [(n : Int)] := by simp [upTo, List.range_succ]
def pickL (p : Int → Bool) : List Int := (upTo 24).filter p
theorem pickL_len (p : Int → Bool) : (pickL p).length ≤ 24 := by
  have := List.length_filter_le p (upTo 24)
  have h : (upTo 24).length = 24 := by simp [upTo]
  unfold pickL; omega
theorem filter_upTo_succ (p : Int → Bool) (n : Nat) : (upTo (n + 1)).filter p = (upTo n).filter p ++ if p n = true then [(n : Int)] else [] := by
  rw [upTo_succ, List.filter_append]
  congr 1
  by_cases h : p n = true <;> simp [h]
/-- A set: rising, each in range. -/
theorem isSetB_iff {xs : List Int} : isSetB xs = true ↔ (∀ i (h : i < xs.length), 0 ≤ xs[i] ∧ xs[i] ≤ 23) ∧ ∀ i (h : i + 1 < xs.length), xs[i] < xs[i + 1] := by
  unfold isSetB
  rw [allB_iff]
  constructor
  · intro h
    refine ⟨fun i hi => ?_, fun i hi => ?_⟩
    · have := h i hi
      rw [getD_lt hi] at this
      simp only [Bool.and_eq_true] at this
      exact inB_true this.1
    · have := h (i + 1) hi
      rw [getD_lt hi] at this
      simp only [Bool.and_eq_true, Bool.or_eq_true, Nat.add_sub_cancel, beq_iff_eq, decide_eq_true_eq] at this
      rw [getD_lt (show i < xs.length by omega)] at this
      rcases this.2 with h2 | h2
      · omega
      · exact h2
  · rintro ⟨h1, h2⟩ j hj
    rw [getD_lt hj]
    simp only [Bool.and_eq_true, Bool.or_eq_true, beq_iff_eq, decide_eq_true_eq]
    refine ⟨inB_mk (h1 j hj).1 (h1 j hj).2, ?_⟩
    by_cases h0 : j = 0
    · exact Or.inl h0
    · obtain ⟨i, rfl⟩ : ∃ i, j = i + 1 := ⟨j - 1, by omega⟩
      right
      rw [Nat.add_sub_cancel, getD_lt (show i < xs.length by omega)]
      exact h2 i hj
theorem isSetB_pw {xs : List Int} (h : isSetB xs = true) : xs.Pairwise (· < ·) := by
  obtain ⟨_, h2⟩ := isSetB_iff.1 h
  rw [List.pairwise_iff_getElem]
  intro i j hi hj hij
  induction j with
  | zero => omega
  | succ j ih =>
    have h3 := h2 j hj
    by_cases e : i = j
    · subst e; exact h3
    · have := ih (by omega) (by omega); omega
/-- What of a rising list lies below n + 1. -/
theorem below_sorted (n : Int) : ∀ (xs : List Int), xs.Pairwise (· < ·) → xs.filter (fun x => decide (x < n + 1)) = xs.filter (fun x => decide (x < n)) ++ if hasB xs n = true then [n] else []
  | [], _ => by simp [hasB, anyB]
  | x :: xs, h => by
    have ih := below_sorted n xs (List.pairwise_cons.1 h).2
    have hall := (List.pairwise_cons.1 h).1
    by_cases h1 : x < n
    · have hb : hasB (x :: xs) n = hasB xs n := by
        rw [Bool.eq_iff_iff, hasB_iff, hasB_iff, List.mem_cons]
        constructor
        · rintro (e | e)
          · omega
          · exact e
        · exact Or.inr
      rw [hb]
      simp only [List.filter_cons, h1, show x < n + 1 by omega, decide_true, if_true, List.cons_append, ih]
    · have hnone : ∀ m : Int, m ≤ x + 1 → xs.filter (fun y => decide (y < m)) = [] := fun m hm => by
        rw [List.filter_eq_nil_iff]; intro y hy; have := hall y hy; simp; omega
      by_cases h2 : x = n
      · subst h2
        have hb : hasB (x :: xs) x = true := hasB_iff.2 (List.mem_cons_self ..)
        rw [if_pos hb]
        simp only [List.filter_cons, show x < x + 1 by omega, decide_true, if_true, show ¬ x < x by omega, decide_false, Bool.false_eq_true, if_false, hnone (x + 1) (by omega), hnone x (by omega), List.nil_append]
      · have hb : hasB (x :: xs) n = false := by
          rw [← Bool.not_eq_true, hasB_iff, List.mem_cons]
          rintro (e | e)
          · omega
          · have := hall n e; omega
        simp only [hb, List.filter_cons, h1, show ¬ x < n + 1 by omega, decide_false, Bool.false_eq_true, if_false, hnone (n + 1) (by omega), hnone n (by omega), List.nil_append]
theorem set_upTo {xs : List Int} (h : isSetB xs = true) : ∀ n : Nat, (upTo n).filter (fun x => hasB xs x) = xs.filter (fun x => decide (x < (n : Int)))
  | 0 => by
    have h1 := (isSetB_iff.1 h).1
    rw [show upTo 0 = [] from rfl, List.filter_nil]
    symm
    rw [List.filter_eq_nil_iff]
    intro x hx
    obtain ⟨i, hi, rfl⟩ := List.getElem_of_mem hx
    have := (h1 i hi).1
    simp; omega
  | n + 1 => by
    rw [filter_upTo_succ, set_upTo h n, show ((n + 1 : Nat) : Int) = (n : Int) + 1 from by omega, below_sorted (n : Int) xs (isSetB_pw h)]
theorem pick_set {xs : List Int} (h : isSetB xs = true) (p : Int → Bool) : pickL (fun x => hasB xs x && p x) = xs.filter p := by
  have h1 := set_upTo h 24
  have h2 : xs.filter (fun x => decide (x < ((24 : Nat) : Int))) = xs := by
    rw [List.filter_eq_self]
    intro x hx
    obtain ⟨i, hi, rfl⟩ := List.getElem_of_mem hx
    have := ((isSetB_iff.1 h).1 i hi).2
    simp; omega
  rw [h2] at h1
  conv => rhs; rw [← h1]
  rw [List.filter_filter]
  unfold pickL
  congr 1
  funext x
  rw [Bool.and_comm]
theorem isSetB_len {xs : List Int} (h : isSetB xs = true) : xs.length ≤ 24 := by
  have h1 := pick_set h (fun _ => true)
  have h2 := pickL_len (fun x => hasB xs x && true)
  rw [h1, List.filter_eq_self.2 (fun _ _ => rfl)] at h2
  exact h2
theorem filter_take_succ {xs : List Int} (p : Int → Bool) {k : Nat} (h : k < xs.length) : (xs.take (k + 1)).filter p = (xs.take k).filter p ++ if p xs[k] = true then [xs[k]] else [] := by
  rw [List.take_succ_eq_append_getElem h, List.filter_append]
  congr 1
  by_cases hp : p xs[k] = true <;> simp [hp]
end Go.Proofs.Ytcdcpfcmhmhdjaa
