/- FormatSet and lists of numbers as text: the plain laws. No program in sight. -/
import Derived.Lib.Join
import Derived.Test.YtcdcpfcmhmhdjaaDoorNumP
import Derived.Test.YtcdcpfcmhmhdjaaDoorLawB
namespace Go.Proofs.YtcdcpfcmhmhdjaaDoor
open Go.RowKit
/-- One word more behind what is joined. -/
theorem join_snoc (ws : List (List UInt8)) (x sep : List UInt8) (h : ws ≠ []) : Lib.join (ws ++ [x]) sep = Lib.join ws sep ++ sep ++ x := by
  cases ws with
  | nil => exact absurd rfl h
  | cons y r =>
    rw [List.cons_append, Lib.join_cons, Lib.join_cons]
    simp [Lib.joinTail]
theorem join_first (x sep : List UInt8) : Lib.join ([] ++ [x]) sep = x := Lib.join_one x sep
theorem join_ne {ws : List (List UInt8)} {sep : List UInt8} (h : ws ≠ []) (hw : ∀ x ∈ ws, x ≠ []) : Lib.join ws sep ≠ [] := by
  cases ws with
  | nil => exact absurd rfl h
  | cons y r =>
    rw [Lib.join_cons]
    intro h0
    exact hw y (by simp) (List.append_eq_nil_iff.1 h0).1
theorem itoa_ne (n : Int) : Lib.itoa n ≠ [] := by
  unfold Lib.itoa
  split
  · simp
  · exact decDigits_ne _
theorem itoa_len {n : Int} (h : I64 n) : (Lib.itoa n).length ≤ 21 := Lib.itoa_length_le n h.1 h.2
/-- Where the run that begins at k ends. -/
def endOf (l : List Int) (k : Nat) : Nat := if k + 1 < l.length ∧ l.getD (k + 1) 0 = l.getD k 0 + 1 then endOf l (k + 1) else k
termination_by l.length - k
decreasing_by omega
theorem endOf_go {l : List Int} {k : Nat} (h : k + 1 < l.length) (h2 : l.getD (k + 1) 0 = l.getD k 0 + 1) : endOf l k = endOf l (k + 1) := by rw [endOf, if_pos ⟨h, h2⟩]
theorem endOf_stop {l : List Int} {k : Nat} (h : ¬ (k + 1 < l.length ∧ l.getD (k + 1) 0 = l.getD k 0 + 1)) : endOf l k = k := by rw [endOf, if_neg h]
theorem endOf_ge (l : List Int) (k : Nat) : k ≤ endOf l k := by
  unfold endOf
  split
  · exact Nat.le_trans (Nat.le_succ k) (endOf_ge l (k + 1))
  · exact Nat.le_refl _
termination_by l.length - k
decreasing_by omega
theorem endOf_lt (l : List Int) (k : Nat) (h : k < l.length) : endOf l k < l.length := by
  unfold endOf
  split
  · rename_i h1; exact endOf_lt l (k + 1) h1.1
  · exact h
termination_by l.length - k
decreasing_by omega
/-- The word of the run from i to k. -/
def wordOf (l : List Int) (i k : Nat) : List UInt8 := if i < k then Lib.itoa (l.getD i 0) ++ 45 :: Lib.itoa (l.getD k 0) else Lib.itoa (l.getD i 0)
def wordsFrom (l : List Int) (i : Nat) : List (List UInt8) := if i < l.length then wordOf l i (endOf l i) :: wordsFrom l (endOf l i + 1) else []
termination_by l.length - i
decreasing_by have := endOf_ge l i; omega
theorem wordsFrom_go {l : List Int} {i : Nat} (h : i < l.length) : wordsFrom l i = wordOf l i (endOf l i) :: wordsFrom l (endOf l i + 1) := by rw [wordsFrom, if_pos h]
theorem wordsFrom_end {l : List Int} {i : Nat} (h : ¬ i < l.length) : wordsFrom l i = [] := by rw [wordsFrom, if_neg h]
theorem wordOf_ne (l : List Int) (i k : Nat) : wordOf l i k ≠ [] := by
  unfold wordOf
  split
  · intro h; exact itoa_ne _ (List.append_eq_nil_iff.1 h).1
  · exact itoa_ne _
theorem wordOf_run {l : List Int} {i k : Nat} (h : i < k) : wordOf l i k = Lib.itoa (l.getD i 0) ++ 45 :: Lib.itoa (l.getD k 0) := by unfold wordOf; rw [if_pos h]
theorem wordOf_lone {l : List Int} {i k : Nat} (h : ¬ i < k) : wordOf l i k = Lib.itoa (l.getD i 0) := by unfold wordOf; rw [if_neg h]
/-- FormatSet's text. -/
def setText (l : List Int) : List UInt8 := if isSetB l then (if l = [] then [110, 111, 110, 101] else Lib.join (wordsFrom l 0) [32]) else []
theorem setText_no {l : List Int} (h : isSetB l = false) : setText l = [] := by unfold setText; rw [h]; rfl
theorem setText_nil : setText [] = [110, 111, 110, 101] := rfl
theorem setText_yes {l : List Int} (h : isSetB l = true) (hn : l ≠ []) : setText l = Lib.join (wordsFrom l 0) [32] := by unfold setText; rw [h, if_neg hn]; rfl
end Go.Proofs.YtcdcpfcmhmhdjaaDoor
