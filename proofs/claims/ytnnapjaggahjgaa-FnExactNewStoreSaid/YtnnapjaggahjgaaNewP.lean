/- NewStore: the plain law. No program in sight. -/
import Derived.Test.YtnnapjaggahjgaaStoreP
import Derived.Test.YtnnapjaggahjgaaOwnF
import Derived.Test.YtnnapjaggahjgaaLawE2
namespace Go.Proofs.Ytnnapjaggahjgaa
open Go.RowKit
def bornV (r : DRow) : DVersion := ⟨r.id, r.vals, 0, -1⟩
/-- The rows below m whose index leaves k by n. -/
def partTo (rows : List DRow) (n k : Nat) : Nat → List DVersion
  | 0 => []
  | m + 1 => partTo rows n k m ++ if m % n = k then (rows[m]?.map bornV).toList else []
theorem partTo_yes {rows : List DRow} {n k m : Nat} (h : m < rows.length) (hk : m % n = k) : partTo rows n k (m + 1) = partTo rows n k m ++ [bornV rows[m]] := by rw [partTo, if_pos hk, List.getElem?_eq_getElem h]; rfl
theorem partTo_no {rows : List DRow} {n k m : Nat} (hk : ¬ m % n = k) : partTo rows n k (m + 1) = partTo rows n k m := by rw [partTo, if_neg hk, List.append_nil]
theorem partTo_over {rows : List DRow} {n k m : Nat} (h : rows.length ≤ m) : partTo rows n k m = partTo rows n k rows.length := by
  obtain ⟨d, rfl⟩ : ∃ d, m = rows.length + d := ⟨m - rows.length, by omega⟩
  clear h
  induction d with
  | zero => rfl
  | succ d ih =>
    rw [← Nat.add_assoc, partTo, List.getElem?_eq_none (by omega)]
    simpa using ih
theorem partTo_len (rows : List DRow) (n k : Nat) : ∀ m, (partTo rows n k m).length ≤ m
  | 0 => Nat.le_refl _
  | m + 1 => by
    have ih := partTo_len rows n k m
    have : (rows[m]?.map bornV).toList.length ≤ 1 := by cases rows[m]? <;> simp
    rw [partTo, List.length_append]
    split
    · omega
    · simp; omega
/-- Between two indices of one class there is none. -/
theorem partTo_skip {rows : List DRow} {n k : Nat} (hk : k < n) (q : Nat) : ∀ d, d < n → partTo rows n k (k + q * n + 1 + d) = partTo rows n k (k + q * n + 1)
  | 0, _ => rfl
  | d + 1, h => by
    have ih := partTo_skip (rows := rows) hk q d (by omega)
    have hm : ¬ (k + q * n + 1 + d) % n = k := by
      intro e
      have h1 : k + q * n + 1 + d = n * q + (k + (1 + d)) := by rw [Nat.mul_comm]; omega
      rw [h1, Nat.mul_add_mod] at e
      by_cases hlt : k + (1 + d) < n
      · rw [Nat.mod_eq_of_lt hlt] at e; omega
      · rw [Nat.mod_eq_sub_mod (by omega), Nat.mod_eq_of_lt (by omega)] at e; omega
    rw [show k + q * n + 1 + (d + 1) = (k + q * n + 1 + d) + 1 by omega, partTo_no hm, ih]
theorem partTo_head {rows : List DRow} {n k : Nat} (hk : k < n) : ∀ m, m ≤ k → partTo rows n k m = []
  | 0, _ => rfl
  | m + 1, h => by
    rw [partTo_no (by rw [Nat.mod_eq_of_lt (by omega)]; omega)]
    exact partTo_head hk m (by omega)
/-- From one index of the class to the next. -/
theorem partTo_next {rows : List DRow} {n k q : Nat} (hk : k < n) (h : k + q * n < rows.length) : partTo rows n k (k + q * n + n) = partTo rows n k (k + q * n) ++ [bornV rows[k + q * n]] := by
  have h1 := partTo_skip (rows := rows) hk q (n - 1) (by omega)
  have h2 : k + q * n + 1 + (n - 1) = k + q * n + n := by omega
  rw [h2] at h1
  rw [h1, partTo_yes h (by rw [Nat.add_mul_mod_self_right, Nat.mod_eq_of_lt hk])]
def segsTo (rows : List DRow) (n m : Nat) : List (List DVersion) := (List.range n).map fun k => partTo rows n k m
theorem segsTo_len (rows : List DRow) (n m : Nat) : (segsTo rows n m).length = n := by simp [segsTo]
theorem segsTo_at {rows : List DRow} {n m k : Nat} (h : k < n) : (segsTo rows n m)[k]'(by rw [segsTo_len]; exact h) = partTo rows n k m := by simp [segsTo]
theorem segsTo_zero (rows : List DRow) (n : Nat) : segsTo rows n 0 = List.replicate n [] := by
  apply List.ext_getElem (by simp [segsTo])
  intro i h1 h2
  simp [segsTo, partTo]
theorem segsTo_succ {rows : List DRow} {n m : Nat} (h : m < rows.length) : segsTo rows n (m + 1) = (segsTo rows n m).set (m % n) (partTo rows n (m % n) m ++ [bornV rows[m]]) := by
  apply List.ext_getElem (by simp [segsTo])
  intro i h1 h2
  have hi : i < n := by simpa [segsTo] using h1
  rw [List.getElem_set]
  by_cases e : m % n = i
  · rw [if_pos e]
    subst e
    rw [segsTo_at hi, partTo_yes h rfl]
  · rw [if_neg e, segsTo_at hi, segsTo_at hi, partTo_no e]
/-- The first k of the segments, each whole. -/
def segsUp (rows : List DRow) (n k : Nat) : List (List DVersion) := (List.range k).map fun i => partTo rows n i rows.length
theorem segsUp_succ (rows : List DRow) (n k : Nat) : segsUp rows n (k + 1) = segsUp rows n k ++ [partTo rows n k rows.length] := by simp [segsUp, List.range_succ]
theorem segsUp_len (rows : List DRow) (n k : Nat) : (segsUp rows n k).length = k := by simp [segsUp]
theorem segsUp_all (rows : List DRow) (n : Nat) : segsUp rows n n = segsTo rows n rows.length := rfl
def newOk (rows : List DRow) (n : Int) : Bool := areRowsB rows && (inB n 1 8 && decide ((rows.length : Int) ≤ 4 * n))
def newL (rows : List DRow) (n : Int) : DStore := if newOk rows n then ⟨segsTo rows n.toNat rows.length, 0⟩ else ⟨[], 0⟩
theorem newOk_1 {rows : List DRow} {n : Int} (h : areRowsB rows = false) : newOk rows n = false := by unfold newOk; rw [h]; rfl
theorem newOk_2 {rows : List DRow} {n : Int} (h : inB n 1 8 = false) : newOk rows n = false := by unfold newOk; rw [h, Bool.false_and, Bool.and_false]
theorem newOk_3 {rows : List DRow} {n : Int} (h : ¬ (rows.length : Int) ≤ 4 * n) : newOk rows n = false := by unfold newOk; simp [h]
theorem newOk_yes {rows : List DRow} {n : Int} (h1 : areRowsB rows = true) (h2 : inB n 1 8 = true) (h3 : (rows.length : Int) ≤ 4 * n) : newOk rows n = true := by unfold newOk; simp [h1, h2, h3]
theorem newL_no {rows : List DRow} {n : Int} (h : newOk rows n = false) : newL rows n = ⟨[], 0⟩ := by unfold newL; rw [h]; rfl
theorem newL_yes {rows : List DRow} {n : Int} (h : newOk rows n = true) : newL rows n = ⟨segsTo rows n.toNat rows.length, 0⟩ := by unfold newL; rw [if_pos h]
theorem newL_now (rows : List DRow) (n : Int) : (newL rows n).now = 0 := by unfold newL; split <;> rfl
theorem partTo_tot (rows : List DRow) (n k : Nat) : ∀ m, m ≤ rows.length → totL totVersion (partTo rows n k m) ≤ totL totRow (rows.take m)
  | 0, _ => by simp [partTo, totL, sumT]
  | m + 1, h => by
    have ih := partTo_tot rows n k m (by omega)
    have hs := sumT_take totRow rows m (by omega)
    unfold totL at *
    rw [List.length_take] at *
    rw [hs]
    by_cases e : m % n = k
    · rw [partTo_yes (by omega) e, List.length_append, List.length_singleton]
      have : sumT totVersion (partTo rows n k m ++ [bornV rows[m]]) = sumT totVersion (partTo rows n k m) + rows[m].vals.length := by simp [sumT, totVersion, bornV]
      rw [this]
      unfold totRow at *
      omega
    · rw [partTo_no e]; omega
theorem newL_small (rows : List DRow) (n : Int) : sumT (sumT cntVersion) (newL rows n).segs ≤ 24 * (1 + totL totRow rows) := by
  unfold newL
  by_cases h : newOk rows n = true
  · rw [if_pos h]
    have h8 : n.toNat ≤ 8 := by
      unfold newOk at h
      simp only [Bool.and_eq_true] at h
      have := inB_true h.2.1
      omega
    have h1 := cnt_VersionSS (segsTo rows n.toNat rows.length)
    have h2 : sumT (totL totVersion) (segsTo rows n.toNat rows.length) ≤ totL totRow rows * (segsTo rows n.toNat rows.length).length := by
      have hall : ∀ x ∈ segsTo rows n.toNat rows.length, totL totVersion x ≤ totL totRow rows := fun x hx => by
        obtain ⟨i, hi, rfl⟩ := List.getElem_of_mem hx
        rw [segsTo_at (by rwa [segsTo_len] at hi)]
        have := partTo_tot rows n.toNat i rows.length (Nat.le_refl _)
        rwa [List.take_length] at this
      generalize segsTo rows n.toNat rows.length = ys at hall
      clear h1
      unfold sumT
      induction ys with
      | nil => simp
      | cons y ys ih =>
        have h1 := hall y (by simp)
        have h2 := ih fun x hx => hall x (by simp [hx])
        simp only [List.map_cons, List.sum_cons, List.length_cons, Nat.mul_add, Nat.mul_one]
        omega
    rw [segsTo_len] at h2
    have h3 : totL totRow rows * n.toNat ≤ totL totRow rows * 8 := Nat.mul_le_mul_left _ h8
    simp only
    unfold totL at h1 h2 h3 ⊢
    rw [segsTo_len] at h1
    omega
  · rw [if_neg h]; simp [sumT]
end Go.Proofs.Ytnnapjaggahjgaa
