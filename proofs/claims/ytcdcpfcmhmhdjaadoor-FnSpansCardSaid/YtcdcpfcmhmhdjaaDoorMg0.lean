/- StabIndex: the law. Written by gen_stabi.py. -/
import Derived.Test.YtcdcpfcmhmhdjaaDoorStabiR
import Derived.Test.YtcdcpfcmhmhdjaaDoorMkSpan
import Derived.Test.YtcdcpfcmhmhdjaaDoorMkQuery
import Derived.Lib.AtoiTie
import Derived.Lib.ItoaLen
import Derived.Test.YtcdcpfcmhmhdjaaDoorBase
namespace Go.Proofs.YtcdcpfcmhmhdjaaDoor
open Go.RowKit
end Go.Proofs.YtcdcpfcmhmhdjaaDoor

/- Numerals: the plain laws. No program in sight. -/
namespace Go.Proofs.YtcdcpfcmhmhdjaaDoor
open Go.RowKit
theorem ba_append (a b : List UInt8) : (⟨a.toArray⟩ : ByteArray) ++ ⟨b.toArray⟩ = ⟨(a ++ b).toArray⟩ := by
  apply ByteArray.ext
  rw [ByteArray.data_append]
  simp
/-- The byte of a digit. -/
def dgB (d : Nat) : UInt8 := UInt8.ofNat (48 + d)
theorem dgB_nat {d : Nat} (h : d < 10) : (dgB d).toNat = 48 + d := by unfold dgB; simp [UInt8.toNat_ofNat']; omega
/-- The digits of u, none for 0. -/
def decNZ (u : Nat) : List UInt8 := if u = 0 then [] else Lib.decDigits u
theorem decNZ_zero : decNZ 0 = [] := rfl
theorem decNZ_pos {u : Nat} (h : u ≠ 0) : decNZ u = Lib.decDigits u := by unfold decNZ; rw [if_neg h]
theorem decNZ_step {u : Nat} (h : u ≠ 0) : decNZ u = decNZ (u / 10) ++ [dgB (u % 10)] := by
  rw [decNZ_pos h]
  by_cases h1 : u < 10
  · rw [Lib.decDigits, dif_pos h1, show u / 10 = 0 from by omega, Nat.mod_eq_of_lt h1]; rfl
  · rw [Lib.decDigits, dif_neg h1, decNZ_pos (by omega)]; rfl
theorem dec_ind {p : Nat → Prop} (h0 : ∀ u, u < 10 → p u) (h1 : ∀ u, ¬ u < 10 → p (u / 10) → p u) (u : Nat) : p u := by
  induction u using Nat.strongRecOn with
  | _ u ih =>
    by_cases h : u < 10
    · exact h0 u h
    · exact h1 u h (ih (u / 10) (by omega))
theorem decDigits_small {u : Nat} (h : u < 10) : Lib.decDigits u = [dgB u] := by rw [Lib.decDigits, dif_pos h]; rfl
theorem decDigits_big {u : Nat} (h : ¬ u < 10) : Lib.decDigits u = Lib.decDigits (u / 10) ++ [dgB (u % 10)] := by rw [Lib.decDigits, dif_neg h]; rfl
theorem digitVal_of {d : Nat} (h : d < 10) : Lib.digitVal (dgB d) = some d := by
  unfold Lib.digitVal
  have e := dgB_nat h
  rw [e, if_pos (by omega)]; congr 1; omega
theorem decFrom_append : ∀ (l m : List UInt8) (acc n : Nat), Lib.decFrom acc l = some n → Lib.decFrom acc (l ++ m) = Lib.decFrom n m
  | [], m, acc, n, h => by simp only [Lib.decFrom, Option.some.injEq] at h; subst h; rfl
  | b :: r, m, acc, n, h => by
    simp only [List.cons_append, Lib.decFrom] at h ⊢
    cases hd : Lib.digitVal b with
    | none => rw [hd] at h; cases h
    | some d => rw [hd] at h; simp only at h ⊢; exact decFrom_append r m _ n h
theorem decFrom_digits (u : Nat) : Lib.decFrom 0 (Lib.decDigits u) = some u := by
  refine dec_ind (p := fun u => Lib.decFrom 0 (Lib.decDigits u) = some u) (fun u h => ?_) (fun u h ih => ?_) u
  · rw [decDigits_small h]; simp [Lib.decFrom, digitVal_of h]
  · rw [decDigits_big h, decFrom_append _ _ _ _ ih]
    simp only [Lib.decFrom, digitVal_of (show u % 10 < 10 from by omega), Option.some.injEq]
    omega
theorem decDigits_ne (u : Nat) : Lib.decDigits u ≠ [] := by
  intro h
  have := Lib.decDigits_length u
  have := Lib.nDigits_pos u
  rw [h] at *
  simp at *
  omega
theorem decNat_digits (u : Nat) : Lib.decNat (Lib.decDigits u) = some u := by
  unfold Lib.decNat
  rw [if_neg (by simpa using decDigits_ne u)]
  exact decFrom_digits u
theorem nDigits_le : ∀ (k u : Nat), u < 10 ^ (k + 1) → Lib.nDigits u ≤ k + 1
  | 0, u, h => by rw [Lib.nDigits_small (by simpa using h)]; exact Nat.le_refl _
  | k + 1, u, h => by
    by_cases h1 : u < 10
    · rw [Lib.nDigits_small h1]; omega
    · rw [Lib.nDigits_big h1]
      have := nDigits_le k (u / 10) (by rw [Nat.pow_succ] at h; omega)
      omega
/-- A digit. -/
def isDg (b : UInt8) : Bool := decide (48 ≤ b.toNat) && decide (b.toNat ≤ 57)
theorem isDg_of {d : Nat} (h : d < 10) : isDg (dgB d) = true ∧ (dgB d).toNat - 48 = d := by
  have e := dgB_nat h
  unfold isDg; rw [e]; constructor
  · simp; omega
  · omega
/-- The digits of a text, read as a number; how many there are. -/
def scanV (acc : Nat) : List UInt8 → Nat
  | [] => acc
  | b :: r => scanV (if isDg b then acc * 10 + (b.toNat - 48) else acc) r
def scanK : List UInt8 → Nat
  | [] => 0
  | b :: r => (if isDg b then 1 else 0) + scanK r
theorem scanV_append : ∀ (l m : List UInt8) (acc : Nat), scanV acc (l ++ m) = scanV (scanV acc l) m
  | [], _, _ => rfl
  | _ :: r, m, _ => by simp only [List.cons_append, scanV]; exact scanV_append r m _
theorem scanK_append : ∀ (l m : List UInt8), scanK (l ++ m) = scanK l + scanK m
  | [], _ => by simp [scanK]
  | _ :: r, m => by simp only [List.cons_append, scanK]; rw [scanK_append r m]; omega
theorem scanV_snoc (l : List UInt8) (b : UInt8) : scanV 0 (l ++ [b]) = if isDg b then scanV 0 l * 10 + (b.toNat - 48) else scanV 0 l := by rw [scanV_append]; rfl
theorem scanK_snoc (l : List UInt8) (b : UInt8) : scanK (l ++ [b]) = scanK l + (if isDg b then 1 else 0) := by rw [scanK_append]; simp [scanK]
theorem scanV_lt : ∀ (l : List UInt8) (acc : Nat), scanV acc l < (acc + 1) * 10 ^ scanK l
  | [], acc => by simp [scanV, scanK]
  | b :: r, acc => by
    simp only [scanV, scanK]
    by_cases h : isDg b = true
    · simp only [h, if_true]
      have h9 : b.toNat - 48 ≤ 9 := by unfold isDg at h; simp at h; omega
      have := scanV_lt r (acc * 10 + (b.toNat - 48))
      have h2 : (acc * 10 + (b.toNat - 48) + 1) * 10 ^ scanK r ≤ ((acc + 1) * 10) * 10 ^ scanK r := Nat.mul_le_mul_right _ (by omega)
      rw [Nat.pow_add, Nat.pow_one, ← Nat.mul_assoc]
      omega
    · simp only [h, if_false, Nat.zero_add, Bool.false_eq_true]
      exact scanV_lt r acc
theorem scanK_le : ∀ l : List UInt8, scanK l ≤ l.length
  | [] => Nat.le_refl _
  | b :: r => by simp only [scanK, List.length_cons]; have := scanK_le r; split <;> omega
theorem scan_digits (u : Nat) : scanV 0 (Lib.decDigits u) = u ∧ scanK (Lib.decDigits u) = Lib.nDigits u := by
  refine dec_ind (p := fun u => scanV 0 (Lib.decDigits u) = u ∧ scanK (Lib.decDigits u) = Lib.nDigits u) (fun u h => ?_) (fun u h ih => ?_) u
  · rw [decDigits_small h, Lib.nDigits_small h]; simp [scanV, scanK, isDg_of h]
  · have hd := isDg_of (show u % 10 < 10 from by omega)
    rw [decDigits_big h, Lib.nDigits_big h, scanV_snoc, scanK_snoc, ih.1, ih.2, hd.1, hd.2]
    simp only [if_true, and_true]
    omega
theorem itoa_neg {u : Nat} (h : 0 < u) : Lib.itoa (-(u : Int)) = 45 :: Lib.decDigits u := by
  unfold Lib.itoa; rw [if_pos (by omega)]; congr 2; omega
theorem itoa_nn (u : Nat) : Lib.itoa (u : Int) = Lib.decDigits u := by
  unfold Lib.itoa; rw [if_neg (by omega)]; congr 1
/-- What the program's ParseInt finds. -/
def parseI (l : List UInt8) : Option Int := match Lib.atoiAll l with
  | .ok n => if Lib.itoa n = l ∧ -999999999 ≤ n ∧ n ≤ 999999999 then some n else none
  | _ => none
/-- What the reference's reckons. -/
def scanI (l : List UInt8) : Int := if l.head? = some 45 then -(scanV 0 (l.take 11) : Int) else (scanV 0 (l.take 11) : Int)
def parseS (l : List UInt8) : Option Int := if 9 < scanK (l.take 11) ∨ 10 < l.length ∨ Lib.itoa (scanI l) ≠ l then none else some (scanI l)
theorem dg_head (u : Nat) : ∃ b r, Lib.decDigits u = b :: r ∧ isDg b = true := by
  refine dec_ind (p := fun u => ∃ b r, Lib.decDigits u = b :: r ∧ isDg b = true) (fun u h => ?_) (fun u h ih => ?_) u
  · exact ⟨_, _, decDigits_small h, (isDg_of h).1⟩
  · obtain ⟨b, r, e, hb⟩ := ih
    exact ⟨b, r ++ [dgB (u % 10)], by rw [decDigits_big h, e]; rfl, hb⟩
theorem itoa_small_len {n : Int} (h : -999999999 ≤ n) (h' : n ≤ 999999999) : (Lib.itoa n).length ≤ 10 ∧ scanK (Lib.itoa n) ≤ 9 ∧ scanI (Lib.itoa n) = n := by
  by_cases hn : n < 0
  · obtain ⟨u, rfl⟩ : ∃ u : Nat, n = -(u : Int) := ⟨n.natAbs, by omega⟩
    have hu : Lib.nDigits u ≤ 9 := nDigits_le 8 u (by omega)
    have hl : (Lib.decDigits u).length ≤ 9 := by rw [Lib.decDigits_length]; exact hu
    rw [itoa_neg (by omega)]
    refine ⟨by simp; omega, ?_, ?_⟩
    · have : isDg 45 = false := by decide
      simp only [scanK, this, Bool.false_eq_true, if_false]
      rw [(scan_digits u).2]; omega
    · unfold scanI
      rw [if_pos (by rfl), List.take_of_length_le (by simp; omega)]
      have : isDg 45 = false := by decide
      simp only [scanV, this, Bool.false_eq_true, if_false]
      rw [(scan_digits u).1]
  · obtain ⟨u, rfl⟩ : ∃ u : Nat, n = (u : Int) := ⟨n.natAbs, by omega⟩
    have hu : Lib.nDigits u ≤ 9 := nDigits_le 8 u (by omega)
    have hl : (Lib.decDigits u).length ≤ 9 := by rw [Lib.decDigits_length]; exact hu
    rw [itoa_nn]
    refine ⟨by omega, by rw [(scan_digits u).2]; omega, ?_⟩
    unfold scanI
    obtain ⟨b, r, e, hb⟩ := dg_head u
    rw [if_neg, List.take_of_length_le (by omega), (scan_digits u).1]
    rw [e]
    intro h0
    simp only [List.head?_cons, Option.some.injEq] at h0
    subst h0
    exact absurd hb (by decide)
theorem atoi_itoa {n : Int} (h : -999999999 ≤ n) (h' : n ≤ 999999999) : Lib.atoiAll (Lib.itoa n) = .ok n := by
  have hl := (itoa_small_len h h').1
  rw [Lib.atoiAll_short _ (by omega)]
  by_cases hn : n < 0
  · obtain ⟨u, rfl⟩ : ∃ u : Nat, n = -(u : Int) := ⟨n.natAbs, by omega⟩
    rw [itoa_neg (by omega)]
    simp [Lib.atoi, decNat_digits, Lib.NumEnd.ofOption]
  · obtain ⟨u, rfl⟩ : ∃ u : Nat, n = (u : Int) := ⟨n.natAbs, by omega⟩
    rw [itoa_nn]
    obtain ⟨b, r, e, hb⟩ := dg_head u
    have hd := decNat_digits u
    rw [e] at hd ⊢
    have h1 : b ≠ 45 := by rintro rfl; exact absurd hb (by decide)
    have h2 : b ≠ 43 := by rintro rfl; exact absurd hb (by decide)
    simp [Lib.atoi, h1, h2, hd, Lib.NumEnd.ofOption]
theorem parseI_some {l : List UInt8} {n : Int} (h : parseI l = some n) : Lib.itoa n = l ∧ -999999999 ≤ n ∧ n ≤ 999999999 := by
  unfold parseI at h
  split at h
  · split at h
    · rename_i hc
      injection h with h
      subst h
      exact hc
    · cases h
  · cases h
theorem parseI_itoa {n : Int} (h : -999999999 ≤ n) (h' : n ≤ 999999999) : parseI (Lib.itoa n) = some n := by
  unfold parseI
  rw [atoi_itoa h h']
  exact if_pos ⟨rfl, h, h'⟩
theorem parseS_eq (l : List UInt8) : parseS l = parseI l := by
  unfold parseS
  by_cases hc : 9 < scanK (l.take 11) ∨ 10 < l.length ∨ Lib.itoa (scanI l) ≠ l
  · rw [if_pos hc]
    cases hp : parseI l with
    | none => rfl
    | some n =>
      exfalso
      obtain ⟨h1, h2, h3⟩ := parseI_some hp
      obtain ⟨k1, k2, k3⟩ := itoa_small_len h2 h3
      rw [h1] at k1 k2 k3
      rcases hc with hc | hc | hc
      · rw [List.take_of_length_le (by omega)] at hc; omega
      · omega
      · rw [k3] at hc; exact hc h1
  · rw [if_neg hc]
    have h1 : scanK (l.take 11) ≤ 9 := by omega
    have h3 : Lib.itoa (scanI l) = l := by
      by_cases h3 : Lib.itoa (scanI l) = l
      · exact h3
      · exact absurd (Or.inr (Or.inr h3)) hc
    have h4 := scanV_lt (l.take 11) 0
    have h5 : 10 ^ scanK (l.take 11) ≤ 10 ^ 9 := Nat.pow_le_pow_right (by decide) h1
    have e9 : (10 : Nat) ^ 9 = 1000000000 := by decide
    have h6 : -999999999 ≤ scanI l ∧ scanI l ≤ 999999999 := by unfold scanI; split <;> omega
    have := parseI_itoa h6.1 h6.2
    rw [h3] at this
    exact this.symm
end Go.Proofs.YtcdcpfcmhmhdjaaDoor
