/- The laws' own small functions over numbers. -/
import Derived.Test.YtcdcpfcmhmhdjaaDoorLawF
import Derived.Test.YtcdcpfcmhmhdjaaDoorInts
namespace Go.Proofs.YtcdcpfcmhmhdjaaDoor
open Go.RowKit
set_option maxRecDepth 100000 in
set_option maxHeartbeats 1000000 in
theorem laws_sameInts (v u : Value) (xs ys : List Int) (w : World) (hx : RInts w v xs) (hy : RInts w u ys) :
    Calls Tryd.prog 11 #[v, u] w fun e w' => e = .returned (.bool (eqL xs ys)) ∧ Gr w w' := by
  obtain ⟨a, cap, rfl, hl, hm, hx⟩ := hx.open
  obtain ⟨a', cap', rfl, hl', hm', hy⟩ := hy.open
  by_cases hn : xs.length = ys.length
  · have hd : ((xs.length : Int) != (ys.length : Int)) = false := by simp; omega
    have HN := Lib.hid hn
    have hle : xs.length ≤ ys.length := by omega
    clear hn
    go_enter Tryd.func11, Tryd.ntmps11
    go_wp2
    go_loopw [5] (fun i wr => ∃ k : Nat, k ≤ xs.length ∧ i = .int .i64 k ∧ Hid (∀ j, j < k → (xs.getD j 0 == ys.getD j 0) = true) ∧ Gr w wr) (fun i _ => xs.length - (intOf i).toNat)
    case atStart => exact ⟨0, Nat.zero_le _, rfl, Lib.hid (fun _ h => absurd h (Nat.not_lt_zero _)), Gr.refl _⟩
    case round =>
      obtain ⟨k, hk, rfl, hall, hgr⟩ := hrel
      by_cases hlt : k < xs.length
      · obtain ⟨b, off, rfl, hc, _⟩ := hx k hlt
        have hlt' : k < ys.length := by omega
        obtain ⟨b', off', rfl, hc', _⟩ := hy k hlt'
        have gc := hgr.cellv hc
        have gc' := hgr.cellv hc'
        have i0 : (0 : Int) ≤ (k : Int) := Int.natCast_nonneg _
        have i1 : (k : Int) < (xs.length : Int) := by omega
        have i2 : (k : Int) < (ys.length : Int) := by omega
        clear hc hc'
        go_wp2
        go_quiet (fail)
        go_wp2
        · go_ret
          have h : (xs[k] != ys[k]) = true := by assumption
          exact ⟨ret_bool (eqL_no k hlt hlt' h).symm, hgr.drewN _⟩
        · go_roundw
          have h : (xs[k] != ys[k]) = false := by assumption
          case rel => exact ⟨k+1, by omega, by go_num, Lib.hid (below_succ hall.out (by rw [getD_lt hlt, getD_lt hlt']; simpa using h)), hgr.drewN _⟩
          case measure => simp [intOf]; omega
      · go_wp2
        go_ret
        exact ⟨ret_bool (eqL_yes HN.out (fun j hj => hall.out j (by omega))).symm, hgr⟩
  · have hd : ((xs.length : Int) != (ys.length : Int)) = true := by simp; omega
    go_enter Tryd.func11, Tryd.ntmps11
    go_wp2
    go_ret
    exact ⟨ret_bool (by simp [eqL]; intro h; exact hn (by rw [h])), Gr.refl _⟩
theorem laws_sameInts_of {xs ys : List Int} {b : Bool} (h : eqL xs ys = b) (v u : Value) (w : World) (hx : RInts w v xs) (hy : RInts w u ys) : Calls Tryd.prog 11 #[v, u] w fun e w' => e = .returned (.bool b) ∧ Gr w w' := h ▸ laws_sameInts v u xs ys w hx hy
theorem eqL_self (xs : List Int) : eqL xs xs = true := by simp [eqL]
theorem laws_sameInts_self {xs : List Int} (v u : Value) (w : World) (hx : RInts w v xs) (hy : RInts w u xs) : Calls Tryd.prog 11 #[v, u] w fun e w' => e = .returned (.bool true) ∧ Gr w w' := laws_sameInts_of (eqL_self xs) v u w hx hy
set_option maxHeartbeats 400000 in
theorem laws_has (v : Value) (n : Int) (xs : List Int) (w : World) (hx : RInts w v xs) :
    Calls Tryd.prog 21 #[v, .int .i64 n] w fun e w' => e = .returned (.bool (hasB xs n)) ∧ w = w' := by
  obtain ⟨a, cap, rfl, hl, hm, hx⟩ := hx.open
  go_enter Tryd.func21, Tryd.ntmps21
  go_wp2
  go_loop [5] (fun i => ∃ k : Nat, k ≤ xs.length ∧ i = .int .i64 k ∧ Hid (∀ j, j < k → (xs.getD j 0 == n) = false)) (fun i => xs.length - (intOf i).toNat)
  case atStart => exact ⟨0, Nat.zero_le _, rfl, Lib.hid (fun _ h => absurd h (Nat.not_lt_zero _))⟩
  case round =>
    obtain ⟨k, hk, rfl, hn⟩ := hrel
    by_cases hlt : k < xs.length
    · obtain ⟨b, off, rfl, hc, _⟩ := hx k hlt
      go_wp2
      · go_ret
        have h : (xs[k] == n) = true := by assumption
        exact ⟨ret_bool (anyB_true k hlt (by rw [getD_lt hlt]; exact h)).symm, rfl⟩
      · go_round
        have h : (xs[k] == n) = false := by assumption
        case rel => exact ⟨k+1, by omega, by go_num, Lib.hid (below_succ hn.out (by rw [getD_lt hlt]; exact h))⟩
        case measure => simp [intOf]; omega
    · go_wp2
      go_ret
      exact ⟨ret_bool (anyB_false (fun j hj => hn.out j (by omega))).symm, rfl⟩
theorem laws_has_of {xs : List Int} {n : Int} {b : Bool} (h : hasB xs n = b) (v : Value) (w : World) (hx : RInts w v xs) : Calls Tryd.prog 21 #[v, .int .i64 n] w fun e w' => e = .returned (.bool b) ∧ w = w' := h ▸ laws_has v n xs w hx
theorem laws_big (a : Option Addr) (n c : Nat) (w : World) : Calls Tryd.prog 6 #[.slice a n c] w fun e w' => e = .returned (.bool (decide ((n : Int) > 1048576))) ∧ w' = w := by
  go_enter Tryd.func6, Tryd.ntmps6
  go_wp2_with fail
  go_ret
  exact ⟨ret_bool (by simp), rfl⟩
theorem laws_big_yes {n : Nat} (h : (n : Int) > 1048576) (a : Option Addr) (c : Nat) (w : World) : Calls Tryd.prog 6 #[.slice a n c] w fun e w' => e = .returned (.bool true) ∧ w' = w := by
  have := laws_big a n c w
  rwa [decide_eq_true h] at this
theorem laws_big_no {n : Nat} (h : ¬ (n : Int) > 1048576) (a : Option Addr) (c : Nat) (w : World) : Calls Tryd.prog 6 #[.slice a n c] w fun e w' => e = .returned (.bool false) ∧ w' = w := by
  have := laws_big a n c w
  rwa [decide_eq_false h] at this
end Go.Proofs.YtcdcpfcmhmhdjaaDoor
