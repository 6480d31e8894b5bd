/- EqualRows, EqualSpans: the walks. -/
import Derived.Test.YtcdcpfcmhmhdjaaGenRow
import Derived.Test.YtcdcpfcmhmhdjaaGenSpan
import Derived.Test.YtcdcpfcmhmhdjaaGenVersion
namespace Go.Proofs.Ytcdcpfcmhmhdjaa
open Go.RowKit
set_option maxRecDepth 100000 in
set_option maxHeartbeats 1000000 in
theorem spec_l2Ints (v u : Value) (xs ys : List Int) (w : World) (hx : RInts w v xs) (hy : RInts w u ys) :
    Calls Try.prog 60 #[v, u] w fun e w' => e = .returned (.bool (eqL xs ys)) ∧ Gr w w' := by
  obtain ⟨a, cap, rfl, hl, hm, hx⟩ := hx.open
  obtain ⟨a', cap', rfl, hl', hm', hy⟩ := hy.open
  by_cases hn : xs.length = ys.length
  · have hd : ((xs.length : Int) != (ys.length : Int)) = false := by simp; omega
    have HN := Lib.hid hn
    have hle : xs.length ≤ ys.length := by omega
    clear hn
    go_enter Try.func60, Try.ntmps60
    go_wp2
    go_loopw [5] (fun i wr => ∃ k : Nat, k ≤ xs.length ∧ i = .int .i64 k ∧ Hid (∀ j, j < k → (xs.getD j 0 == ys.getD j 0) = true) ∧ Gr w wr) (fun i _ => xs.length - (intOf i).toNat)
    case atStart => exact ⟨0, Nat.zero_le _, rfl, Lib.hid (fun _ h => absurd h (Nat.not_lt_zero _)), Gr.refl _⟩
    case round =>
      obtain ⟨k, hk, rfl, hall, hgr⟩ := hrel
      by_cases hlt : k < xs.length
      · obtain ⟨b, off, rfl, hc, _⟩ := hx k hlt
        have hlt' : k < ys.length := by omega
        obtain ⟨b', off', rfl, hc', _⟩ := hy k hlt'
        have gc := hgr.cellv hc
        have gc' := hgr.cellv hc'
        have i0 : (0 : Int) ≤ (k : Int) := Int.natCast_nonneg _
        have i1 : (k : Int) < (xs.length : Int) := by omega
        have i2 : (k : Int) < (ys.length : Int) := by omega
        clear hc hc'
        go_wp2
        go_quiet (fail)
        go_wp2
        · go_ret
          have h : (xs[k] != ys[k]) = true := by assumption
          exact ⟨ret_bool (eqL_no k hlt hlt' h).symm, hgr.drewN _⟩
        · go_roundw
          have h : (xs[k] != ys[k]) = false := by assumption
          case rel => exact ⟨k+1, by omega, by go_num, Lib.hid (below_succ hall.out (by rw [getD_lt hlt, getD_lt hlt']; simpa using h)), hgr.drewN _⟩
          case measure => simp [intOf]; omega
      · go_wp2
        go_ret
        exact ⟨ret_bool (eqL_yes HN.out (fun j hj => hall.out j (by omega))).symm, hgr⟩
  · have hd : ((xs.length : Int) != (ys.length : Int)) = true := by simp; omega
    go_enter Try.func60, Try.ntmps60
    go_wp2
    go_ret
    exact ⟨ret_bool (by simp [eqL]; intro h; exact hn (by rw [h])), Gr.refl _⟩
set_option maxRecDepth 100000 in
set_option maxHeartbeats 1000000 in
theorem impl_sameInts (v u : Value) (xs ys : List Int) (w : World) (hx : RInts w v xs) (hy : RInts w u ys) :
    Calls Try.prog 57 #[v, u] w fun e w' => e = .returned (.bool (eqL xs ys)) ∧ Gr w w' := by
  obtain ⟨a, cap, rfl, hl, hm, hx⟩ := hx.open
  obtain ⟨a', cap', rfl, hl', hm', hy⟩ := hy.open
  by_cases hn : xs.length = ys.length
  · have hd : ((xs.length : Int) != (ys.length : Int)) = false := by simp; omega
    have HN := Lib.hid hn
    have hle : xs.length ≤ ys.length := by omega
    clear hn
    go_enter Try.func57, Try.ntmps57
    go_wp2
    go_loopw [13] (fun i wr => ∃ k : Nat, k ≤ xs.length ∧ i = .int .i64 k ∧ Hid (∀ j, j < k → (xs.getD j 0 == ys.getD j 0) = true) ∧ Gr w wr) (fun i _ => xs.length - (intOf i).toNat)
    case atStart => exact ⟨0, Nat.zero_le _, rfl, Lib.hid (fun _ h => absurd h (Nat.not_lt_zero _)), Gr.refl _⟩
    case round =>
      obtain ⟨k, hk, rfl, hall, hgr⟩ := hrel
      by_cases hlt : k < xs.length
      · obtain ⟨b, off, rfl, hc, _⟩ := hx k hlt
        have hlt' : k < ys.length := by omega
        obtain ⟨b', off', rfl, hc', _⟩ := hy k hlt'
        have gc := hgr.cellv hc
        have gc' := hgr.cellv hc'
        have i0 : (0 : Int) ≤ (k : Int) := Int.natCast_nonneg _
        have i1 : (k : Int) < (xs.length : Int) := by omega
        have i2 : (k : Int) < (ys.length : Int) := by omega
        clear hc hc'
        go_wp2
        go_quiet (fail)
        go_wp2
        · go_ret
          have h : (xs[k] != ys[k]) = true := by assumption
          exact ⟨ret_bool (eqL_no k hlt hlt' h).symm, hgr.drewN _⟩
        · go_roundw
          have h : (xs[k] != ys[k]) = false := by assumption
          case rel => exact ⟨k+1, by omega, by go_num, Lib.hid (below_succ hall.out (by rw [getD_lt hlt, getD_lt hlt']; simpa using h)), hgr.drewN _⟩
          case measure => simp [intOf]; omega
      · go_wp2
        go_ret
        exact ⟨ret_bool (eqL_yes HN.out (fun j hj => hall.out j (by omega))).symm, hgr⟩
  · have hd : ((xs.length : Int) != (ys.length : Int)) = true := by simp; omega
    go_enter Try.func57, Try.ntmps57
    go_wp2
    go_ret
    exact ⟨ret_bool (by simp [eqL]; intro h; exact hn (by rw [h])), Gr.refl _⟩
def eqRowB (x y : DRow) : Bool := x.id == y.id && eqL x.vals y.vals
end Go.Proofs.Ytcdcpfcmhmhdjaa
