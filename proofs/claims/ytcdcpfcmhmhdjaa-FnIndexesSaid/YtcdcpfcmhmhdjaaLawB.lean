/- The laws of IsSet and IsCond. -/
import Derived.Test.YtcdcpfcmhmhdjaaInts
namespace Go.Proofs.Ytcdcpfcmhmhdjaa
open Go.RowKit
def okAt (xs : List Int) (i : Nat) : Bool := inB (xs.getD i 0) 0 23 && (i == 0 || decide (xs.getD (i - 1) 0 < xs.getD i 0))
theorem isSetB_eq (xs : List Int) : isSetB xs = allB xs.length (okAt xs) := rfl
theorem okAt_no1 {xs : List Int} {k : Nat} (hk : k < xs.length) (h : inB xs[k] 0 23 = false) : okAt xs k = false := by unfold okAt; rw [getD_lt hk, h]; rfl
theorem okAt_no2 {xs : List Int} {k : Nat} (hk : k < xs.length) (h0 : 0 < k) (h : xs[k] ≤ xs[k-1]) : okAt xs k = false := by
  unfold okAt
  rw [getD_lt hk, getD_lt (show k - 1 < xs.length by omega)]
  simp; intro _; omega
theorem okAt_yes {xs : List Int} {k : Nat} (hk : k < xs.length) (h : inB xs[k] 0 23 = true) (h2 : k = 0 ∨ ∃ h0 : 0 < k, xs[k-1] < xs[k]) : okAt xs k = true := by
  unfold okAt
  rw [getD_lt hk, h]
  rcases h2 with rfl | ⟨h0, h2⟩
  · simp
  · rw [getD_lt (show k - 1 < xs.length by omega)]
    simp [h2]
set_option maxRecDepth 100000 in
set_option maxHeartbeats 1000000 in
theorem impl_IsSet (v : Value) (xs : List Int) (w : World) (hx : RInts w v xs) :
    Calls Try.prog 69 #[v] w fun e w' => e = .returned (.bool (isSetB xs)) ∧ Gr w w' := by
  obtain ⟨a, cap, rfl, hl, hm, hx⟩ := hx.open
  go_enter Try.func69, Try.ntmps69
  go_wp2
  go_loopw [7] (fun i wr => ∃ k : Nat, k ≤ xs.length ∧ i = .int .i64 k ∧ Hid (∀ j, j < k → okAt xs j = true) ∧ Gr w wr) (fun i _ => xs.length - (intOf i).toNat)
  case atStart => exact ⟨0, Nat.zero_le _, rfl, Lib.hid (fun _ h => absurd h (Nat.not_lt_zero _)), Gr.refl _⟩
  case round =>
    obtain ⟨k, hk, rfl, hn, hgr⟩ := hrel
    by_cases hlt : k < xs.length
    · obtain ⟨b, off, rfl, hc, _⟩ := hx k hlt
      have gc := hgr.cellv hc
      clear hc
      by_cases h1 : xs[k] < 0
      · go_wp2
        go_ret
        exact ⟨ret_bool (allB_false k hlt (okAt_no1 hlt (inB_no (by omega)))).symm, hgr⟩
      · by_cases h2 : 24 ≤ xs[k]
        · go_wp2
          go_ret
          exact ⟨ret_bool (allB_false k hlt (okAt_no1 hlt (inB_no (by omega)))).symm, hgr⟩
        · have hin : Hid (inB xs[k] 0 23 = true) := inB_mk (by omega) (by omega)
          by_cases h3 : k = 0
          · have hk0 : k ≤ 0 := by omega
            have H3 := Lib.hid h3
            clear h3
            go_wp2
            go_roundw
            case rel => exact ⟨k + 1, by omega, by go_num, Lib.hid (below_succ hn.out (okAt_yes hlt hin.out (Or.inl H3.out))), hgr⟩
            case measure => simp [intOf]; omega
          · have hk1 : k - 1 < xs.length := by omega
            obtain ⟨b', off', e', hc', _⟩ := hx (k - 1) hk1
            simp only [Option.some.injEq, Addr.mk.injEq] at e'
            obtain ⟨rfl, rfl, -⟩ := e'
            have gc' := hgr.cellv hc'
            clear hc'
            have hk0 : 0 < k := by omega
            clear h3
            by_cases h4 : xs[k] ≤ xs[k-1]
            · go_wp2
              go_ret
              exact ⟨ret_bool (allB_false k hlt (okAt_no2 hlt hk0 h4)).symm, hgr⟩
            · have H4 := Lib.hid h4
              go_wp2
              go_roundw
              case rel => exact ⟨k + 1, by omega, by go_num, Lib.hid (below_succ hn.out (okAt_yes hlt hin.out (Or.inr ⟨hk0, by have := H4.out; omega⟩))), hgr⟩
              case measure => simp [intOf]; omega
    · go_wp2
      go_ret
      exact ⟨ret_bool (allB_true (fun j hj => hn.out j (by omega))).symm, hgr⟩
set_option maxRecDepth 100000 in
set_option maxHeartbeats 1000000 in
theorem spec_IsSet (v : Value) (xs : List Int) (w : World) (hx : RInts w v xs) :
    Calls Try.prog 73 #[v] w fun e w' => e = .returned (.bool (isSetB xs)) ∧ Gr w w' := by
  obtain ⟨a, cap, rfl, hl, hm, hx⟩ := hx.open
  go_enter Try.func73, Try.ntmps73
  go_wp2
  go_loopw [3] (fun i wr => ∃ k : Nat, k ≤ xs.length ∧ i = .int .i64 k ∧ Hid (∀ j, j < k → okAt xs j = true) ∧ Gr w wr) (fun i _ => xs.length - (intOf i).toNat)
  case atStart => exact ⟨0, Nat.zero_le _, rfl, Lib.hid (fun _ h => absurd h (Nat.not_lt_zero _)), Gr.refl _⟩
  case round =>
    obtain ⟨k, hk, rfl, hn, hgr⟩ := hrel
    by_cases hlt : k < xs.length
    · obtain ⟨b, off, rfl, hc, _⟩ := hx k hlt
      have gc := hgr.cellv hc
      clear hc
      have i0 : (0 : Int) ≤ (k : Int) := Int.natCast_nonneg _
      have i1 : (k : Int) < (xs.length : Int) := by omega
      by_cases h1 : inB xs[k] 0 23 = false
      · go_wp2
        go_quiet ((go_at_call 37; exact Calls.quiet_of_same ((spec_l1In _ _ _ _).mono (fun e w' h => ⟨h.1, h.2.symm⟩))))
        go_wp2
        go_ret
        exact ⟨ret_bool (allB_false k hlt (okAt_no1 hlt h1)).symm, hgr.drewN _⟩
      · have hin : inB xs[k] 0 23 = true := by simpa using h1
        clear h1
        by_cases h3 : k = 0
        · have hk0 : decide ((0 : Int) < (k : Int)) = false := by simp; omega
          have hk0' : decide (0 < k) = false := by simp; omega
          have H3 := Lib.hid h3
          clear h3
          go_wp2
          go_quiet ((go_at_call 37; exact Calls.quiet_of_same ((spec_l1In _ _ _ _).mono (fun e w' h => ⟨h.1, h.2.symm⟩))))
          go_wp2
          go_roundw
          case rel => exact ⟨k + 1, by omega, by go_num, Lib.hid (below_succ hn.out (okAt_yes hlt hin (Or.inl H3.out))), hgr.drewN _⟩
          case measure => simp [intOf]; omega
        · have hk1 : k - 1 < xs.length := by omega
          obtain ⟨b', off', e', hc', _⟩ := hx (k - 1) hk1
          simp only [Option.some.injEq, Addr.mk.injEq] at e'
          obtain ⟨rfl, rfl, -⟩ := e'
          have gc' := hgr.cellv hc'
          clear hc'
          have hk0 : 0 < k := by omega
          have i2 : (0 : Int) ≤ (k : Int) - 1 := by omega
          have i3 : (k : Int) - 1 < (xs.length : Int) := by omega
          clear h3
          by_cases h4 : xs[k] ≤ xs[k-1]
          · go_wp2
            go_quiet ((go_at_call 37; exact Calls.quiet_of_same ((spec_l1In _ _ _ _).mono (fun e w' h => ⟨h.1, h.2.symm⟩))))
            go_wp2
            go_ret
            exact ⟨ret_bool (allB_false k hlt (okAt_no2 hlt hk0 h4)).symm, hgr.drewN _⟩
          · have H4 := Lib.hid h4
            go_wp2
            go_quiet ((go_at_call 37; exact Calls.quiet_of_same ((spec_l1In _ _ _ _).mono (fun e w' h => ⟨h.1, h.2.symm⟩))))
            go_wp2
            go_roundw
            case rel => exact ⟨k + 1, by omega, by go_num, Lib.hid (below_succ hn.out (okAt_yes hlt hin (Or.inr ⟨hk0, by have := H4.out; omega⟩))), hgr.drewN _⟩
            case measure => simp [intOf]; omega
    · go_wp2
      go_ret
      exact ⟨ret_bool (allB_true (fun j hj => hn.out j (by omega))).symm, hgr⟩
end Go.Proofs.Ytcdcpfcmhmhdjaa
