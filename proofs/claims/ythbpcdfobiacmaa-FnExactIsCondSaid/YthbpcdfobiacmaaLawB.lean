/- The laws of IsSet and IsCond. -/
import Derived.Test.YthbpcdfobiacmaaInts
namespace Go.Proofs.Ythbpcdfobiacmaa
open Go.RowKit
def okAt (xs : List Int) (i : Nat) : Bool := inB (xs.getD i 0) 0 23 && (i == 0 || decide (xs.getD (i - 1) 0 < xs.getD i 0))
theorem isSetB_eq (xs : List Int) : isSetB xs = allB xs.length (okAt xs) := rfl
theorem okAt_no1 {xs : List Int} {k : Nat} (hk : k < xs.length) (h : inB xs[k] 0 23 = false) : okAt xs k = false := by unfold okAt; rw [getD_lt hk, h]; rfl
theorem okAt_no2 {xs : List Int} {k : Nat} (hk : k < xs.length) (h0 : 0 < k) (h : xs[k] ≤ xs[k-1]) : okAt xs k = false := by
  unfold okAt
  rw [getD_lt hk, getD_lt (show k - 1 < xs.length by omega)]
  simp; intro _; omega
theorem okAt_yes {xs : List Int} {k : Nat} (hk : k < xs.length) (h : inB xs[k] 0 23 = true) (h2 : k = 0 ∨ ∃ h0 : 0 < k, xs[k-1] < xs[k]) : okAt xs k = true := by
  unfold okAt
  rw [getD_lt hk, h]
  rcases h2 with rfl | ⟨h0, h2⟩
  · simp
  · rw [getD_lt (show k - 1 < xs.length by omega)]
    simp [h2]
set_option maxRecDepth 100000 in
set_option maxHeartbeats 1000000 in
theorem impl_IsSet (v : Value) (xs : List Int) (w : World) (hx : RInts w v xs) :
    Calls Try.prog 31 #[v] w fun e w' => e = .returned (.bool (isSetB xs)) ∧ Gr w w' := by
  obtain ⟨a, cap, rfl, hl, hm, hx⟩ := hx.open
  go_enter Try.func31, Try.ntmps31
  go_wp2
  go_loopw [7] (fun i wr => ∃ k : Nat, k ≤ xs.length ∧ i = .int .i64 k ∧ Hid (∀ j, j < k → okAt xs j = true) ∧ Gr w wr) (fun i _ => xs.length - (intOf i).toNat)
  case atStart => exact ⟨0, Nat.zero_le _, rfl, Lib.hid (fun _ h => absurd h (Nat.not_lt_zero _)), Gr.refl _⟩
  case round =>
    obtain ⟨k, hk, rfl, hn, hgr⟩ := hrel
    by_cases hlt : k < xs.length
    · obtain ⟨b, off, rfl, hc, _⟩ := hx k hlt
      have gc := hgr.cellv hc
      clear hc
      by_cases h1 : xs[k] < 0
      · go_wp2
        go_ret
        exact ⟨ret_bool (allB_false k hlt (okAt_no1 hlt (inB_no (by omega)))).symm, hgr⟩
      · by_cases h2 : 24 ≤ xs[k]
        · go_wp2
          go_ret
          exact ⟨ret_bool (allB_false k hlt (okAt_no1 hlt (inB_no (by omega)))).symm, hgr⟩
        · have hin : Hid (inB xs[k] 0 23 = true) := inB_mk (by omega) (by omega)
          by_cases h3 : k = 0
          · have hk0 : k ≤ 0 := by omega
            have H3 := Lib.hid h3
            clear h3
            go_wp2
            go_roundw
            case rel => exact ⟨k + 1, by omega, by go_num, Lib.hid (below_succ hn.out (okAt_yes hlt hin.out (Or.inl H3.out))), hgr⟩
            case measure => simp [intOf]; omega
          · have hk1 : k - 1 < xs.length := by omega
            obtain ⟨b', off', e', hc', _⟩ := hx (k - 1) hk1
            simp only [Option.some.injEq, Addr.mk.injEq] at e'
            obtain ⟨rfl, rfl, -⟩ := e'
            have gc' := hgr.cellv hc'
            clear hc'
            have hk0 : 0 < k := by omega
            clear h3
            by_cases h4 : xs[k] ≤ xs[k-1]
            · go_wp2
              go_ret
              exact ⟨ret_bool (allB_false k hlt (okAt_no2 hlt hk0 h4)).symm, hgr⟩
            · have H4 := Lib.hid h4
              go_wp2
              go_roundw
              case rel => exact ⟨k + 1, by omega, by go_num, Lib.hid (below_succ hn.out (okAt_yes hlt hin.out (Or.inr ⟨hk0, by have := H4.out; omega⟩))), hgr⟩
              case measure => simp [intOf]; omega
    · go_wp2
      go_ret
      exact ⟨ret_bool (allB_true (fun j hj => hn.out j (by omega))).symm, hgr⟩
set_option maxRecDepth 100000 in
set_option maxHeartbeats 1000000 in
theorem spec_IsSet (v : Value) (xs : List Int) (w : World) (hx : RInts w v xs) :
    Calls Try.prog 30 #[v] w fun e w' => e = .returned (.bool (isSetB xs)) ∧ Gr w w' := by
  obtain ⟨a, cap, rfl, hl, hm, hx⟩ := hx.open
  go_enter Try.func30, Try.ntmps30
  go_wp2
  go_loopw [3] (fun i wr => ∃ k : Nat, k ≤ xs.length ∧ i = .int .i64 k ∧ Hid (∀ j, j < k → okAt xs j = true) ∧ Gr w wr) (fun i _ => xs.length - (intOf i).toNat)
  case atStart => exact ⟨0, Nat.zero_le _, rfl, Lib.hid (fun _ h => absurd h (Nat.not_lt_zero _)), Gr.refl _⟩
  case round =>
    obtain ⟨k, hk, rfl, hn, hgr⟩ := hrel
    by_cases hlt : k < xs.length
    · obtain ⟨b, off, rfl, hc, _⟩ := hx k hlt
      have gc := hgr.cellv hc
      clear hc
      have i0 : (0 : Int) ≤ (k : Int) := Int.natCast_nonneg _
      have i1 : (k : Int) < (xs.length : Int) := by omega
      by_cases h1 : inB xs[k] 0 23 = false
      · go_wp2
        go_quiet ((go_at_call 47; exact Calls.quiet_of_same ((spec_l1In _ _ _ _).mono (fun e w' h => ⟨h.1, h.2.symm⟩))))
        go_wp2
        go_ret
        exact ⟨ret_bool (allB_false k hlt (okAt_no1 hlt h1)).symm, hgr.drewN _⟩
      · have hin : inB xs[k] 0 23 = true := by simpa using h1
        clear h1
        by_cases h3 : k = 0
        · have hk0 : decide ((0 : Int) < (k : Int)) = false := by simp; omega
          have hk0' : decide (0 < k) = false := by simp; omega
          have H3 := Lib.hid h3
          clear h3
          go_wp2
          go_quiet ((go_at_call 47; exact Calls.quiet_of_same ((spec_l1In _ _ _ _).mono (fun e w' h => ⟨h.1, h.2.symm⟩))))
          go_wp2
          go_roundw
          case rel => exact ⟨k + 1, by omega, by go_num, Lib.hid (below_succ hn.out (okAt_yes hlt hin (Or.inl H3.out))), hgr.drewN _⟩
          case measure => simp [intOf]; omega
        · have hk1 : k - 1 < xs.length := by omega
          obtain ⟨b', off', e', hc', _⟩ := hx (k - 1) hk1
          simp only [Option.some.injEq, Addr.mk.injEq] at e'
          obtain ⟨rfl, rfl, -⟩ := e'
          have gc' := hgr.cellv hc'
          clear hc'
          have hk0 : 0 < k := by omega
          have i2 : (0 : Int) ≤ (k : Int) - 1 := by omega
          have i3 : (k : Int) - 1 < (xs.length : Int) := by omega
          clear h3
          by_cases h4 : xs[k] ≤ xs[k-1]
          · go_wp2
            go_quiet ((go_at_call 47; exact Calls.quiet_of_same ((spec_l1In _ _ _ _).mono (fun e w' h => ⟨h.1, h.2.symm⟩))))
            go_wp2
            go_ret
            exact ⟨ret_bool (allB_false k hlt (okAt_no2 hlt hk0 h4)).symm, hgr.drewN _⟩
          · have H4 := Lib.hid h4
            go_wp2
            go_quiet ((go_at_call 47; exact Calls.quiet_of_same ((spec_l1In _ _ _ _).mono (fun e w' h => ⟨h.1, h.2.symm⟩))))
            go_wp2
            go_roundw
            case rel => exact ⟨k + 1, by omega, by go_num, Lib.hid (below_succ hn.out (okAt_yes hlt hin (Or.inr ⟨hk0, by have := H4.out; omega⟩))), hgr.drewN _⟩
            case measure => simp [intOf]; omega
    · go_wp2
      go_ret
      exact ⟨ret_bool (allB_true (fun j hj => hn.out j (by omega))).symm, hgr⟩
set_option maxRecDepth 100000 in
set_option maxHeartbeats 400000 in
theorem law_FnExactIsSet (w : World) (v : Value) (xs : List Int) (hx : RInts w v xs) : Calls Try.prog 10 #[v] w fun e w' => e = .returned (.bool true) ∧ Gr w w' := by
  obtain ⟨a, cap, hv, -, -, -⟩ := hx.open
  subst hv
  by_cases hlen : xs.length ≤ 1048576
  · go_enter Try.func10, Try.ntmps10
    go_wp2_with fail
    refine (laws_toIntS _ xs _ hx (by omega)).mono ?_
    rintro e w1 ⟨u1, rfl, o1, g1⟩
    go_wp2_with fail
    refine (spec_IsSet u1 xs _ o1.reads).mono ?_
    rintro e w2 ⟨rfl, g2⟩
    go_wp2_with fail
    refine (laws_toIntS _ xs _ (hx.mono (g1.trans g2)) (by omega)).mono ?_
    rintro e w3 ⟨u2, rfl, o2, g3⟩
    go_wp2_with fail
    refine (impl_IsSet u2 xs _ o2.reads).mono ?_
    rintro e w4 ⟨rfl, g4⟩
    go_wp2_with fail
    refine (laws_toIntS _ xs _ (hx.mono (((g1.trans g2).trans g3).trans g4)) (by omega)).mono ?_
    rintro e w5 ⟨u3, rfl, o3, g5⟩
    go_wp2_with fail
    refine (laws_eqIntS u2 u3 xs xs _ (o2.reads.mono (g4.trans g5)) o3.reads).mono ?_
    rintro e w6 ⟨rfl, g6⟩
    rw [show eqL xs xs = true from by simp [eqL]]
    go_wp2_with fail
    go_ret
    exact ⟨rfl, ((((g1.trans g2).trans g3).trans g4).trans g5).trans g6⟩
  · go_enter Try.func10, Try.ntmps10
    go_wp2
    go_ret
    exact ⟨rfl, Gr.refl _⟩
set_option maxRecDepth 100000 in
set_option maxHeartbeats 400000 in
theorem law_FnExactIsCond (w : World) (c : DCond) (_ : I64 c.field) (_ : I64 c.low) (_ : I64 c.high) : Calls Try.prog 5 #[.agg #[.int .i64 c.field, .int .i64 c.low, .int .i64 c.high]] w fun e w' => e = .returned (.bool true) ∧ Gr w w' := by
  obtain ⟨f, l, h⟩ := c
  dsimp only
  go_enter Try.func5, Try.ntmps5
  go_wp2_with fail
  refine (laws_toCond f l h _).mono ?_
  rintro e w1 ⟨rfl, g1⟩
  have c0 := g1.cellv (p := ⟨w.heap.size, 0, none⟩) (v := .int .i64 f) (by simp [go_sem])
  have c1 := g1.cellv (p := ⟨w.heap.size, 1, none⟩) (v := .int .i64 l) (by simp [go_sem])
  have c2 := g1.cellv (p := ⟨w.heap.size, 2, none⟩) (v := .int .i64 h) (by simp [go_sem])
  go_wp2_with fail
  refine (spec_IsCond f l h _).mono ?_
  rintro e w2 ⟨rfl, g2⟩
  have d0 := g2.cellv c0
  have d1 := g2.cellv c1
  have d2 := g2.cellv c2
  go_wp2_with fail
  refine (laws_toCond f l h _).mono ?_
  rintro e w3 ⟨rfl, g3⟩
  go_wp2_with fail
  refine (impl_IsCond f l h _).mono ?_
  rintro e w4 ⟨rfl, g4⟩
  go_wp2_with fail
  go_ret
  exact ⟨rfl, ((((Gr.refl w).alloc _).trans g1).trans g2).trans (g3.trans g4)⟩
end Go.Proofs.Ythbpcdfobiacmaa
