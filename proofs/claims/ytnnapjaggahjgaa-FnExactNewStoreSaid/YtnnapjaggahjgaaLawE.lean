/- AreRows: the walks. -/
import Derived.Test.YtnnapjaggahjgaaLawD
namespace Go.Proofs.Ytnnapjaggahjgaa
open Go.RowKit
def rowOk (xs : List DRow) (j : Nat) : Bool := isRowB (xs.getD j ⟨0, []⟩)
def ordAt (xs : List DRow) (j : Nat) : Bool := decide (j = 0) || decide ((xs.getD (j - 1) ⟨0, []⟩).id < (xs.getD j ⟨0, []⟩).id)
def areRowsB (xs : List DRow) : Bool := allB xs.length (ordAt xs) && (decide (xs.length ≤ 32) && allB xs.length (rowOk xs))
theorem rowOk_eq {xs : List DRow} {k : Nat} (h : k < xs.length) : rowOk xs k = isRowB xs[k] := by unfold rowOk; rw [getD_lt h]
theorem ordAt_zero {xs : List DRow} {k : Nat} (h : k = 0) : ordAt xs k = true := by simp [ordAt, h]
theorem ordAt_yes {xs : List DRow} {k : Nat} (h : k < xs.length) (h1 : k - 1 < xs.length) (h2 : xs[k-1].id < xs[k].id) : ordAt xs k = true := by
  unfold ordAt; rw [getD_lt h, getD_lt h1]; simp [h2]
theorem ordAt_no {xs : List DRow} {k : Nat} (h : k < xs.length) (h1 : k - 1 < xs.length) (h0 : 0 < k) (h2 : xs[k].id ≤ xs[k-1].id) : ordAt xs k = false := by
  unfold ordAt; rw [getD_lt h, getD_lt h1]; simp; omega
theorem areRowsB_ord {xs : List DRow} {k : Nat} (h : k < xs.length) (h1 : ordAt xs k = false) : areRowsB xs = false := by
  unfold areRowsB; rw [allB_false k h h1]; rfl
theorem areRowsB_row {xs : List DRow} {k : Nat} (h : k < xs.length) (h1 : isRowB xs[k] = false) : areRowsB xs = false := by
  unfold areRowsB; rw [allB_false (p := rowOk xs) k h (by rw [rowOk_eq h]; exact h1)]; simp
set_option maxRecDepth 100000 in
set_option maxHeartbeats 1000000 in
theorem impl_allRows (v : Value) (xs : List DRow) (w : World) (hx : RRows w v xs) : Calls Try.prog 132 #[v] w fun e w' => e = .returned (.bool (allB xs.length (rowOk xs))) ∧ Gr w w' := by
  obtain ⟨a, cap, rfl, hl, hm, hx⟩ := hx
  go_enter Try.func132, Try.ntmps132
  go_wp2
  go_loopw [7] (fun i wr => ∃ k : Nat, k ≤ xs.length ∧ i = .int .i64 k ∧ Hid (∀ j, j < k → rowOk xs j = true) ∧ Gr w wr) (fun i _ => xs.length - (intOf i).toNat)
  case atStart => exact ⟨0, Nat.zero_le _, rfl, Lib.hid (fun _ h => absurd h (Nat.not_lt_zero _)), Gr.refl _⟩
  case round =>
    obtain ⟨k, hk, rfl, hn, hgr⟩ := hrel
    by_cases hlt : k < xs.length
    · obtain ⟨b, off, cs, rfl, hlen, ⟨u_vals, rfl, i_id, h_vals⟩, hc⟩ := hx k hlt
      have c0 := hgr.cellv (hc 0 (by simp))
      have c1 := hgr.cellv (hc 1 (by simp))
      simp only [Nat.add_zero, List.getElem_cons_zero, List.getElem_cons_succ] at c0 c1
      clear hc hlen
      obtain ⟨ua, un, uc, rfl⟩ := RSlice.isSl h_vals
      by_cases hr : isRowB xs[k] = true
      · have HR := Lib.hid hr
        clear hr
        go_wp2_with fail
        refine (impl_IsRow xs[k] _ _ (RSlice.mono keeps_int (hgr.alloc _) h_vals)).mono ?_
        rintro e w1 ⟨rfl, g1⟩
        rw [HR.out]
        have hgr1 : Gr w w1 := (hgr.alloc _).trans g1
        go_wp2_with fail
        go_roundw
        case rel => exact ⟨k + 1, by omega, by go_num, Lib.hid (below_succ hn.out (by rw [rowOk_eq hlt]; exact HR.out)), hgr1⟩
        case measure => simp [intOf]; omega
      · have HR := Lib.hid (show isRowB xs[k] = false by simpa using hr)
        clear hr
        go_wp2_with fail
        refine (impl_IsRow xs[k] _ _ (RSlice.mono keeps_int (hgr.alloc _) h_vals)).mono ?_
        rintro e w1 ⟨rfl, g1⟩
        rw [HR.out]
        have hgr1 : Gr w w1 := (hgr.alloc _).trans g1
        go_wp2_with fail
        go_ret
        exact ⟨ret_bool (allB_false k hlt (by rw [rowOk_eq hlt]; exact HR.out)).symm, hgr1⟩
    · go_wp2
      go_ret
      exact ⟨ret_bool (allB_true (fun j hj => hn.out j (by omega))).symm, hgr⟩
set_option maxRecDepth 100000 in
set_option maxHeartbeats 1000000 in
theorem impl_AreRows (v : Value) (xs : List DRow) (w : World) (hv : RRows w v xs) : Calls Try.prog 98 #[v] w fun e w' => e = .returned (.bool (areRowsB xs)) ∧ Gr w w' := by
  have hv0 := hv
  obtain ⟨a, cap, rfl, hl, hm, hx⟩ := hv
  have hx' := hx
  go_enter Try.func98, Try.ntmps98
  go_wp2
  go_loopw [7] (fun i wr => ∃ k : Nat, k ≤ xs.length ∧ i = .int .i64 k ∧ Hid (∀ j, j < k → ordAt xs j = true) ∧ Gr w wr) (fun i _ => xs.length - (intOf i).toNat)
  case atStart => exact ⟨0, Nat.zero_le _, rfl, Lib.hid (fun _ h => absurd h (Nat.not_lt_zero _)), Gr.refl _⟩
  case round =>
    obtain ⟨k, hk, rfl, hn, hgr⟩ := hrel
    by_cases hlt : k < xs.length
    · obtain ⟨b, off, cs, rfl, hlen, ⟨u_vals, rfl, i_id, h_vals⟩, hc⟩ := hx k hlt
      have c0 := hgr.cellv (hc 0 (by simp))
      have c1 := hgr.cellv (hc 1 (by simp))
      simp only [Nat.add_zero, List.getElem_cons_zero, List.getElem_cons_succ] at c0 c1
      clear hc hlen
      obtain ⟨ua, un, uc, rfl⟩ := RSlice.isSl h_vals
      have i0 : (0 : Int) ≤ (k : Int) := Int.natCast_nonneg _
      have i1 : (k : Int) < (xs.length : Int) := by omega
      by_cases h3 : k = 0
      · have hk0 : decide ((0 : Int) < (k : Int)) = false := by simp; omega
        have hk0' : decide (0 < k) = false := by simp; omega
        have H3 := Lib.hid h3
        clear h3
        go_wp2
        go_quiet (fail)
        go_wp2
        go_roundw
        case rel => exact ⟨k + 1, by omega, by go_num, Lib.hid (below_succ hn.out (ordAt_zero H3.out)), (hgr.alloc _).drewN _⟩
        case measure => simp [intOf]; omega
      · have hk1 : k - 1 < xs.length := by omega
        obtain ⟨b', off', cs', e', hlen', ⟨u', rfl, i_id', h_vals'⟩, hc'⟩ := hx' (k - 1) hk1
        simp only [Option.some.injEq, Addr.mk.injEq] at e'
        obtain ⟨rfl, rfl, -⟩ := e'
        have d0 := hgr.cellv (hc' 0 (by simp))
        simp only [Nat.add_zero, List.getElem_cons_zero] at d0
        clear hc'
        have d1 := ((Gr.refl wr).alloc (.cells #[.int .i64 xs[k].id, .slice ua un uc] 46)).cellv d0
        have hk0 : 0 < k := by omega
        have hkd : decide ((0 : Int) < (k : Int)) = true := by simp; omega
        have i2 : (0 : Int) ≤ (k : Int) - 1 := by omega
        have i3 : (k : Int) - 1 < (xs.length : Int) := by omega
        clear h3
        by_cases h4 : xs[k].id ≤ xs[k-1].id
        · have h5 : decide (xs[k-1].id ≥ xs[k].id) = true := by simp; omega
          go_wp2
          go_quiet (fail)
          go_wp2
          go_ret
          exact ⟨ret_bool (areRowsB_ord hlt (ordAt_no hlt hk1 hk0 h4)).symm, (hgr.alloc _).drewN _⟩
        · have H4 := Lib.hid h4
          have h5 : decide (xs[k-1].id ≥ xs[k].id) = false := by simp; omega
          go_wp2
          go_quiet (fail)
          go_wp2
          go_roundw
          case rel => exact ⟨k + 1, by omega, by go_num, Lib.hid (below_succ hn.out (ordAt_yes hlt hk1 (by have := H4.out; omega))), (hgr.alloc _).drewN _⟩
          case measure => simp [intOf]; omega
    · have HF : Hid (areRowsB xs = (decide (xs.length ≤ 32) && allB xs.length (rowOk xs))) := by
        refine Lib.hid ?_
        unfold areRowsB; rw [allB_true (fun j hj => hn.out j (by omega))]; rfl
      by_cases h1 : xs.length ≤ 32
      · have h2 : decide ((xs.length : Int) ≤ 32) = true := by simp; omega
        have H1 := Lib.hid h1
        go_wp2_with fail
        refine (impl_allRows _ xs _ (RSlice.mono keeps_row hgr hv0)).mono ?_
        rintro e w1 ⟨rfl, g1⟩
        go_wp2_with fail
        go_ret
        exact ⟨ret_bool (by rw [HF.out]; have := H1.out; simp [this]), hgr.trans g1⟩
      · have h2 : decide ((xs.length : Int) ≤ 32) = false := by simp; omega
        have H1 := Lib.hid h1
        go_wp2
        go_ret
        exact ⟨ret_bool (by rw [HF.out]; have := H1.out; simp [this]), hgr⟩
end Go.Proofs.Ytnnapjaggahjgaa
