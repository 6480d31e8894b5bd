/- AreRows: the walk of the reference and of the law. -/
import Derived.Test.YtnnapjaggahjgaaLawE
import Derived.Test.YtnnapjaggahjgaaExt
namespace Go.Proofs.Ytnnapjaggahjgaa
open Go.RowKit
theorem areRowsB_end {xs : List DRow} (h : ∀ j, j < xs.length → (ordAt xs j = true ∧ rowOk xs j = true)) : areRowsB xs = decide (xs.length ≤ 32) := by
  unfold areRowsB; rw [allB_true (fun j hj => (h j hj).1), allB_true (fun j hj => (h j hj).2)]; simp
theorem spec_IsRow_of {x : DRow} {b : Bool} (h : isRowB x = b) (u : Value) (w : World) (hx : RInts w u x.vals) : Calls Try.prog 86 #[.agg #[.int .i64 x.id, u]] w fun e w' => e = .returned (.bool b) ∧ Gr w w' := h ▸ spec_IsRow x u w hx
set_option maxRecDepth 100000 in
set_option maxHeartbeats 2000000 in
theorem spec_AreRows (v : Value) (xs : List DRow) (w : World) (hv : RRows w v xs) : Calls Try.prog 97 #[v] w fun e w' => e = .returned (.bool (areRowsB xs)) ∧ Gr w w' := by
  obtain ⟨a, cap, rfl, hl, hm, hx⟩ := hv
  have hx' := hx
  go_enter Try.func97, Try.ntmps97
  go_wp2
  go_loopw [3] (fun i wr => ∃ k : Nat, k ≤ xs.length ∧ i = .int .i64 k ∧ Hid (∀ j, j < k → (ordAt xs j = true ∧ rowOk xs j = true)) ∧ Gr w wr) (fun i _ => xs.length - (intOf i).toNat)
  case atStart => exact ⟨0, Nat.zero_le _, rfl, Lib.hid (fun _ h => absurd h (Nat.not_lt_zero _)), Gr.refl _⟩
  case round =>
    obtain ⟨k, hk, rfl, hn, hgr⟩ := hrel
    by_cases hlt : k < xs.length
    · obtain ⟨b, off, cs, rfl, hlen, ⟨u_vals, rfl, i_id, h_vals⟩, hc⟩ := hx k hlt
      have c0 := hgr.cellv (hc 0 (by simp))
      have c1 := hgr.cellv (hc 1 (by simp))
      simp only [Nat.add_zero, List.getElem_cons_zero, List.getElem_cons_succ] at c0 c1
      clear hc hlen
      have r0 := RSlice.mono keeps_int hgr h_vals
      have i0 : (0 : Int) ≤ (k : Int) := Int.natCast_nonneg _
      have i1 : (k : Int) < (xs.length : Int) := by omega
      by_cases h3 : k = 0
      · have hk0 : decide ((0 : Int) < (k : Int)) = false := by simp; omega
        have hk0' : decide (0 < k) = false := by simp; omega
        have H3 := Lib.hid h3
        clear h3
        cases hr : isRowB xs[k] with
        | false =>
          have HR := Lib.hid hr
          clear hr
          go_wp2
          have q0 := fun q : Ext wr => Ext.cell c0 q
          have q1 := fun q : Ext wr => Ext.cell c1 q
          refine wp_region_ext (by kernel_rfl) (by kernel_rfl) ?_
          repeat (go_big_quiet_step ((go_at_call 86; exact quiet_ext (spec_IsRow_of HR.out u_vals _ (RSlice.mono keeps_int (Ext.gr _) r0)))))
          refine wpQuiet_nil ?_
          intro w1 hw1
          have g1 := Ext.out hw1
          clear hw1 q0 q1
          have hgr1 : Gr w w1 := hgr.trans g1
          go_wp2
          go_ret
          exact ⟨ret_bool (areRowsB_row hlt HR.out).symm, hgr1⟩
        | true =>
          have HR := Lib.hid hr
          clear hr
          go_wp2
          have q0 := fun q : Ext wr => Ext.cell c0 q
          have q1 := fun q : Ext wr => Ext.cell c1 q
          refine wp_region_ext (by kernel_rfl) (by kernel_rfl) ?_
          repeat (go_big_quiet_step ((go_at_call 86; exact quiet_ext (spec_IsRow_of HR.out u_vals _ (RSlice.mono keeps_int (Ext.gr _) r0)))))
          refine wpQuiet_nil ?_
          intro w1 hw1
          have g1 := Ext.out hw1
          clear hw1 q0 q1
          have hgr1 : Gr w w1 := hgr.trans g1
          go_wp2
          go_roundw
          case rel => exact ⟨k + 1, by omega, by go_num, Lib.hid (below_succ hn.out ⟨ordAt_zero H3.out, by rw [rowOk_eq hlt]; exact HR.out⟩), hgr1⟩
          case measure => simp [intOf]; omega
      · have hk1 : k - 1 < xs.length := by omega
        obtain ⟨b', off', cs', e', hlen', ⟨u', rfl, i_id', h_vals'⟩, hc'⟩ := hx' (k - 1) hk1
        simp only [Option.some.injEq, Addr.mk.injEq] at e'
        obtain ⟨rfl, rfl, -⟩ := e'
        have d0 := hgr.cellv (hc' 0 (by simp))
        simp only [Nat.add_zero, List.getElem_cons_zero] at d0
        clear hc'
        have hk0 : 0 < k := by omega
        have hkd : decide ((0 : Int) < (k : Int)) = true := by simp; omega
        have i2 : (0 : Int) ≤ (k : Int) - 1 := by omega
        have i3 : (k : Int) - 1 < (xs.length : Int) := by omega
        clear h3
        cases hr : isRowB xs[k] with
        | false =>
          have HR := Lib.hid hr
          clear hr
          go_wp2
          have q0 := fun q : Ext wr => Ext.cell c0 q
          have q1 := fun q : Ext wr => Ext.cell c1 q
          refine wp_region_ext (by kernel_rfl) (by kernel_rfl) ?_
          repeat (go_big_quiet_step ((go_at_call 86; exact quiet_ext (spec_IsRow_of HR.out u_vals _ (RSlice.mono keeps_int (Ext.gr _) r0)))))
          refine wpQuiet_nil ?_
          intro w1 hw1
          have g1 := Ext.out hw1
          clear hw1 q0 q1
          have hgr1 : Gr w w1 := hgr.trans g1
          go_wp2
          go_ret
          exact ⟨ret_bool (areRowsB_row hlt HR.out).symm, hgr1⟩
        | true =>
          have HR := Lib.hid hr
          clear hr
          by_cases h4 : xs[k].id ≤ xs[k-1].id
          · have h5 : decide (xs[k].id ≤ xs[k-1].id) = true := by simp; omega
            go_wp2
            have q0 := fun q : Ext wr => Ext.cell c0 q
            have q1 := fun q : Ext wr => Ext.cell c1 q
            have q2 := fun q : Ext wr => Ext.cell d0 q
            refine wp_region_ext (by kernel_rfl) (by kernel_rfl) ?_
            repeat (go_big_quiet_step ((go_at_call 86; exact quiet_ext (spec_IsRow_of HR.out u_vals _ (RSlice.mono keeps_int (Ext.gr _) r0)))))
            refine wpQuiet_nil ?_
            intro w1 hw1
            have g1 := Ext.out hw1
            clear hw1 q0 q1 q2
            have hgr1 : Gr w w1 := hgr.trans g1
            go_wp2
            go_ret
            exact ⟨ret_bool (areRowsB_ord hlt (ordAt_no hlt hk1 hk0 h4)).symm, hgr1⟩
          · have H4 := Lib.hid h4
            have h5 : decide (xs[k].id ≤ xs[k-1].id) = false := by simp; omega
            go_wp2
            have q0 := fun q : Ext wr => Ext.cell c0 q
            have q1 := fun q : Ext wr => Ext.cell c1 q
            have q2 := fun q : Ext wr => Ext.cell d0 q
            refine wp_region_ext (by kernel_rfl) (by kernel_rfl) ?_
            repeat (go_big_quiet_step ((go_at_call 86; exact quiet_ext (spec_IsRow_of HR.out u_vals _ (RSlice.mono keeps_int (Ext.gr _) r0)))))
            refine wpQuiet_nil ?_
            intro w1 hw1
            have g1 := Ext.out hw1
            clear hw1 q0 q1 q2
            have hgr1 : Gr w w1 := hgr.trans g1
            go_wp2
            go_roundw
            case rel => exact ⟨k + 1, by omega, by go_num, Lib.hid (below_succ hn.out ⟨ordAt_yes hlt hk1 (by have := H4.out; omega), by rw [rowOk_eq hlt]; exact HR.out⟩), hgr1⟩
            case measure => simp [intOf]; omega
    · have HF := Lib.hid (areRowsB_end (xs := xs) (fun j hj => hn.out j (by omega)))
      by_cases h1 : xs.length ≤ 32
      · have h2 : decide ((xs.length : Int) ≤ 32) = true := by simp; omega
        have H1 := Lib.hid h1
        go_wp2
        go_ret
        exact ⟨ret_bool (by rw [HF.out]; have := H1.out; simp [this]), hgr⟩
      · have h2 : decide ((xs.length : Int) ≤ 32) = false := by simp; omega
        have H1 := Lib.hid h1
        go_wp2
        go_ret
        exact ⟨ret_bool (by rw [HF.out]; have := H1.out; simp [this]), hgr⟩
-- gen FnExactAreRows AreRows RowS
-- endgen
end Go.Proofs.Ytnnapjaggahjgaa
