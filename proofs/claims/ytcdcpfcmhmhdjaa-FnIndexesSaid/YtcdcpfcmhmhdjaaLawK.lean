/- AreQueries: the walks. -/
import Derived.Test.YtcdcpfcmhmhdjaaLawJ
namespace Go.Proofs.Ytcdcpfcmhmhdjaa
open Go.RowKit
def qOk (xs : List DQuery) (j : Nat) : Bool := isQueryB (xs.getD j ⟨0, 0, [], []⟩)
def qOrdAt (xs : List DQuery) (j : Nat) : Bool := decide (j = 0) || decide ((xs.getD (j - 1) ⟨0, 0, [], []⟩).id < (xs.getD j ⟨0, 0, [], []⟩).id)
def areQueriesB (xs : List DQuery) : Bool := allB xs.length (qOrdAt xs) && (decide (xs.length ≤ 24) && allB xs.length (qOk xs))
theorem qOk_eq {xs : List DQuery} {k : Nat} (h : k < xs.length) : qOk xs k = isQueryB xs[k] := by unfold qOk; rw [getD_lt h]
theorem qOrd_zero {xs : List DQuery} {k : Nat} (h : k = 0) : qOrdAt xs k = true := by simp [qOrdAt, h]
theorem qOrd_yes {xs : List DQuery} {k : Nat} (h : k < xs.length) (h1 : k - 1 < xs.length) (h2 : xs[k-1].id < xs[k].id) : qOrdAt xs k = true := by
  unfold qOrdAt; rw [getD_lt h, getD_lt h1]; simp [h2]
theorem qOrd_no {xs : List DQuery} {k : Nat} (h : k < xs.length) (h1 : k - 1 < xs.length) (h0 : 0 < k) (h2 : xs[k].id ≤ xs[k-1].id) : qOrdAt xs k = false := by
  unfold qOrdAt; rw [getD_lt h, getD_lt h1]; simp; omega
theorem areQueriesB_ord {xs : List DQuery} {k : Nat} (h : k < xs.length) (h1 : qOrdAt xs k = false) : areQueriesB xs = false := by
  unfold areQueriesB; rw [allB_false k h h1]; rfl
theorem areQueriesB_row {xs : List DQuery} {k : Nat} (h : k < xs.length) (h1 : isQueryB xs[k] = false) : areQueriesB xs = false := by
  unfold areQueriesB; rw [allB_false (p := qOk xs) k h (by rw [qOk_eq h]; exact h1)]; simp
theorem areQueriesB_end {xs : List DQuery} (h : ∀ j, j < xs.length → (qOrdAt xs j = true ∧ qOk xs j = true)) : areQueriesB xs = decide (xs.length ≤ 24) := by
  unfold areQueriesB; rw [allB_true (fun j hj => (h j hj).1), allB_true (fun j hj => (h j hj).2)]; simp
theorem spec_IsQuery_of {x : DQuery} {b : Bool} (h : isQueryB x = b) (u u' : Value) (w : World) (hu : RConds w u x.conds) (hu' : RInts w u' x.out) : Calls Try.prog 38 #[.agg #[.int .i64 x.id, .int .i64 x.tenant, u, u']] w fun e w' => e = .returned (.bool b) ∧ Gr w w' := h ▸ spec_IsQuery x u u' w hu hu'
theorem impl_IsQuery_of {x : DQuery} {b : Bool} (h : isQueryB x = b) (u u' : Value) (w : World) (hu : RConds w u x.conds) (hu' : RInts w u' x.out) : Calls Try.prog 56 #[.agg #[.int .i64 x.id, .int .i64 x.tenant, u, u']] w fun e w' => e = .returned (.bool b) ∧ Gr w w' := h ▸ impl_IsQuery x u u' w hu hu'
set_option maxRecDepth 100000 in
set_option maxHeartbeats 2000000 in
theorem spec_AreQueries (v : Value) (xs : List DQuery) (w : World) (hv : RQueries w v xs) : Calls Try.prog 34 #[v] w fun e w' => e = .returned (.bool (areQueriesB xs)) ∧ Gr w w' := by
  obtain ⟨a, cap, rfl, hl, hm, hx⟩ := hv
  have hx' := hx
  go_enter Try.func34, Try.ntmps34
  go_wp2
  go_loopw [3] (fun i wr => ∃ k : Nat, k ≤ xs.length ∧ i = .int .i64 k ∧ Hid (∀ j, j < k → (qOrdAt xs j = true ∧ qOk xs j = true)) ∧ Gr w wr) (fun i _ => xs.length - (intOf i).toNat)
  case atStart => exact ⟨0, Nat.zero_le _, rfl, Lib.hid (fun _ h => absurd h (Nat.not_lt_zero _)), Gr.refl _⟩
  case round =>
    obtain ⟨k, hk, rfl, hn, hgr⟩ := hrel
    by_cases hlt : k < xs.length
    · obtain ⟨b, off, cs, rfl, hlen, ⟨u_conds, u_out, rfl, i_id, i_tenant, h_conds, h_out⟩, hc⟩ := hx k hlt
      have c0 := hgr.cellv (hc 0 (by simp))
      have c1 := hgr.cellv (hc 1 (by simp))
      have c2 := hgr.cellv (hc 2 (by simp))
      have c3 := hgr.cellv (hc 3 (by simp))
      simp only [Nat.add_zero, List.getElem_cons_zero, List.getElem_cons_succ] at c0 c1 c2 c3
      clear hc hlen
      have r0 := RSlice.mono keeps_cond hgr h_conds
      have r1 := RSlice.mono keeps_int hgr h_out
      have i0 : (0 : Int) ≤ (k : Int) := Int.natCast_nonneg _
      have i1 : (k : Int) < (xs.length : Int) := by omega
      by_cases h3 : k = 0
      · have hk0 : decide ((0 : Int) < (k : Int)) = false := by simp; omega
        have hk0' : decide (0 < k) = false := by simp; omega
        have H3 := Lib.hid h3
        clear h3
        cases hr : isQueryB xs[k] with
        | false =>
          have HR := Lib.hid hr
          clear hr
          go_wp2
          have q0 := fun q : Ext wr => Ext.cell c0 q
          have q1 := fun q : Ext wr => Ext.cell c1 q
          have q3 := fun q : Ext wr => Ext.cell c2 q
          have q4 := fun q : Ext wr => Ext.cell c3 q
          refine wp_region_ext (by kernel_rfl) (by kernel_rfl) ?_
          repeat (go_big_quiet_step ((go_at_call 38; exact quiet_ext (spec_IsQuery_of HR.out u_conds u_out _ (RSlice.mono keeps_cond (Ext.gr _) r0) (RSlice.mono keeps_int (Ext.gr _) r1)))))
          refine wpQuiet_nil ?_
          intro w1 hw1
          have g1 := Ext.out hw1
          clear hw1 q0 q1 q3 q4
          have hgr1 : Gr w w1 := hgr.trans g1
          go_wp2
          go_ret
          exact ⟨ret_bool (areQueriesB_row hlt HR.out).symm, hgr1⟩
        | true =>
          have HR := Lib.hid hr
          clear hr
          go_wp2
          have q0 := fun q : Ext wr => Ext.cell c0 q
          have q1 := fun q : Ext wr => Ext.cell c1 q
          have q3 := fun q : Ext wr => Ext.cell c2 q
          have q4 := fun q : Ext wr => Ext.cell c3 q
          refine wp_region_ext (by kernel_rfl) (by kernel_rfl) ?_
          repeat (go_big_quiet_step ((go_at_call 38; exact quiet_ext (spec_IsQuery_of HR.out u_conds u_out _ (RSlice.mono keeps_cond (Ext.gr _) r0) (RSlice.mono keeps_int (Ext.gr _) r1)))))
          refine wpQuiet_nil ?_
          intro w1 hw1
          have g1 := Ext.out hw1
          clear hw1 q0 q1 q3 q4
          have hgr1 : Gr w w1 := hgr.trans g1
          go_wp2
          go_roundw
          case rel => exact ⟨k + 1, by omega, by go_num, Lib.hid (below_succ hn.out ⟨qOrd_zero H3.out, by rw [qOk_eq hlt]; exact HR.out⟩), hgr1⟩
          case measure => simp [intOf]; omega
      · have hk1 : k - 1 < xs.length := by omega
        obtain ⟨b', off', cs', e', hlen', ⟨u', u'', rfl, -, -, -, -⟩, hc'⟩ := hx' (k - 1) hk1
        simp only [Option.some.injEq, Addr.mk.injEq] at e'
        obtain ⟨rfl, rfl, -⟩ := e'
        have d0 := hgr.cellv (hc' 0 (by simp))
        simp only [Nat.add_zero, List.getElem_cons_zero] at d0
        clear hc'
        have hk0 : 0 < k := by omega
        have hkd : decide ((0 : Int) < (k : Int)) = true := by simp; omega
        have i2 : (0 : Int) ≤ (k : Int) - 1 := by omega
        have i3 : (k : Int) - 1 < (xs.length : Int) := by omega
        clear h3
        cases hr : isQueryB xs[k] with
        | false =>
          have HR := Lib.hid hr
          clear hr
          go_wp2
          have q0 := fun q : Ext wr => Ext.cell c0 q
          have q1 := fun q : Ext wr => Ext.cell c1 q
          have q3 := fun q : Ext wr => Ext.cell c2 q
          have q4 := fun q : Ext wr => Ext.cell c3 q
          refine wp_region_ext (by kernel_rfl) (by kernel_rfl) ?_
          repeat (go_big_quiet_step ((go_at_call 38; exact quiet_ext (spec_IsQuery_of HR.out u_conds u_out _ (RSlice.mono keeps_cond (Ext.gr _) r0) (RSlice.mono keeps_int (Ext.gr _) r1)))))
          refine wpQuiet_nil ?_
          intro w1 hw1
          have g1 := Ext.out hw1
          clear hw1 q0 q1 q3 q4
          have hgr1 : Gr w w1 := hgr.trans g1
          go_wp2
          go_ret
          exact ⟨ret_bool (areQueriesB_row hlt HR.out).symm, hgr1⟩
        | true =>
          have HR := Lib.hid hr
          clear hr
          by_cases h4 : xs[k].id ≤ xs[k-1].id
          · have h5 : decide (xs[k].id ≤ xs[k-1].id) = true := by simp; omega
            go_wp2
            have q0 := fun q : Ext wr => Ext.cell c0 q
            have q1 := fun q : Ext wr => Ext.cell c1 q
            have q3 := fun q : Ext wr => Ext.cell c2 q
            have q4 := fun q : Ext wr => Ext.cell c3 q
            have q2 := fun q : Ext wr => Ext.cell d0 q
            refine wp_region_ext (by kernel_rfl) (by kernel_rfl) ?_
            repeat (go_big_quiet_step ((go_at_call 38; exact quiet_ext (spec_IsQuery_of HR.out u_conds u_out _ (RSlice.mono keeps_cond (Ext.gr _) r0) (RSlice.mono keeps_int (Ext.gr _) r1)))))
            refine wpQuiet_nil ?_
            intro w1 hw1
            have g1 := Ext.out hw1
            clear hw1 q0 q1 q3 q4 q2
            have hgr1 : Gr w w1 := hgr.trans g1
            go_wp2
            go_ret
            exact ⟨ret_bool (areQueriesB_ord hlt (qOrd_no hlt hk1 hk0 h4)).symm, hgr1⟩
          · have H4 := Lib.hid h4
            have h5 : decide (xs[k].id ≤ xs[k-1].id) = false := by simp; omega
            go_wp2
            have q0 := fun q : Ext wr => Ext.cell c0 q
            have q1 := fun q : Ext wr => Ext.cell c1 q
            have q3 := fun q : Ext wr => Ext.cell c2 q
            have q4 := fun q : Ext wr => Ext.cell c3 q
            have q2 := fun q : Ext wr => Ext.cell d0 q
            refine wp_region_ext (by kernel_rfl) (by kernel_rfl) ?_
            repeat (go_big_quiet_step ((go_at_call 38; exact quiet_ext (spec_IsQuery_of HR.out u_conds u_out _ (RSlice.mono keeps_cond (Ext.gr _) r0) (RSlice.mono keeps_int (Ext.gr _) r1)))))
            refine wpQuiet_nil ?_
            intro w1 hw1
            have g1 := Ext.out hw1
            clear hw1 q0 q1 q3 q4 q2
            have hgr1 : Gr w w1 := hgr.trans g1
            go_wp2
            go_roundw
            case rel => exact ⟨k + 1, by omega, by go_num, Lib.hid (below_succ hn.out ⟨qOrd_yes hlt hk1 (by have := H4.out; omega), by rw [qOk_eq hlt]; exact HR.out⟩), hgr1⟩
            case measure => simp [intOf]; omega
    · have HF := Lib.hid (areQueriesB_end (xs := xs) (fun j hj => hn.out j (by omega)))
      by_cases h1 : xs.length ≤ 24
      · have h2 : decide ((xs.length : Int) ≤ 24) = true := by simp; omega
        have H1 := Lib.hid h1
        go_wp2
        go_ret
        exact ⟨ret_bool (by rw [HF.out]; have := H1.out; simp [this]), hgr⟩
      · have h2 : decide ((xs.length : Int) ≤ 24) = false := by simp; omega
        have H1 := Lib.hid h1
        go_wp2
        go_ret
        exact ⟨ret_bool (by rw [HF.out]; have := H1.out; simp [this]), hgr⟩
set_option maxRecDepth 100000 in
set_option maxHeartbeats 2000000 in
theorem impl_AreQueries (v : Value) (xs : List DQuery) (w : World) (hv : RQueries w v xs) : Calls Try.prog 31 #[v] w fun e w' => e = .returned (.bool (areQueriesB xs)) ∧ Gr w w' := by
  obtain ⟨a, cap, rfl, hl, hm, hx⟩ := hv
  have hx' := hx
  go_enter Try.func31, Try.ntmps31
  go_wp2
  go_loopw [7] (fun i wr => ∃ k : Nat, k ≤ xs.length ∧ i = .int .i64 k ∧ Hid (∀ j, j < k → (qOrdAt xs j = true ∧ qOk xs j = true)) ∧ Gr w wr) (fun i _ => xs.length - (intOf i).toNat)
  case atStart => exact ⟨0, Nat.zero_le _, rfl, Lib.hid (fun _ h => absurd h (Nat.not_lt_zero _)), Gr.refl _⟩
  case round =>
    obtain ⟨k, hk, rfl, hn, hgr⟩ := hrel
    by_cases hlt : k < xs.length
    · obtain ⟨b, off, cs, rfl, hlen, ⟨u_conds, u_out, rfl, i_id, i_tenant, h_conds, h_out⟩, hc⟩ := hx k hlt
      have c0 := hgr.cellv (hc 0 (by simp))
      have c1 := hgr.cellv (hc 1 (by simp))
      have c2 := hgr.cellv (hc 2 (by simp))
      have c3 := hgr.cellv (hc 3 (by simp))
      simp only [Nat.add_zero, List.getElem_cons_zero, List.getElem_cons_succ] at c0 c1 c2 c3
      clear hc hlen
      obtain ⟨ua, un, uc, rfl⟩ := RSlice.isSl h_conds
      obtain ⟨va, vn, vc, rfl⟩ := RSlice.isSl h_out
      have gWW : Gr wr (wr.alloc (.cells #[.int .i64 xs[k].id, .int .i64 xs[k].tenant, .slice ua un uc, .slice va vn vc] 44)) := (Gr.refl wr).alloc _
      have hgW := hgr.trans gWW
      have r0 := RSlice.mono keeps_cond hgW h_conds
      have r1 := RSlice.mono keeps_int hgW h_out
      have i0 : (0 : Int) ≤ (k : Int) := Int.natCast_nonneg _
      have i1 : (k : Int) < (xs.length : Int) := by omega
      by_cases h3 : k = 0
      · have hk0 : decide ((0 : Int) < (k : Int)) = false := by simp; omega
        have hk0' : decide (0 < k) = false := by simp; omega
        have H3 := Lib.hid h3
        clear h3
        cases hr : isQueryB xs[k] with
        | false =>
          have HR := Lib.hid hr
          clear hr
          go_wp2
          have q0 : ∀ q : Ext (wr.alloc (.cells #[.int .i64 xs[k].id, .int .i64 xs[k].tenant, .slice ua un uc, .slice va vn vc] 44)), q.val.cell? ⟨wr.heap.size, 0, none⟩ = some (.int .i64 xs[k].id) := fun q => Ext.cell (by simp [go_sem]) q
          have q1 : ∀ q : Ext (wr.alloc (.cells #[.int .i64 xs[k].id, .int .i64 xs[k].tenant, .slice ua un uc, .slice va vn vc] 44)), q.val.cell? ⟨wr.heap.size, 1, none⟩ = some (.int .i64 xs[k].tenant) := fun q => Ext.cell (by simp [go_sem]) q
          have q3 : ∀ q : Ext (wr.alloc (.cells #[.int .i64 xs[k].id, .int .i64 xs[k].tenant, .slice ua un uc, .slice va vn vc] 44)), q.val.cell? ⟨wr.heap.size, 2, none⟩ = some (.slice ua un uc) := fun q => Ext.cell (by simp [go_sem]) q
          have q4 : ∀ q : Ext (wr.alloc (.cells #[.int .i64 xs[k].id, .int .i64 xs[k].tenant, .slice ua un uc, .slice va vn vc] 44)), q.val.cell? ⟨wr.heap.size, 3, none⟩ = some (.slice va vn vc) := fun q => Ext.cell (by simp [go_sem]) q
          refine wp_region_ext (by kernel_rfl) (by kernel_rfl) ?_
          repeat (go_big_quiet_step ((go_at_call 56; exact quiet_ext (impl_IsQuery_of HR.out _ _ _ (RSlice.mono keeps_cond (Ext.gr _) r0) (RSlice.mono keeps_int (Ext.gr _) r1)))))
          refine wpQuiet_nil ?_
          intro w1 hw1
          have g1 := Ext.out hw1
          clear hw1 q0 q1 q3 q4
          have hgr1 : Gr w w1 := hgW.trans g1
          go_wp2
          go_ret
          exact ⟨ret_bool (areQueriesB_row hlt HR.out).symm, hgr1⟩
        | true =>
          have HR := Lib.hid hr
          clear hr
          go_wp2
          have q0 : ∀ q : Ext (wr.alloc (.cells #[.int .i64 xs[k].id, .int .i64 xs[k].tenant, .slice ua un uc, .slice va vn vc] 44)), q.val.cell? ⟨wr.heap.size, 0, none⟩ = some (.int .i64 xs[k].id) := fun q => Ext.cell (by simp [go_sem]) q
          have q1 : ∀ q : Ext (wr.alloc (.cells #[.int .i64 xs[k].id, .int .i64 xs[k].tenant, .slice ua un uc, .slice va vn vc] 44)), q.val.cell? ⟨wr.heap.size, 1, none⟩ = some (.int .i64 xs[k].tenant) := fun q => Ext.cell (by simp [go_sem]) q
          have q3 : ∀ q : Ext (wr.alloc (.cells #[.int .i64 xs[k].id, .int .i64 xs[k].tenant, .slice ua un uc, .slice va vn vc] 44)), q.val.cell? ⟨wr.heap.size, 2, none⟩ = some (.slice ua un uc) := fun q => Ext.cell (by simp [go_sem]) q
          have q4 : ∀ q : Ext (wr.alloc (.cells #[.int .i64 xs[k].id, .int .i64 xs[k].tenant, .slice ua un uc, .slice va vn vc] 44)), q.val.cell? ⟨wr.heap.size, 3, none⟩ = some (.slice va vn vc) := fun q => Ext.cell (by simp [go_sem]) q
          refine wp_region_ext (by kernel_rfl) (by kernel_rfl) ?_
          repeat (go_big_quiet_step ((go_at_call 56; exact quiet_ext (impl_IsQuery_of HR.out _ _ _ (RSlice.mono keeps_cond (Ext.gr _) r0) (RSlice.mono keeps_int (Ext.gr _) r1)))))
          refine wpQuiet_nil ?_
          intro w1 hw1
          have g1 := Ext.out hw1
          clear hw1 q0 q1 q3 q4
          have hgr1 : Gr w w1 := hgW.trans g1
          go_wp2
          go_roundw
          case rel => exact ⟨k + 1, by omega, by go_num, Lib.hid (below_succ hn.out ⟨qOrd_zero H3.out, by rw [qOk_eq hlt]; exact HR.out⟩), hgr1⟩
          case measure => simp [intOf]; omega
      · have hk1 : k - 1 < xs.length := by omega
        obtain ⟨b', off', cs', e', hlen', ⟨u', u'', rfl, -, -, -, -⟩, hc'⟩ := hx' (k - 1) hk1
        simp only [Option.some.injEq, Addr.mk.injEq] at e'
        obtain ⟨rfl, rfl, -⟩ := e'
        have d0 := hgr.cellv (hc' 0 (by simp))
        simp only [Nat.add_zero, List.getElem_cons_zero] at d0
        clear hc'
        have hk0 : 0 < k := by omega
        have hkd : decide ((0 : Int) < (k : Int)) = true := by simp; omega
        have i2 : (0 : Int) ≤ (k : Int) - 1 := by omega
        have i3 : (k : Int) - 1 < (xs.length : Int) := by omega
        clear h3
        cases hr : isQueryB xs[k] with
        | false =>
          have HR := Lib.hid hr
          clear hr
          go_wp2
          have q0 : ∀ q : Ext (wr.alloc (.cells #[.int .i64 xs[k].id, .int .i64 xs[k].tenant, .slice ua un uc, .slice va vn vc] 44)), q.val.cell? ⟨wr.heap.size, 0, none⟩ = some (.int .i64 xs[k].id) := fun q => Ext.cell (by simp [go_sem]) q
          have q1 : ∀ q : Ext (wr.alloc (.cells #[.int .i64 xs[k].id, .int .i64 xs[k].tenant, .slice ua un uc, .slice va vn vc] 44)), q.val.cell? ⟨wr.heap.size, 1, none⟩ = some (.int .i64 xs[k].tenant) := fun q => Ext.cell (by simp [go_sem]) q
          have q3 : ∀ q : Ext (wr.alloc (.cells #[.int .i64 xs[k].id, .int .i64 xs[k].tenant, .slice ua un uc, .slice va vn vc] 44)), q.val.cell? ⟨wr.heap.size, 2, none⟩ = some (.slice ua un uc) := fun q => Ext.cell (by simp [go_sem]) q
          have q4 : ∀ q : Ext (wr.alloc (.cells #[.int .i64 xs[k].id, .int .i64 xs[k].tenant, .slice ua un uc, .slice va vn vc] 44)), q.val.cell? ⟨wr.heap.size, 3, none⟩ = some (.slice va vn vc) := fun q => Ext.cell (by simp [go_sem]) q
          refine wp_region_ext (by kernel_rfl) (by kernel_rfl) ?_
          repeat (go_big_quiet_step ((go_at_call 56; exact quiet_ext (impl_IsQuery_of HR.out _ _ _ (RSlice.mono keeps_cond (Ext.gr _) r0) (RSlice.mono keeps_int (Ext.gr _) r1)))))
          refine wpQuiet_nil ?_
          intro w1 hw1
          have g1 := Ext.out hw1
          clear hw1 q0 q1 q3 q4
          have hgr1 : Gr w w1 := hgW.trans g1
          go_wp2
          go_ret
          exact ⟨ret_bool (areQueriesB_row hlt HR.out).symm, hgr1⟩
        | true =>
          have HR := Lib.hid hr
          clear hr
          by_cases h4 : xs[k].id ≤ xs[k-1].id
          · have h5 : decide (xs[k-1].id ≥ xs[k].id) = true := by simp; omega
            go_wp2
            have q0 : ∀ q : Ext (wr.alloc (.cells #[.int .i64 xs[k].id, .int .i64 xs[k].tenant, .slice ua un uc, .slice va vn vc] 44)), q.val.cell? ⟨wr.heap.size, 0, none⟩ = some (.int .i64 xs[k].id) := fun q => Ext.cell (by simp [go_sem]) q
            have q1 : ∀ q : Ext (wr.alloc (.cells #[.int .i64 xs[k].id, .int .i64 xs[k].tenant, .slice ua un uc, .slice va vn vc] 44)), q.val.cell? ⟨wr.heap.size, 1, none⟩ = some (.int .i64 xs[k].tenant) := fun q => Ext.cell (by simp [go_sem]) q
            have q3 : ∀ q : Ext (wr.alloc (.cells #[.int .i64 xs[k].id, .int .i64 xs[k].tenant, .slice ua un uc, .slice va vn vc] 44)), q.val.cell? ⟨wr.heap.size, 2, none⟩ = some (.slice ua un uc) := fun q => Ext.cell (by simp [go_sem]) q
            have q4 : ∀ q : Ext (wr.alloc (.cells #[.int .i64 xs[k].id, .int .i64 xs[k].tenant, .slice ua un uc, .slice va vn vc] 44)), q.val.cell? ⟨wr.heap.size, 3, none⟩ = some (.slice va vn vc) := fun q => Ext.cell (by simp [go_sem]) q
            have q2 := fun q : Ext (wr.alloc (.cells #[.int .i64 xs[k].id, .int .i64 xs[k].tenant, .slice ua un uc, .slice va vn vc] 44)) => Ext.cell (gWW.cellv d0) q
            refine wp_region_ext (by kernel_rfl) (by kernel_rfl) ?_
            repeat (go_big_quiet_step ((go_at_call 56; exact quiet_ext (impl_IsQuery_of HR.out _ _ _ (RSlice.mono keeps_cond (Ext.gr _) r0) (RSlice.mono keeps_int (Ext.gr _) r1)))))
            refine wpQuiet_nil ?_
            intro w1 hw1
            have g1 := Ext.out hw1
            clear hw1 q0 q1 q3 q4 q2
            have hgr1 : Gr w w1 := hgW.trans g1
            go_wp2
            go_ret
            exact ⟨ret_bool (areQueriesB_ord hlt (qOrd_no hlt hk1 hk0 h4)).symm, hgr1⟩
          · have H4 := Lib.hid h4
            have h5 : decide (xs[k-1].id ≥ xs[k].id) = false := by simp; omega
            go_wp2
            have q0 : ∀ q : Ext (wr.alloc (.cells #[.int .i64 xs[k].id, .int .i64 xs[k].tenant, .slice ua un uc, .slice va vn vc] 44)), q.val.cell? ⟨wr.heap.size, 0, none⟩ = some (.int .i64 xs[k].id) := fun q => Ext.cell (by simp [go_sem]) q
            have q1 : ∀ q : Ext (wr.alloc (.cells #[.int .i64 xs[k].id, .int .i64 xs[k].tenant, .slice ua un uc, .slice va vn vc] 44)), q.val.cell? ⟨wr.heap.size, 1, none⟩ = some (.int .i64 xs[k].tenant) := fun q => Ext.cell (by simp [go_sem]) q
            have q3 : ∀ q : Ext (wr.alloc (.cells #[.int .i64 xs[k].id, .int .i64 xs[k].tenant, .slice ua un uc, .slice va vn vc] 44)), q.val.cell? ⟨wr.heap.size, 2, none⟩ = some (.slice ua un uc) := fun q => Ext.cell (by simp [go_sem]) q
            have q4 : ∀ q : Ext (wr.alloc (.cells #[.int .i64 xs[k].id, .int .i64 xs[k].tenant, .slice ua un uc, .slice va vn vc] 44)), q.val.cell? ⟨wr.heap.size, 3, none⟩ = some (.slice va vn vc) := fun q => Ext.cell (by simp [go_sem]) q
            have q2 := fun q : Ext (wr.alloc (.cells #[.int .i64 xs[k].id, .int .i64 xs[k].tenant, .slice ua un uc, .slice va vn vc] 44)) => Ext.cell (gWW.cellv d0) q
            refine wp_region_ext (by kernel_rfl) (by kernel_rfl) ?_
            repeat (go_big_quiet_step ((go_at_call 56; exact quiet_ext (impl_IsQuery_of HR.out _ _ _ (RSlice.mono keeps_cond (Ext.gr _) r0) (RSlice.mono keeps_int (Ext.gr _) r1)))))
            refine wpQuiet_nil ?_
            intro w1 hw1
            have g1 := Ext.out hw1
            clear hw1 q0 q1 q3 q4 q2
            have hgr1 : Gr w w1 := hgW.trans g1
            go_wp2
            go_roundw
            case rel => exact ⟨k + 1, by omega, by go_num, Lib.hid (below_succ hn.out ⟨qOrd_yes hlt hk1 (by have := H4.out; omega), by rw [qOk_eq hlt]; exact HR.out⟩), hgr1⟩
            case measure => simp [intOf]; omega
    · have HF := Lib.hid (areQueriesB_end (xs := xs) (fun j hj => hn.out j (by omega)))
      by_cases h1 : xs.length ≤ 24
      · have h2 : decide ((xs.length : Int) ≤ 24) = true := by simp; omega
        have H1 := Lib.hid h1
        go_wp2
        go_ret
        exact ⟨ret_bool (by rw [HF.out]; have := H1.out; simp [this]), hgr⟩
      · have h2 : decide ((xs.length : Int) ≤ 24) = false := by simp; omega
        have H1 := Lib.hid h1
        go_wp2
        go_ret
        exact ⟨ret_bool (by rw [HF.out]; have := H1.out; simp [this]), hgr⟩
-- gen FnExactAreQueries AreQueries QueryS
-- endgen
end Go.Proofs.Ytcdcpfcmhmhdjaa
