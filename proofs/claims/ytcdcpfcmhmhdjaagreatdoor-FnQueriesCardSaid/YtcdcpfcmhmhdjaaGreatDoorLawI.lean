/- IsQuery: the walks. -/
import Derived.Test.YtcdcpfcmhmhdjaaGreatDoorGenQuery
import Derived.Test.YtcdcpfcmhmhdjaaGreatDoorSc
import Derived.Test.YtcdcpfcmhmhdjaaGreatDoorExt
namespace Go.Proofs.YtcdcpfcmhmhdjaaGreatDoor
open Go.RowKit
def fieldAt (xs : List Int) (j : Nat) : Bool := inB (xs.getD j 0) 0 2
def fieldsB (xs : List Int) : Bool := allB xs.length (fieldAt xs) && inB xs.length 1 3
def condOk (xs : List DCond) (j : Nat) : Bool := isCondB (xs.getD j ⟨0, 0, 0⟩)
def condOrd (xs : List DCond) (j : Nat) : Bool := decide (j = 0) || decide ((xs.getD (j - 1) ⟨0, 0, 0⟩).field < (xs.getD j ⟨0, 0, 0⟩).field)
def condAt (xs : List DCond) (j : Nat) : Bool := condOk xs j && condOrd xs j
def isQueryB (q : DQuery) : Bool := allB q.conds.length (condAt q.conds) && (inB q.id 0 23 && (inB q.tenant 0 3 && (decide (q.conds.length ≤ 3) && fieldsB q.out)))
theorem fieldAt_eq {xs : List Int} {k : Nat} (h : k < xs.length) : fieldAt xs k = inB xs[k] 0 2 := by unfold fieldAt; rw [getD_lt h]
theorem fieldsB_no {xs : List Int} {k : Nat} (h : k < xs.length) (h1 : inB xs[k] 0 2 = false) : fieldsB xs = false := by
  unfold fieldsB; rw [allB_false k h (by rw [fieldAt_eq h]; exact h1)]; rfl
theorem fieldsB_all {xs : List Int} (h : ∀ j, j < xs.length → fieldAt xs j = true) : fieldsB xs = inB xs.length 1 3 := by
  unfold fieldsB; rw [allB_true h]; rfl
theorem condAt_no1 {xs : List DCond} {k : Nat} (h : k < xs.length) (h1 : isCondB xs[k] = false) : condAt xs k = false := by
  unfold condAt condOk; rw [getD_lt h, h1]; rfl
theorem condAt_no2 {xs : List DCond} {k : Nat} (h : k < xs.length) (h1 : k - 1 < xs.length) (h0 : 0 < k) (h2 : xs[k].field ≤ xs[k-1].field) : condAt xs k = false := by
  unfold condAt condOrd; rw [getD_lt h, getD_lt h1]
  have e1 : decide (k = 0) = false := by simp; omega
  have e2 : decide (xs[k-1].field < xs[k].field) = false := by simp; omega
  rw [e1, e2]; simp
theorem condAt_yes {xs : List DCond} {k : Nat} (h : k < xs.length) (h1 : isCondB xs[k] = true) (h2 : k = 0 ∨ ∃ h0 : k - 1 < xs.length, xs[k-1].field < xs[k].field) : condAt xs k = true := by
  unfold condAt condOk condOrd; rw [getD_lt h, h1]
  rcases h2 with rfl | ⟨h0, h2⟩
  · simp
  · rw [getD_lt h0]; simp [h2]
set_option maxRecDepth 100000 in
set_option maxHeartbeats 1000000 in
theorem spec_l4Fields (v : Value) (xs : List Int) (w : World) (hx : RInts w v xs) : Calls Tryz.prog 44 #[v] w fun e w' => e = .returned (.bool (fieldsB xs)) ∧ Gr w w' := by
  obtain ⟨a, cap, rfl, hl, hm, hx⟩ := hx.open
  go_enter Tryz.func44, Tryz.ntmps44
  go_wp2
  go_loopw [3] (fun i wr => ∃ k : Nat, k ≤ xs.length ∧ i = .int .i64 k ∧ Hid (∀ j, j < k → fieldAt xs j = true) ∧ Gr w wr) (fun i _ => xs.length - (intOf i).toNat)
  case atStart => exact ⟨0, Nat.zero_le _, rfl, Lib.hid (fun _ h => absurd h (Nat.not_lt_zero _)), Gr.refl _⟩
  case round =>
    obtain ⟨k, hk, rfl, hn, hgr⟩ := hrel
    by_cases hlt : k < xs.length
    · obtain ⟨b, off, rfl, hc, _⟩ := hx k hlt
      have gc := hgr.cellv hc
      clear hc
      cases h1 : inB xs[k] 0 2 with
      | true =>
        go_wp2_with (go_at_call 43; refine (spec_l1In _ _ _ _).mono ?_; rintro e w' ⟨rfl, rfl⟩)
        go_roundw
        case rel => exact ⟨k + 1, by omega, by go_num, Lib.hid (below_succ hn.out (by rw [fieldAt_eq hlt]; exact h1)), hgr⟩
        case measure => simp [intOf]; omega
      | false =>
        go_wp2_with (go_at_call 43; refine (spec_l1In _ _ _ _).mono ?_; rintro e w' ⟨rfl, rfl⟩)
        go_ret
        exact ⟨ret_bool (fieldsB_no hlt h1).symm, hgr⟩
    · have HF := Lib.hid (fieldsB_all (xs := xs) (fun j hj => hn.out j (by omega)))
      go_wp2_with (go_at_call 43; refine (spec_l1In _ _ _ _).mono ?_; rintro e w' ⟨rfl, rfl⟩)
      go_ret
      exact ⟨ret_bool HF.out.symm, hgr⟩
theorem isQueryB_no {i t : Int} {xs : List DCond} {ys : List Int} {k : Nat} (h : k < xs.length) (h1 : condAt xs k = false) : isQueryB ⟨i, t, xs, ys⟩ = false := by
  unfold isQueryB; rw [allB_false k h h1]; rfl
theorem isQueryB_all {i t : Int} {xs : List DCond} {ys : List Int} (h : ∀ j, j < xs.length → condAt xs j = true) : isQueryB ⟨i, t, xs, ys⟩ = (inB i 0 23 && (inB t 0 3 && (decide (xs.length ≤ 3) && fieldsB ys))) := by
  unfold isQueryB; rw [allB_true h]; rfl
theorem spec_IsCond_of {c : DCond} {b : Bool} (h : isCondB c = b) (w : World) : Calls Tryz.prog 42 #[.agg #[.int .i64 c.field, .int .i64 c.low, .int .i64 c.high]] w fun e w' => e = .returned (.bool b) ∧ Gr w w' := h ▸ spec_IsCond c.field c.low c.high w
theorem impl_IsCond_of {c : DCond} {b : Bool} (h : isCondB c = b) (w : World) : Calls Tryz.prog 60 #[.agg #[.int .i64 c.field, .int .i64 c.low, .int .i64 c.high]] w fun e w' => e = .returned (.bool b) ∧ Gr w w' := h ▸ impl_IsCond c.field c.low c.high w
set_option maxRecDepth 100000 in
set_option maxHeartbeats 4000000 in
theorem spec_IsQuery (x : DQuery) (u u' : Value) (w : World) (hu : RConds w u x.conds) (hu' : RInts w u' x.out) : Calls Tryz.prog 15 #[.agg #[.int .i64 x.id, .int .i64 x.tenant, u, u']] w fun e w' => e = .returned (.bool (isQueryB x)) ∧ Gr w w' := by
  obtain ⟨id, ten, xs, ys⟩ := x
  dsimp only at *
  obtain ⟨a, cap, rfl, hl, hm, hx⟩ := hu
  have hx' := hx
  obtain ⟨ya, yn, yc, rfl⟩ := RSlice.isSl hu'
  have g0 : Gr w (w.alloc (.cells #[.int .i64 id, .int .i64 ten, .slice a xs.length cap, .slice ya yn yc] 27)) := (Gr.refl w).alloc _
  go_enter Tryz.func15, Tryz.ntmps15
  go_wp2
  go_loopw [3] (fun i wr => ∃ k : Nat, k ≤ xs.length ∧ i = .int .i64 k ∧ Hid (∀ j, j < k → condAt xs j = true) ∧ Gr w wr ∧ wr.cell? ⟨w.heap.size, 0, none⟩ = some (.int .i64 id) ∧ wr.cell? ⟨w.heap.size, 1, none⟩ = some (.int .i64 ten) ∧ wr.cell? ⟨w.heap.size, 2, none⟩ = some (.slice a xs.length cap) ∧ wr.cell? ⟨w.heap.size, 3, none⟩ = some (.slice ya yn yc)) (fun i _ => xs.length - (intOf i).toNat)
  case atStart => exact ⟨0, Nat.zero_le _, rfl, Lib.hid (fun _ h => absurd h (Nat.not_lt_zero _)), g0, by simp [go_sem], by simp [go_sem], by simp [go_sem], by simp [go_sem]⟩
  case round =>
    obtain ⟨k, hk, rfl, hn, hgr, k0, k1, k2, k3⟩ := hrel
    by_cases hlt : k < xs.length
    · obtain ⟨b, off, cs, rfl, hlen, ⟨rfl, i_field, i_low, i_high⟩, hc⟩ := hx k hlt
      have c0 := hgr.cellv (hc 0 (by simp))
      have c1 := hgr.cellv (hc 1 (by simp))
      have c2 := hgr.cellv (hc 2 (by simp))
      simp only [Nat.add_zero, List.getElem_cons_zero, List.getElem_cons_succ] at c0 c1 c2
      clear hc hlen
      have i0 : (0 : Int) ≤ (k : Int) := Int.natCast_nonneg _
      have i1 : (k : Int) < (xs.length : Int) := by omega
      have q0 := fun q : Ext wr => Ext.cell c0 q
      have q1 := fun q : Ext wr => Ext.cell c1 q
      have q2 := fun q : Ext wr => Ext.cell c2 q
      have q3 := fun q : Ext wr => Ext.cell k2 q
      cases hr : isCondB xs[k] with
      | false =>
        have HR := Lib.hid hr
        clear hr
        go_wp2
        refine wp_region_ext (by kernel_rfl) (by kernel_rfl) ?_
        repeat (go_big_quiet_step ((go_at_call 42; exact quiet_ext (spec_IsCond_of HR.out _))))
        refine wpQuiet_nil ?_
        intro w1 hw1
        have g1 := Ext.out hw1
        clear hw1 q0 q1 q2 q3
        go_wp2
        go_ret
        exact ⟨ret_bool (isQueryB_no hlt (condAt_no1 hlt HR.out)).symm, hgr.trans g1⟩
      | true =>
        have HR := Lib.hid hr
        clear hr
        by_cases h3 : k = 0
        · have hk0 : decide ((0 : Int) < (k : Int)) = false := by simp; omega
          have hk0' : decide (0 < k) = false := by simp; omega
          have H3 := Lib.hid h3
          clear h3
          go_wp2
          refine wp_region_ext (by kernel_rfl) (by kernel_rfl) ?_
          repeat (go_big_quiet_step ((go_at_call 42; exact quiet_ext (spec_IsCond_of HR.out _))))
          refine wpQuiet_nil ?_
          intro w1 hw1
          have g1 := Ext.out hw1
          clear hw1 q0 q1 q2 q3
          have hgr1 := hgr.trans g1
          go_wp2
          go_roundw
          case rel => exact ⟨k + 1, by omega, by go_num, Lib.hid (below_succ hn.out (condAt_yes hlt HR.out (Or.inl H3.out))), hgr1, g1.cellv k0, g1.cellv k1, g1.cellv k2, g1.cellv k3⟩
          case measure => simp [intOf]; omega
        · have hk1 : k - 1 < xs.length := by omega
          obtain ⟨b', off', cs', e', hlen', ⟨rfl, -, -, -⟩, hc'⟩ := hx' (k - 1) hk1
          simp only [Option.some.injEq, Addr.mk.injEq] at e'
          obtain ⟨rfl, rfl, -⟩ := e'
          have d0 := hgr.cellv (hc' 0 (by simp))
          simp only [Nat.add_zero, List.getElem_cons_zero] at d0
          clear hc'
          have q4 := fun q : Ext wr => Ext.cell d0 q
          have hk0 : 0 < k := by omega
          have hkd : decide ((0 : Int) < (k : Int)) = true := by simp; omega
          have i2 : (0 : Int) ≤ (k : Int) - 1 := by omega
          have i3 : (k : Int) - 1 < (xs.length : Int) := by omega
          clear h3
          by_cases h4 : xs[k].field ≤ xs[k-1].field
          · have h5 : decide (xs[k].field ≤ xs[k-1].field) = true := by simp; omega
            go_wp2
            refine wp_region_ext (by kernel_rfl) (by kernel_rfl) ?_
            repeat (go_big_quiet_step ((go_at_call 42; exact quiet_ext (spec_IsCond_of HR.out _))))
            refine wpQuiet_nil ?_
            intro w1 hw1
            have g1 := Ext.out hw1
            clear hw1 q0 q1 q2 q3 q4
            go_wp2
            go_ret
            exact ⟨ret_bool (isQueryB_no hlt (condAt_no2 hlt hk1 hk0 h4)).symm, hgr.trans g1⟩
          · have H4 := Lib.hid h4
            have h5 : decide (xs[k].field ≤ xs[k-1].field) = false := by simp; omega
            go_wp2
            refine wp_region_ext (by kernel_rfl) (by kernel_rfl) ?_
            repeat (go_big_quiet_step ((go_at_call 42; exact quiet_ext (spec_IsCond_of HR.out _))))
            refine wpQuiet_nil ?_
            intro w1 hw1
            have g1 := Ext.out hw1
            clear hw1 q0 q1 q2 q3 q4
            have hgr1 := hgr.trans g1
            go_wp2
            go_roundw
            case rel => exact ⟨k + 1, by omega, by go_num, Lib.hid (below_succ hn.out (condAt_yes hlt HR.out (Or.inr ⟨hk1, by have := H4.out; omega⟩))), hgr1, g1.cellv k0, g1.cellv k1, g1.cellv k2, g1.cellv k3⟩
            case measure => simp [intOf]; omega
    · have HF := Lib.hid (isQueryB_all (i := id) (t := ten) (xs := xs) (ys := ys) (fun j hj => hn.out j (by omega)))
      cases h1 : inB id 0 23 with
      | false =>
        go_wp2_with (go_at_call 43; refine (spec_l1In _ _ _ _).mono ?_; rintro e w' ⟨rfl, rfl⟩)
        go_ret
        exact ⟨ret_bool (by rw [HF.out]; simp [h1]), hgr⟩
      | true =>
        cases h2 : inB ten 0 3 with
        | false =>
          go_wp2_with (go_at_call 43; refine (spec_l1In _ _ _ _).mono ?_; rintro e w' ⟨rfl, rfl⟩)
          go_ret
          exact ⟨ret_bool (by rw [HF.out]; simp [h2]), hgr⟩
        | true =>
          by_cases h3 : xs.length ≤ 3
          · have h4 : decide ((xs.length : Int) ≤ 3) = true := by simp; omega
            have H3 := Lib.hid h3
            clear h3
            go_wp2_with (first | (go_at_call 43; refine (spec_l1In _ _ _ _).mono ?_; rintro e w' ⟨rfl, rfl⟩) | fail)
            refine (spec_l4Fields _ ys _ (hu'.mono hgr)).mono ?_
            rintro e w1 ⟨rfl, g1⟩
            go_wp2_with fail
            go_ret
            exact ⟨ret_bool (by rw [HF.out]; have := H3.out; simp [h1, h2, this]), hgr.trans g1⟩
          · have h4 : decide ((xs.length : Int) ≤ 3) = false := by simp; omega
            have H3 := Lib.hid h3
            clear h3
            go_wp2_with (go_at_call 43; refine (spec_l1In _ _ _ _).mono ?_; rintro e w' ⟨rfl, rfl⟩)
            go_ret
            exact ⟨ret_bool (by rw [HF.out]; have := H3.out; simp [this]), hgr⟩
end Go.Proofs.YtcdcpfcmhmhdjaaGreatDoor
