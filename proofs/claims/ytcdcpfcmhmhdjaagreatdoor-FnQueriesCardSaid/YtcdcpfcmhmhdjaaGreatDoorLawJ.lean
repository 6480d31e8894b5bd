/- IsQuery: the program's walk and the law. -/
import Derived.Test.YtcdcpfcmhmhdjaaGreatDoorLawI
namespace Go.Proofs.YtcdcpfcmhmhdjaaGreatDoor
open Go.RowKit
theorem isQueryB_id {x : DQuery} (h : inB x.id 0 23 = false) : isQueryB x = false := by unfold isQueryB; rw [h]; simp
theorem isQueryB_ten {x : DQuery} (h : inB x.tenant 0 3 = false) : isQueryB x = false := by unfold isQueryB; rw [h]; simp
theorem isQueryB_len {x : DQuery} (h : ¬ x.conds.length ≤ 3) : isQueryB x = false := by unfold isQueryB; simp [h]
theorem isQueryB_out {x : DQuery} {k : Nat} (h : k < x.out.length) (h1 : inB x.out[k] 0 2 = false) : isQueryB x = false := by unfold isQueryB; rw [fieldsB_no h h1]; simp
set_option maxRecDepth 100000 in
set_option maxHeartbeats 4000000 in
theorem impl_IsQuery (x : DQuery) (u u' : Value) (w : World) (hu : RConds w u x.conds) (hu' : RInts w u' x.out) : Calls Tryz.prog 28 #[.agg #[.int .i64 x.id, .int .i64 x.tenant, u, u']] w fun e w' => e = .returned (.bool (isQueryB x)) ∧ Gr w w' := by
  obtain ⟨id, ten, xs, ys⟩ := x
  dsimp only at *
  obtain ⟨a, cap, rfl, hl, hm, hx⟩ := hu
  have hx' := hx
  obtain ⟨ya, yc, rfl, hly, hmy, hy⟩ := hu'.open
  have g0 : Gr w (w.alloc (.cells #[.int .i64 id, .int .i64 ten, .slice a xs.length cap, .slice ya ys.length yc] 27)) := (Gr.refl w).alloc _
  have i9 : (0 : Int) ≤ (xs.length : Int) := Int.natCast_nonneg _
  cases h1 : inB id 0 23 with
  | false =>
    go_enter Tryz.func28, Tryz.ntmps28
    go_wp2_with (go_at_call 59; refine (impl_within _ _ _ _).mono ?_; rintro e w' ⟨rfl, rfl⟩)
    go_ret
    exact ⟨ret_bool (isQueryB_id h1).symm, g0⟩
  | true =>
  cases h2 : inB ten 0 3 with
  | false =>
    go_enter Tryz.func28, Tryz.ntmps28
    go_wp2_with (go_at_call 59; refine (impl_within _ _ _ _).mono ?_; rintro e w' ⟨rfl, rfl⟩)
    go_ret
    exact ⟨ret_bool (isQueryB_ten h2).symm, g0⟩
  | true =>
  by_cases h3 : xs.length ≤ 3
  · have h4 : decide ((xs.length : Int) > 3) = false := by simp; omega
    have h4' : decide ((3 : Int) < (xs.length : Int)) = false := by simp; omega
    have H3 := Lib.hid h3
    clear h3
    go_enter Tryz.func28, Tryz.ntmps28
    go_wp2_with (go_at_call 59; refine (impl_within _ _ _ _).mono ?_; rintro e w' ⟨rfl, rfl⟩)
    clear h4 h4'
    go_loopw [26] (fun i wr => ∃ k : Nat, k ≤ xs.length ∧ i = .int .i64 k ∧ Hid (∀ j, j < k → condAt xs j = true) ∧ Gr w wr ∧ wr.cell? ⟨w.heap.size, 0, none⟩ = some (.int .i64 id) ∧ wr.cell? ⟨w.heap.size, 1, none⟩ = some (.int .i64 ten) ∧ wr.cell? ⟨w.heap.size, 2, none⟩ = some (.slice a xs.length cap) ∧ wr.cell? ⟨w.heap.size, 3, none⟩ = some (.slice ya ys.length yc)) (fun i _ => xs.length - (intOf i).toNat)
    case atStart => exact ⟨0, Nat.zero_le _, rfl, Lib.hid (fun _ h => absurd h (Nat.not_lt_zero _)), g0, by simp [go_sem], by simp [go_sem], by simp [go_sem], by simp [go_sem]⟩
    case round =>
      obtain ⟨k, hk, rfl, hn, hgr, k0, k1, k2, k3⟩ := hrel
      by_cases hlt : k < xs.length
      · obtain ⟨b, off, cs, rfl, hlen, ⟨rfl, i_field, i_low, i_high⟩, hc⟩ := hx k hlt
        have c0 := hgr.cellv (hc 0 (by simp))
        have c1 := hgr.cellv (hc 1 (by simp))
        have c2 := hgr.cellv (hc 2 (by simp))
        simp only [Nat.add_zero, List.getElem_cons_zero, List.getElem_cons_succ] at c0 c1 c2
        clear hc hlen
        have i0 : (0 : Int) ≤ (k : Int) := Int.natCast_nonneg _
        have i1 : (k : Int) < (xs.length : Int) := by omega
        have gWW : Gr wr (wr.alloc (.cells #[.int .i64 xs[k].field, .int .i64 xs[k].low, .int .i64 xs[k].high] 57)) := (Gr.refl wr).alloc _
        have hgW := hgr.trans gWW
        have q0 : ∀ q : Ext (wr.alloc (.cells #[.int .i64 xs[k].field, .int .i64 xs[k].low, .int .i64 xs[k].high] 57)), q.val.cell? ⟨wr.heap.size, 0, none⟩ = some (.int .i64 xs[k].field) := fun q => Ext.cell (by simp [go_sem]) q
        have q1 : ∀ q : Ext (wr.alloc (.cells #[.int .i64 xs[k].field, .int .i64 xs[k].low, .int .i64 xs[k].high] 57)), q.val.cell? ⟨wr.heap.size, 1, none⟩ = some (.int .i64 xs[k].low) := fun q => Ext.cell (by simp [go_sem]) q
        have q2 : ∀ q : Ext (wr.alloc (.cells #[.int .i64 xs[k].field, .int .i64 xs[k].low, .int .i64 xs[k].high] 57)), q.val.cell? ⟨wr.heap.size, 2, none⟩ = some (.int .i64 xs[k].high) := fun q => Ext.cell (by simp [go_sem]) q
        have q3 : ∀ q : Ext (wr.alloc (.cells #[.int .i64 xs[k].field, .int .i64 xs[k].low, .int .i64 xs[k].high] 57)), q.val.cell? ⟨w.heap.size, 2, none⟩ = some (.slice (some ⟨b, off, none⟩) xs.length cap) := fun q => Ext.cell (gWW.cellv k2) q
        cases hr : isCondB xs[k] with
        | false =>
          have HR := Lib.hid hr
          clear hr
          go_wp2
          refine wp_region_ext (by kernel_rfl) (by kernel_rfl) ?_
          repeat (go_big_quiet_step ((go_at_call 60; exact quiet_ext (impl_IsCond_of HR.out _))))
          refine wpQuiet_nil ?_
          intro w1 hw1
          have g1 := Ext.out hw1
          clear hw1 q0 q1 q2 q3
          go_wp2
          go_ret
          exact ⟨ret_bool (isQueryB_no hlt (condAt_no1 hlt HR.out)).symm, hgW.trans g1⟩
        | true =>
          have HR := Lib.hid hr
          clear hr
          by_cases h3 : k = 0
          · have hk0 : decide ((0 : Int) < (k : Int)) = false := by simp; omega
            have hk0' : decide (0 < k) = false := by simp; omega
            have H0 := Lib.hid h3
            clear h3
            go_wp2
            refine wp_region_ext (by kernel_rfl) (by kernel_rfl) ?_
            repeat (go_big_quiet_step ((go_at_call 60; exact quiet_ext (impl_IsCond_of HR.out _))))
            refine wpQuiet_nil ?_
            intro w1 hw1
            have g1 := Ext.out hw1
            clear hw1 q0 q1 q2 q3
            have hgr1 := hgW.trans g1
            have gg := gWW.trans g1
            go_wp2
            go_roundw
            case rel => exact ⟨k + 1, by omega, by go_num, Lib.hid (below_succ hn.out (condAt_yes hlt HR.out (Or.inl H0.out))), hgr1, gg.cellv k0, gg.cellv k1, gg.cellv k2, gg.cellv k3⟩
            case measure => simp [intOf]; omega
          · have hk1 : k - 1 < xs.length := by omega
            obtain ⟨b', off', cs', e', hlen', ⟨rfl, -, -, -⟩, hc'⟩ := hx' (k - 1) hk1
            simp only [Option.some.injEq, Addr.mk.injEq] at e'
            obtain ⟨rfl, rfl, -⟩ := e'
            have d0 := hgr.cellv (hc' 0 (by simp))
            simp only [Nat.add_zero, List.getElem_cons_zero] at d0
            clear hc'
            have q4 : ∀ q : Ext (wr.alloc (.cells #[.int .i64 xs[k].field, .int .i64 xs[k].low, .int .i64 xs[k].high] 57)), q.val.cell? ⟨b, off + (k - 1) * 3, none⟩ = some (.int .i64 xs[k-1].field) := fun q => Ext.cell (gWW.cellv d0) q
            have hk0 : 0 < k := by omega
            have hkd : decide ((0 : Int) < (k : Int)) = true := by simp; omega
            have i2 : (0 : Int) ≤ (k : Int) - 1 := by omega
            have i3 : (k : Int) - 1 < (xs.length : Int) := by omega
            clear h3
            by_cases h4 : xs[k].field ≤ xs[k-1].field
            · have h5 : decide (xs[k-1].field ≥ xs[k].field) = true := by simp; omega
              go_wp2
              refine wp_region_ext (by kernel_rfl) (by kernel_rfl) ?_
              repeat (go_big_quiet_step ((go_at_call 60; exact quiet_ext (impl_IsCond_of HR.out _))))
              refine wpQuiet_nil ?_
              intro w1 hw1
              have g1 := Ext.out hw1
              clear hw1 q0 q1 q2 q3 q4
              go_wp2
              go_ret
              exact ⟨ret_bool (isQueryB_no hlt (condAt_no2 hlt hk1 hk0 h4)).symm, hgW.trans g1⟩
            · have H4 := Lib.hid h4
              have h5 : decide (xs[k-1].field ≥ xs[k].field) = false := by simp; omega
              go_wp2
              refine wp_region_ext (by kernel_rfl) (by kernel_rfl) ?_
              repeat (go_big_quiet_step ((go_at_call 60; exact quiet_ext (impl_IsCond_of HR.out _))))
              refine wpQuiet_nil ?_
              intro w1 hw1
              have g1 := Ext.out hw1
              clear hw1 q0 q1 q2 q3 q4
              have hgr1 := hgW.trans g1
              have gg := gWW.trans g1
              go_wp2
              go_roundw
              case rel => exact ⟨k + 1, by omega, by go_num, Lib.hid (below_succ hn.out (condAt_yes hlt HR.out (Or.inr ⟨hk1, by have := H4.out; omega⟩))), hgr1, gg.cellv k0, gg.cellv k1, gg.cellv k2, gg.cellv k3⟩
              case measure => simp [intOf]; omega
      · have HC := Lib.hid (isQueryB_all (i := id) (t := ten) (xs := xs) (ys := ys) (fun j hj => hn.out j (by omega)))
        have HD : Hid (isQueryB ⟨id, ten, xs, ys⟩ = fieldsB ys) := Lib.hid (by rw [HC.out]; have := H3.out; simp [h1, h2, this])
        clear hn
        go_wp2
        go_loopw [54] (fun i ws => ∃ k : Nat, k ≤ ys.length ∧ i = .int .i64 k ∧ Hid (∀ j, j < k → fieldAt ys j = true) ∧ Gr w ws ∧ ws.cell? ⟨w.heap.size, 3, none⟩ = some (.slice ya ys.length yc)) (fun i _ => ys.length - (intOf i).toNat)
        case atStart => exact ⟨0, Nat.zero_le _, rfl, Lib.hid (fun _ h => absurd h (Nat.not_lt_zero _)), hgr, k3⟩
        case round =>
          obtain ⟨m, hm', rfl, hn, hgs, k3⟩ := hrel
          by_cases hlt' : m < ys.length
          · obtain ⟨b, off, rfl, hc, _⟩ := hy m hlt'
            have gc := hgs.cellv hc
            clear hc
            cases h5 : inB ys[m] 0 2 with
            | true =>
              go_wp2_with (go_at_call 61; refine (impl_isField _ _).mono ?_; rintro e w' ⟨rfl, rfl⟩)
              go_roundw
              case rel => exact ⟨m + 1, by omega, by go_num, Lib.hid (below_succ hn.out (by rw [fieldAt_eq hlt']; exact h5)), hgs, k3⟩
              case measure => simp [intOf]; omega
            | false =>
              go_wp2_with (go_at_call 61; refine (impl_isField _ _).mono ?_; rintro e w' ⟨rfl, rfl⟩)
              go_ret
              exact ⟨ret_bool (isQueryB_out (x := ⟨id, ten, xs, ys⟩) hlt' h5).symm, hgs⟩
          · have HF := Lib.hid (fieldsB_all (xs := ys) (fun j hj => hn.out j (by omega)))
            go_wp2_with (go_at_call 59; refine (impl_within _ _ _ _).mono ?_; rintro e w' ⟨rfl, rfl⟩)
            go_ret
            exact ⟨ret_bool (by rw [HD.out, HF.out]), hgs⟩
  · have h4 : decide ((xs.length : Int) > 3) = true := by simp; omega
    have h4' : decide ((3 : Int) < (xs.length : Int)) = true := by simp; omega
    go_enter Tryz.func28, Tryz.ntmps28
    go_wp2_with (go_at_call 59; refine (impl_within _ _ _ _).mono ?_; rintro e w' ⟨rfl, rfl⟩)
    go_ret
    exact ⟨ret_bool (isQueryB_len (x := ⟨id, ten, xs, ys⟩) h3).symm, g0⟩
-- gen FnExactIsQuery IsQuery Query
-- endgen
end Go.Proofs.YtcdcpfcmhmhdjaaGreatDoor
