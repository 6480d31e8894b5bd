/- IsQuery: the program's walk and the law. -/
import Derived.Test.YtgadgidhomijpaaLawI
namespace Go.Proofs.Ytgadgidhomijpaa
open Go.RowKit
theorem isQueryB_id {x : DQuery} (h : inB x.id 0 23 = false) : isQueryB x = false := by unfold isQueryB; rw [h]; simp
theorem isQueryB_ten {x : DQuery} (h : inB x.tenant 0 3 = false) : isQueryB x = false := by unfold isQueryB; rw [h]; simp
theorem isQueryB_len {x : DQuery} (h : ¬ x.conds.length ≤ 3) : isQueryB x = false := by unfold isQueryB; simp [h]
theorem isQueryB_out {x : DQuery} {k : Nat} (h : k < x.out.length) (h1 : inB x.out[k] 0 2 = false) : isQueryB x = false := by unfold isQueryB; rw [fieldsB_no h h1]; simp
set_option maxRecDepth 100000 in
set_option maxHeartbeats 4000000 in
theorem impl_IsQuery (x : DQuery) (u u' : Value) (w : World) (hu : RConds w u x.conds) (hu' : RInts w u' x.out) : Calls Try.prog 43 #[.agg #[.int .i64 x.id, .int .i64 x.tenant, u, u']] w fun e w' => e = .returned (.bool (isQueryB x)) ∧ Gr w w' := by
  obtain ⟨id, ten, xs, ys⟩ := x
  dsimp only at *
  obtain ⟨a, cap, rfl, hl, hm, hx⟩ := hu
  have hx' := hx
  obtain ⟨ya, yc, rfl, hly, hmy, hy⟩ := hu'.open
  have g0 : Gr w (w.alloc (.cells #[.int .i64 id, .int .i64 ten, .slice a xs.length cap, .slice ya ys.length yc] 51)) := (Gr.refl w).alloc _
  have i9 : (0 : Int) ≤ (xs.length : Int) := Int.natCast_nonneg _
  cases h1 : inB id 0 23 with
  | false =>
    go_enter Try.func43, Try.ntmps43
    go_wp2_with (go_at_call 81; refine (impl_within _ _ _ _).mono ?_; rintro e w' ⟨rfl, rfl⟩)
    go_ret
    exact ⟨ret_bool (isQueryB_id h1).symm, g0⟩
  | true =>
  cases h2 : inB ten 0 3 with
  | false =>
    go_enter Try.func43, Try.ntmps43
    go_wp2_with (go_at_call 81; refine (impl_within _ _ _ _).mono ?_; rintro e w' ⟨rfl, rfl⟩)
    go_ret
    exact ⟨ret_bool (isQueryB_ten h2).symm, g0⟩
  | true =>
  by_cases h3 : xs.length ≤ 3
  · have h4 : decide ((xs.length : Int) > 3) = false := by simp; omega
    have h4' : decide ((3 : Int) < (xs.length : Int)) = false := by simp; omega
    have H3 := Lib.hid h3
    clear h3
    go_enter Try.func43, Try.ntmps43
    go_wp2_with (go_at_call 81; refine (impl_within _ _ _ _).mono ?_; rintro e w' ⟨rfl, rfl⟩)
    clear h4 h4'
    go_loopw [26] (fun i wr => ∃ k : Nat, k ≤ xs.length ∧ i = .int .i64 k ∧ Hid (∀ j, j < k → condAt xs j = true) ∧ Gr w wr ∧ wr.cell? ⟨w.heap.size, 0, none⟩ = some (.int .i64 id) ∧ wr.cell? ⟨w.heap.size, 1, none⟩ = some (.int .i64 ten) ∧ wr.cell? ⟨w.heap.size, 2, none⟩ = some (.slice a xs.length cap) ∧ wr.cell? ⟨w.heap.size, 3, none⟩ = some (.slice ya ys.length yc)) (fun i _ => xs.length - (intOf i).toNat)
    case atStart => exact ⟨0, Nat.zero_le _, rfl, Lib.hid (fun _ h => absurd h (Nat.not_lt_zero _)), g0, by simp [go_sem], by simp [go_sem], by simp [go_sem], by simp [go_sem]⟩
    case round =>
      obtain ⟨k, hk, rfl, hn, hgr, k0, k1, k2, k3⟩ := hrel
      by_cases hlt : k < xs.length
      · obtain ⟨b, off, cs, rfl, hlen, ⟨rfl, i_field, i_low, i_high⟩, hc⟩ := hx k hlt
        have c0 := hgr.cellv (hc 0 (by simp))
        have c1 := hgr.cellv (hc 1 (by simp))
        have c2 := hgr.cellv (hc 2 (by simp))
        simp only [Nat.add_zero, List.getElem_cons_zero, List.getElem_cons_succ] at c0 c1 c2
        clear hc hlen
        have i0 : (0 : Int) ≤ (k : Int) := Int.natCast_nonneg _
        have i1 : (k : Int) < (xs.length : Int) := by omega
        have gWW : Gr wr (wr.alloc (.cells #[.int .i64 xs[k].field, .int .i64 xs[k].low, .int .i64 xs[k].high] 98)) := (Gr.refl wr).alloc _
        have hgW := hgr.trans gWW
        have q0 : ∀ q : Ext (wr.alloc (.cells #[.int .i64 xs[k].field, .int .i64 xs[k].low, .int .i64 xs[k].high] 98)), q.val.cell? ⟨wr.heap.size, 0, none⟩ = some (.int .i64 xs[k].field) := fun q => Ext.cell (by simp [go_sem]) q
        have q1 : ∀ q : Ext (wr.alloc (.cells #[.int .i64 xs[k].field, .int .i64 xs[k].low, .int .i64 xs[k].high] 98)), q.val.cell? ⟨wr.heap.size, 1, none⟩ = some (.int .i64 xs[k].low) := fun q => Ext.cell (by simp [go_sem]) q
        have q2 : ∀ q : Ext (wr.alloc (.cells #[.int .i64 xs[k].field, .int .i64 xs[k].low, .int .i64 xs[k].high] 98)), q.val.cell? ⟨wr.heap.size, 2, none⟩ = some (.int .i64 xs[k].high) := fun q => Ext.cell (by simp [go_sem]) q
        have q3 : ∀ q : Ext (wr.alloc (.cells #[.int .i64 xs[k].field, .int .i64 xs[k].low, .int .i64 xs[k].high] 98)), q.val.cell? ⟨w.heap.size, 2, none⟩ = some (.slice (some ⟨b, off, none⟩) xs.length cap) := fun q => Ext.cell (gWW.cellv k2) q
        cases hr : isCondB xs[k] with
        | false =>
          have HR := Lib.hid hr
          clear hr
          go_wp2
          refine wp_region_ext (by kernel_rfl) (by kernel_rfl) ?_
          repeat (go_big_quiet_step ((go_at_call 88; exact quiet_ext (impl_IsCond_of HR.out _))))
          refine wpQuiet_nil ?_
          intro w1 hw1
          have g1 := Ext.out hw1
          clear hw1 q0 q1 q2 q3
          go_wp2
          go_ret
          exact ⟨ret_bool (isQueryB_no hlt (condAt_no1 hlt HR.out)).symm, hgW.trans g1⟩
        | true =>
          have HR := Lib.hid hr
          clear hr
          by_cases h3 : k = 0
          · have hk0 : decide ((0 : Int) < (k : Int)) = false := by simp; omega
            have hk0' : decide (0 < k) = false := by simp; omega
            have H0 := Lib.hid h3
            clear h3
            go_wp2
            refine wp_region_ext (by kernel_rfl) (by kernel_rfl) ?_
            repeat (go_big_quiet_step ((go_at_call 88; exact quiet_ext (impl_IsCond_of HR.out _))))
            refine wpQuiet_nil ?_
            intro w1 hw1
            have g1 := Ext.out hw1
            clear hw1 q0 q1 q2 q3
            have hgr1 := hgW.trans g1
            have gg := gWW.trans g1
            go_wp2
            go_roundw
            case rel => exact ⟨k + 1, by omega, by go_num, Lib.hid (below_succ hn.out (condAt_yes hlt HR.out (Or.inl H0.out))), hgr1, gg.cellv k0, gg.cellv k1, gg.cellv k2, gg.cellv k3⟩
            case measure => simp [intOf]; omega
          · have hk1 : k - 1 < xs.length := by omega
            obtain ⟨b', off', cs', e', hlen', ⟨rfl, -, -, -⟩, hc'⟩ := hx' (k - 1) hk1
            simp only [Option.some.injEq, Addr.mk.injEq] at e'
            obtain ⟨rfl, rfl, -⟩ := e'
            have d0 := hgr.cellv (hc' 0 (by simp))
            simp only [Nat.add_zero, List.getElem_cons_zero] at d0
            clear hc'
            have q4 : ∀ q : Ext (wr.alloc (.cells #[.int .i64 xs[k].field, .int .i64 xs[k].low, .int .i64 xs[k].high] 98)), q.val.cell? ⟨b, off + (k - 1) * 3, none⟩ = some (.int .i64 xs[k-1].field) := fun q => Ext.cell (gWW.cellv d0) q
            have hk0 : 0 < k := by omega
            have hkd : decide ((0 : Int) < (k : Int)) = true := by simp; omega
            have i2 : (0 : Int) ≤ (k : Int) - 1 := by omega
            have i3 : (k : Int) - 1 < (xs.length : Int) := by omega
            clear h3
            by_cases h4 : xs[k].field ≤ xs[k-1].field
            · have h5 : decide (xs[k-1].field ≥ xs[k].field) = true := by simp; omega
              go_wp2
              refine wp_region_ext (by kernel_rfl) (by kernel_rfl) ?_
              repeat (go_big_quiet_step ((go_at_call 88; exact quiet_ext (impl_IsCond_of HR.out _))))
              refine wpQuiet_nil ?_
              intro w1 hw1
              have g1 := Ext.out hw1
              clear hw1 q0 q1 q2 q3 q4
              go_wp2
              go_ret
              exact ⟨ret_bool (isQueryB_no hlt (condAt_no2 hlt hk1 hk0 h4)).symm, hgW.trans g1⟩
            · have H4 := Lib.hid h4
              have h5 : decide (xs[k-1].field ≥ xs[k].field) = false := by simp; omega
              go_wp2
              refine wp_region_ext (by kernel_rfl) (by kernel_rfl) ?_
              repeat (go_big_quiet_step ((go_at_call 88; exact quiet_ext (impl_IsCond_of HR.out _))))
              refine wpQuiet_nil ?_
              intro w1 hw1
              have g1 := Ext.out hw1
              clear hw1 q0 q1 q2 q3 q4
              have hgr1 := hgW.trans g1
              have gg := gWW.trans g1
              go_wp2
              go_roundw
              case rel => exact ⟨k + 1, by omega, by go_num, Lib.hid (below_succ hn.out (condAt_yes hlt HR.out (Or.inr ⟨hk1, by have := H4.out; omega⟩))), hgr1, gg.cellv k0, gg.cellv k1, gg.cellv k2, gg.cellv k3⟩
              case measure => simp [intOf]; omega
      · have HC := Lib.hid (isQueryB_all (i := id) (t := ten) (xs := xs) (ys := ys) (fun j hj => hn.out j (by omega)))
        have HD : Hid (isQueryB ⟨id, ten, xs, ys⟩ = fieldsB ys) := Lib.hid (by rw [HC.out]; have := H3.out; simp [h1, h2, this])
        clear hn
        go_wp2
        go_loopw [54] (fun i ws => ∃ k : Nat, k ≤ ys.length ∧ i = .int .i64 k ∧ Hid (∀ j, j < k → fieldAt ys j = true) ∧ Gr w ws ∧ ws.cell? ⟨w.heap.size, 3, none⟩ = some (.slice ya ys.length yc)) (fun i _ => ys.length - (intOf i).toNat)
        case atStart => exact ⟨0, Nat.zero_le _, rfl, Lib.hid (fun _ h => absurd h (Nat.not_lt_zero _)), hgr, k3⟩
        case round =>
          obtain ⟨m, hm', rfl, hn, hgs, k3⟩ := hrel
          by_cases hlt' : m < ys.length
          · obtain ⟨b, off, rfl, hc, _⟩ := hy m hlt'
            have gc := hgs.cellv hc
            clear hc
            cases h5 : inB ys[m] 0 2 with
            | true =>
              go_wp2_with (go_at_call 89; refine (impl_isField _ _).mono ?_; rintro e w' ⟨rfl, rfl⟩)
              go_roundw
              case rel => exact ⟨m + 1, by omega, by go_num, Lib.hid (below_succ hn.out (by rw [fieldAt_eq hlt']; exact h5)), hgs, k3⟩
              case measure => simp [intOf]; omega
            | false =>
              go_wp2_with (go_at_call 89; refine (impl_isField _ _).mono ?_; rintro e w' ⟨rfl, rfl⟩)
              go_ret
              exact ⟨ret_bool (isQueryB_out (x := ⟨id, ten, xs, ys⟩) hlt' h5).symm, hgs⟩
          · have HF := Lib.hid (fieldsB_all (xs := ys) (fun j hj => hn.out j (by omega)))
            go_wp2_with (go_at_call 81; refine (impl_within _ _ _ _).mono ?_; rintro e w' ⟨rfl, rfl⟩)
            go_ret
            exact ⟨ret_bool (by rw [HD.out, HF.out]), hgs⟩
  · have h4 : decide ((xs.length : Int) > 3) = true := by simp; omega
    have h4' : decide ((3 : Int) < (xs.length : Int)) = true := by simp; omega
    go_enter Try.func43, Try.ntmps43
    go_wp2_with (go_at_call 81; refine (impl_within _ _ _ _).mono ?_; rintro e w' ⟨rfl, rfl⟩)
    go_ret
    exact ⟨ret_bool (isQueryB_len (x := ⟨id, ten, xs, ys⟩) h3).symm, g0⟩
-- gen FnExactIsQuery IsQuery Query
set_option maxRecDepth 100000 in
set_option maxHeartbeats 4000000 in
theorem law_FnExactIsQuery (w : World) (x0 : DQuery) (u0_conds : Value) (u0_out : Value) (_ : I64 x0.id) (_ : I64 x0.tenant) (h0_conds : RConds w u0_conds x0.conds) (h0_out : RInts w u0_out x0.out) : Calls Try.prog 10 #[.agg #[.int .i64 x0.id, .int .i64 x0.tenant, u0_conds, u0_out]] w fun e w' => e = .returned (.bool true) ∧ Gr w w' := by
  by_cases hs0 : ((totQuery x0) : Int) ≤ (1048576 : Int)
  · have HZ0 := Lib.hid (szV_yes (t := (totQuery x0)) (left := (1048576 : Int)) (by omega))
    have HA0 := Lib.hid (show (0 : Int) ≤ (1048576 : Int) ∧ (1048576 : Int) ≤ 1048576 from by omega)
    have HB0 := Lib.hid (show (0 : Int) ≤ (1048576 : Int) - ((totQuery x0) : Int) ∧ (1048576 : Int) - ((totQuery x0) : Int) ≤ 1048576 from by omega)
    have HT0 := Lib.hid (show (totQuery x0) ≤ 4294967296 from by omega)
    clear hs0
    go_enter Try.func10, Try.ntmps10
    go_wp2_with fail
    refine (laws_szQuery x0 u0_conds u0_out _ _ (RSlice.mono keeps_cond ((Gr.refl w).alloc _) h0_conds) (RSlice.mono keeps_int ((Gr.refl w).alloc _) h0_out) HA0.out.1 HA0.out.2).mono ?_
    rintro e w1 ⟨rfl, g1⟩
    have gs1 : Gr w w1 := ((Gr.refl w).alloc _).trans g1
    replace h0_conds : RConds w1 u0_conds x0.conds := (RSlice.mono keeps_cond gs1 h0_conds)
    replace h0_out : RInts w1 u0_out x0.out := (RSlice.mono keeps_int gs1 h0_out)
    have kb0_0 : w1.cell? ⟨w.heap.size, 0, none⟩ = some (.int .i64 x0.id) := g1.cellv (by simp [go_sem])
    have kb0_1 : w1.cell? ⟨w.heap.size, 1, none⟩ = some (.int .i64 x0.tenant) := g1.cellv (by simp [go_sem])
    have kb0_2 : w1.cell? ⟨w.heap.size, 2, none⟩ = some (u0_conds) := g1.cellv (by simp [go_sem])
    have kb0_3 : w1.cell? ⟨w.heap.size, 3, none⟩ = some (u0_out) := g1.cellv (by simp [go_sem])
    have gw : Gr w w1 := gs1
    rw [HZ0.out]
    have hB0 := HB0.out.1
    have hC0 := HB0.out.2
    go_wp2_with fail
    refine (laws_toQuery_gr x0 u0_conds u0_out _ h0_conds h0_out HT0.out).mono ?_
    rintro e w2 ⟨_, _, rfl, ⟨ap0_conds, np0_conds, cp0_conds, rfl⟩, r_hp0_conds, ⟨ap0_out, np0_out, cp0_out, rfl⟩, r_hp0_out, g2⟩
    replace h0_conds : RConds w2 u0_conds x0.conds := (RSlice.mono keeps_cond g2 h0_conds)
    replace h0_out : RInts w2 u0_out x0.out := (RSlice.mono keeps_int g2 h0_out)
    replace kb0_0 : w2.cell? ⟨w.heap.size, 0, none⟩ = some (.int .i64 x0.id) := g2.cellv kb0_0
    replace kb0_1 : w2.cell? ⟨w.heap.size, 1, none⟩ = some (.int .i64 x0.tenant) := g2.cellv kb0_1
    replace kb0_2 : w2.cell? ⟨w.heap.size, 2, none⟩ = some (u0_conds) := g2.cellv kb0_2
    replace kb0_3 : w2.cell? ⟨w.heap.size, 3, none⟩ = some (u0_out) := g2.cellv kb0_3
    replace gw : Gr w w2 := gw.trans g2
    have hp0_conds : RConds w2 (.slice ap0_conds np0_conds cp0_conds) x0.conds := r_hp0_conds _ (Loc.refl _ _)
    clear r_hp0_conds
    have hp0_out : RInts w2 (.slice ap0_out np0_out cp0_out) x0.out := r_hp0_out _ (Loc.refl _ _)
    clear r_hp0_out
    go_wp2_with fail
    refine (spec_IsQuery x0 _ _ _ hp0_conds hp0_out).mono ?_
    rintro e w3 ⟨rfl, g3⟩
    replace h0_conds : RConds w3 u0_conds x0.conds := (RSlice.mono keeps_cond g3 h0_conds)
    replace h0_out : RInts w3 u0_out x0.out := (RSlice.mono keeps_int g3 h0_out)
    replace hp0_conds : RConds w3 (.slice ap0_conds np0_conds cp0_conds) x0.conds := (RSlice.mono keeps_cond g3 hp0_conds)
    replace hp0_out : RInts w3 (.slice ap0_out np0_out cp0_out) x0.out := (RSlice.mono keeps_int g3 hp0_out)
    replace kb0_0 : w3.cell? ⟨w.heap.size, 0, none⟩ = some (.int .i64 x0.id) := g3.cellv kb0_0
    replace kb0_1 : w3.cell? ⟨w.heap.size, 1, none⟩ = some (.int .i64 x0.tenant) := g3.cellv kb0_1
    replace kb0_2 : w3.cell? ⟨w.heap.size, 2, none⟩ = some (u0_conds) := g3.cellv kb0_2
    replace kb0_3 : w3.cell? ⟨w.heap.size, 3, none⟩ = some (u0_out) := g3.cellv kb0_3
    replace gw : Gr w w3 := gw.trans g3
    clear hp0_conds
    clear hp0_out
    go_wp2_with fail
    refine (laws_toQuery_gr x0 u0_conds u0_out _ h0_conds h0_out HT0.out).mono ?_
    rintro e w4 ⟨_, _, rfl, ⟨ax0_conds, nx0_conds, cx0_conds, rfl⟩, r_hx0_conds, ⟨ax0_out, nx0_out, cx0_out, rfl⟩, r_hx0_out, g4⟩
    replace h0_conds : RConds w4 u0_conds x0.conds := (RSlice.mono keeps_cond g4 h0_conds)
    replace h0_out : RInts w4 u0_out x0.out := (RSlice.mono keeps_int g4 h0_out)
    replace kb0_0 : w4.cell? ⟨w.heap.size, 0, none⟩ = some (.int .i64 x0.id) := g4.cellv kb0_0
    replace kb0_1 : w4.cell? ⟨w.heap.size, 1, none⟩ = some (.int .i64 x0.tenant) := g4.cellv kb0_1
    replace kb0_2 : w4.cell? ⟨w.heap.size, 2, none⟩ = some (u0_conds) := g4.cellv kb0_2
    replace kb0_3 : w4.cell? ⟨w.heap.size, 3, none⟩ = some (u0_out) := g4.cellv kb0_3
    replace gw : Gr w w4 := gw.trans g4
    have hx0_conds : RConds w4 (.slice ax0_conds nx0_conds cx0_conds) x0.conds := r_hx0_conds _ (Loc.refl _ _)
    clear r_hx0_conds
    have hx0_out : RInts w4 (.slice ax0_out nx0_out cx0_out) x0.out := r_hx0_out _ (Loc.refl _ _)
    clear r_hx0_out
    go_wp2_with fail
    refine (impl_IsQuery x0 _ _ _ (RSlice.mono keeps_cond ((Gr.refl w4).alloc _) hx0_conds) (RSlice.mono keeps_int ((Gr.refl w4).alloc _) hx0_out)).mono ?_
    rintro e w5 ⟨rfl, g5⟩
    have gs5 : Gr w4 w5 := ((Gr.refl w4).alloc _).trans g5
    replace h0_conds : RConds w5 u0_conds x0.conds := (RSlice.mono keeps_cond gs5 h0_conds)
    replace h0_out : RInts w5 u0_out x0.out := (RSlice.mono keeps_int gs5 h0_out)
    replace hx0_conds : RConds w5 (.slice ax0_conds nx0_conds cx0_conds) x0.conds := (RSlice.mono keeps_cond gs5 hx0_conds)
    replace hx0_out : RInts w5 (.slice ax0_out nx0_out cx0_out) x0.out := (RSlice.mono keeps_int gs5 hx0_out)
    replace kb0_0 : w5.cell? ⟨w.heap.size, 0, none⟩ = some (.int .i64 x0.id) := gs5.cellv kb0_0
    replace kb0_1 : w5.cell? ⟨w.heap.size, 1, none⟩ = some (.int .i64 x0.tenant) := gs5.cellv kb0_1
    replace kb0_2 : w5.cell? ⟨w.heap.size, 2, none⟩ = some (u0_conds) := gs5.cellv kb0_2
    replace kb0_3 : w5.cell? ⟨w.heap.size, 3, none⟩ = some (u0_out) := gs5.cellv kb0_3
    have kx0_0 : w5.cell? ⟨w4.heap.size, 0, none⟩ = some (.int .i64 x0.id) := g5.cellv (by simp [go_sem])
    have kx0_1 : w5.cell? ⟨w4.heap.size, 1, none⟩ = some (.int .i64 x0.tenant) := g5.cellv (by simp [go_sem])
    have kx0_2 : w5.cell? ⟨w4.heap.size, 2, none⟩ = some (.slice ax0_conds nx0_conds cx0_conds) := g5.cellv (by simp [go_sem])
    have kx0_3 : w5.cell? ⟨w4.heap.size, 3, none⟩ = some (.slice ax0_out nx0_out cx0_out) := g5.cellv (by simp [go_sem])
    replace gw : Gr w w5 := gw.trans gs5
    go_wp2_with fail
    go_region_held3 (fun w' => w'.cell? ⟨w.heap.size, 0, none⟩ = some (.int .i64 x0.id) ∧ w'.cell? ⟨w.heap.size, 1, none⟩ = some (.int .i64 x0.tenant) ∧ w'.cell? ⟨w.heap.size, 2, none⟩ = some (u0_conds) ∧ w'.cell? ⟨w.heap.size, 3, none⟩ = some (u0_out) ∧ w'.cell? ⟨w4.heap.size, 0, none⟩ = some (.int .i64 x0.id) ∧ w'.cell? ⟨w4.heap.size, 1, none⟩ = some (.int .i64 x0.tenant) ∧ w'.cell? ⟨w4.heap.size, 2, none⟩ = some (.slice ax0_conds nx0_conds cx0_conds) ∧ w'.cell? ⟨w4.heap.size, 3, none⟩ = some (.slice ax0_out nx0_out cx0_out) ∧ RConds w' u0_conds x0.conds ∧ RInts w' u0_out x0.out ∧ RConds w' (.slice ax0_conds nx0_conds cx0_conds) x0.conds ∧ RInts w' (.slice ax0_out nx0_out cx0_out) x0.out ∧ Gr w5 w')
      (first | exact ⟨kb0_0, kb0_1, kb0_2, kb0_3, kx0_0, kx0_1, kx0_2, kx0_3, h0_conds, h0_out, hx0_conds, hx0_out, Gr.refl _⟩ | exact ⟨kb0_0, kb0_1, kb0_2, kb0_3, kx0_0, kx0_1, kx0_2, kx0_3, h0_conds, h0_out, hx0_conds, hx0_out, (Gr.refl _).drew⟩ | (go_split_ands; exact ⟨Gr.cellv gb0 (by assumption), Gr.cellv gb0 (by assumption), Gr.cellv gb0 (by assumption), Gr.cellv gb0 (by assumption), Gr.cellv gb0 (by assumption), Gr.cellv gb0 (by assumption), Gr.cellv gb0 (by assumption), Gr.cellv gb0 (by assumption), (RSlice.mono keeps_cond gb0 (by assumption)), (RSlice.mono keeps_int gb0 (by assumption)), (RSlice.mono keeps_cond gb0 (by assumption)), (RSlice.mono keeps_int gb0 (by assumption)), Gr.trans (by assumption) gb0⟩) | (go_split_ands; exact ⟨Gr.cellv ga0 (by assumption), Gr.cellv ga0 (by assumption), Gr.cellv ga0 (by assumption), Gr.cellv ga0 (by assumption), Gr.cellv ga0 (by assumption), Gr.cellv ga0 (by assumption), Gr.cellv ga0 (by assumption), Gr.cellv ga0 (by assumption), (RSlice.mono keeps_cond ga0 (by assumption)), (RSlice.mono keeps_int ga0 (by assumption)), (RSlice.mono keeps_cond ga0 (by assumption)), (RSlice.mono keeps_int ga0 (by assumption)), Gr.trans (by assumption) ga0⟩))
      (first | (go_at_call 42; go_split_ands; refine (laws_toQuery_gr x0 u0_conds u0_out _ (by assumption) (by assumption) HT0.out).mono ?_; rintro e wa0 ⟨_, _, rfl, ⟨ay0_conds, ny0_conds, cy0_conds, rfl⟩, ry0_conds, ⟨ay0_out, ny0_out, cy0_out, rfl⟩, ry0_out, ga0⟩) | (go_at_call 44; go_split_ands; refine (laws_eqQuery x0 _ _ _ _ _ (by assumption) (by assumption) (ry0_conds _ (Loc.refl _ _)) (ry0_out _ (Loc.refl _ _))).mono ?_; rintro e wb0 ⟨rfl, gb0⟩))
    have gs6 : Gr w5 wb0 := ((Gr.refl w5).drew.trans ga0).trans gb0
    replace h0_conds : RConds wb0 u0_conds x0.conds := (RSlice.mono keeps_cond gs6 h0_conds)
    replace h0_out : RInts wb0 u0_out x0.out := (RSlice.mono keeps_int gs6 h0_out)
    replace hx0_conds : RConds wb0 (.slice ax0_conds nx0_conds cx0_conds) x0.conds := (RSlice.mono keeps_cond gs6 hx0_conds)
    replace hx0_out : RInts wb0 (.slice ax0_out nx0_out cx0_out) x0.out := (RSlice.mono keeps_int gs6 hx0_out)
    replace kb0_0 : wb0.cell? ⟨w.heap.size, 0, none⟩ = some (.int .i64 x0.id) := gs6.cellv kb0_0
    replace kb0_1 : wb0.cell? ⟨w.heap.size, 1, none⟩ = some (.int .i64 x0.tenant) := gs6.cellv kb0_1
    replace kb0_2 : wb0.cell? ⟨w.heap.size, 2, none⟩ = some (u0_conds) := gs6.cellv kb0_2
    replace kb0_3 : wb0.cell? ⟨w.heap.size, 3, none⟩ = some (u0_out) := gs6.cellv kb0_3
    replace kx0_0 : wb0.cell? ⟨w4.heap.size, 0, none⟩ = some (.int .i64 x0.id) := gs6.cellv kx0_0
    replace kx0_1 : wb0.cell? ⟨w4.heap.size, 1, none⟩ = some (.int .i64 x0.tenant) := gs6.cellv kx0_1
    replace kx0_2 : wb0.cell? ⟨w4.heap.size, 2, none⟩ = some (.slice ax0_conds nx0_conds cx0_conds) := gs6.cellv kx0_2
    replace kx0_3 : wb0.cell? ⟨w4.heap.size, 3, none⟩ = some (.slice ax0_out nx0_out cx0_out) := gs6.cellv kx0_3
    replace gw : Gr w wb0 := gw.trans gs6
    go_wp2_with fail
    go_ret
    exact ⟨rfl, gw⟩
  · have HZ0 := Lib.hid (szV_no (t := (totQuery x0)) (left := (1048576 : Int)) (by omega))
    have HA0 := Lib.hid (show (0 : Int) ≤ (1048576 : Int) ∧ (1048576 : Int) ≤ 1048576 from by omega)
    clear hs0
    go_enter Try.func10, Try.ntmps10
    go_wp2_with fail
    refine (laws_szQuery x0 u0_conds u0_out _ _ (RSlice.mono keeps_cond ((Gr.refl w).alloc _) h0_conds) (RSlice.mono keeps_int ((Gr.refl w).alloc _) h0_out) HA0.out.1 HA0.out.2).mono ?_
    rintro e w1 ⟨rfl, g1⟩
    have gs1 : Gr w w1 := ((Gr.refl w).alloc _).trans g1
    replace h0_conds : RConds w1 u0_conds x0.conds := (RSlice.mono keeps_cond gs1 h0_conds)
    replace h0_out : RInts w1 u0_out x0.out := (RSlice.mono keeps_int gs1 h0_out)
    have kb0_0 : w1.cell? ⟨w.heap.size, 0, none⟩ = some (.int .i64 x0.id) := g1.cellv (by simp [go_sem])
    have kb0_1 : w1.cell? ⟨w.heap.size, 1, none⟩ = some (.int .i64 x0.tenant) := g1.cellv (by simp [go_sem])
    have kb0_2 : w1.cell? ⟨w.heap.size, 2, none⟩ = some (u0_conds) := g1.cellv (by simp [go_sem])
    have kb0_3 : w1.cell? ⟨w.heap.size, 3, none⟩ = some (u0_out) := g1.cellv (by simp [go_sem])
    have gw : Gr w w1 := gs1
    rw [HZ0.out]
    go_wp2_with fail
    go_ret
    exact ⟨rfl, gw⟩

-- endgen
end Go.Proofs.Ytgadgidhomijpaa
