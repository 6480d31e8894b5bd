/- EqualRows: the walks. -/
import Derived.Test.YtgadgidhomijpaaLawF
namespace Go.Proofs.Ytgadgidhomijpaa
open Go.RowKit
def rowsEqAt (xs ys : List DRow) (j : Nat) : Bool := eqRowB (xs.getD j ⟨0, []⟩) (ys.getD j ⟨0, []⟩)
def eqRowsB (xs ys : List DRow) : Bool := decide (xs.length = ys.length) && allB xs.length (rowsEqAt xs ys)
theorem rowsEqAt_eq {xs ys : List DRow} {k : Nat} (h : k < xs.length) (h' : k < ys.length) : rowsEqAt xs ys k = eqRowB xs[k] ys[k] := by unfold rowsEqAt; rw [getD_lt h, getD_lt h']
theorem eqRowsB_no {xs ys : List DRow} {k : Nat} (h : k < xs.length) (h' : k < ys.length) (he : eqRowB xs[k] ys[k] = false) : eqRowsB xs ys = false := by
  unfold eqRowsB; rw [allB_false (p := rowsEqAt xs ys) k h (by rw [rowsEqAt_eq h h']; exact he)]; simp
theorem eqRowsB_yes {xs ys : List DRow} (hl : xs.length = ys.length) (h : ∀ j, j < xs.length → rowsEqAt xs ys j = true) : eqRowsB xs ys = true := by
  unfold eqRowsB; rw [allB_true h]; simp [hl]
theorem spec_l3Same_of {x y : DRow} {b : Bool} (h : eqRowB x y = b) (u v : Value) (w : World) (hx : RInts w u x.vals) (hy : RInts w v y.vals) : Calls Try.prog 77 #[.agg #[.int .i64 x.id, u], .agg #[.int .i64 y.id, v]] w fun e w' => e = .returned (.bool b) ∧ Gr w w' := h ▸ spec_l3Same x y u v w hx hy
set_option maxRecDepth 100000 in
set_option maxHeartbeats 2000000 in
theorem spec_EqualRows (v : Value) (xs : List DRow) (v' : Value) (ys : List DRow) (w : World) (hx : RRows w v xs) (hy : RRows w v' ys) : Calls Try.prog 35 #[v, v'] w fun e w' => e = .returned (.bool (eqRowsB xs ys)) ∧ Gr w w' := by
  obtain ⟨a, cap, rfl, hl, hm, hx⟩ := hx
  obtain ⟨a', cap', rfl, hl', hm', hx'⟩ := hy
  by_cases hn : xs.length = ys.length
  · have hd : ((xs.length : Int) != (ys.length : Int)) = false := by simp; omega
    have HN := Lib.hid hn
    have hle : xs.length ≤ ys.length := by omega
    clear hn
    go_enter Try.func35, Try.ntmps35
    go_wp2
    go_loopw [5] (fun i wr => ∃ k : Nat, k ≤ xs.length ∧ i = .int .i64 k ∧ Hid (∀ j, j < k → rowsEqAt xs ys j = true) ∧ Gr w wr) (fun i _ => xs.length - (intOf i).toNat)
    case atStart => exact ⟨0, Nat.zero_le _, rfl, Lib.hid (fun _ h => absurd h (Nat.not_lt_zero _)), Gr.refl _⟩
    case round =>
      obtain ⟨k, hk, rfl, hall, hgr⟩ := hrel
      by_cases hlt : k < xs.length
      · have hlt' : k < ys.length := by omega
        obtain ⟨b, off, cs, rfl, hlen, ⟨u_vals, rfl, i_id, h_vals⟩, hc⟩ := hx k hlt
        have c0 := hgr.cellv (hc 0 (by simp))
        have c1 := hgr.cellv (hc 1 (by simp))
        simp only [Nat.add_zero, List.getElem_cons_zero, List.getElem_cons_succ] at c0 c1
        clear hc hlen
        obtain ⟨b', off', cs', rfl, hlen', ⟨u_vals', rfl, i_id', h_vals'⟩, hc'⟩ := hx' k hlt'
        have d0 := hgr.cellv (hc' 0 (by simp))
        have d1 := hgr.cellv (hc' 1 (by simp))
        simp only [Nat.add_zero, List.getElem_cons_zero, List.getElem_cons_succ] at d0 d1
        clear hc' hlen'
        have r0 := RSlice.mono keeps_int hgr h_vals
        have r1 := RSlice.mono keeps_int hgr h_vals'
        have i0 : (0 : Int) ≤ (k : Int) := Int.natCast_nonneg _
        have i1 : (k : Int) < (xs.length : Int) := by omega
        have i2 : (k : Int) < (ys.length : Int) := by omega
        cases hr : eqRowB xs[k] ys[k] with
        | false =>
          have HR := Lib.hid hr
          clear hr
          go_wp2
          go_region_held3 (fun w' => w'.cell? ⟨b, off + k * 2, none⟩ = some (.int .i64 xs[k].id) ∧ w'.cell? ⟨b, off + k * 2 + 1, none⟩ = some u_vals ∧ w'.cell? ⟨b', off' + k * 2, none⟩ = some (.int .i64 ys[k].id) ∧ w'.cell? ⟨b', off' + k * 2 + 1, none⟩ = some u_vals' ∧ RInts w' u_vals xs[k].vals ∧ RInts w' u_vals' ys[k].vals ∧ Gr wr w')
            (first | exact ⟨c0, c1, d0, d1, r0, r1, Gr.refl _⟩ | exact ⟨c0, c1, d0, d1, r0, r1, (Gr.refl _).drew⟩ | (go_split_ands; exact ⟨Gr.cellv g1 (by assumption), Gr.cellv g1 (by assumption), Gr.cellv g1 (by assumption), Gr.cellv g1 (by assumption), RSlice.mono keeps_int g1 (by assumption), RSlice.mono keeps_int g1 (by assumption), Gr.trans (by assumption) g1⟩))
            ((go_at_call 77; go_split_ands; refine (spec_l3Same_of HR.out u_vals u_vals' _ (by assumption) (by assumption)).mono ?_; rintro e w1 ⟨rfl, g1⟩))
          all_goals
            have hgr1 : Gr w w1 := hgr.drew.trans g1
            go_wp2
            go_ret
            exact ⟨ret_bool (eqRowsB_no hlt hlt' HR.out).symm, hgr1⟩
        | true =>
          have HR := Lib.hid hr
          clear hr
          go_wp2
          go_region_held3 (fun w' => w'.cell? ⟨b, off + k * 2, none⟩ = some (.int .i64 xs[k].id) ∧ w'.cell? ⟨b, off + k * 2 + 1, none⟩ = some u_vals ∧ w'.cell? ⟨b', off' + k * 2, none⟩ = some (.int .i64 ys[k].id) ∧ w'.cell? ⟨b', off' + k * 2 + 1, none⟩ = some u_vals' ∧ RInts w' u_vals xs[k].vals ∧ RInts w' u_vals' ys[k].vals ∧ Gr wr w')
            (first | exact ⟨c0, c1, d0, d1, r0, r1, Gr.refl _⟩ | exact ⟨c0, c1, d0, d1, r0, r1, (Gr.refl _).drew⟩ | (go_split_ands; exact ⟨Gr.cellv g1 (by assumption), Gr.cellv g1 (by assumption), Gr.cellv g1 (by assumption), Gr.cellv g1 (by assumption), RSlice.mono keeps_int g1 (by assumption), RSlice.mono keeps_int g1 (by assumption), Gr.trans (by assumption) g1⟩))
            ((go_at_call 77; go_split_ands; refine (spec_l3Same_of HR.out u_vals u_vals' _ (by assumption) (by assumption)).mono ?_; rintro e w1 ⟨rfl, g1⟩))
          all_goals
            have hgr1 : Gr w w1 := hgr.drew.trans g1
            go_wp2
            go_roundw
            case rel => exact ⟨k + 1, by omega, by go_num, Lib.hid (below_succ hall.out (by rw [rowsEqAt_eq hlt hlt']; exact HR.out)), hgr1⟩
            case measure => simp [intOf]; omega
      · go_wp2
        go_ret
        exact ⟨ret_bool (eqRowsB_yes HN.out (fun j hj => hall.out j (by omega))).symm, hgr⟩
  · have hd : ((xs.length : Int) != (ys.length : Int)) = true := by simp; omega
    have HN := Lib.hid hn
    clear hn
    go_enter Try.func35, Try.ntmps35
    go_wp2
    go_ret
    exact ⟨ret_bool (by have := HN.out; simp [eqRowsB, this]), Gr.refl _⟩
set_option maxRecDepth 100000 in
set_option maxHeartbeats 2000000 in
theorem slices_EqualRows (v : Value) (xs : List DRow) (v' : Value) (ys : List DRow) (w : World) (hx : RRows w v xs) (hy : RRows w v' ys) : Calls Try.prog 78 #[v, v', .func (.func 79) #[] #[]] w fun e w' => e = .returned (.bool (eqRowsB xs ys)) ∧ Gr w w' := by
  obtain ⟨a, cap, rfl, hl, hm, hx⟩ := hx
  obtain ⟨a', cap', rfl, hl', hm', hx'⟩ := hy
  by_cases hn : xs.length = ys.length
  · have hd : ((xs.length : Int) != (ys.length : Int)) = false := by simp; omega
    have HN := Lib.hid hn
    have hle : xs.length ≤ ys.length := by omega
    clear hn
    go_enter Try.func78, Try.ntmps78
    go_wp2
    go_loopw [17] (fun i wr => ∃ k : Nat, k ≤ xs.length ∧ i = .int .i64 k ∧ Hid (∀ j, j < k → rowsEqAt xs ys j = true) ∧ Gr w wr) (fun i _ => xs.length - (intOf i).toNat)
    case atStart => exact ⟨0, Nat.zero_le _, rfl, Lib.hid (fun _ h => absurd h (Nat.not_lt_zero _)), Gr.refl _⟩
    case round =>
      obtain ⟨k, hk, rfl, hall, hgr⟩ := hrel
      by_cases hlt : k < xs.length
      · have hlt' : k < ys.length := by omega
        obtain ⟨b, off, cs, rfl, hlen, ⟨u_vals, rfl, i_id, h_vals⟩, hc⟩ := hx k hlt
        have c0 := hgr.cellv (hc 0 (by simp))
        have c1 := hgr.cellv (hc 1 (by simp))
        simp only [Nat.add_zero, List.getElem_cons_zero, List.getElem_cons_succ] at c0 c1
        clear hc hlen
        obtain ⟨b', off', cs', rfl, hlen', ⟨u_vals', rfl, i_id', h_vals'⟩, hc'⟩ := hx' k hlt'
        have d0 := hgr.cellv (hc' 0 (by simp))
        have d1 := hgr.cellv (hc' 1 (by simp))
        simp only [Nat.add_zero, List.getElem_cons_zero, List.getElem_cons_succ] at d0 d1
        clear hc' hlen'
        obtain ⟨ua, un, uc, rfl⟩ := RSlice.isSl h_vals
        obtain ⟨va, vn, vc, rfl⟩ := RSlice.isSl h_vals'
        have e0 := ((Gr.refl wr).alloc (.cells #[.int .i64 xs[k].id, .slice ua un uc] 78)).cellv d0
        have e1 := ((Gr.refl wr).alloc (.cells #[.int .i64 xs[k].id, .slice ua un uc] 78)).cellv d1
        have gb := ((hgr.alloc (.cells #[.int .i64 xs[k].id, .slice ua un uc] 78)).alloc (.cells #[.int .i64 ys[k].id, .slice va vn vc] 78))
        cases hr : eqRowB xs[k] ys[k] with
        | false =>
          have HR := Lib.hid hr
          clear hr
          go_wp2_with fail
          refine (impl_equalRow xs[k] ys[k] _ _ _ (RSlice.mono keeps_int gb h_vals) (RSlice.mono keeps_int gb h_vals')).mono ?_
          rintro e w1 ⟨rfl, g1⟩
          rw [HR.out]
          go_wp2_with fail
          go_ret
          exact ⟨ret_bool (eqRowsB_no hlt hlt' HR.out).symm, gb.trans g1⟩
        | true =>
          have HR := Lib.hid hr
          clear hr
          go_wp2_with fail
          refine (impl_equalRow xs[k] ys[k] _ _ _ (RSlice.mono keeps_int gb h_vals) (RSlice.mono keeps_int gb h_vals')).mono ?_
          rintro e w1 ⟨rfl, g1⟩
          rw [HR.out]
          have hgr1 : Gr w w1 := gb.trans g1
          go_wp2_with fail
          go_roundw
          case rel => exact ⟨k + 1, by omega, by go_num, Lib.hid (below_succ hall.out (by rw [rowsEqAt_eq hlt hlt']; exact HR.out)), hgr1⟩
          case measure => simp [intOf]; omega
      · go_wp2
        go_ret
        exact ⟨ret_bool (eqRowsB_yes HN.out (fun j hj => hall.out j (by omega))).symm, hgr⟩
  · have hd : ((xs.length : Int) != (ys.length : Int)) = true := by simp; omega
    have HN := Lib.hid hn
    clear hn
    go_enter Try.func78, Try.ntmps78
    go_wp2
    go_ret
    exact ⟨ret_bool (by have := HN.out; simp [eqRowsB, this]), Gr.refl _⟩
set_option maxRecDepth 100000 in
set_option maxHeartbeats 1000000 in
theorem impl_EqualRows (v : Value) (xs : List DRow) (v' : Value) (ys : List DRow) (w : World) (hx : RRows w v xs) (hy : RRows w v' ys) : Calls Try.prog 36 #[v, v'] w fun e w' => e = .returned (.bool (eqRowsB xs ys)) ∧ Gr w w' := by
  go_enter Try.func36, Try.ntmps36
  go_wp2_with fail
  refine (slices_EqualRows _ xs _ ys _ hx hy).mono ?_
  rintro e w1 ⟨rfl, g1⟩
  go_wp2_with fail
  go_ret
  exact ⟨ret_bool rfl, g1⟩
-- gen FnExactEqualRows EqualRows RowS RowS
set_option maxRecDepth 100000 in
set_option maxHeartbeats 4000000 in
theorem law_FnExactEqualRows (w : World) (v0 : Value) (x0 : List DRow) (hv0 : RRows w v0 x0) (v1 : Value) (x1 : List DRow) (hv1 : RRows w v1 x1) : Calls Try.prog 8 #[v0, v1] w fun e w' => e = .returned (.bool true) ∧ Gr w w' := by
  have hsl0 : IsSl v0 := hv0.isSl
  obtain ⟨a0, n0, c0, hve0⟩ := hsl0
  subst hve0
  have hsl1 : IsSl v1 := hv1.isSl
  obtain ⟨a1, n1, c1, hve1⟩ := hsl1
  subst hve1
  by_cases hs0 : ((totL totRow x0) : Int) ≤ (1048576 : Int)
  · by_cases hs1 : ((totL totRow x1) : Int) ≤ (1048576 - ((totL totRow x0) : Int))
    · have HZ0 := Lib.hid (szV_yes (t := (totL totRow x0)) (left := (1048576 : Int)) (by omega))
      have HA0 := Lib.hid (show (0 : Int) ≤ (1048576 : Int) ∧ (1048576 : Int) ≤ 1048576 from by omega)
      have HB0 := Lib.hid (show (0 : Int) ≤ (1048576 : Int) - ((totL totRow x0) : Int) ∧ (1048576 : Int) - ((totL totRow x0) : Int) ≤ 1048576 from by omega)
      have HZ1 := Lib.hid (szV_yes (t := (totL totRow x1)) (left := (1048576 - ((totL totRow x0) : Int))) (by omega))
      have HA1 := Lib.hid (show (0 : Int) ≤ (1048576 - ((totL totRow x0) : Int)) ∧ (1048576 - ((totL totRow x0) : Int)) ≤ 1048576 from by omega)
      have HB1 := Lib.hid (show (0 : Int) ≤ (1048576 - ((totL totRow x0) : Int)) - ((totL totRow x1) : Int) ∧ (1048576 - ((totL totRow x0) : Int)) - ((totL totRow x1) : Int) ≤ 1048576 from by omega)
      have HT0 := Lib.hid (show (totL totRow x0) ≤ 4294967296 from by omega)
      have HT1 := Lib.hid (show (totL totRow x1) ≤ 4294967296 from by omega)
      clear hs0 hs1
      go_enter Try.func8, Try.ntmps8
      go_wp2_with fail
      refine (laws_szRowS _ _ x0 _ hv0 HA0.out.1 HA0.out.2).mono ?_
      rintro e w1 ⟨rfl, g1⟩
      replace hv0 : RRows w1 (.slice a0 n0 c0) x0 := (RSlice.mono keeps_row g1 hv0)
      replace hv1 : RRows w1 (.slice a1 n1 c1) x1 := (RSlice.mono keeps_row g1 hv1)
      have gw : Gr w w1 := g1
      rw [HZ0.out]
      have hB0 := HB0.out.1
      have hC0 := HB0.out.2
      go_wp2_with fail
      refine (laws_szRowS _ _ x1 _ hv1 HA1.out.1 HA1.out.2).mono ?_
      rintro e w2 ⟨rfl, g2⟩
      replace hv0 : RRows w2 (.slice a0 n0 c0) x0 := (RSlice.mono keeps_row g2 hv0)
      replace hv1 : RRows w2 (.slice a1 n1 c1) x1 := (RSlice.mono keeps_row g2 hv1)
      replace gw : Gr w w2 := gw.trans g2
      rw [HZ1.out]
      have hB1 := HB1.out.1
      have hC1 := HB1.out.2
      go_wp2_with fail
      refine (laws_toRowS_fresh _ x0 _ hv0 HT0.out).mono ?_
      rintro e w3 ⟨_, rfl, ⟨ap0, np0, cp0, rfl⟩, r_hp0, g3⟩
      replace hv0 : RRows w3 (.slice a0 n0 c0) x0 := (RSlice.mono keeps_row g3 hv0)
      replace hv1 : RRows w3 (.slice a1 n1 c1) x1 := (RSlice.mono keeps_row g3 hv1)
      replace gw : Gr w w3 := gw.trans g3
      have hp0 : RRows w3 (.slice ap0 np0 cp0) x0 := r_hp0 _ (Loc.refl _ _)
      clear r_hp0
      go_wp2_with fail
      refine (laws_toRowS_fresh _ x1 _ hv1 HT1.out).mono ?_
      rintro e w4 ⟨_, rfl, ⟨ap1, np1, cp1, rfl⟩, r_hp1, g4⟩
      replace hv0 : RRows w4 (.slice a0 n0 c0) x0 := (RSlice.mono keeps_row g4 hv0)
      replace hv1 : RRows w4 (.slice a1 n1 c1) x1 := (RSlice.mono keeps_row g4 hv1)
      replace hp0 : RRows w4 (.slice ap0 np0 cp0) x0 := (RSlice.mono keeps_row g4 hp0)
      replace gw : Gr w w4 := gw.trans g4
      have hp1 : RRows w4 (.slice ap1 np1 cp1) x1 := r_hp1 _ (Loc.refl _ _)
      clear r_hp1
      go_wp2_with fail
      refine (spec_EqualRows _ x0 _ x1 _ hp0 hp1).mono ?_
      rintro e w5 ⟨rfl, g5⟩
      replace hv0 : RRows w5 (.slice a0 n0 c0) x0 := (RSlice.mono keeps_row g5 hv0)
      replace hv1 : RRows w5 (.slice a1 n1 c1) x1 := (RSlice.mono keeps_row g5 hv1)
      replace hp0 : RRows w5 (.slice ap0 np0 cp0) x0 := (RSlice.mono keeps_row g5 hp0)
      replace hp1 : RRows w5 (.slice ap1 np1 cp1) x1 := (RSlice.mono keeps_row g5 hp1)
      replace gw : Gr w w5 := gw.trans g5
      clear hp0
      clear hp1
      go_wp2_with fail
      refine (laws_toRowS_fresh _ x0 _ hv0 HT0.out).mono ?_
      rintro e w6 ⟨_, rfl, ⟨ax0, nx0, cx0, rfl⟩, r_hx0, g6⟩
      replace hv0 : RRows w6 (.slice a0 n0 c0) x0 := (RSlice.mono keeps_row g6 hv0)
      replace hv1 : RRows w6 (.slice a1 n1 c1) x1 := (RSlice.mono keeps_row g6 hv1)
      replace gw : Gr w w6 := gw.trans g6
      have hx0 : RRows w6 (.slice ax0 nx0 cx0) x0 := r_hx0 _ (Loc.refl _ _)
      clear r_hx0
      go_wp2_with fail
      refine (laws_toRowS_fresh _ x1 _ hv1 HT1.out).mono ?_
      rintro e w7 ⟨_, rfl, ⟨ax1, nx1, cx1, rfl⟩, r_hx1, g7⟩
      replace hv0 : RRows w7 (.slice a0 n0 c0) x0 := (RSlice.mono keeps_row g7 hv0)
      replace hv1 : RRows w7 (.slice a1 n1 c1) x1 := (RSlice.mono keeps_row g7 hv1)
      replace hx0 : RRows w7 (.slice ax0 nx0 cx0) x0 := (RSlice.mono keeps_row g7 hx0)
      replace gw : Gr w w7 := gw.trans g7
      have hx1 : RRows w7 (.slice ax1 nx1 cx1) x1 := r_hx1 _ (Loc.refl _ _)
      clear r_hx1
      go_wp2_with fail
      refine (impl_EqualRows _ x0 _ x1 _ hx0 hx1).mono ?_
      rintro e w8 ⟨rfl, g8⟩
      replace hv0 : RRows w8 (.slice a0 n0 c0) x0 := (RSlice.mono keeps_row g8 hv0)
      replace hv1 : RRows w8 (.slice a1 n1 c1) x1 := (RSlice.mono keeps_row g8 hv1)
      replace hx0 : RRows w8 (.slice ax0 nx0 cx0) x0 := (RSlice.mono keeps_row g8 hx0)
      replace hx1 : RRows w8 (.slice ax1 nx1 cx1) x1 := (RSlice.mono keeps_row g8 hx1)
      replace gw : Gr w w8 := gw.trans g8
      go_wp2_with fail
      refine (laws_toRowS_fresh _ x0 _ hv0 HT0.out).mono ?_
      rintro e w9 ⟨_, rfl, ⟨ay0, ny0, cy0, rfl⟩, r_hy0, g9⟩
      replace hv0 : RRows w9 (.slice a0 n0 c0) x0 := (RSlice.mono keeps_row g9 hv0)
      replace hv1 : RRows w9 (.slice a1 n1 c1) x1 := (RSlice.mono keeps_row g9 hv1)
      replace hx0 : RRows w9 (.slice ax0 nx0 cx0) x0 := (RSlice.mono keeps_row g9 hx0)
      replace hx1 : RRows w9 (.slice ax1 nx1 cx1) x1 := (RSlice.mono keeps_row g9 hx1)
      replace gw : Gr w w9 := gw.trans g9
      have hy0 : RRows w9 (.slice ay0 ny0 cy0) x0 := r_hy0 _ (Loc.refl _ _)
      clear r_hy0
      go_wp2_with fail
      refine (laws_eqRowS_same _ _ x0 _ hx0 hy0).mono ?_
      rintro e w10 ⟨rfl, g10⟩
      replace hv0 : RRows w10 (.slice a0 n0 c0) x0 := (RSlice.mono keeps_row g10 hv0)
      replace hv1 : RRows w10 (.slice a1 n1 c1) x1 := (RSlice.mono keeps_row g10 hv1)
      replace hx0 : RRows w10 (.slice ax0 nx0 cx0) x0 := (RSlice.mono keeps_row g10 hx0)
      replace hx1 : RRows w10 (.slice ax1 nx1 cx1) x1 := (RSlice.mono keeps_row g10 hx1)
      replace hy0 : RRows w10 (.slice ay0 ny0 cy0) x0 := (RSlice.mono keeps_row g10 hy0)
      replace gw : Gr w w10 := gw.trans g10
      clear hy0
      go_wp2_with fail
      refine (laws_toRowS_fresh _ x1 _ hv1 HT1.out).mono ?_
      rintro e w11 ⟨_, rfl, ⟨ay1, ny1, cy1, rfl⟩, r_hy1, g11⟩
      replace hv0 : RRows w11 (.slice a0 n0 c0) x0 := (RSlice.mono keeps_row g11 hv0)
      replace hv1 : RRows w11 (.slice a1 n1 c1) x1 := (RSlice.mono keeps_row g11 hv1)
      replace hx0 : RRows w11 (.slice ax0 nx0 cx0) x0 := (RSlice.mono keeps_row g11 hx0)
      replace hx1 : RRows w11 (.slice ax1 nx1 cx1) x1 := (RSlice.mono keeps_row g11 hx1)
      replace gw : Gr w w11 := gw.trans g11
      have hy1 : RRows w11 (.slice ay1 ny1 cy1) x1 := r_hy1 _ (Loc.refl _ _)
      clear r_hy1
      go_wp2_with fail
      refine (laws_eqRowS_same _ _ x1 _ hx1 hy1).mono ?_
      rintro e w12 ⟨rfl, g12⟩
      replace hv0 : RRows w12 (.slice a0 n0 c0) x0 := (RSlice.mono keeps_row g12 hv0)
      replace hv1 : RRows w12 (.slice a1 n1 c1) x1 := (RSlice.mono keeps_row g12 hv1)
      replace hx0 : RRows w12 (.slice ax0 nx0 cx0) x0 := (RSlice.mono keeps_row g12 hx0)
      replace hx1 : RRows w12 (.slice ax1 nx1 cx1) x1 := (RSlice.mono keeps_row g12 hx1)
      replace hy1 : RRows w12 (.slice ay1 ny1 cy1) x1 := (RSlice.mono keeps_row g12 hy1)
      replace gw : Gr w w12 := gw.trans g12
      clear hy1
      go_wp2_with fail
      go_ret
      exact ⟨rfl, gw⟩
    · have HZ0 := Lib.hid (szV_yes (t := (totL totRow x0)) (left := (1048576 : Int)) (by omega))
      have HA0 := Lib.hid (show (0 : Int) ≤ (1048576 : Int) ∧ (1048576 : Int) ≤ 1048576 from by omega)
      have HB0 := Lib.hid (show (0 : Int) ≤ (1048576 : Int) - ((totL totRow x0) : Int) ∧ (1048576 : Int) - ((totL totRow x0) : Int) ≤ 1048576 from by omega)
      have HZ1 := Lib.hid (szV_no (t := (totL totRow x1)) (left := (1048576 - ((totL totRow x0) : Int))) (by omega))
      have HA1 := Lib.hid (show (0 : Int) ≤ (1048576 - ((totL totRow x0) : Int)) ∧ (1048576 - ((totL totRow x0) : Int)) ≤ 1048576 from by omega)
      clear hs0 hs1
      go_enter Try.func8, Try.ntmps8
      go_wp2_with fail
      refine (laws_szRowS _ _ x0 _ hv0 HA0.out.1 HA0.out.2).mono ?_
      rintro e w1 ⟨rfl, g1⟩
      replace hv0 : RRows w1 (.slice a0 n0 c0) x0 := (RSlice.mono keeps_row g1 hv0)
      replace hv1 : RRows w1 (.slice a1 n1 c1) x1 := (RSlice.mono keeps_row g1 hv1)
      have gw : Gr w w1 := g1
      rw [HZ0.out]
      have hB0 := HB0.out.1
      have hC0 := HB0.out.2
      go_wp2_with fail
      refine (laws_szRowS _ _ x1 _ hv1 HA1.out.1 HA1.out.2).mono ?_
      rintro e w2 ⟨rfl, g2⟩
      replace hv0 : RRows w2 (.slice a0 n0 c0) x0 := (RSlice.mono keeps_row g2 hv0)
      replace hv1 : RRows w2 (.slice a1 n1 c1) x1 := (RSlice.mono keeps_row g2 hv1)
      replace gw : Gr w w2 := gw.trans g2
      rw [HZ1.out]
      go_wp2_with fail
      go_ret
      exact ⟨rfl, gw⟩
  · have HZ0 := Lib.hid (szV_no (t := (totL totRow x0)) (left := (1048576 : Int)) (by omega))
    have HA0 := Lib.hid (show (0 : Int) ≤ (1048576 : Int) ∧ (1048576 : Int) ≤ 1048576 from by omega)
    clear hs0
    go_enter Try.func8, Try.ntmps8
    go_wp2_with fail
    refine (laws_szRowS _ _ x0 _ hv0 HA0.out.1 HA0.out.2).mono ?_
    rintro e w1 ⟨rfl, g1⟩
    replace hv0 : RRows w1 (.slice a0 n0 c0) x0 := (RSlice.mono keeps_row g1 hv0)
    replace hv1 : RRows w1 (.slice a1 n1 c1) x1 := (RSlice.mono keeps_row g1 hv1)
    have gw : Gr w w1 := g1
    rw [HZ0.out]
    go_wp2_with fail
    go_ret
    exact ⟨rfl, gw⟩

-- endgen
end Go.Proofs.Ytgadgidhomijpaa
