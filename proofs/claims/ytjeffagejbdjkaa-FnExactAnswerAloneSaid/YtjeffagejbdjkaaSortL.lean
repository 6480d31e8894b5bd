/- SortRows: the walk of the law. -/
import Derived.Test.YtjeffagejbdjkaaSortX
import Derived.Test.YtjeffagejbdjkaaSortZ
import Derived.Test.YtjeffagejbdjkaaMkRow
namespace Go.Proofs.Ytjeffagejbdjkaa
open Go.RowKit
theorem sortR_tot (xs : List DRow) : totL totRow (sortR xs) = totL totRow xs := by
  unfold totL sumT
  rw [sortR_len, ((sortR_perm xs).map totRow).sum_nat]
theorem sortR_small (xs : List DRow) : sumT cntRow (sortR xs) ≤ 3 * totL totRow xs := by
  have h1 := cnt_RowS (sortR xs)
  have h2 := sortR_tot xs
  omega
-- mgen FnExactSortRows SortRows+HQ0 RowS "(sortR x0)" "by have := sortR_small x0; have := HT0.out; omega" RowS
set_option maxRecDepth 100000 in
set_option maxHeartbeats 1500000 in
theorem law_FnExactSortRows (w : World) (v0 : Value) (x0 : List DRow) (hv0 : RRows w v0 x0) : Calls Try.prog 3 #[v0] w fun e w' => e = .returned (.bool true) ∧ Gr w w' := by
  obtain ⟨a0, c0, hve0⟩ := hv0.form
  subst hve0
  by_cases hs0 : ((totL totRow x0) : Int) ≤ (1048576 : Int)
  · have HZ0 := Lib.hid (szV_yes (t := (totL totRow x0)) (left := (1048576 : Int)) (by omega))
    have HA0 := Lib.hid (show (0 : Int) ≤ (1048576 : Int) ∧ (1048576 : Int) ≤ 1048576 from by omega)
    have HB0 := Lib.hid (show (0 : Int) ≤ (1048576 : Int) - ((totL totRow x0) : Int) ∧ (1048576 : Int) - ((totL totRow x0) : Int) ≤ 1048576 from by omega)
    have HT0 := Lib.hid (show (totL totRow x0) ≤ 4294967296 from by omega)
    have HQ0 : Hid ((totL totRow x0) ≤ 1048576) := Lib.hid (by omega)
    clear hs0
    go_enter Try.func3, Try.ntmps3
    have Bhv0 := Lib.hid hv0
    replace hv0 := Lib.hid hv0
    go_wp2_with fail
    refine (laws_szRowS _ _ x0 _ hv0.out HA0.out.1 HA0.out.2).mono ?_
    rintro e w1 ⟨rfl, g1⟩
    have Z1 : Hid (w.heap.size + 0 ≤ w1.heap.size) := Lib.hid (by have := g1.size; simpa using this)
    replace hv0 : Hid (RRows w1 (.slice a0 x0.length c0) x0) := Lib.hid (RSlice.mono keeps_row g1 hv0.out)
    have gw : Hid (Gr w w1) := Lib.hid g1
    rw [HZ0.out]
    have hB0 := HB0.out.1
    have hC0 := HB0.out.2
    go_wp2_with fail
    refine (laws_toRowS_own _ x0 _ hv0.out HT0.out).mono ?_
    rintro e w2 ⟨_, rfl, ⟨ap0, np0, cp0, rfl⟩, g2, r_hp0⟩
    have Z2 : Hid (w1.heap.size + 0 ≤ w2.heap.size) := Lib.hid (by have := g2.size; simpa using this)
    replace hv0 : Hid (RRows w2 (.slice a0 x0.length c0) x0) := Lib.hid (RSlice.mono keeps_row g2 hv0.out)
    replace gw : Hid (Gr w w2) := Lib.hid (gw.out.trans g2)
    have hp0 : Hid (PRows (In w1.heap.size w2.heap.size) w2 (.slice ap0 np0 cp0) x0) := Lib.hid (r_hp0.wide (by simp) (by omega))
    clear r_hp0
    go_wp2_with fail
    refine (spec_SortRows _ x0 _ (rd_prows hp0.out) HQ0.out).mono ?_
    rintro e w3 ⟨vw0, rfl, r_hw0, g3⟩
    have Z3 : Hid (w2.heap.size + 0 ≤ w3.heap.size) := Lib.hid (by have := g3.size; simpa using this)
    replace hv0 : Hid (RRows w3 (.slice a0 x0.length c0) x0) := Lib.hid (RSlice.mono keeps_row g3 hv0.out)
    replace hp0 : Hid (PRows (In w1.heap.size w2.heap.size) w3 (.slice ap0 np0 cp0) x0) := Lib.hid (OSl.gr fr_row hp0.out g3)
    replace gw : Hid (Gr w w3) := Lib.hid (gw.out.trans g3)
    clear hp0
    obtain ⟨aw0, nw0, cw0, rfl⟩ := r_hw0.isSl
    have hw0 : Hid (RRows w3 (.slice aw0 nw0 cw0) (sortR x0)) := Lib.hid r_hw0
    have Bhw0 := Lib.hid r_hw0
    clear r_hw0
    have gv : Hid (Gr w3 w3) := Lib.hid (Gr.refl _)
    have ZV : Hid (w.heap.size ≤ w3.heap.size) := Lib.hid gw.out.size
    go_wp2_with fail
    refine (laws_toRowS_own _ x0 _ hv0.out HT0.out).mono ?_
    rintro e w4 ⟨_, rfl, ⟨ax0, nx0, cx0, rfl⟩, g4, r_hx0⟩
    have Z4 : Hid (w3.heap.size + 0 ≤ w4.heap.size) := Lib.hid (by have := g4.size; simpa using this)
    replace hv0 : Hid (RRows w4 (.slice a0 x0.length c0) x0) := Lib.hid (RSlice.mono keeps_row g4 hv0.out)
    replace hw0 : Hid (RRows w4 (.slice aw0 nw0 cw0) (sortR x0)) := Lib.hid (RSlice.mono keeps_row g4 hw0.out)
    replace gw : Hid (Gr w w4) := Lib.hid (gw.out.trans g4)
    replace gv : Hid (Gr w3 w4) := Lib.hid (gv.out.trans g4)
    have hx0 : Hid (PRows (In w3.heap.size w4.heap.size) w4 (.slice ax0 nx0 cx0) x0) := Lib.hid (r_hx0.wide (by simp) (by omega))
    clear r_hx0
    go_wp2_with fail
    refine (impl_SortRows _ x0 _ (rd_prows hx0.out) HQ0.out).mono ?_
    rintro e w5 ⟨vg0, rfl, g5, r_hg0⟩
    have Z5 : Hid (w4.heap.size + 0 ≤ w5.heap.size) := Lib.hid (by have := g5.size; simpa using this)
    replace hv0 : Hid (RRows w5 (.slice a0 x0.length c0) x0) := Lib.hid (RSlice.mono keeps_row g5 hv0.out)
    replace hw0 : Hid (RRows w5 (.slice aw0 nw0 cw0) (sortR x0)) := Lib.hid (RSlice.mono keeps_row g5 hw0.out)
    replace hx0 : Hid (PRows (In w3.heap.size w4.heap.size) w5 (.slice ax0 nx0 cx0) x0) := Lib.hid (OSl.gr fr_row hx0.out g5)
    replace gw : Hid (Gr w w5) := Lib.hid (gw.out.trans g5)
    replace gv : Hid (Gr w3 w5) := Lib.hid (gv.out.trans g5)
    obtain ⟨ag0, ng0, cg0, rfl⟩ := r_hg0.isSl
    have hg0 : Hid (PRows (In w4.heap.size w5.heap.size) w5 (.slice ag0 ng0 cg0) (sortR x0)) := Lib.hid (r_hg0.wide (by simp) (by omega))
    clear r_hg0
    go_wp2_with fail
    refine (laws_eqRowS_same _ _ (sortR x0) _ (rd_prows hg0.out) hw0.out).mono ?_
    rintro e w6 ⟨rfl, g6⟩
    have Z6 : Hid (w5.heap.size + 0 ≤ w6.heap.size) := Lib.hid (by have := g6.size; simpa using this)
    replace hv0 : Hid (RRows w6 (.slice a0 x0.length c0) x0) := Lib.hid (RSlice.mono keeps_row g6 hv0.out)
    replace hw0 : Hid (RRows w6 (.slice aw0 nw0 cw0) (sortR x0)) := Lib.hid (RSlice.mono keeps_row g6 hw0.out)
    replace hx0 : Hid (PRows (In w3.heap.size w4.heap.size) w6 (.slice ax0 nx0 cx0) x0) := Lib.hid (OSl.gr fr_row hx0.out g6)
    replace hg0 : Hid (PRows (In w4.heap.size w5.heap.size) w6 (.slice ag0 ng0 cg0) (sortR x0)) := Lib.hid (OSl.gr fr_row hg0.out g6)
    replace gw : Hid (Gr w w6) := Lib.hid (gw.out.trans g6)
    replace gv : Hid (Gr w3 w6) := Lib.hid (gv.out.trans g6)
    go_wp2_with fail
    refine (laws_toRowS_own _ x0 _ hv0.out HT0.out).mono ?_
    rintro e w7 ⟨_, rfl, ⟨ay0, ny0, cy0, rfl⟩, g7, r_hy0⟩
    have Z7 : Hid (w6.heap.size + 0 ≤ w7.heap.size) := Lib.hid (by have := g7.size; simpa using this)
    replace hv0 : Hid (RRows w7 (.slice a0 x0.length c0) x0) := Lib.hid (RSlice.mono keeps_row g7 hv0.out)
    replace hw0 : Hid (RRows w7 (.slice aw0 nw0 cw0) (sortR x0)) := Lib.hid (RSlice.mono keeps_row g7 hw0.out)
    replace hx0 : Hid (PRows (In w3.heap.size w4.heap.size) w7 (.slice ax0 nx0 cx0) x0) := Lib.hid (OSl.gr fr_row hx0.out g7)
    replace hg0 : Hid (PRows (In w4.heap.size w5.heap.size) w7 (.slice ag0 ng0 cg0) (sortR x0)) := Lib.hid (OSl.gr fr_row hg0.out g7)
    replace gw : Hid (Gr w w7) := Lib.hid (gw.out.trans g7)
    replace gv : Hid (Gr w3 w7) := Lib.hid (gv.out.trans g7)
    have hy0 : Hid (PRows (In w6.heap.size w7.heap.size) w7 (.slice ay0 ny0 cy0) x0) := Lib.hid (r_hy0.wide (by simp) (by omega))
    clear r_hy0
    go_wp2_with fail
    refine (laws_eqRowS_same _ _ x0 _ (rd_prows hx0.out) (rd_prows hy0.out)).mono ?_
    rintro e w8 ⟨rfl, g8⟩
    have Z8 : Hid (w7.heap.size + 0 ≤ w8.heap.size) := Lib.hid (by have := g8.size; simpa using this)
    replace hv0 : Hid (RRows w8 (.slice a0 x0.length c0) x0) := Lib.hid (RSlice.mono keeps_row g8 hv0.out)
    replace hw0 : Hid (RRows w8 (.slice aw0 nw0 cw0) (sortR x0)) := Lib.hid (RSlice.mono keeps_row g8 hw0.out)
    replace hx0 : Hid (PRows (In w3.heap.size w4.heap.size) w8 (.slice ax0 nx0 cx0) x0) := Lib.hid (OSl.gr fr_row hx0.out g8)
    replace hg0 : Hid (PRows (In w4.heap.size w5.heap.size) w8 (.slice ag0 ng0 cg0) (sortR x0)) := Lib.hid (OSl.gr fr_row hg0.out g8)
    replace hy0 : Hid (PRows (In w6.heap.size w7.heap.size) w8 (.slice ay0 ny0 cy0) x0) := Lib.hid (OSl.gr fr_row hy0.out g8)
    replace gw : Hid (Gr w w8) := Lib.hid (gw.out.trans g8)
    replace gv : Hid (Gr w3 w8) := Lib.hid (gv.out.trans g8)
    clear hy0
    have cb0 := HQ0.out
    have cm0 := cnt_RowS x0
    go_wp2_with fail
    refine (laws_markRowS (In w3.heap.size w4.heap.size) _ x0 (1 : Int) _ hx0.out (by omega) (by omega)).mono ?_
    rintro e wm0 ⟨rfl, _, dm0⟩
    have Z9 : Hid (w8.heap.size ≤ wm0.heap.size) := Lib.hid dm0.size
    replace gw : Hid (Gr w wm0) := Lib.hid (Gr.trans' gw.out (dm0.below (fun b hb => by have := Z1.out; have := Z2.out; have := Z3.out; have := ZV.out; have := Z4.out; have := Z5.out; have := Z6.out; have := Z7.out; have := Z8.out; have := Z9.out; have := hb.1; omega) (gw.out.size)))
    replace gv : Hid (Gr w3 wm0) := Lib.hid (Gr.trans' gv.out (dm0.below (fun b hb => by have := Z1.out; have := Z2.out; have := Z3.out; have := ZV.out; have := Z4.out; have := Z5.out; have := Z6.out; have := Z7.out; have := Z8.out; have := Z9.out; have := hb.1; omega) (gv.out.size)))
    replace hv0 : Hid (RRows wm0 (.slice a0 x0.length c0) x0) := Lib.hid (RSlice.mono keeps_row gw.out Bhv0.out)
    replace hw0 : Hid (RRows wm0 (.slice aw0 nw0 cw0) (sortR x0)) := Lib.hid (RSlice.mono keeps_row gv.out Bhw0.out)
    replace hg0 : Hid (PRows (In w4.heap.size w5.heap.size) wm0 (.slice ag0 ng0 cg0) (sortR x0)) := Lib.hid (OSl.frame fr_row hg0.out (dm0.agree fun b hb hc => by have := Z1.out; have := Z2.out; have := Z3.out; have := ZV.out; have := Z4.out; have := Z5.out; have := Z6.out; have := Z7.out; have := Z8.out; have := Z9.out; have := hb.1; have := hb.2; have := hc.1; have := hc.2; omega))
    clear hx0
    have cu0 : 0 ≤ ((1 : Int) + (sumT cntRow x0 : Int)) := by omega
    go_wp2_with fail
    refine (laws_eqRowS_same _ _ (sortR x0) _ (rd_prows hg0.out) hw0.out).mono ?_
    rintro e w10 ⟨rfl, g10⟩
    have Z10 : Hid (wm0.heap.size + 0 ≤ w10.heap.size) := Lib.hid (by have := g10.size; simpa using this)
    replace hv0 : Hid (RRows w10 (.slice a0 x0.length c0) x0) := Lib.hid (RSlice.mono keeps_row g10 hv0.out)
    replace hw0 : Hid (RRows w10 (.slice aw0 nw0 cw0) (sortR x0)) := Lib.hid (RSlice.mono keeps_row g10 hw0.out)
    replace hg0 : Hid (PRows (In w4.heap.size w5.heap.size) w10 (.slice ag0 ng0 cg0) (sortR x0)) := Lib.hid (OSl.gr fr_row hg0.out g10)
    replace gw : Hid (Gr w w10) := Lib.hid (gw.out.trans g10)
    replace gv : Hid (Gr w3 w10) := Lib.hid (gv.out.trans g10)
    have HBR := Lib.hid (show (1 : Int) + (sumT cntRow (sortR x0) : Int) ≤ 4611686018427387904 from by have := sortR_small x0; have := HT0.out; omega)
    have hbr := HBR.out
    go_wp2_with fail
    refine (laws_markRowS (In w4.heap.size w5.heap.size) _ (sortR x0) (1 : Int) _ hg0.out (by omega) (by omega)).mono ?_
    rintro e wg0 ⟨rfl, qhg0, dg0⟩
    have Z11 : Hid (w10.heap.size ≤ wg0.heap.size) := Lib.hid dg0.size
    replace gw : Hid (Gr w wg0) := Lib.hid (Gr.trans' gw.out (dg0.below (fun b hb => by have := Z1.out; have := Z2.out; have := Z3.out; have := ZV.out; have := Z4.out; have := Z5.out; have := Z6.out; have := Z7.out; have := Z8.out; have := Z9.out; have := Z10.out; have := Z11.out; have := hb.1; omega) (gw.out.size)))
    replace gv : Hid (Gr w3 wg0) := Lib.hid (Gr.trans' gv.out (dg0.below (fun b hb => by have := Z1.out; have := Z2.out; have := Z3.out; have := ZV.out; have := Z4.out; have := Z5.out; have := Z6.out; have := Z7.out; have := Z8.out; have := Z9.out; have := Z10.out; have := Z11.out; have := hb.1; omega) (gv.out.size)))
    replace hv0 : Hid (RRows wg0 (.slice a0 x0.length c0) x0) := Lib.hid (RSlice.mono keeps_row gw.out Bhv0.out)
    replace hw0 : Hid (RRows wg0 (.slice aw0 nw0 cw0) (sortR x0)) := Lib.hid (RSlice.mono keeps_row gv.out Bhw0.out)
    clear hg0
    have Mhg0 : Hid (RRows wg0 (.slice ag0 ng0 cg0) (marksTo mkRow cntRow (1 : Int) (sortR x0).length (sortR x0))) := Lib.hid (rd_prows qhg0)
    clear qhg0
    have hcg0 : 0 ≤ ((1 : Int) + (sumT cntRow (sortR x0) : Int)) := by omega
    have ef : (((1 : Int) + (sumT cntRow (sortR x0) : Int)) != ((1 : Int) + (sumT cntRow (sortR x0) : Int))) = false := by simp
    go_wp2_with fail
    refine (laws_heldRowS _ (sortR x0) (1 : Int) _ Mhg0.out (by omega) (by omega)).mono ?_
    rintro e w12 ⟨rfl, g12⟩
    have Z12 : Hid (wg0.heap.size + 0 ≤ w12.heap.size) := Lib.hid (by have := g12.size; simpa using this)
    replace hv0 : Hid (RRows w12 (.slice a0 x0.length c0) x0) := Lib.hid (RSlice.mono keeps_row g12 hv0.out)
    replace hw0 : Hid (RRows w12 (.slice aw0 nw0 cw0) (sortR x0)) := Lib.hid (RSlice.mono keeps_row g12 hw0.out)
    replace Mhg0 : Hid (RRows w12 (.slice ag0 ng0 cg0) (marksTo mkRow cntRow (1 : Int) (sortR x0).length (sortR x0))) := Lib.hid (RSlice.mono keeps_row g12 Mhg0.out)
    replace gw : Hid (Gr w w12) := Lib.hid (gw.out.trans g12)
    replace gv : Hid (Gr w3 w12) := Lib.hid (gv.out.trans g12)
    go_wp2_with fail
    refine (laws_toRowS_own _ x0 _ hv0.out HT0.out).mono ?_
    rintro e w13 ⟨_, rfl, ⟨az0, nz0, cz0, rfl⟩, g13, r_hz0⟩
    have Z13 : Hid (w12.heap.size + 0 ≤ w13.heap.size) := Lib.hid (by have := g13.size; simpa using this)
    replace hv0 : Hid (RRows w13 (.slice a0 x0.length c0) x0) := Lib.hid (RSlice.mono keeps_row g13 hv0.out)
    replace hw0 : Hid (RRows w13 (.slice aw0 nw0 cw0) (sortR x0)) := Lib.hid (RSlice.mono keeps_row g13 hw0.out)
    replace Mhg0 : Hid (RRows w13 (.slice ag0 ng0 cg0) (marksTo mkRow cntRow (1 : Int) (sortR x0).length (sortR x0))) := Lib.hid (RSlice.mono keeps_row g13 Mhg0.out)
    replace gw : Hid (Gr w w13) := Lib.hid (gw.out.trans g13)
    replace gv : Hid (Gr w3 w13) := Lib.hid (gv.out.trans g13)
    have hz0 : Hid (PRows (In w12.heap.size w13.heap.size) w13 (.slice az0 nz0 cz0) x0) := Lib.hid (r_hz0.wide (by simp) (by omega))
    clear r_hz0
    go_wp2_with fail
    refine (impl_SortRows _ x0 _ (rd_prows hz0.out) HQ0.out).mono ?_
    rintro e w14 ⟨vh0, rfl, g14, r_hh0⟩
    have Z14 : Hid (w13.heap.size + 0 ≤ w14.heap.size) := Lib.hid (by have := g14.size; simpa using this)
    replace hv0 : Hid (RRows w14 (.slice a0 x0.length c0) x0) := Lib.hid (RSlice.mono keeps_row g14 hv0.out)
    replace hw0 : Hid (RRows w14 (.slice aw0 nw0 cw0) (sortR x0)) := Lib.hid (RSlice.mono keeps_row g14 hw0.out)
    replace Mhg0 : Hid (RRows w14 (.slice ag0 ng0 cg0) (marksTo mkRow cntRow (1 : Int) (sortR x0).length (sortR x0))) := Lib.hid (RSlice.mono keeps_row g14 Mhg0.out)
    replace hz0 : Hid (PRows (In w12.heap.size w13.heap.size) w14 (.slice az0 nz0 cz0) x0) := Lib.hid (OSl.gr fr_row hz0.out g14)
    replace gw : Hid (Gr w w14) := Lib.hid (gw.out.trans g14)
    replace gv : Hid (Gr w3 w14) := Lib.hid (gv.out.trans g14)
    clear hz0
    obtain ⟨ah0, nh0, ch0, rfl⟩ := r_hh0.isSl
    have hh0 : Hid (PRows (In w13.heap.size w14.heap.size) w14 (.slice ah0 nh0 ch0) (sortR x0)) := Lib.hid (r_hh0.wide (by simp) (by omega))
    clear r_hh0
    go_wp2_with fail
    refine (laws_eqRowS_same _ _ (sortR x0) _ (rd_prows hh0.out) hw0.out).mono ?_
    rintro e w15 ⟨rfl, g15⟩
    have Z15 : Hid (w14.heap.size + 0 ≤ w15.heap.size) := Lib.hid (by have := g15.size; simpa using this)
    replace hv0 : Hid (RRows w15 (.slice a0 x0.length c0) x0) := Lib.hid (RSlice.mono keeps_row g15 hv0.out)
    replace hw0 : Hid (RRows w15 (.slice aw0 nw0 cw0) (sortR x0)) := Lib.hid (RSlice.mono keeps_row g15 hw0.out)
    replace Mhg0 : Hid (RRows w15 (.slice ag0 ng0 cg0) (marksTo mkRow cntRow (1 : Int) (sortR x0).length (sortR x0))) := Lib.hid (RSlice.mono keeps_row g15 Mhg0.out)
    replace hh0 : Hid (PRows (In w13.heap.size w14.heap.size) w15 (.slice ah0 nh0 ch0) (sortR x0)) := Lib.hid (OSl.gr fr_row hh0.out g15)
    replace gw : Hid (Gr w w15) := Lib.hid (gw.out.trans g15)
    replace gv : Hid (Gr w3 w15) := Lib.hid (gv.out.trans g15)
    go_wp2_with fail
    refine (laws_heldRowS _ (sortR x0) (1 : Int) _ Mhg0.out (by omega) (by omega)).mono ?_
    rintro e w16 ⟨rfl, g16⟩
    have Z16 : Hid (w15.heap.size + 0 ≤ w16.heap.size) := Lib.hid (by have := g16.size; simpa using this)
    replace hv0 : Hid (RRows w16 (.slice a0 x0.length c0) x0) := Lib.hid (RSlice.mono keeps_row g16 hv0.out)
    replace hw0 : Hid (RRows w16 (.slice aw0 nw0 cw0) (sortR x0)) := Lib.hid (RSlice.mono keeps_row g16 hw0.out)
    replace Mhg0 : Hid (RRows w16 (.slice ag0 ng0 cg0) (marksTo mkRow cntRow (1 : Int) (sortR x0).length (sortR x0))) := Lib.hid (RSlice.mono keeps_row g16 Mhg0.out)
    replace hh0 : Hid (PRows (In w13.heap.size w14.heap.size) w16 (.slice ah0 nh0 ch0) (sortR x0)) := Lib.hid (OSl.gr fr_row hh0.out g16)
    replace gw : Hid (Gr w w16) := Lib.hid (gw.out.trans g16)
    replace gv : Hid (Gr w3 w16) := Lib.hid (gv.out.trans g16)
    go_wp2_with fail
    go_ret
    exact ⟨rfl, gw.out⟩
  · have HZ0 := Lib.hid (szV_no (t := (totL totRow x0)) (left := (1048576 : Int)) (by omega))
    have HA0 := Lib.hid (show (0 : Int) ≤ (1048576 : Int) ∧ (1048576 : Int) ≤ 1048576 from by omega)
    clear hs0
    go_enter Try.func3, Try.ntmps3
    have Bhv0 := Lib.hid hv0
    replace hv0 := Lib.hid hv0
    go_wp2_with fail
    refine (laws_szRowS _ _ x0 _ hv0.out HA0.out.1 HA0.out.2).mono ?_
    rintro e w1 ⟨rfl, g1⟩
    have Z1 : Hid (w.heap.size + 0 ≤ w1.heap.size) := Lib.hid (by have := g1.size; simpa using this)
    replace hv0 : Hid (RRows w1 (.slice a0 x0.length c0) x0) := Lib.hid (RSlice.mono keeps_row g1 hv0.out)
    have gw : Hid (Gr w w1) := Lib.hid g1
    rw [HZ0.out]
    go_wp2_with fail
    go_ret
    exact ⟨rfl, gw.out⟩

-- endgen
end Go.Proofs.Ytjeffagejbdjkaa
