/- SubtractSets: the law. Written by gen_sets.py. -/
import Derived.Test.YtgadgidhomijpaaSetsRS
namespace Go.Proofs.Ytgadgidhomijpaa
open Go.RowKit
set_option maxRecDepth 100000 in
set_option maxHeartbeats 1500000 in
theorem law_FnExactSubtractSets (w : World) (v0 : Value) (x0 : List Int) (hv0 : RInts w v0 x0) (v1 : Value) (x1 : List Int) (hv1 : RInts w v1 x1) : Calls Try.prog 4 #[v0, v1] w fun e w' => e = .returned (.bool true) ∧ Gr w w' := by
  obtain ⟨a0, c0, hve0⟩ := hv0.form
  subst hve0
  obtain ⟨a1, c1, hve1⟩ := hv1.form
  subst hve1
  by_cases hs0 : (x0.length : Int) ≤ 1048576
  · by_cases hs1 : (x1.length : Int) ≤ 1048576
    · have HT0 := Lib.hid (show x0.length ≤ 4294967296 from by omega)
      have HT1 := Lib.hid (show x1.length ≤ 4294967296 from by omega)
      have HQ0 : Hid (x0.length ≤ 1048576) := Lib.hid (by omega)
      have HQ1 : Hid (x1.length ≤ 1048576) := Lib.hid (by omega)
      go_enter Try.func4, Try.ntmps4
      have Bhv0 := Lib.hid hv0
      replace hv0 := Lib.hid hv0
      have Bhv1 := Lib.hid hv1
      replace hv1 := Lib.hid hv1
      go_wp2_with fail
      refine (laws_toIntS_own _ x0 _ hv0.out HT0.out).mono ?_
      rintro e w1 ⟨_, rfl, ⟨ap0, np0, cp0, rfl⟩, g1, r_hp0⟩
      have Z1 : Hid (w.heap.size + 0 ≤ w1.heap.size) := Lib.hid (by have := g1.size; simpa using this)
      replace hv0 : Hid (RInts w1 (.slice a0 x0.length c0) x0) := Lib.hid (RSlice.mono keeps_int g1 hv0.out)
      replace hv1 : Hid (RInts w1 (.slice a1 x1.length c1) x1) := Lib.hid (RSlice.mono keeps_int g1 hv1.out)
      have gw : Hid (Gr w w1) := Lib.hid g1
      have hp0 : Hid (PInts (In w.heap.size w1.heap.size) w1 (.slice ap0 np0 cp0) x0) := Lib.hid (r_hp0.wide (by simp) (by omega))
      clear r_hp0
      go_wp2_with fail
      refine (laws_toIntS_own _ x1 _ hv1.out HT1.out).mono ?_
      rintro e w2 ⟨_, rfl, ⟨ap1, np1, cp1, rfl⟩, g2, r_hp1⟩
      have Z2 : Hid (w1.heap.size + 0 ≤ w2.heap.size) := Lib.hid (by have := g2.size; simpa using this)
      replace hv0 : Hid (RInts w2 (.slice a0 x0.length c0) x0) := Lib.hid (RSlice.mono keeps_int g2 hv0.out)
      replace hv1 : Hid (RInts w2 (.slice a1 x1.length c1) x1) := Lib.hid (RSlice.mono keeps_int g2 hv1.out)
      replace hp0 : Hid (PInts (In w.heap.size w1.heap.size) w2 (.slice ap0 np0 cp0) x0) := Lib.hid (OSl.gr fr_int hp0.out g2)
      replace gw : Hid (Gr w w2) := Lib.hid (gw.out.trans g2)
      have hp1 : Hid (PInts (In w1.heap.size w2.heap.size) w2 (.slice ap1 np1 cp1) x1) := Lib.hid (r_hp1.wide (by simp) (by omega))
      clear r_hp1
      go_wp2_with fail
      refine (spec_SubtractSets _ x0 _ x1 _ (rd_pints hp0.out) (rd_pints hp1.out)).mono ?_
      rintro e w3 ⟨vw0, rfl, r_hw0, g3⟩
      have Z3 : Hid (w2.heap.size + 0 ≤ w3.heap.size) := Lib.hid (by have := g3.size; simpa using this)
      replace hv0 : Hid (RInts w3 (.slice a0 x0.length c0) x0) := Lib.hid (RSlice.mono keeps_int g3 hv0.out)
      replace hv1 : Hid (RInts w3 (.slice a1 x1.length c1) x1) := Lib.hid (RSlice.mono keeps_int g3 hv1.out)
      replace hp0 : Hid (PInts (In w.heap.size w1.heap.size) w3 (.slice ap0 np0 cp0) x0) := Lib.hid (OSl.gr fr_int hp0.out g3)
      replace hp1 : Hid (PInts (In w1.heap.size w2.heap.size) w3 (.slice ap1 np1 cp1) x1) := Lib.hid (OSl.gr fr_int hp1.out g3)
      replace gw : Hid (Gr w w3) := Lib.hid (gw.out.trans g3)
      clear hp0
      clear hp1
      obtain ⟨aw0, nw0, cw0, rfl⟩ := r_hw0.isSl
      have hw0 : Hid (RInts w3 (.slice aw0 nw0 cw0) (subL x0 x1)) := Lib.hid r_hw0
      have Bhw0 := Lib.hid r_hw0
      clear r_hw0
      have gv : Hid (Gr w3 w3) := Lib.hid (Gr.refl _)
      have ZV : Hid (w.heap.size ≤ w3.heap.size) := Lib.hid gw.out.size
      go_wp2_with fail
      refine (laws_toIntS_own _ x0 _ hv0.out HT0.out).mono ?_
      rintro e w4 ⟨_, rfl, ⟨ax0, nx0, cx0, rfl⟩, g4, r_hx0⟩
      have Z4 : Hid (w3.heap.size + 0 ≤ w4.heap.size) := Lib.hid (by have := g4.size; simpa using this)
      replace hv0 : Hid (RInts w4 (.slice a0 x0.length c0) x0) := Lib.hid (RSlice.mono keeps_int g4 hv0.out)
      replace hv1 : Hid (RInts w4 (.slice a1 x1.length c1) x1) := Lib.hid (RSlice.mono keeps_int g4 hv1.out)
      replace hw0 : Hid (RInts w4 (.slice aw0 nw0 cw0) (subL x0 x1)) := Lib.hid (RSlice.mono keeps_int g4 hw0.out)
      replace gw : Hid (Gr w w4) := Lib.hid (gw.out.trans g4)
      replace gv : Hid (Gr w3 w4) := Lib.hid (gv.out.trans g4)
      have hx0 : Hid (PInts (In w3.heap.size w4.heap.size) w4 (.slice ax0 nx0 cx0) x0) := Lib.hid (r_hx0.wide (by simp) (by omega))
      clear r_hx0
      go_wp2_with fail
      refine (laws_toIntS_own _ x1 _ hv1.out HT1.out).mono ?_
      rintro e w5 ⟨_, rfl, ⟨ax1, nx1, cx1, rfl⟩, g5, r_hx1⟩
      have Z5 : Hid (w4.heap.size + 0 ≤ w5.heap.size) := Lib.hid (by have := g5.size; simpa using this)
      replace hv0 : Hid (RInts w5 (.slice a0 x0.length c0) x0) := Lib.hid (RSlice.mono keeps_int g5 hv0.out)
      replace hv1 : Hid (RInts w5 (.slice a1 x1.length c1) x1) := Lib.hid (RSlice.mono keeps_int g5 hv1.out)
      replace hw0 : Hid (RInts w5 (.slice aw0 nw0 cw0) (subL x0 x1)) := Lib.hid (RSlice.mono keeps_int g5 hw0.out)
      replace hx0 : Hid (PInts (In w3.heap.size w4.heap.size) w5 (.slice ax0 nx0 cx0) x0) := Lib.hid (OSl.gr fr_int hx0.out g5)
      replace gw : Hid (Gr w w5) := Lib.hid (gw.out.trans g5)
      replace gv : Hid (Gr w3 w5) := Lib.hid (gv.out.trans g5)
      have hx1 : Hid (PInts (In w4.heap.size w5.heap.size) w5 (.slice ax1 nx1 cx1) x1) := Lib.hid (r_hx1.wide (by simp) (by omega))
      clear r_hx1
      go_wp2_with fail
      refine (impl_SubtractSets _ x0 _ x1 _ (rd_pints hx0.out) (rd_pints hx1.out)).mono ?_
      rintro e w6 ⟨vg0, rfl, g6, r_hg0⟩
      have Z6 : Hid (w5.heap.size + 0 ≤ w6.heap.size) := Lib.hid (by have := g6.size; simpa using this)
      replace hv0 : Hid (RInts w6 (.slice a0 x0.length c0) x0) := Lib.hid (RSlice.mono keeps_int g6 hv0.out)
      replace hv1 : Hid (RInts w6 (.slice a1 x1.length c1) x1) := Lib.hid (RSlice.mono keeps_int g6 hv1.out)
      replace hw0 : Hid (RInts w6 (.slice aw0 nw0 cw0) (subL x0 x1)) := Lib.hid (RSlice.mono keeps_int g6 hw0.out)
      replace hx0 : Hid (PInts (In w3.heap.size w4.heap.size) w6 (.slice ax0 nx0 cx0) x0) := Lib.hid (OSl.gr fr_int hx0.out g6)
      replace hx1 : Hid (PInts (In w4.heap.size w5.heap.size) w6 (.slice ax1 nx1 cx1) x1) := Lib.hid (OSl.gr fr_int hx1.out g6)
      replace gw : Hid (Gr w w6) := Lib.hid (gw.out.trans g6)
      replace gv : Hid (Gr w3 w6) := Lib.hid (gv.out.trans g6)
      obtain ⟨ag0, ng0, cg0, rfl⟩ := r_hg0.isSl
      have hg0 : Hid (PInts (In w5.heap.size w6.heap.size) w6 (.slice ag0 ng0 cg0) (subL x0 x1)) := Lib.hid (r_hg0.wide (by simp) (by omega))
      clear r_hg0
      go_wp2_with fail
      refine (laws_eqIntS_same _ _ (subL x0 x1) _ (rd_pints hg0.out) hw0.out).mono ?_
      rintro e w7 ⟨rfl, g7⟩
      have Z7 : Hid (w6.heap.size + 0 ≤ w7.heap.size) := Lib.hid (by have := g7.size; simpa using this)
      replace hv0 : Hid (RInts w7 (.slice a0 x0.length c0) x0) := Lib.hid (RSlice.mono keeps_int g7 hv0.out)
      replace hv1 : Hid (RInts w7 (.slice a1 x1.length c1) x1) := Lib.hid (RSlice.mono keeps_int g7 hv1.out)
      replace hw0 : Hid (RInts w7 (.slice aw0 nw0 cw0) (subL x0 x1)) := Lib.hid (RSlice.mono keeps_int g7 hw0.out)
      replace hx0 : Hid (PInts (In w3.heap.size w4.heap.size) w7 (.slice ax0 nx0 cx0) x0) := Lib.hid (OSl.gr fr_int hx0.out g7)
      replace hx1 : Hid (PInts (In w4.heap.size w5.heap.size) w7 (.slice ax1 nx1 cx1) x1) := Lib.hid (OSl.gr fr_int hx1.out g7)
      replace hg0 : Hid (PInts (In w5.heap.size w6.heap.size) w7 (.slice ag0 ng0 cg0) (subL x0 x1)) := Lib.hid (OSl.gr fr_int hg0.out g7)
      replace gw : Hid (Gr w w7) := Lib.hid (gw.out.trans g7)
      replace gv : Hid (Gr w3 w7) := Lib.hid (gv.out.trans g7)
      go_wp2_with fail
      refine (laws_toIntS_own _ x0 _ hv0.out HT0.out).mono ?_
      rintro e w8 ⟨_, rfl, ⟨ay0, ny0, cy0, rfl⟩, g8, r_hy0⟩
      have Z8 : Hid (w7.heap.size + 0 ≤ w8.heap.size) := Lib.hid (by have := g8.size; simpa using this)
      replace hv0 : Hid (RInts w8 (.slice a0 x0.length c0) x0) := Lib.hid (RSlice.mono keeps_int g8 hv0.out)
      replace hv1 : Hid (RInts w8 (.slice a1 x1.length c1) x1) := Lib.hid (RSlice.mono keeps_int g8 hv1.out)
      replace hw0 : Hid (RInts w8 (.slice aw0 nw0 cw0) (subL x0 x1)) := Lib.hid (RSlice.mono keeps_int g8 hw0.out)
      replace hx0 : Hid (PInts (In w3.heap.size w4.heap.size) w8 (.slice ax0 nx0 cx0) x0) := Lib.hid (OSl.gr fr_int hx0.out g8)
      replace hx1 : Hid (PInts (In w4.heap.size w5.heap.size) w8 (.slice ax1 nx1 cx1) x1) := Lib.hid (OSl.gr fr_int hx1.out g8)
      replace hg0 : Hid (PInts (In w5.heap.size w6.heap.size) w8 (.slice ag0 ng0 cg0) (subL x0 x1)) := Lib.hid (OSl.gr fr_int hg0.out g8)
      replace gw : Hid (Gr w w8) := Lib.hid (gw.out.trans g8)
      replace gv : Hid (Gr w3 w8) := Lib.hid (gv.out.trans g8)
      have hy0 : Hid (PInts (In w7.heap.size w8.heap.size) w8 (.slice ay0 ny0 cy0) x0) := Lib.hid (r_hy0.wide (by simp) (by omega))
      clear r_hy0
      go_wp2_with fail
      refine (laws_eqIntS_same _ _ x0 _ (rd_pints hx0.out) (rd_pints hy0.out)).mono ?_
      rintro e w9 ⟨rfl, g9⟩
      have Z9 : Hid (w8.heap.size + 0 ≤ w9.heap.size) := Lib.hid (by have := g9.size; simpa using this)
      replace hv0 : Hid (RInts w9 (.slice a0 x0.length c0) x0) := Lib.hid (RSlice.mono keeps_int g9 hv0.out)
      replace hv1 : Hid (RInts w9 (.slice a1 x1.length c1) x1) := Lib.hid (RSlice.mono keeps_int g9 hv1.out)
      replace hw0 : Hid (RInts w9 (.slice aw0 nw0 cw0) (subL x0 x1)) := Lib.hid (RSlice.mono keeps_int g9 hw0.out)
      replace hx0 : Hid (PInts (In w3.heap.size w4.heap.size) w9 (.slice ax0 nx0 cx0) x0) := Lib.hid (OSl.gr fr_int hx0.out g9)
      replace hx1 : Hid (PInts (In w4.heap.size w5.heap.size) w9 (.slice ax1 nx1 cx1) x1) := Lib.hid (OSl.gr fr_int hx1.out g9)
      replace hg0 : Hid (PInts (In w5.heap.size w6.heap.size) w9 (.slice ag0 ng0 cg0) (subL x0 x1)) := Lib.hid (OSl.gr fr_int hg0.out g9)
      replace hy0 : Hid (PInts (In w7.heap.size w8.heap.size) w9 (.slice ay0 ny0 cy0) x0) := Lib.hid (OSl.gr fr_int hy0.out g9)
      replace gw : Hid (Gr w w9) := Lib.hid (gw.out.trans g9)
      replace gv : Hid (Gr w3 w9) := Lib.hid (gv.out.trans g9)
      clear hy0
      go_wp2_with fail
      refine (laws_toIntS_own _ x1 _ hv1.out HT1.out).mono ?_
      rintro e w10 ⟨_, rfl, ⟨ay1, ny1, cy1, rfl⟩, g10, r_hy1⟩
      have Z10 : Hid (w9.heap.size + 0 ≤ w10.heap.size) := Lib.hid (by have := g10.size; simpa using this)
      replace hv0 : Hid (RInts w10 (.slice a0 x0.length c0) x0) := Lib.hid (RSlice.mono keeps_int g10 hv0.out)
      replace hv1 : Hid (RInts w10 (.slice a1 x1.length c1) x1) := Lib.hid (RSlice.mono keeps_int g10 hv1.out)
      replace hw0 : Hid (RInts w10 (.slice aw0 nw0 cw0) (subL x0 x1)) := Lib.hid (RSlice.mono keeps_int g10 hw0.out)
      replace hx0 : Hid (PInts (In w3.heap.size w4.heap.size) w10 (.slice ax0 nx0 cx0) x0) := Lib.hid (OSl.gr fr_int hx0.out g10)
      replace hx1 : Hid (PInts (In w4.heap.size w5.heap.size) w10 (.slice ax1 nx1 cx1) x1) := Lib.hid (OSl.gr fr_int hx1.out g10)
      replace hg0 : Hid (PInts (In w5.heap.size w6.heap.size) w10 (.slice ag0 ng0 cg0) (subL x0 x1)) := Lib.hid (OSl.gr fr_int hg0.out g10)
      replace gw : Hid (Gr w w10) := Lib.hid (gw.out.trans g10)
      replace gv : Hid (Gr w3 w10) := Lib.hid (gv.out.trans g10)
      have hy1 : Hid (PInts (In w9.heap.size w10.heap.size) w10 (.slice ay1 ny1 cy1) x1) := Lib.hid (r_hy1.wide (by simp) (by omega))
      clear r_hy1
      go_wp2_with fail
      refine (laws_eqIntS_same _ _ x1 _ (rd_pints hx1.out) (rd_pints hy1.out)).mono ?_
      rintro e w11 ⟨rfl, g11⟩
      have Z11 : Hid (w10.heap.size + 0 ≤ w11.heap.size) := Lib.hid (by have := g11.size; simpa using this)
      replace hv0 : Hid (RInts w11 (.slice a0 x0.length c0) x0) := Lib.hid (RSlice.mono keeps_int g11 hv0.out)
      replace hv1 : Hid (RInts w11 (.slice a1 x1.length c1) x1) := Lib.hid (RSlice.mono keeps_int g11 hv1.out)
      replace hw0 : Hid (RInts w11 (.slice aw0 nw0 cw0) (subL x0 x1)) := Lib.hid (RSlice.mono keeps_int g11 hw0.out)
      replace hx0 : Hid (PInts (In w3.heap.size w4.heap.size) w11 (.slice ax0 nx0 cx0) x0) := Lib.hid (OSl.gr fr_int hx0.out g11)
      replace hx1 : Hid (PInts (In w4.heap.size w5.heap.size) w11 (.slice ax1 nx1 cx1) x1) := Lib.hid (OSl.gr fr_int hx1.out g11)
      replace hg0 : Hid (PInts (In w5.heap.size w6.heap.size) w11 (.slice ag0 ng0 cg0) (subL x0 x1)) := Lib.hid (OSl.gr fr_int hg0.out g11)
      replace hy1 : Hid (PInts (In w9.heap.size w10.heap.size) w11 (.slice ay1 ny1 cy1) x1) := Lib.hid (OSl.gr fr_int hy1.out g11)
      replace gw : Hid (Gr w w11) := Lib.hid (gw.out.trans g11)
      replace gv : Hid (Gr w3 w11) := Lib.hid (gv.out.trans g11)
      clear hy1
      have cb0 := HQ0.out
      have cm0 := cnt_IntS x0
      go_wp2_with fail
      refine (laws_markIntS (In w3.heap.size w4.heap.size) _ x0 (1 : Int) _ hx0.out (by omega) (by omega)).mono ?_
      rintro e wm0 ⟨rfl, _, dm0⟩
      have Z12 : Hid (w11.heap.size ≤ wm0.heap.size) := Lib.hid dm0.size
      replace gw : Hid (Gr w wm0) := Lib.hid (Gr.trans' gw.out (dm0.below (fun b hb => by have := Z1.out; have := Z2.out; have := Z3.out; have := ZV.out; have := Z4.out; have := Z5.out; have := Z6.out; have := Z7.out; have := Z8.out; have := Z9.out; have := Z10.out; have := Z11.out; have := Z12.out; have := hb.1; omega) (gw.out.size)))
      replace gv : Hid (Gr w3 wm0) := Lib.hid (Gr.trans' gv.out (dm0.below (fun b hb => by have := Z1.out; have := Z2.out; have := Z3.out; have := ZV.out; have := Z4.out; have := Z5.out; have := Z6.out; have := Z7.out; have := Z8.out; have := Z9.out; have := Z10.out; have := Z11.out; have := Z12.out; have := hb.1; omega) (gv.out.size)))
      replace hv0 : Hid (RInts wm0 (.slice a0 x0.length c0) x0) := Lib.hid (RSlice.mono keeps_int gw.out Bhv0.out)
      replace hv1 : Hid (RInts wm0 (.slice a1 x1.length c1) x1) := Lib.hid (RSlice.mono keeps_int gw.out Bhv1.out)
      replace hw0 : Hid (RInts wm0 (.slice aw0 nw0 cw0) (subL x0 x1)) := Lib.hid (RSlice.mono keeps_int gv.out Bhw0.out)
      replace hx1 : Hid (PInts (In w4.heap.size w5.heap.size) wm0 (.slice ax1 nx1 cx1) x1) := Lib.hid (OSl.frame fr_int hx1.out (dm0.agree fun b hb hc => by have := Z1.out; have := Z2.out; have := Z3.out; have := ZV.out; have := Z4.out; have := Z5.out; have := Z6.out; have := Z7.out; have := Z8.out; have := Z9.out; have := Z10.out; have := Z11.out; have := Z12.out; have := hb.1; have := hb.2; have := hc.1; have := hc.2; omega))
      replace hg0 : Hid (PInts (In w5.heap.size w6.heap.size) wm0 (.slice ag0 ng0 cg0) (subL x0 x1)) := Lib.hid (OSl.frame fr_int hg0.out (dm0.agree fun b hb hc => by have := Z1.out; have := Z2.out; have := Z3.out; have := ZV.out; have := Z4.out; have := Z5.out; have := Z6.out; have := Z7.out; have := Z8.out; have := Z9.out; have := Z10.out; have := Z11.out; have := Z12.out; have := hb.1; have := hb.2; have := hc.1; have := hc.2; omega))
      clear hx0
      have cu0 : 0 ≤ ((1 : Int) + (sumT cntI x0 : Int)) := by omega
      have cb1 := HQ1.out
      have cm1 := cnt_IntS x1
      go_wp2_with fail
      refine (laws_markIntS (In w4.heap.size w5.heap.size) _ x1 ((1 : Int) + (sumT cntI x0 : Int)) _ hx1.out (by omega) (by omega)).mono ?_
      rintro e wm1 ⟨rfl, _, dm1⟩
      have Z13 : Hid (wm0.heap.size ≤ wm1.heap.size) := Lib.hid dm1.size
      replace gw : Hid (Gr w wm1) := Lib.hid (Gr.trans' gw.out (dm1.below (fun b hb => by have := Z1.out; have := Z2.out; have := Z3.out; have := ZV.out; have := Z4.out; have := Z5.out; have := Z6.out; have := Z7.out; have := Z8.out; have := Z9.out; have := Z10.out; have := Z11.out; have := Z12.out; have := Z13.out; have := hb.1; omega) (gw.out.size)))
      replace gv : Hid (Gr w3 wm1) := Lib.hid (Gr.trans' gv.out (dm1.below (fun b hb => by have := Z1.out; have := Z2.out; have := Z3.out; have := ZV.out; have := Z4.out; have := Z5.out; have := Z6.out; have := Z7.out; have := Z8.out; have := Z9.out; have := Z10.out; have := Z11.out; have := Z12.out; have := Z13.out; have := hb.1; omega) (gv.out.size)))
      replace hv0 : Hid (RInts wm1 (.slice a0 x0.length c0) x0) := Lib.hid (RSlice.mono keeps_int gw.out Bhv0.out)
      replace hv1 : Hid (RInts wm1 (.slice a1 x1.length c1) x1) := Lib.hid (RSlice.mono keeps_int gw.out Bhv1.out)
      replace hw0 : Hid (RInts wm1 (.slice aw0 nw0 cw0) (subL x0 x1)) := Lib.hid (RSlice.mono keeps_int gv.out Bhw0.out)
      replace hg0 : Hid (PInts (In w5.heap.size w6.heap.size) wm1 (.slice ag0 ng0 cg0) (subL x0 x1)) := Lib.hid (OSl.frame fr_int hg0.out (dm1.agree fun b hb hc => by have := Z1.out; have := Z2.out; have := Z3.out; have := ZV.out; have := Z4.out; have := Z5.out; have := Z6.out; have := Z7.out; have := Z8.out; have := Z9.out; have := Z10.out; have := Z11.out; have := Z12.out; have := Z13.out; have := hb.1; have := hb.2; have := hc.1; have := hc.2; omega))
      clear hx1
      have cu1 : 0 ≤ (((1 : Int) + (sumT cntI x0 : Int)) + (sumT cntI x1 : Int)) := by omega
      go_wp2_with fail
      refine (laws_eqIntS_same _ _ (subL x0 x1) _ (rd_pints hg0.out) hw0.out).mono ?_
      rintro e w14 ⟨rfl, g14⟩
      have Z14 : Hid (wm1.heap.size + 0 ≤ w14.heap.size) := Lib.hid (by have := g14.size; simpa using this)
      replace hv0 : Hid (RInts w14 (.slice a0 x0.length c0) x0) := Lib.hid (RSlice.mono keeps_int g14 hv0.out)
      replace hv1 : Hid (RInts w14 (.slice a1 x1.length c1) x1) := Lib.hid (RSlice.mono keeps_int g14 hv1.out)
      replace hw0 : Hid (RInts w14 (.slice aw0 nw0 cw0) (subL x0 x1)) := Lib.hid (RSlice.mono keeps_int g14 hw0.out)
      replace hg0 : Hid (PInts (In w5.heap.size w6.heap.size) w14 (.slice ag0 ng0 cg0) (subL x0 x1)) := Lib.hid (OSl.gr fr_int hg0.out g14)
      replace gw : Hid (Gr w w14) := Lib.hid (gw.out.trans g14)
      replace gv : Hid (Gr w3 w14) := Lib.hid (gv.out.trans g14)
      have HBR := Lib.hid (show (1 : Int) + (sumT cntI (subL x0 x1) : Int) ≤ 4611686018427387904 from by have := subL_small x0 x1; omega)
      have hbr := HBR.out
      go_wp2_with fail
      refine (laws_markIntS (In w5.heap.size w6.heap.size) _ (subL x0 x1) (1 : Int) _ hg0.out (by omega) (by omega)).mono ?_
      rintro e wg0 ⟨rfl, qhg0, dg0⟩
      have Z15 : Hid (w14.heap.size ≤ wg0.heap.size) := Lib.hid dg0.size
      replace gw : Hid (Gr w wg0) := Lib.hid (Gr.trans' gw.out (dg0.below (fun b hb => by have := Z1.out; have := Z2.out; have := Z3.out; have := ZV.out; have := Z4.out; have := Z5.out; have := Z6.out; have := Z7.out; have := Z8.out; have := Z9.out; have := Z10.out; have := Z11.out; have := Z12.out; have := Z13.out; have := Z14.out; have := Z15.out; have := hb.1; omega) (gw.out.size)))
      replace gv : Hid (Gr w3 wg0) := Lib.hid (Gr.trans' gv.out (dg0.below (fun b hb => by have := Z1.out; have := Z2.out; have := Z3.out; have := ZV.out; have := Z4.out; have := Z5.out; have := Z6.out; have := Z7.out; have := Z8.out; have := Z9.out; have := Z10.out; have := Z11.out; have := Z12.out; have := Z13.out; have := Z14.out; have := Z15.out; have := hb.1; omega) (gv.out.size)))
      replace hv0 : Hid (RInts wg0 (.slice a0 x0.length c0) x0) := Lib.hid (RSlice.mono keeps_int gw.out Bhv0.out)
      replace hv1 : Hid (RInts wg0 (.slice a1 x1.length c1) x1) := Lib.hid (RSlice.mono keeps_int gw.out Bhv1.out)
      replace hw0 : Hid (RInts wg0 (.slice aw0 nw0 cw0) (subL x0 x1)) := Lib.hid (RSlice.mono keeps_int gv.out Bhw0.out)
      clear hg0
      have Mhg0 : Hid (RInts wg0 (.slice ag0 ng0 cg0) (marksTo mkI cntI (1 : Int) (subL x0 x1).length (subL x0 x1))) := Lib.hid (rd_pints qhg0)
      clear qhg0
      have hcg0 : 0 ≤ ((1 : Int) + (sumT cntI (subL x0 x1) : Int)) := by omega
      have ef : (((1 : Int) + (sumT cntI (subL x0 x1) : Int)) != ((1 : Int) + (sumT cntI (subL x0 x1) : Int))) = false := by simp
      go_wp2_with fail
      refine (laws_heldIntS _ (subL x0 x1) (1 : Int) _ Mhg0.out (by omega) (by omega)).mono ?_
      rintro e w16 ⟨rfl, g16⟩
      have Z16 : Hid (wg0.heap.size + 0 ≤ w16.heap.size) := Lib.hid (by have := g16.size; simpa using this)
      replace hv0 : Hid (RInts w16 (.slice a0 x0.length c0) x0) := Lib.hid (RSlice.mono keeps_int g16 hv0.out)
      replace hv1 : Hid (RInts w16 (.slice a1 x1.length c1) x1) := Lib.hid (RSlice.mono keeps_int g16 hv1.out)
      replace hw0 : Hid (RInts w16 (.slice aw0 nw0 cw0) (subL x0 x1)) := Lib.hid (RSlice.mono keeps_int g16 hw0.out)
      replace Mhg0 : Hid (RInts w16 (.slice ag0 ng0 cg0) (marksTo mkI cntI (1 : Int) (subL x0 x1).length (subL x0 x1))) := Lib.hid (RSlice.mono keeps_int g16 Mhg0.out)
      replace gw : Hid (Gr w w16) := Lib.hid (gw.out.trans g16)
      replace gv : Hid (Gr w3 w16) := Lib.hid (gv.out.trans g16)
      go_wp2_with fail
      refine (laws_toIntS_own _ x0 _ hv0.out HT0.out).mono ?_
      rintro e w17 ⟨_, rfl, ⟨az0, nz0, cz0, rfl⟩, g17, r_hz0⟩
      have Z17 : Hid (w16.heap.size + 0 ≤ w17.heap.size) := Lib.hid (by have := g17.size; simpa using this)
      replace hv0 : Hid (RInts w17 (.slice a0 x0.length c0) x0) := Lib.hid (RSlice.mono keeps_int g17 hv0.out)
      replace hv1 : Hid (RInts w17 (.slice a1 x1.length c1) x1) := Lib.hid (RSlice.mono keeps_int g17 hv1.out)
      replace hw0 : Hid (RInts w17 (.slice aw0 nw0 cw0) (subL x0 x1)) := Lib.hid (RSlice.mono keeps_int g17 hw0.out)
      replace Mhg0 : Hid (RInts w17 (.slice ag0 ng0 cg0) (marksTo mkI cntI (1 : Int) (subL x0 x1).length (subL x0 x1))) := Lib.hid (RSlice.mono keeps_int g17 Mhg0.out)
      replace gw : Hid (Gr w w17) := Lib.hid (gw.out.trans g17)
      replace gv : Hid (Gr w3 w17) := Lib.hid (gv.out.trans g17)
      have hz0 : Hid (PInts (In w16.heap.size w17.heap.size) w17 (.slice az0 nz0 cz0) x0) := Lib.hid (r_hz0.wide (by simp) (by omega))
      clear r_hz0
      go_wp2_with fail
      refine (laws_toIntS_own _ x1 _ hv1.out HT1.out).mono ?_
      rintro e w18 ⟨_, rfl, ⟨az1, nz1, cz1, rfl⟩, g18, r_hz1⟩
      have Z18 : Hid (w17.heap.size + 0 ≤ w18.heap.size) := Lib.hid (by have := g18.size; simpa using this)
      replace hv0 : Hid (RInts w18 (.slice a0 x0.length c0) x0) := Lib.hid (RSlice.mono keeps_int g18 hv0.out)
      replace hv1 : Hid (RInts w18 (.slice a1 x1.length c1) x1) := Lib.hid (RSlice.mono keeps_int g18 hv1.out)
      replace hw0 : Hid (RInts w18 (.slice aw0 nw0 cw0) (subL x0 x1)) := Lib.hid (RSlice.mono keeps_int g18 hw0.out)
      replace Mhg0 : Hid (RInts w18 (.slice ag0 ng0 cg0) (marksTo mkI cntI (1 : Int) (subL x0 x1).length (subL x0 x1))) := Lib.hid (RSlice.mono keeps_int g18 Mhg0.out)
      replace hz0 : Hid (PInts (In w16.heap.size w17.heap.size) w18 (.slice az0 nz0 cz0) x0) := Lib.hid (OSl.gr fr_int hz0.out g18)
      replace gw : Hid (Gr w w18) := Lib.hid (gw.out.trans g18)
      replace gv : Hid (Gr w3 w18) := Lib.hid (gv.out.trans g18)
      have hz1 : Hid (PInts (In w17.heap.size w18.heap.size) w18 (.slice az1 nz1 cz1) x1) := Lib.hid (r_hz1.wide (by simp) (by omega))
      clear r_hz1
      go_wp2_with fail
      refine (impl_SubtractSets _ x0 _ x1 _ (rd_pints hz0.out) (rd_pints hz1.out)).mono ?_
      rintro e w19 ⟨vh0, rfl, g19, r_hh0⟩
      have Z19 : Hid (w18.heap.size + 0 ≤ w19.heap.size) := Lib.hid (by have := g19.size; simpa using this)
      replace hv0 : Hid (RInts w19 (.slice a0 x0.length c0) x0) := Lib.hid (RSlice.mono keeps_int g19 hv0.out)
      replace hv1 : Hid (RInts w19 (.slice a1 x1.length c1) x1) := Lib.hid (RSlice.mono keeps_int g19 hv1.out)
      replace hw0 : Hid (RInts w19 (.slice aw0 nw0 cw0) (subL x0 x1)) := Lib.hid (RSlice.mono keeps_int g19 hw0.out)
      replace Mhg0 : Hid (RInts w19 (.slice ag0 ng0 cg0) (marksTo mkI cntI (1 : Int) (subL x0 x1).length (subL x0 x1))) := Lib.hid (RSlice.mono keeps_int g19 Mhg0.out)
      replace hz0 : Hid (PInts (In w16.heap.size w17.heap.size) w19 (.slice az0 nz0 cz0) x0) := Lib.hid (OSl.gr fr_int hz0.out g19)
      replace hz1 : Hid (PInts (In w17.heap.size w18.heap.size) w19 (.slice az1 nz1 cz1) x1) := Lib.hid (OSl.gr fr_int hz1.out g19)
      replace gw : Hid (Gr w w19) := Lib.hid (gw.out.trans g19)
      replace gv : Hid (Gr w3 w19) := Lib.hid (gv.out.trans g19)
      clear hz0
      clear hz1
      obtain ⟨ah0, nh0, ch0, rfl⟩ := r_hh0.isSl
      have hh0 : Hid (PInts (In w18.heap.size w19.heap.size) w19 (.slice ah0 nh0 ch0) (subL x0 x1)) := Lib.hid (r_hh0.wide (by simp) (by omega))
      clear r_hh0
      go_wp2_with fail
      refine (laws_eqIntS_same _ _ (subL x0 x1) _ (rd_pints hh0.out) hw0.out).mono ?_
      rintro e w20 ⟨rfl, g20⟩
      have Z20 : Hid (w19.heap.size + 0 ≤ w20.heap.size) := Lib.hid (by have := g20.size; simpa using this)
      replace hv0 : Hid (RInts w20 (.slice a0 x0.length c0) x0) := Lib.hid (RSlice.mono keeps_int g20 hv0.out)
      replace hv1 : Hid (RInts w20 (.slice a1 x1.length c1) x1) := Lib.hid (RSlice.mono keeps_int g20 hv1.out)
      replace hw0 : Hid (RInts w20 (.slice aw0 nw0 cw0) (subL x0 x1)) := Lib.hid (RSlice.mono keeps_int g20 hw0.out)
      replace Mhg0 : Hid (RInts w20 (.slice ag0 ng0 cg0) (marksTo mkI cntI (1 : Int) (subL x0 x1).length (subL x0 x1))) := Lib.hid (RSlice.mono keeps_int g20 Mhg0.out)
      replace hh0 : Hid (PInts (In w18.heap.size w19.heap.size) w20 (.slice ah0 nh0 ch0) (subL x0 x1)) := Lib.hid (OSl.gr fr_int hh0.out g20)
      replace gw : Hid (Gr w w20) := Lib.hid (gw.out.trans g20)
      replace gv : Hid (Gr w3 w20) := Lib.hid (gv.out.trans g20)
      go_wp2_with fail
      refine (laws_heldIntS _ (subL x0 x1) (1 : Int) _ Mhg0.out (by omega) (by omega)).mono ?_
      rintro e w21 ⟨rfl, g21⟩
      have Z21 : Hid (w20.heap.size + 0 ≤ w21.heap.size) := Lib.hid (by have := g21.size; simpa using this)
      replace hv0 : Hid (RInts w21 (.slice a0 x0.length c0) x0) := Lib.hid (RSlice.mono keeps_int g21 hv0.out)
      replace hv1 : Hid (RInts w21 (.slice a1 x1.length c1) x1) := Lib.hid (RSlice.mono keeps_int g21 hv1.out)
      replace hw0 : Hid (RInts w21 (.slice aw0 nw0 cw0) (subL x0 x1)) := Lib.hid (RSlice.mono keeps_int g21 hw0.out)
      replace Mhg0 : Hid (RInts w21 (.slice ag0 ng0 cg0) (marksTo mkI cntI (1 : Int) (subL x0 x1).length (subL x0 x1))) := Lib.hid (RSlice.mono keeps_int g21 Mhg0.out)
      replace hh0 : Hid (PInts (In w18.heap.size w19.heap.size) w21 (.slice ah0 nh0 ch0) (subL x0 x1)) := Lib.hid (OSl.gr fr_int hh0.out g21)
      replace gw : Hid (Gr w w21) := Lib.hid (gw.out.trans g21)
      replace gv : Hid (Gr w3 w21) := Lib.hid (gv.out.trans g21)
      go_wp2_with fail
      go_ret
      exact ⟨rfl, gw.out⟩
    · go_enter Try.func4, Try.ntmps4
      go_wp2_with fail
      go_ret
      exact ⟨rfl, Gr.refl _⟩
  · go_enter Try.func4, Try.ntmps4
    go_wp2_with fail
    go_ret
    exact ⟨rfl, Gr.refl _⟩
end Go.Proofs.Ytgadgidhomijpaa
