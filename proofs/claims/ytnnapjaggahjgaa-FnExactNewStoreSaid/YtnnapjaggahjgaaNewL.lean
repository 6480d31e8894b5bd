/- NewStore: the walk of the law. -/
import Derived.Test.YtnnapjaggahjgaaNewI
import Derived.Test.YtnnapjaggahjgaaMkRow
import Derived.Test.YtnnapjaggahjgaaMkStore
namespace Go.Proofs.Ytnnapjaggahjgaa
open Go.RowKit
-- mgen FnExactNewStore NewStore+HT0 Store,bool "(newL x0 n1);(newOk x0 n1)" "by have := newL_small x0 n1; have := HT0.out; omega" RowS int
set_option maxRecDepth 100000 in
set_option maxHeartbeats 1500000 in
theorem law_FnExactNewStore (w : World) (v0 : Value) (x0 : List DRow) (hv0 : RRows w v0 x0) (n1 : Int) (_ : I64 n1) : Calls Try.prog 6 #[v0, .int .i64 n1] w fun e w' => e = .returned (.bool true) ∧ Gr w w' := by
  obtain ⟨a0, c0, hve0⟩ := hv0.form
  subst hve0
  by_cases hs0 : ((totL totRow x0) : Int) ≤ (1048576 : Int)
  · have HZ0 := Lib.hid (szV_yes (t := (totL totRow x0)) (left := (1048576 : Int)) (by omega))
    have HA0 := Lib.hid (show (0 : Int) ≤ (1048576 : Int) ∧ (1048576 : Int) ≤ 1048576 from by omega)
    have HB0 := Lib.hid (show (0 : Int) ≤ (1048576 : Int) - ((totL totRow x0) : Int) ∧ (1048576 : Int) - ((totL totRow x0) : Int) ≤ 1048576 from by omega)
    have HT0 := Lib.hid (show (totL totRow x0) ≤ 4294967296 from by omega)
    have HQ0 : Hid ((totL totRow x0) ≤ 1048576) := Lib.hid (by omega)
    clear hs0
    go_enter Try.func6, Try.ntmps6
    have Bhv0 := Lib.hid hv0
    replace hv0 := Lib.hid hv0
    go_wp2_with fail
    refine (laws_szRowS _ _ x0 _ hv0.out HA0.out.1 HA0.out.2).mono ?_
    rintro e w1 ⟨rfl, g1⟩
    have Z1 : Hid (w.heap.size + 0 ≤ w1.heap.size) := Lib.hid (by have := g1.size; simpa using this)
    replace hv0 : Hid (RRows w1 (.slice a0 x0.length c0) x0) := Lib.hid (RSlice.mono keeps_row g1 hv0.out)
    have gw : Hid (Gr w w1) := Lib.hid g1
    rw [HZ0.out]
    have hB0 := HB0.out.1
    have hC0 := HB0.out.2
    go_wp2_with fail
    refine (laws_toRowS_own _ x0 _ hv0.out HT0.out).mono ?_
    rintro e w2 ⟨_, rfl, ⟨ap0, np0, cp0, rfl⟩, g2, r_hp0⟩
    have Z2 : Hid (w1.heap.size + 0 ≤ w2.heap.size) := Lib.hid (by have := g2.size; simpa using this)
    replace hv0 : Hid (RRows w2 (.slice a0 x0.length c0) x0) := Lib.hid (RSlice.mono keeps_row g2 hv0.out)
    replace gw : Hid (Gr w w2) := Lib.hid (gw.out.trans g2)
    have hp0 : Hid (PRows (In w1.heap.size w2.heap.size) w2 (.slice ap0 np0 cp0) x0) := Lib.hid (r_hp0.wide (by simp) (by omega))
    clear r_hp0
    go_wp2_with fail
    refine (spec_NewStore _ x0 n1 _ (rd_prows hp0.out) HT0.out).mono ?_
    rintro e w3 ⟨vw0_segs, rfl, r_hw0_segs, g3⟩
    have Z3 : Hid (w2.heap.size + 0 ≤ w3.heap.size) := Lib.hid (by have := g3.size; simpa using this)
    replace hv0 : Hid (RRows w3 (.slice a0 x0.length c0) x0) := Lib.hid (RSlice.mono keeps_row g3 hv0.out)
    replace hp0 : Hid (PRows (In w1.heap.size w2.heap.size) w3 (.slice ap0 np0 cp0) x0) := Lib.hid (OSl.gr fr_row hp0.out g3)
    replace gw : Hid (Gr w w3) := Lib.hid (gw.out.trans g3)
    clear hp0
    obtain ⟨aw0_segs, nw0_segs, cw0_segs, rfl⟩ := r_hw0_segs.isSl
    have hw0_segs : Hid (RVersionss w3 (.slice aw0_segs nw0_segs cw0_segs) (newL x0 n1).segs) := Lib.hid r_hw0_segs
    have Bhw0_segs := Lib.hid r_hw0_segs
    clear r_hw0_segs
    have gv : Hid (Gr w3 w3) := Lib.hid (Gr.refl _)
    have ZV : Hid (w.heap.size ≤ w3.heap.size) := Lib.hid gw.out.size
    go_wp2_with fail
    refine (laws_toRowS_own _ x0 _ (RSlice.mono keeps_row ((Gr.refl w3).alloc _) hv0.out) HT0.out).mono ?_
    rintro e w4 ⟨_, rfl, ⟨ax0, nx0, cx0, rfl⟩, g4, r_hx0⟩
    have gs4 : Gr w3 w4 := ((Gr.refl w3).alloc _).trans g4
    have Z4 : Hid (w3.heap.size + 1 ≤ w4.heap.size) := Lib.hid (by have := g4.size; simpa using this)
    replace hv0 : Hid (RRows w4 (.slice a0 x0.length c0) x0) := Lib.hid (RSlice.mono keeps_row gs4 hv0.out)
    replace hw0_segs : Hid (RVersionss w4 (.slice aw0_segs nw0_segs cw0_segs) (newL x0 n1).segs) := Lib.hid (RSlice.mono (keeps_of keeps_version) gs4 hw0_segs.out)
    replace gw : Hid (Gr w w4) := Lib.hid (gw.out.trans gs4)
    replace gv : Hid (Gr w3 w4) := Lib.hid (gv.out.trans gs4)
    have kw0_0 : w4.cell? ⟨w3.heap.size, 0, none⟩ = some (.slice aw0_segs nw0_segs cw0_segs) := g4.cellv (by simp [go_sem])
    have kw0_1 : w4.cell? ⟨w3.heap.size, 1, none⟩ = some (.int .i64 (newL x0 n1).now) := g4.cellv (by simp [go_sem])
    have bkw0_0 : Hid (w3.heap.size < w4.heap.size) := Lib.hid (by have := Z4.out; omega)
    have hx0 : Hid (PRows (In (w3.heap.size + 1) w4.heap.size) w4 (.slice ax0 nx0 cx0) x0) := Lib.hid (r_hx0.wide (by simp) (by omega))
    clear r_hx0
    go_wp2_with fail
    refine (impl_NewStore _ x0 n1 _ (rd_prows hx0.out) HT0.out).mono ?_
    rintro e w5 ⟨vg0_segs, rfl, g5, r_hg0_segs⟩
    have Z5 : Hid (w4.heap.size + 0 ≤ w5.heap.size) := Lib.hid (by have := g5.size; simpa using this)
    replace hv0 : Hid (RRows w5 (.slice a0 x0.length c0) x0) := Lib.hid (RSlice.mono keeps_row g5 hv0.out)
    replace hw0_segs : Hid (RVersionss w5 (.slice aw0_segs nw0_segs cw0_segs) (newL x0 n1).segs) := Lib.hid (RSlice.mono (keeps_of keeps_version) g5 hw0_segs.out)
    replace hx0 : Hid (PRows (In (w3.heap.size + 1) w4.heap.size) w5 (.slice ax0 nx0 cx0) x0) := Lib.hid (OSl.gr fr_row hx0.out g5)
    replace kw0_0 : w5.cell? ⟨w3.heap.size, 0, none⟩ = some (.slice aw0_segs nw0_segs cw0_segs) := g5.cellv kw0_0
    replace kw0_1 : w5.cell? ⟨w3.heap.size, 1, none⟩ = some (.int .i64 (newL x0 n1).now) := g5.cellv kw0_1
    replace gw : Hid (Gr w w5) := Lib.hid (gw.out.trans g5)
    replace gv : Hid (Gr w3 w5) := Lib.hid (gv.out.trans g5)
    obtain ⟨ag0_segs, ng0_segs, cg0_segs, rfl⟩ := r_hg0_segs.isSl
    have hg0_segs : Hid (PVersionss (In w4.heap.size w5.heap.size) w5 (.slice ag0_segs ng0_segs cg0_segs) (newL x0 n1).segs) := Lib.hid (r_hg0_segs.wide (by simp) (by omega))
    clear r_hg0_segs
    have Lkw0_0 := ((Gr.refl w5).alloc (.cells #[.slice ag0_segs ng0_segs cg0_segs, .int .i64 (newL x0 n1).now] 29)).cellv kw0_0
    have Lkw0_1 := ((Gr.refl w5).alloc (.cells #[.slice ag0_segs ng0_segs cg0_segs, .int .i64 (newL x0 n1).now] 29)).cellv kw0_1
    have ei1 : (((newOk x0 n1) : Bool) != (newOk x0 n1)) = false := by simp
    go_wp2_with fail
    refine (laws_eqStore (newL x0 n1) _ _ _ (RSlice.mono (keeps_of keeps_version) ((Gr.refl w5).alloc _) (rd_pversionss hg0_segs.out)) (RSlice.mono (keeps_of keeps_version) ((Gr.refl w5).alloc _) hw0_segs.out)).mono ?_
    rintro e w6 ⟨rfl, g6⟩
    have gs6 : Gr w5 w6 := ((Gr.refl w5).alloc _).trans g6
    have Z6 : Hid (w5.heap.size + 1 ≤ w6.heap.size) := Lib.hid (by have := g6.size; simpa using this)
    replace hv0 : Hid (RRows w6 (.slice a0 x0.length c0) x0) := Lib.hid (RSlice.mono keeps_row gs6 hv0.out)
    replace hw0_segs : Hid (RVersionss w6 (.slice aw0_segs nw0_segs cw0_segs) (newL x0 n1).segs) := Lib.hid (RSlice.mono (keeps_of keeps_version) gs6 hw0_segs.out)
    replace hx0 : Hid (PRows (In (w3.heap.size + 1) w4.heap.size) w6 (.slice ax0 nx0 cx0) x0) := Lib.hid (OSl.gr fr_row hx0.out gs6)
    replace hg0_segs : Hid (PVersionss (In w4.heap.size w5.heap.size) w6 (.slice ag0_segs ng0_segs cg0_segs) (newL x0 n1).segs) := Lib.hid (OSl.gr (fr_of fr_version) hg0_segs.out gs6)
    replace kw0_0 : w6.cell? ⟨w3.heap.size, 0, none⟩ = some (.slice aw0_segs nw0_segs cw0_segs) := gs6.cellv kw0_0
    replace kw0_1 : w6.cell? ⟨w3.heap.size, 1, none⟩ = some (.int .i64 (newL x0 n1).now) := gs6.cellv kw0_1
    replace gw : Hid (Gr w w6) := Lib.hid (gw.out.trans gs6)
    replace gv : Hid (Gr w3 w6) := Lib.hid (gv.out.trans gs6)
    have kg0_0 : w6.cell? ⟨w5.heap.size, 0, none⟩ = some (.slice ag0_segs ng0_segs cg0_segs) := g6.cellv (by simp [go_sem])
    have kg0_1 : w6.cell? ⟨w5.heap.size, 1, none⟩ = some (.int .i64 (newL x0 n1).now) := g6.cellv (by simp [go_sem])
    have bkg0_0 : Hid (w5.heap.size < w6.heap.size) := Lib.hid (by have := Z6.out; omega)
    clear Lkw0_0 Lkw0_1
    go_wp2_with fail
    refine (laws_toRowS_own _ x0 _ hv0.out HT0.out).mono ?_
    rintro e w7 ⟨_, rfl, ⟨ay0, ny0, cy0, rfl⟩, g7, r_hy0⟩
    have Z7 : Hid (w6.heap.size + 0 ≤ w7.heap.size) := Lib.hid (by have := g7.size; simpa using this)
    replace hv0 : Hid (RRows w7 (.slice a0 x0.length c0) x0) := Lib.hid (RSlice.mono keeps_row g7 hv0.out)
    replace hw0_segs : Hid (RVersionss w7 (.slice aw0_segs nw0_segs cw0_segs) (newL x0 n1).segs) := Lib.hid (RSlice.mono (keeps_of keeps_version) g7 hw0_segs.out)
    replace hx0 : Hid (PRows (In (w3.heap.size + 1) w4.heap.size) w7 (.slice ax0 nx0 cx0) x0) := Lib.hid (OSl.gr fr_row hx0.out g7)
    replace hg0_segs : Hid (PVersionss (In w4.heap.size w5.heap.size) w7 (.slice ag0_segs ng0_segs cg0_segs) (newL x0 n1).segs) := Lib.hid (OSl.gr (fr_of fr_version) hg0_segs.out g7)
    replace kw0_0 : w7.cell? ⟨w3.heap.size, 0, none⟩ = some (.slice aw0_segs nw0_segs cw0_segs) := g7.cellv kw0_0
    replace kw0_1 : w7.cell? ⟨w3.heap.size, 1, none⟩ = some (.int .i64 (newL x0 n1).now) := g7.cellv kw0_1
    replace kg0_0 : w7.cell? ⟨w5.heap.size, 0, none⟩ = some (.slice ag0_segs ng0_segs cg0_segs) := g7.cellv kg0_0
    replace kg0_1 : w7.cell? ⟨w5.heap.size, 1, none⟩ = some (.int .i64 (newL x0 n1).now) := g7.cellv kg0_1
    replace gw : Hid (Gr w w7) := Lib.hid (gw.out.trans g7)
    replace gv : Hid (Gr w3 w7) := Lib.hid (gv.out.trans g7)
    have hy0 : Hid (PRows (In w6.heap.size w7.heap.size) w7 (.slice ay0 ny0 cy0) x0) := Lib.hid (r_hy0.wide (by simp) (by omega))
    clear r_hy0
    go_wp2_with fail
    refine (laws_eqRowS_same _ _ x0 _ (rd_prows hx0.out) (rd_prows hy0.out)).mono ?_
    rintro e w8 ⟨rfl, g8⟩
    have Z8 : Hid (w7.heap.size + 0 ≤ w8.heap.size) := Lib.hid (by have := g8.size; simpa using this)
    replace hv0 : Hid (RRows w8 (.slice a0 x0.length c0) x0) := Lib.hid (RSlice.mono keeps_row g8 hv0.out)
    replace hw0_segs : Hid (RVersionss w8 (.slice aw0_segs nw0_segs cw0_segs) (newL x0 n1).segs) := Lib.hid (RSlice.mono (keeps_of keeps_version) g8 hw0_segs.out)
    replace hx0 : Hid (PRows (In (w3.heap.size + 1) w4.heap.size) w8 (.slice ax0 nx0 cx0) x0) := Lib.hid (OSl.gr fr_row hx0.out g8)
    replace hg0_segs : Hid (PVersionss (In w4.heap.size w5.heap.size) w8 (.slice ag0_segs ng0_segs cg0_segs) (newL x0 n1).segs) := Lib.hid (OSl.gr (fr_of fr_version) hg0_segs.out g8)
    replace hy0 : Hid (PRows (In w6.heap.size w7.heap.size) w8 (.slice ay0 ny0 cy0) x0) := Lib.hid (OSl.gr fr_row hy0.out g8)
    replace kw0_0 : w8.cell? ⟨w3.heap.size, 0, none⟩ = some (.slice aw0_segs nw0_segs cw0_segs) := g8.cellv kw0_0
    replace kw0_1 : w8.cell? ⟨w3.heap.size, 1, none⟩ = some (.int .i64 (newL x0 n1).now) := g8.cellv kw0_1
    replace kg0_0 : w8.cell? ⟨w5.heap.size, 0, none⟩ = some (.slice ag0_segs ng0_segs cg0_segs) := g8.cellv kg0_0
    replace kg0_1 : w8.cell? ⟨w5.heap.size, 1, none⟩ = some (.int .i64 (newL x0 n1).now) := g8.cellv kg0_1
    replace gw : Hid (Gr w w8) := Lib.hid (gw.out.trans g8)
    replace gv : Hid (Gr w3 w8) := Lib.hid (gv.out.trans g8)
    clear hy0
    have cb0 := HQ0.out
    have cm0 := cnt_RowS x0
    go_wp2_with fail
    refine (laws_markRowS (In (w3.heap.size + 1) w4.heap.size) _ x0 (1 : Int) _ hx0.out (by omega) (by omega)).mono ?_
    rintro e wm0 ⟨rfl, _, dm0⟩
    have Z9 : Hid (w8.heap.size ≤ wm0.heap.size) := Lib.hid dm0.size
    replace gw : Hid (Gr w wm0) := Lib.hid (Gr.trans' gw.out (dm0.below (fun b hb => by have := Z1.out; have := Z2.out; have := Z3.out; have := ZV.out; have := Z4.out; have := bkw0_0.out; have := Z5.out; have := Z6.out; have := bkg0_0.out; have := Z7.out; have := Z8.out; have := Z9.out; have := hb.1; omega) (gw.out.size)))
    replace gv : Hid (Gr w3 wm0) := Lib.hid (Gr.trans' gv.out (dm0.below (fun b hb => by have := Z1.out; have := Z2.out; have := Z3.out; have := ZV.out; have := Z4.out; have := bkw0_0.out; have := Z5.out; have := Z6.out; have := bkg0_0.out; have := Z7.out; have := Z8.out; have := Z9.out; have := hb.1; omega) (gv.out.size)))
    replace hv0 : Hid (RRows wm0 (.slice a0 x0.length c0) x0) := Lib.hid (RSlice.mono keeps_row gw.out Bhv0.out)
    replace hw0_segs : Hid (RVersionss wm0 (.slice aw0_segs nw0_segs cw0_segs) (newL x0 n1).segs) := Lib.hid (RSlice.mono (keeps_of keeps_version) gv.out Bhw0_segs.out)
    replace hg0_segs : Hid (PVersionss (In w4.heap.size w5.heap.size) wm0 (.slice ag0_segs ng0_segs cg0_segs) (newL x0 n1).segs) := Lib.hid (OSl.frame (fr_of fr_version) hg0_segs.out (dm0.agree fun b hb hc => by have := Z1.out; have := Z2.out; have := Z3.out; have := ZV.out; have := Z4.out; have := bkw0_0.out; have := Z5.out; have := Z6.out; have := bkg0_0.out; have := Z7.out; have := Z8.out; have := Z9.out; have := hb.1; have := hb.2; have := hc.1; have := hc.2; omega))
    replace kw0_0 : wm0.cell? ⟨w3.heap.size, 0, none⟩ = some (.slice aw0_segs nw0_segs cw0_segs) := (World.cell?_of_block (w := w8) (dm0.block _ (World.block_lt_of_cell? _ _ kw0_0) (fun hc => by have := Z1.out; have := Z2.out; have := Z3.out; have := ZV.out; have := Z4.out; have := bkw0_0.out; have := Z5.out; have := Z6.out; have := bkg0_0.out; have := Z7.out; have := Z8.out; have := Z9.out; have := hc.1; have := hc.2; dsimp only at *; omega))).trans kw0_0
    replace kw0_1 : wm0.cell? ⟨w3.heap.size, 1, none⟩ = some (.int .i64 (newL x0 n1).now) := (World.cell?_of_block (w := w8) (dm0.block _ (World.block_lt_of_cell? _ _ kw0_1) (fun hc => by have := Z1.out; have := Z2.out; have := Z3.out; have := ZV.out; have := Z4.out; have := bkw0_0.out; have := Z5.out; have := Z6.out; have := bkg0_0.out; have := Z7.out; have := Z8.out; have := Z9.out; have := hc.1; have := hc.2; dsimp only at *; omega))).trans kw0_1
    replace kg0_0 : wm0.cell? ⟨w5.heap.size, 0, none⟩ = some (.slice ag0_segs ng0_segs cg0_segs) := (World.cell?_of_block (w := w8) (dm0.block _ (World.block_lt_of_cell? _ _ kg0_0) (fun hc => by have := Z1.out; have := Z2.out; have := Z3.out; have := ZV.out; have := Z4.out; have := bkw0_0.out; have := Z5.out; have := Z6.out; have := bkg0_0.out; have := Z7.out; have := Z8.out; have := Z9.out; have := hc.1; have := hc.2; dsimp only at *; omega))).trans kg0_0
    replace kg0_1 : wm0.cell? ⟨w5.heap.size, 1, none⟩ = some (.int .i64 (newL x0 n1).now) := (World.cell?_of_block (w := w8) (dm0.block _ (World.block_lt_of_cell? _ _ kg0_1) (fun hc => by have := Z1.out; have := Z2.out; have := Z3.out; have := ZV.out; have := Z4.out; have := bkw0_0.out; have := Z5.out; have := Z6.out; have := bkg0_0.out; have := Z7.out; have := Z8.out; have := Z9.out; have := hc.1; have := hc.2; dsimp only at *; omega))).trans kg0_1
    clear hx0
    have cu0 : 0 ≤ ((1 : Int) + (sumT cntRow x0 : Int)) := by omega
    go_wp2_with fail
    refine (laws_eqStore (newL x0 n1) _ _ _ (rd_pversionss hg0_segs.out) hw0_segs.out).mono ?_
    rintro e w10 ⟨rfl, g10⟩
    have Z10 : Hid (wm0.heap.size + 0 ≤ w10.heap.size) := Lib.hid (by have := g10.size; simpa using this)
    replace hv0 : Hid (RRows w10 (.slice a0 x0.length c0) x0) := Lib.hid (RSlice.mono keeps_row g10 hv0.out)
    replace hw0_segs : Hid (RVersionss w10 (.slice aw0_segs nw0_segs cw0_segs) (newL x0 n1).segs) := Lib.hid (RSlice.mono (keeps_of keeps_version) g10 hw0_segs.out)
    replace hg0_segs : Hid (PVersionss (In w4.heap.size w5.heap.size) w10 (.slice ag0_segs ng0_segs cg0_segs) (newL x0 n1).segs) := Lib.hid (OSl.gr (fr_of fr_version) hg0_segs.out g10)
    replace kw0_0 : w10.cell? ⟨w3.heap.size, 0, none⟩ = some (.slice aw0_segs nw0_segs cw0_segs) := g10.cellv kw0_0
    replace kw0_1 : w10.cell? ⟨w3.heap.size, 1, none⟩ = some (.int .i64 (newL x0 n1).now) := g10.cellv kw0_1
    replace kg0_0 : w10.cell? ⟨w5.heap.size, 0, none⟩ = some (.slice ag0_segs ng0_segs cg0_segs) := g10.cellv kg0_0
    replace kg0_1 : w10.cell? ⟨w5.heap.size, 1, none⟩ = some (.int .i64 (newL x0 n1).now) := g10.cellv kg0_1
    replace gw : Hid (Gr w w10) := Lib.hid (gw.out.trans g10)
    replace gv : Hid (Gr w3 w10) := Lib.hid (gv.out.trans g10)
    have HBR := Lib.hid (show (1 : Int) + (sumT (sumT cntVersion) (newL x0 n1).segs : Int) ≤ 4611686018427387904 from by have := newL_small x0 n1; have := HT0.out; omega)
    have hbr := HBR.out
    go_wp2_with fail
    refine (laws_markStore (In w4.heap.size w5.heap.size) (newL x0 n1) _ (1 : Int) _ hg0_segs.out (fun b hb => by have := Z1.out; have := Z2.out; have := Z3.out; have := ZV.out; have := Z4.out; have := bkw0_0.out; have := Z5.out; have := Z6.out; have := bkg0_0.out; have := Z7.out; have := Z8.out; have := Z9.out; have := Z10.out; have := hb.2; omega) (by omega) (by omega)).mono ?_
    rintro e wg0 ⟨rfl, qhg0_segs, dg0⟩
    have Z11 : Hid (w10.heap.size ≤ wg0.heap.size) := Lib.hid dg0.size
    replace gw : Hid (Gr w wg0) := Lib.hid (Gr.trans' gw.out (dg0.below (fun b hb => by have := Z1.out; have := Z2.out; have := Z3.out; have := ZV.out; have := Z4.out; have := bkw0_0.out; have := Z5.out; have := Z6.out; have := bkg0_0.out; have := Z7.out; have := Z8.out; have := Z9.out; have := Z10.out; have := Z11.out; have := hb.1; omega) (gw.out.size)))
    replace gv : Hid (Gr w3 wg0) := Lib.hid (Gr.trans' gv.out (dg0.below (fun b hb => by have := Z1.out; have := Z2.out; have := Z3.out; have := ZV.out; have := Z4.out; have := bkw0_0.out; have := Z5.out; have := Z6.out; have := bkg0_0.out; have := Z7.out; have := Z8.out; have := Z9.out; have := Z10.out; have := Z11.out; have := hb.1; omega) (gv.out.size)))
    replace hv0 : Hid (RRows wg0 (.slice a0 x0.length c0) x0) := Lib.hid (RSlice.mono keeps_row gw.out Bhv0.out)
    replace hw0_segs : Hid (RVersionss wg0 (.slice aw0_segs nw0_segs cw0_segs) (newL x0 n1).segs) := Lib.hid (RSlice.mono (keeps_of keeps_version) gv.out Bhw0_segs.out)
    replace kw0_0 : wg0.cell? ⟨w3.heap.size, 0, none⟩ = some (.slice aw0_segs nw0_segs cw0_segs) := (World.cell?_of_block (w := w10) (dg0.block _ (World.block_lt_of_cell? _ _ kw0_0) (fun hc => by have := Z1.out; have := Z2.out; have := Z3.out; have := ZV.out; have := Z4.out; have := bkw0_0.out; have := Z5.out; have := Z6.out; have := bkg0_0.out; have := Z7.out; have := Z8.out; have := Z9.out; have := Z10.out; have := Z11.out; have := hc.1; have := hc.2; dsimp only at *; omega))).trans kw0_0
    replace kw0_1 : wg0.cell? ⟨w3.heap.size, 1, none⟩ = some (.int .i64 (newL x0 n1).now) := (World.cell?_of_block (w := w10) (dg0.block _ (World.block_lt_of_cell? _ _ kw0_1) (fun hc => by have := Z1.out; have := Z2.out; have := Z3.out; have := ZV.out; have := Z4.out; have := bkw0_0.out; have := Z5.out; have := Z6.out; have := bkg0_0.out; have := Z7.out; have := Z8.out; have := Z9.out; have := Z10.out; have := Z11.out; have := hc.1; have := hc.2; dsimp only at *; omega))).trans kw0_1
    replace kg0_0 : wg0.cell? ⟨w5.heap.size, 0, none⟩ = some (.slice ag0_segs ng0_segs cg0_segs) := (World.cell?_of_block (w := w10) (dg0.block _ (World.block_lt_of_cell? _ _ kg0_0) (fun hc => by have := Z1.out; have := Z2.out; have := Z3.out; have := ZV.out; have := Z4.out; have := bkw0_0.out; have := Z5.out; have := Z6.out; have := bkg0_0.out; have := Z7.out; have := Z8.out; have := Z9.out; have := Z10.out; have := Z11.out; have := hc.1; have := hc.2; dsimp only at *; omega))).trans kg0_0
    replace kg0_1 : wg0.cell? ⟨w5.heap.size, 1, none⟩ = some (.int .i64 (newL x0 n1).now) := (World.cell?_of_block (w := w10) (dg0.block _ (World.block_lt_of_cell? _ _ kg0_1) (fun hc => by have := Z1.out; have := Z2.out; have := Z3.out; have := ZV.out; have := Z4.out; have := bkw0_0.out; have := Z5.out; have := Z6.out; have := bkg0_0.out; have := Z7.out; have := Z8.out; have := Z9.out; have := Z10.out; have := Z11.out; have := hc.1; have := hc.2; dsimp only at *; omega))).trans kg0_1
    clear hg0_segs
    have Mhg0_segs : Hid (RVersionss wg0 (.slice ag0_segs ng0_segs cg0_segs) (marksTo markedVersion (sumT cntVersion) (1 : Int) (newL x0 n1).segs.length (newL x0 n1).segs)) := Lib.hid (rd_pversionss qhg0_segs)
    clear qhg0_segs
    have hcg0 : 0 ≤ ((1 : Int) + (sumT (sumT cntVersion) (newL x0 n1).segs : Int)) := by omega
    have ef : (((1 : Int) + (sumT (sumT cntVersion) (newL x0 n1).segs : Int)) != ((1 : Int) + (sumT (sumT cntVersion) (newL x0 n1).segs : Int))) = false := by simp
    go_wp2_with fail
    refine (laws_heldStore (newL x0 n1) _ (1 : Int) _ Mhg0_segs.out (by omega) (by omega)).mono ?_
    rintro e w12 ⟨rfl, g12⟩
    have Z12 : Hid (wg0.heap.size + 0 ≤ w12.heap.size) := Lib.hid (by have := g12.size; simpa using this)
    replace hv0 : Hid (RRows w12 (.slice a0 x0.length c0) x0) := Lib.hid (RSlice.mono keeps_row g12 hv0.out)
    replace hw0_segs : Hid (RVersionss w12 (.slice aw0_segs nw0_segs cw0_segs) (newL x0 n1).segs) := Lib.hid (RSlice.mono (keeps_of keeps_version) g12 hw0_segs.out)
    replace Mhg0_segs : Hid (RVersionss w12 (.slice ag0_segs ng0_segs cg0_segs) (marksTo markedVersion (sumT cntVersion) (1 : Int) (newL x0 n1).segs.length (newL x0 n1).segs)) := Lib.hid (RSlice.mono (keeps_of keeps_version) g12 Mhg0_segs.out)
    replace kw0_0 : w12.cell? ⟨w3.heap.size, 0, none⟩ = some (.slice aw0_segs nw0_segs cw0_segs) := g12.cellv kw0_0
    replace kw0_1 : w12.cell? ⟨w3.heap.size, 1, none⟩ = some (.int .i64 (newL x0 n1).now) := g12.cellv kw0_1
    replace kg0_0 : w12.cell? ⟨w5.heap.size, 0, none⟩ = some (.slice ag0_segs ng0_segs cg0_segs) := g12.cellv kg0_0
    replace kg0_1 : w12.cell? ⟨w5.heap.size, 1, none⟩ = some (.int .i64 (newL x0 n1).now) := g12.cellv kg0_1
    replace gw : Hid (Gr w w12) := Lib.hid (gw.out.trans g12)
    replace gv : Hid (Gr w3 w12) := Lib.hid (gv.out.trans g12)
    go_wp2_with fail
    refine (laws_toRowS_own _ x0 _ hv0.out HT0.out).mono ?_
    rintro e w13 ⟨_, rfl, ⟨az0, nz0, cz0, rfl⟩, g13, r_hz0⟩
    have Z13 : Hid (w12.heap.size + 0 ≤ w13.heap.size) := Lib.hid (by have := g13.size; simpa using this)
    replace hv0 : Hid (RRows w13 (.slice a0 x0.length c0) x0) := Lib.hid (RSlice.mono keeps_row g13 hv0.out)
    replace hw0_segs : Hid (RVersionss w13 (.slice aw0_segs nw0_segs cw0_segs) (newL x0 n1).segs) := Lib.hid (RSlice.mono (keeps_of keeps_version) g13 hw0_segs.out)
    replace Mhg0_segs : Hid (RVersionss w13 (.slice ag0_segs ng0_segs cg0_segs) (marksTo markedVersion (sumT cntVersion) (1 : Int) (newL x0 n1).segs.length (newL x0 n1).segs)) := Lib.hid (RSlice.mono (keeps_of keeps_version) g13 Mhg0_segs.out)
    replace kw0_0 : w13.cell? ⟨w3.heap.size, 0, none⟩ = some (.slice aw0_segs nw0_segs cw0_segs) := g13.cellv kw0_0
    replace kw0_1 : w13.cell? ⟨w3.heap.size, 1, none⟩ = some (.int .i64 (newL x0 n1).now) := g13.cellv kw0_1
    replace kg0_0 : w13.cell? ⟨w5.heap.size, 0, none⟩ = some (.slice ag0_segs ng0_segs cg0_segs) := g13.cellv kg0_0
    replace kg0_1 : w13.cell? ⟨w5.heap.size, 1, none⟩ = some (.int .i64 (newL x0 n1).now) := g13.cellv kg0_1
    replace gw : Hid (Gr w w13) := Lib.hid (gw.out.trans g13)
    replace gv : Hid (Gr w3 w13) := Lib.hid (gv.out.trans g13)
    have hz0 : Hid (PRows (In w12.heap.size w13.heap.size) w13 (.slice az0 nz0 cz0) x0) := Lib.hid (r_hz0.wide (by simp) (by omega))
    clear r_hz0
    go_wp2_with fail
    refine (impl_NewStore _ x0 n1 _ (rd_prows hz0.out) HT0.out).mono ?_
    rintro e w14 ⟨vh0_segs, rfl, g14, r_hh0_segs⟩
    have Z14 : Hid (w13.heap.size + 0 ≤ w14.heap.size) := Lib.hid (by have := g14.size; simpa using this)
    replace hv0 : Hid (RRows w14 (.slice a0 x0.length c0) x0) := Lib.hid (RSlice.mono keeps_row g14 hv0.out)
    replace hw0_segs : Hid (RVersionss w14 (.slice aw0_segs nw0_segs cw0_segs) (newL x0 n1).segs) := Lib.hid (RSlice.mono (keeps_of keeps_version) g14 hw0_segs.out)
    replace Mhg0_segs : Hid (RVersionss w14 (.slice ag0_segs ng0_segs cg0_segs) (marksTo markedVersion (sumT cntVersion) (1 : Int) (newL x0 n1).segs.length (newL x0 n1).segs)) := Lib.hid (RSlice.mono (keeps_of keeps_version) g14 Mhg0_segs.out)
    replace hz0 : Hid (PRows (In w12.heap.size w13.heap.size) w14 (.slice az0 nz0 cz0) x0) := Lib.hid (OSl.gr fr_row hz0.out g14)
    replace kw0_0 : w14.cell? ⟨w3.heap.size, 0, none⟩ = some (.slice aw0_segs nw0_segs cw0_segs) := g14.cellv kw0_0
    replace kw0_1 : w14.cell? ⟨w3.heap.size, 1, none⟩ = some (.int .i64 (newL x0 n1).now) := g14.cellv kw0_1
    replace kg0_0 : w14.cell? ⟨w5.heap.size, 0, none⟩ = some (.slice ag0_segs ng0_segs cg0_segs) := g14.cellv kg0_0
    replace kg0_1 : w14.cell? ⟨w5.heap.size, 1, none⟩ = some (.int .i64 (newL x0 n1).now) := g14.cellv kg0_1
    replace gw : Hid (Gr w w14) := Lib.hid (gw.out.trans g14)
    replace gv : Hid (Gr w3 w14) := Lib.hid (gv.out.trans g14)
    clear hz0
    obtain ⟨ah0_segs, nh0_segs, ch0_segs, rfl⟩ := r_hh0_segs.isSl
    have hh0_segs : Hid (PVersionss (In w13.heap.size w14.heap.size) w14 (.slice ah0_segs nh0_segs ch0_segs) (newL x0 n1).segs) := Lib.hid (r_hh0_segs.wide (by simp) (by omega))
    clear r_hh0_segs
    have Lkw0_0 := ((Gr.refl w14).alloc (.cells #[.slice ah0_segs nh0_segs ch0_segs, .int .i64 (newL x0 n1).now] 29)).cellv kw0_0
    have Lkw0_1 := ((Gr.refl w14).alloc (.cells #[.slice ah0_segs nh0_segs ch0_segs, .int .i64 (newL x0 n1).now] 29)).cellv kw0_1
    have Lkg0_0 := ((Gr.refl w14).alloc (.cells #[.slice ah0_segs nh0_segs ch0_segs, .int .i64 (newL x0 n1).now] 29)).cellv kg0_0
    have Lkg0_1 := ((Gr.refl w14).alloc (.cells #[.slice ah0_segs nh0_segs ch0_segs, .int .i64 (newL x0 n1).now] 29)).cellv kg0_1
    go_wp2_with fail
    refine (laws_eqStore (newL x0 n1) _ _ _ (RSlice.mono (keeps_of keeps_version) ((Gr.refl w14).alloc _) (rd_pversionss hh0_segs.out)) (RSlice.mono (keeps_of keeps_version) ((Gr.refl w14).alloc _) hw0_segs.out)).mono ?_
    rintro e w15 ⟨rfl, g15⟩
    have gs15 : Gr w14 w15 := ((Gr.refl w14).alloc _).trans g15
    have Z15 : Hid (w14.heap.size + 1 ≤ w15.heap.size) := Lib.hid (by have := g15.size; simpa using this)
    replace hv0 : Hid (RRows w15 (.slice a0 x0.length c0) x0) := Lib.hid (RSlice.mono keeps_row gs15 hv0.out)
    replace hw0_segs : Hid (RVersionss w15 (.slice aw0_segs nw0_segs cw0_segs) (newL x0 n1).segs) := Lib.hid (RSlice.mono (keeps_of keeps_version) gs15 hw0_segs.out)
    replace Mhg0_segs : Hid (RVersionss w15 (.slice ag0_segs ng0_segs cg0_segs) (marksTo markedVersion (sumT cntVersion) (1 : Int) (newL x0 n1).segs.length (newL x0 n1).segs)) := Lib.hid (RSlice.mono (keeps_of keeps_version) gs15 Mhg0_segs.out)
    replace hh0_segs : Hid (PVersionss (In w13.heap.size w14.heap.size) w15 (.slice ah0_segs nh0_segs ch0_segs) (newL x0 n1).segs) := Lib.hid (OSl.gr (fr_of fr_version) hh0_segs.out gs15)
    replace kw0_0 : w15.cell? ⟨w3.heap.size, 0, none⟩ = some (.slice aw0_segs nw0_segs cw0_segs) := gs15.cellv kw0_0
    replace kw0_1 : w15.cell? ⟨w3.heap.size, 1, none⟩ = some (.int .i64 (newL x0 n1).now) := gs15.cellv kw0_1
    replace kg0_0 : w15.cell? ⟨w5.heap.size, 0, none⟩ = some (.slice ag0_segs ng0_segs cg0_segs) := gs15.cellv kg0_0
    replace kg0_1 : w15.cell? ⟨w5.heap.size, 1, none⟩ = some (.int .i64 (newL x0 n1).now) := gs15.cellv kg0_1
    replace gw : Hid (Gr w w15) := Lib.hid (gw.out.trans gs15)
    replace gv : Hid (Gr w3 w15) := Lib.hid (gv.out.trans gs15)
    have kh0_0 : w15.cell? ⟨w14.heap.size, 0, none⟩ = some (.slice ah0_segs nh0_segs ch0_segs) := g15.cellv (by simp [go_sem])
    have kh0_1 : w15.cell? ⟨w14.heap.size, 1, none⟩ = some (.int .i64 (newL x0 n1).now) := g15.cellv (by simp [go_sem])
    have bkh0_0 : Hid (w14.heap.size < w15.heap.size) := Lib.hid (by have := Z15.out; omega)
    clear Lkw0_0 Lkw0_1 Lkg0_0 Lkg0_1
    go_wp2_with fail
    refine (laws_heldStore (newL x0 n1) _ (1 : Int) _ Mhg0_segs.out (by omega) (by omega)).mono ?_
    rintro e w16 ⟨rfl, g16⟩
    have Z16 : Hid (w15.heap.size + 0 ≤ w16.heap.size) := Lib.hid (by have := g16.size; simpa using this)
    replace hv0 : Hid (RRows w16 (.slice a0 x0.length c0) x0) := Lib.hid (RSlice.mono keeps_row g16 hv0.out)
    replace hw0_segs : Hid (RVersionss w16 (.slice aw0_segs nw0_segs cw0_segs) (newL x0 n1).segs) := Lib.hid (RSlice.mono (keeps_of keeps_version) g16 hw0_segs.out)
    replace Mhg0_segs : Hid (RVersionss w16 (.slice ag0_segs ng0_segs cg0_segs) (marksTo markedVersion (sumT cntVersion) (1 : Int) (newL x0 n1).segs.length (newL x0 n1).segs)) := Lib.hid (RSlice.mono (keeps_of keeps_version) g16 Mhg0_segs.out)
    replace hh0_segs : Hid (PVersionss (In w13.heap.size w14.heap.size) w16 (.slice ah0_segs nh0_segs ch0_segs) (newL x0 n1).segs) := Lib.hid (OSl.gr (fr_of fr_version) hh0_segs.out g16)
    replace kw0_0 : w16.cell? ⟨w3.heap.size, 0, none⟩ = some (.slice aw0_segs nw0_segs cw0_segs) := g16.cellv kw0_0
    replace kw0_1 : w16.cell? ⟨w3.heap.size, 1, none⟩ = some (.int .i64 (newL x0 n1).now) := g16.cellv kw0_1
    replace kg0_0 : w16.cell? ⟨w5.heap.size, 0, none⟩ = some (.slice ag0_segs ng0_segs cg0_segs) := g16.cellv kg0_0
    replace kg0_1 : w16.cell? ⟨w5.heap.size, 1, none⟩ = some (.int .i64 (newL x0 n1).now) := g16.cellv kg0_1
    replace kh0_0 : w16.cell? ⟨w14.heap.size, 0, none⟩ = some (.slice ah0_segs nh0_segs ch0_segs) := g16.cellv kh0_0
    replace kh0_1 : w16.cell? ⟨w14.heap.size, 1, none⟩ = some (.int .i64 (newL x0 n1).now) := g16.cellv kh0_1
    replace gw : Hid (Gr w w16) := Lib.hid (gw.out.trans g16)
    replace gv : Hid (Gr w3 w16) := Lib.hid (gv.out.trans g16)
    go_wp2_with fail
    go_ret
    exact ⟨rfl, gw.out⟩
  · have HZ0 := Lib.hid (szV_no (t := (totL totRow x0)) (left := (1048576 : Int)) (by omega))
    have HA0 := Lib.hid (show (0 : Int) ≤ (1048576 : Int) ∧ (1048576 : Int) ≤ 1048576 from by omega)
    clear hs0
    go_enter Try.func6, Try.ntmps6
    have Bhv0 := Lib.hid hv0
    replace hv0 := Lib.hid hv0
    go_wp2_with fail
    refine (laws_szRowS _ _ x0 _ hv0.out HA0.out.1 HA0.out.2).mono ?_
    rintro e w1 ⟨rfl, g1⟩
    have Z1 : Hid (w.heap.size + 0 ≤ w1.heap.size) := Lib.hid (by have := g1.size; simpa using this)
    replace hv0 : Hid (RRows w1 (.slice a0 x0.length c0) x0) := Lib.hid (RSlice.mono keeps_row g1 hv0.out)
    have gw : Hid (Gr w w1) := Lib.hid g1
    rw [HZ0.out]
    go_wp2_with fail
    go_ret
    exact ⟨rfl, gw.out⟩

-- endgen
end Go.Proofs.Ytnnapjaggahjgaa
