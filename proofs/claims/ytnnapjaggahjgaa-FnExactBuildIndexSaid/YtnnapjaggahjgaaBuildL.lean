/- BuildIndex: the walk of the law. -/
import Derived.Test.YtnnapjaggahjgaaBuildI
import Derived.Test.YtnnapjaggahjgaaBuildR
import Derived.Test.YtnnapjaggahjgaaMkIndex
import Derived.Test.YtnnapjaggahjgaaMkQuery
namespace Go.Proofs.Ytnnapjaggahjgaa
open Go.RowKit
-- mgen FnExactBuildIndex BuildIndex+HT0 Index "(buildL x0)" "by have := buildL_small x0; have := HT0.out; omega" QueryS
set_option maxRecDepth 100000 in
set_option maxHeartbeats 1500000 in
theorem law_FnExactBuildIndex (w : World) (v0 : Value) (x0 : List DQuery) (hv0 : RQueries w v0 x0) : Calls Try.prog 10 #[v0] w fun e w' => e = .returned (.bool true) ∧ Gr w w' := by
  obtain ⟨a0, c0, hve0⟩ := hv0.form
  subst hve0
  by_cases hs0 : ((totL totQuery x0) : Int) ≤ (1048576 : Int)
  · have HZ0 := Lib.hid (szV_yes (t := (totL totQuery x0)) (left := (1048576 : Int)) (by omega))
    have HA0 := Lib.hid (show (0 : Int) ≤ (1048576 : Int) ∧ (1048576 : Int) ≤ 1048576 from by omega)
    have HB0 := Lib.hid (show (0 : Int) ≤ (1048576 : Int) - ((totL totQuery x0) : Int) ∧ (1048576 : Int) - ((totL totQuery x0) : Int) ≤ 1048576 from by omega)
    have HT0 := Lib.hid (show (totL totQuery x0) ≤ 4294967296 from by omega)
    have HQ0 : Hid ((totL totQuery x0) ≤ 1048576) := Lib.hid (by omega)
    clear hs0
    go_enter Try.func10, Try.ntmps10
    have Bhv0 := Lib.hid hv0
    replace hv0 := Lib.hid hv0
    go_wp2_with fail
    refine (laws_szQueryS _ _ x0 _ hv0.out HA0.out.1 HA0.out.2).mono ?_
    rintro e w1 ⟨rfl, g1⟩
    have Z1 : Hid (w.heap.size + 0 ≤ w1.heap.size) := Lib.hid (by have := g1.size; simpa using this)
    replace hv0 : Hid (RQueries w1 (.slice a0 x0.length c0) x0) := Lib.hid (RSlice.mono keeps_query g1 hv0.out)
    have gw : Hid (Gr w w1) := Lib.hid g1
    rw [HZ0.out]
    have hB0 := HB0.out.1
    have hC0 := HB0.out.2
    go_wp2_with fail
    refine (laws_toQueryS_own _ x0 _ hv0.out HT0.out).mono ?_
    rintro e w2 ⟨_, rfl, ⟨ap0, np0, cp0, rfl⟩, g2, r_hp0⟩
    have Z2 : Hid (w1.heap.size + 0 ≤ w2.heap.size) := Lib.hid (by have := g2.size; simpa using this)
    replace hv0 : Hid (RQueries w2 (.slice a0 x0.length c0) x0) := Lib.hid (RSlice.mono keeps_query g2 hv0.out)
    replace gw : Hid (Gr w w2) := Lib.hid (gw.out.trans g2)
    have hp0 : Hid (PQueries (In w1.heap.size w2.heap.size) w2 (.slice ap0 np0 cp0) x0) := Lib.hid (r_hp0.wide (by simp) (by omega))
    clear r_hp0
    go_wp2_with fail
    refine (spec_BuildIndex _ x0 _ (rd_pqueries hp0.out) HT0.out).mono ?_
    rintro e w3 ⟨vw0_queries, vw0_fields, rfl, r_hw0_queries, r_hw0_fields, g3⟩
    have Z3 : Hid (w2.heap.size + 0 ≤ w3.heap.size) := Lib.hid (by have := g3.size; simpa using this)
    replace hv0 : Hid (RQueries w3 (.slice a0 x0.length c0) x0) := Lib.hid (RSlice.mono keeps_query g3 hv0.out)
    replace hp0 : Hid (PQueries (In w1.heap.size w2.heap.size) w3 (.slice ap0 np0 cp0) x0) := Lib.hid (OSl.gr fr_query hp0.out g3)
    replace gw : Hid (Gr w w3) := Lib.hid (gw.out.trans g3)
    clear hp0
    obtain ⟨aw0_queries, nw0_queries, cw0_queries, rfl⟩ := r_hw0_queries.isSl
    obtain ⟨aw0_fields, nw0_fields, cw0_fields, rfl⟩ := r_hw0_fields.isSl
    have hw0_queries : Hid (RQueries w3 (.slice aw0_queries nw0_queries cw0_queries) (buildL x0).queries) := Lib.hid r_hw0_queries
    have Bhw0_queries := Lib.hid r_hw0_queries
    clear r_hw0_queries
    have hw0_fields : Hid (RSpanss w3 (.slice aw0_fields nw0_fields cw0_fields) (buildL x0).fields) := Lib.hid r_hw0_fields
    have Bhw0_fields := Lib.hid r_hw0_fields
    clear r_hw0_fields
    have gv : Hid (Gr w3 w3) := Lib.hid (Gr.refl _)
    have ZV : Hid (w.heap.size ≤ w3.heap.size) := Lib.hid gw.out.size
    go_wp2_with fail
    refine (laws_toQueryS_own _ x0 _ (RSlice.mono keeps_query ((Gr.refl w3).alloc _) hv0.out) HT0.out).mono ?_
    rintro e w4 ⟨_, rfl, ⟨ax0, nx0, cx0, rfl⟩, g4, r_hx0⟩
    have gs4 : Gr w3 w4 := ((Gr.refl w3).alloc _).trans g4
    have Z4 : Hid (w3.heap.size + 1 ≤ w4.heap.size) := Lib.hid (by have := g4.size; simpa using this)
    replace hv0 : Hid (RQueries w4 (.slice a0 x0.length c0) x0) := Lib.hid (RSlice.mono keeps_query gs4 hv0.out)
    replace hw0_queries : Hid (RQueries w4 (.slice aw0_queries nw0_queries cw0_queries) (buildL x0).queries) := Lib.hid (RSlice.mono keeps_query gs4 hw0_queries.out)
    replace hw0_fields : Hid (RSpanss w4 (.slice aw0_fields nw0_fields cw0_fields) (buildL x0).fields) := Lib.hid (RSlice.mono (keeps_of keeps_span) gs4 hw0_fields.out)
    replace gw : Hid (Gr w w4) := Lib.hid (gw.out.trans gs4)
    replace gv : Hid (Gr w3 w4) := Lib.hid (gv.out.trans gs4)
    have kw0_0 : w4.cell? ⟨w3.heap.size, 0, none⟩ = some (.slice aw0_queries nw0_queries cw0_queries) := g4.cellv (by simp [go_sem])
    have kw0_1 : w4.cell? ⟨w3.heap.size, 1, none⟩ = some (.slice aw0_fields nw0_fields cw0_fields) := g4.cellv (by simp [go_sem])
    have bkw0_0 : Hid (w3.heap.size < w4.heap.size) := Lib.hid (by have := Z4.out; omega)
    have hx0 : Hid (PQueries (In (w3.heap.size + 1) w4.heap.size) w4 (.slice ax0 nx0 cx0) x0) := Lib.hid (r_hx0.wide (by simp) (by omega))
    clear r_hx0
    go_wp2_with fail
    refine (impl_BuildIndex _ x0 _ (rd_pqueries hx0.out) HT0.out).mono ?_
    rintro e w5 ⟨vg0_queries, vg0_fields, rfl, g5, mg, hmg, hng, r_hg0_queries, r_hg0_fields⟩
    have Z5 : Hid (w4.heap.size + 0 ≤ w5.heap.size) := Lib.hid (by have := g5.size; simpa using this)
    replace hv0 : Hid (RQueries w5 (.slice a0 x0.length c0) x0) := Lib.hid (RSlice.mono keeps_query g5 hv0.out)
    replace hw0_queries : Hid (RQueries w5 (.slice aw0_queries nw0_queries cw0_queries) (buildL x0).queries) := Lib.hid (RSlice.mono keeps_query g5 hw0_queries.out)
    replace hw0_fields : Hid (RSpanss w5 (.slice aw0_fields nw0_fields cw0_fields) (buildL x0).fields) := Lib.hid (RSlice.mono (keeps_of keeps_span) g5 hw0_fields.out)
    replace hx0 : Hid (PQueries (In (w3.heap.size + 1) w4.heap.size) w5 (.slice ax0 nx0 cx0) x0) := Lib.hid (OSl.gr fr_query hx0.out g5)
    replace kw0_0 : w5.cell? ⟨w3.heap.size, 0, none⟩ = some (.slice aw0_queries nw0_queries cw0_queries) := g5.cellv kw0_0
    replace kw0_1 : w5.cell? ⟨w3.heap.size, 1, none⟩ = some (.slice aw0_fields nw0_fields cw0_fields) := g5.cellv kw0_1
    replace gw : Hid (Gr w w5) := Lib.hid (gw.out.trans g5)
    replace gv : Hid (Gr w3 w5) := Lib.hid (gv.out.trans g5)
    obtain ⟨ag0_queries, ng0_queries, cg0_queries, rfl⟩ := r_hg0_queries.isSl
    obtain ⟨ag0_fields, ng0_fields, cg0_fields, rfl⟩ := r_hg0_fields.isSl
    have ZMg : Hid (w4.heap.size ≤ mg) := Lib.hid (by have := hmg; (try simp at this); omega)
    have hg0_queries : Hid (PQueries (In w4.heap.size mg) w5 (.slice ag0_queries ng0_queries cg0_queries) (buildL x0).queries) := Lib.hid (r_hg0_queries.wide (by simp) (by omega))
    clear r_hg0_queries
    have hg0_fields : Hid (PSpanss (In mg w5.heap.size) w5 (.slice ag0_fields ng0_fields cg0_fields) (buildL x0).fields) := Lib.hid (r_hg0_fields.wide (Nat.le_refl _) (by omega))
    clear r_hg0_fields
    have Lkw0_0 := ((Gr.refl w5).alloc (.cells #[.slice ag0_queries ng0_queries cg0_queries, .slice ag0_fields ng0_fields cg0_fields] 87)).cellv kw0_0
    have Lkw0_1 := ((Gr.refl w5).alloc (.cells #[.slice ag0_queries ng0_queries cg0_queries, .slice ag0_fields ng0_fields cg0_fields] 87)).cellv kw0_1
    go_wp2_with fail
    refine (laws_eqIndex (buildL x0) _ _ _ _ _ (RSlice.mono keeps_query ((Gr.refl w5).alloc _) (rd_pqueries hg0_queries.out)) (RSlice.mono (keeps_of keeps_span) ((Gr.refl w5).alloc _) (rd_pspanss hg0_fields.out)) (RSlice.mono keeps_query ((Gr.refl w5).alloc _) hw0_queries.out) (RSlice.mono (keeps_of keeps_span) ((Gr.refl w5).alloc _) hw0_fields.out)).mono ?_
    rintro e w6 ⟨rfl, g6⟩
    have gs6 : Gr w5 w6 := ((Gr.refl w5).alloc _).trans g6
    have Z6 : Hid (w5.heap.size + 1 ≤ w6.heap.size) := Lib.hid (by have := g6.size; simpa using this)
    replace hv0 : Hid (RQueries w6 (.slice a0 x0.length c0) x0) := Lib.hid (RSlice.mono keeps_query gs6 hv0.out)
    replace hw0_queries : Hid (RQueries w6 (.slice aw0_queries nw0_queries cw0_queries) (buildL x0).queries) := Lib.hid (RSlice.mono keeps_query gs6 hw0_queries.out)
    replace hw0_fields : Hid (RSpanss w6 (.slice aw0_fields nw0_fields cw0_fields) (buildL x0).fields) := Lib.hid (RSlice.mono (keeps_of keeps_span) gs6 hw0_fields.out)
    replace hx0 : Hid (PQueries (In (w3.heap.size + 1) w4.heap.size) w6 (.slice ax0 nx0 cx0) x0) := Lib.hid (OSl.gr fr_query hx0.out gs6)
    replace hg0_queries : Hid (PQueries (In w4.heap.size mg) w6 (.slice ag0_queries ng0_queries cg0_queries) (buildL x0).queries) := Lib.hid (OSl.gr fr_query hg0_queries.out gs6)
    replace hg0_fields : Hid (PSpanss (In mg w5.heap.size) w6 (.slice ag0_fields ng0_fields cg0_fields) (buildL x0).fields) := Lib.hid (OSl.gr (fr_of fr_span) hg0_fields.out gs6)
    replace kw0_0 : w6.cell? ⟨w3.heap.size, 0, none⟩ = some (.slice aw0_queries nw0_queries cw0_queries) := gs6.cellv kw0_0
    replace kw0_1 : w6.cell? ⟨w3.heap.size, 1, none⟩ = some (.slice aw0_fields nw0_fields cw0_fields) := gs6.cellv kw0_1
    replace gw : Hid (Gr w w6) := Lib.hid (gw.out.trans gs6)
    replace gv : Hid (Gr w3 w6) := Lib.hid (gv.out.trans gs6)
    have kg0_0 : w6.cell? ⟨w5.heap.size, 0, none⟩ = some (.slice ag0_queries ng0_queries cg0_queries) := g6.cellv (by simp [go_sem])
    have kg0_1 : w6.cell? ⟨w5.heap.size, 1, none⟩ = some (.slice ag0_fields ng0_fields cg0_fields) := g6.cellv (by simp [go_sem])
    have bkg0_0 : Hid (w5.heap.size < w6.heap.size) := Lib.hid (by have := Z6.out; omega)
    clear Lkw0_0 Lkw0_1
    go_wp2_with fail
    refine (laws_toQueryS_own _ x0 _ hv0.out HT0.out).mono ?_
    rintro e w7 ⟨_, rfl, ⟨ay0, ny0, cy0, rfl⟩, g7, r_hy0⟩
    have Z7 : Hid (w6.heap.size + 0 ≤ w7.heap.size) := Lib.hid (by have := g7.size; simpa using this)
    replace hv0 : Hid (RQueries w7 (.slice a0 x0.length c0) x0) := Lib.hid (RSlice.mono keeps_query g7 hv0.out)
    replace hw0_queries : Hid (RQueries w7 (.slice aw0_queries nw0_queries cw0_queries) (buildL x0).queries) := Lib.hid (RSlice.mono keeps_query g7 hw0_queries.out)
    replace hw0_fields : Hid (RSpanss w7 (.slice aw0_fields nw0_fields cw0_fields) (buildL x0).fields) := Lib.hid (RSlice.mono (keeps_of keeps_span) g7 hw0_fields.out)
    replace hx0 : Hid (PQueries (In (w3.heap.size + 1) w4.heap.size) w7 (.slice ax0 nx0 cx0) x0) := Lib.hid (OSl.gr fr_query hx0.out g7)
    replace hg0_queries : Hid (PQueries (In w4.heap.size mg) w7 (.slice ag0_queries ng0_queries cg0_queries) (buildL x0).queries) := Lib.hid (OSl.gr fr_query hg0_queries.out g7)
    replace hg0_fields : Hid (PSpanss (In mg w5.heap.size) w7 (.slice ag0_fields ng0_fields cg0_fields) (buildL x0).fields) := Lib.hid (OSl.gr (fr_of fr_span) hg0_fields.out g7)
    replace kw0_0 : w7.cell? ⟨w3.heap.size, 0, none⟩ = some (.slice aw0_queries nw0_queries cw0_queries) := g7.cellv kw0_0
    replace kw0_1 : w7.cell? ⟨w3.heap.size, 1, none⟩ = some (.slice aw0_fields nw0_fields cw0_fields) := g7.cellv kw0_1
    replace kg0_0 : w7.cell? ⟨w5.heap.size, 0, none⟩ = some (.slice ag0_queries ng0_queries cg0_queries) := g7.cellv kg0_0
    replace kg0_1 : w7.cell? ⟨w5.heap.size, 1, none⟩ = some (.slice ag0_fields ng0_fields cg0_fields) := g7.cellv kg0_1
    replace gw : Hid (Gr w w7) := Lib.hid (gw.out.trans g7)
    replace gv : Hid (Gr w3 w7) := Lib.hid (gv.out.trans g7)
    have hy0 : Hid (PQueries (In w6.heap.size w7.heap.size) w7 (.slice ay0 ny0 cy0) x0) := Lib.hid (r_hy0.wide (by simp) (by omega))
    clear r_hy0
    go_wp2_with fail
    refine (laws_eqQueryS_same _ _ x0 _ (rd_pqueries hx0.out) (rd_pqueries hy0.out)).mono ?_
    rintro e w8 ⟨rfl, g8⟩
    have Z8 : Hid (w7.heap.size + 0 ≤ w8.heap.size) := Lib.hid (by have := g8.size; simpa using this)
    replace hv0 : Hid (RQueries w8 (.slice a0 x0.length c0) x0) := Lib.hid (RSlice.mono keeps_query g8 hv0.out)
    replace hw0_queries : Hid (RQueries w8 (.slice aw0_queries nw0_queries cw0_queries) (buildL x0).queries) := Lib.hid (RSlice.mono keeps_query g8 hw0_queries.out)
    replace hw0_fields : Hid (RSpanss w8 (.slice aw0_fields nw0_fields cw0_fields) (buildL x0).fields) := Lib.hid (RSlice.mono (keeps_of keeps_span) g8 hw0_fields.out)
    replace hx0 : Hid (PQueries (In (w3.heap.size + 1) w4.heap.size) w8 (.slice ax0 nx0 cx0) x0) := Lib.hid (OSl.gr fr_query hx0.out g8)
    replace hg0_queries : Hid (PQueries (In w4.heap.size mg) w8 (.slice ag0_queries ng0_queries cg0_queries) (buildL x0).queries) := Lib.hid (OSl.gr fr_query hg0_queries.out g8)
    replace hg0_fields : Hid (PSpanss (In mg w5.heap.size) w8 (.slice ag0_fields ng0_fields cg0_fields) (buildL x0).fields) := Lib.hid (OSl.gr (fr_of fr_span) hg0_fields.out g8)
    replace hy0 : Hid (PQueries (In w6.heap.size w7.heap.size) w8 (.slice ay0 ny0 cy0) x0) := Lib.hid (OSl.gr fr_query hy0.out g8)
    replace kw0_0 : w8.cell? ⟨w3.heap.size, 0, none⟩ = some (.slice aw0_queries nw0_queries cw0_queries) := g8.cellv kw0_0
    replace kw0_1 : w8.cell? ⟨w3.heap.size, 1, none⟩ = some (.slice aw0_fields nw0_fields cw0_fields) := g8.cellv kw0_1
    replace kg0_0 : w8.cell? ⟨w5.heap.size, 0, none⟩ = some (.slice ag0_queries ng0_queries cg0_queries) := g8.cellv kg0_0
    replace kg0_1 : w8.cell? ⟨w5.heap.size, 1, none⟩ = some (.slice ag0_fields ng0_fields cg0_fields) := g8.cellv kg0_1
    replace gw : Hid (Gr w w8) := Lib.hid (gw.out.trans g8)
    replace gv : Hid (Gr w3 w8) := Lib.hid (gv.out.trans g8)
    clear hy0
    have cb0 := HQ0.out
    have cm0 := cnt_QueryS x0
    go_wp2_with fail
    refine (laws_markQueryS (In (w3.heap.size + 1) w4.heap.size) _ x0 (1 : Int) _ hx0.out (by omega) (by omega)).mono ?_
    rintro e wm0 ⟨rfl, _, dm0⟩
    have Z9 : Hid (w8.heap.size ≤ wm0.heap.size) := Lib.hid dm0.size
    replace gw : Hid (Gr w wm0) := Lib.hid (Gr.trans' gw.out (dm0.below (fun b hb => by have := Z1.out; have := Z2.out; have := Z3.out; have := ZV.out; have := Z4.out; have := bkw0_0.out; have := Z5.out; have := ZMg.out; have := Z6.out; have := bkg0_0.out; have := Z7.out; have := Z8.out; have := Z9.out; have := hb.1; omega) (gw.out.size)))
    replace gv : Hid (Gr w3 wm0) := Lib.hid (Gr.trans' gv.out (dm0.below (fun b hb => by have := Z1.out; have := Z2.out; have := Z3.out; have := ZV.out; have := Z4.out; have := bkw0_0.out; have := Z5.out; have := ZMg.out; have := Z6.out; have := bkg0_0.out; have := Z7.out; have := Z8.out; have := Z9.out; have := hb.1; omega) (gv.out.size)))
    replace hv0 : Hid (RQueries wm0 (.slice a0 x0.length c0) x0) := Lib.hid (RSlice.mono keeps_query gw.out Bhv0.out)
    replace hw0_queries : Hid (RQueries wm0 (.slice aw0_queries nw0_queries cw0_queries) (buildL x0).queries) := Lib.hid (RSlice.mono keeps_query gv.out Bhw0_queries.out)
    replace hw0_fields : Hid (RSpanss wm0 (.slice aw0_fields nw0_fields cw0_fields) (buildL x0).fields) := Lib.hid (RSlice.mono (keeps_of keeps_span) gv.out Bhw0_fields.out)
    replace hg0_queries : Hid (PQueries (In w4.heap.size mg) wm0 (.slice ag0_queries ng0_queries cg0_queries) (buildL x0).queries) := Lib.hid (OSl.frame fr_query hg0_queries.out (dm0.agree fun b hb hc => by have := Z1.out; have := Z2.out; have := Z3.out; have := ZV.out; have := Z4.out; have := bkw0_0.out; have := Z5.out; have := ZMg.out; have := Z6.out; have := bkg0_0.out; have := Z7.out; have := Z8.out; have := Z9.out; have := hb.1; have := hb.2; have := hc.1; have := hc.2; omega))
    replace hg0_fields : Hid (PSpanss (In mg w5.heap.size) wm0 (.slice ag0_fields ng0_fields cg0_fields) (buildL x0).fields) := Lib.hid (OSl.frame (fr_of fr_span) hg0_fields.out (dm0.agree fun b hb hc => by have := Z1.out; have := Z2.out; have := Z3.out; have := ZV.out; have := Z4.out; have := bkw0_0.out; have := Z5.out; have := ZMg.out; have := Z6.out; have := bkg0_0.out; have := Z7.out; have := Z8.out; have := Z9.out; have := hb.1; have := hb.2; have := hc.1; have := hc.2; omega))
    replace kw0_0 : wm0.cell? ⟨w3.heap.size, 0, none⟩ = some (.slice aw0_queries nw0_queries cw0_queries) := (World.cell?_of_block (w := w8) (dm0.block _ (World.block_lt_of_cell? _ _ kw0_0) (fun hc => by have := Z1.out; have := Z2.out; have := Z3.out; have := ZV.out; have := Z4.out; have := bkw0_0.out; have := Z5.out; have := ZMg.out; have := Z6.out; have := bkg0_0.out; have := Z7.out; have := Z8.out; have := Z9.out; have := hc.1; have := hc.2; dsimp only at *; omega))).trans kw0_0
    replace kw0_1 : wm0.cell? ⟨w3.heap.size, 1, none⟩ = some (.slice aw0_fields nw0_fields cw0_fields) := (World.cell?_of_block (w := w8) (dm0.block _ (World.block_lt_of_cell? _ _ kw0_1) (fun hc => by have := Z1.out; have := Z2.out; have := Z3.out; have := ZV.out; have := Z4.out; have := bkw0_0.out; have := Z5.out; have := ZMg.out; have := Z6.out; have := bkg0_0.out; have := Z7.out; have := Z8.out; have := Z9.out; have := hc.1; have := hc.2; dsimp only at *; omega))).trans kw0_1
    replace kg0_0 : wm0.cell? ⟨w5.heap.size, 0, none⟩ = some (.slice ag0_queries ng0_queries cg0_queries) := (World.cell?_of_block (w := w8) (dm0.block _ (World.block_lt_of_cell? _ _ kg0_0) (fun hc => by have := Z1.out; have := Z2.out; have := Z3.out; have := ZV.out; have := Z4.out; have := bkw0_0.out; have := Z5.out; have := ZMg.out; have := Z6.out; have := bkg0_0.out; have := Z7.out; have := Z8.out; have := Z9.out; have := hc.1; have := hc.2; dsimp only at *; omega))).trans kg0_0
    replace kg0_1 : wm0.cell? ⟨w5.heap.size, 1, none⟩ = some (.slice ag0_fields ng0_fields cg0_fields) := (World.cell?_of_block (w := w8) (dm0.block _ (World.block_lt_of_cell? _ _ kg0_1) (fun hc => by have := Z1.out; have := Z2.out; have := Z3.out; have := ZV.out; have := Z4.out; have := bkw0_0.out; have := Z5.out; have := ZMg.out; have := Z6.out; have := bkg0_0.out; have := Z7.out; have := Z8.out; have := Z9.out; have := hc.1; have := hc.2; dsimp only at *; omega))).trans kg0_1
    clear hx0
    have cu0 : 0 ≤ ((1 : Int) + (sumT cntQuery x0 : Int)) := by omega
    go_wp2_with fail
    refine (laws_eqIndex (buildL x0) _ _ _ _ _ (rd_pqueries hg0_queries.out) (rd_pspanss hg0_fields.out) hw0_queries.out hw0_fields.out).mono ?_
    rintro e w10 ⟨rfl, g10⟩
    have Z10 : Hid (wm0.heap.size + 0 ≤ w10.heap.size) := Lib.hid (by have := g10.size; simpa using this)
    replace hv0 : Hid (RQueries w10 (.slice a0 x0.length c0) x0) := Lib.hid (RSlice.mono keeps_query g10 hv0.out)
    replace hw0_queries : Hid (RQueries w10 (.slice aw0_queries nw0_queries cw0_queries) (buildL x0).queries) := Lib.hid (RSlice.mono keeps_query g10 hw0_queries.out)
    replace hw0_fields : Hid (RSpanss w10 (.slice aw0_fields nw0_fields cw0_fields) (buildL x0).fields) := Lib.hid (RSlice.mono (keeps_of keeps_span) g10 hw0_fields.out)
    replace hg0_queries : Hid (PQueries (In w4.heap.size mg) w10 (.slice ag0_queries ng0_queries cg0_queries) (buildL x0).queries) := Lib.hid (OSl.gr fr_query hg0_queries.out g10)
    replace hg0_fields : Hid (PSpanss (In mg w5.heap.size) w10 (.slice ag0_fields ng0_fields cg0_fields) (buildL x0).fields) := Lib.hid (OSl.gr (fr_of fr_span) hg0_fields.out g10)
    replace kw0_0 : w10.cell? ⟨w3.heap.size, 0, none⟩ = some (.slice aw0_queries nw0_queries cw0_queries) := g10.cellv kw0_0
    replace kw0_1 : w10.cell? ⟨w3.heap.size, 1, none⟩ = some (.slice aw0_fields nw0_fields cw0_fields) := g10.cellv kw0_1
    replace kg0_0 : w10.cell? ⟨w5.heap.size, 0, none⟩ = some (.slice ag0_queries ng0_queries cg0_queries) := g10.cellv kg0_0
    replace kg0_1 : w10.cell? ⟨w5.heap.size, 1, none⟩ = some (.slice ag0_fields ng0_fields cg0_fields) := g10.cellv kg0_1
    replace gw : Hid (Gr w w10) := Lib.hid (gw.out.trans g10)
    replace gv : Hid (Gr w3 w10) := Lib.hid (gv.out.trans g10)
    have HBR := Lib.hid (show (1 : Int) + (sumT cntQuery (buildL x0).queries : Int) + (sumT (sumT cntSpan) (buildL x0).fields : Int) ≤ 4611686018427387904 from by have := buildL_small x0; have := HT0.out; omega)
    have hbr := HBR.out
    go_wp2_with fail
    refine (laws_markIndex (In w4.heap.size mg) (In mg w5.heap.size) (buildL x0) _ _ (1 : Int) _ hg0_queries.out (fun b hb => by have := Z1.out; have := Z2.out; have := Z3.out; have := ZV.out; have := Z4.out; have := bkw0_0.out; have := Z5.out; have := ZMg.out; have := Z6.out; have := bkg0_0.out; have := Z7.out; have := Z8.out; have := Z9.out; have := Z10.out; have := hb.2; omega) hg0_fields.out (fun b hb => by have := Z1.out; have := Z2.out; have := Z3.out; have := ZV.out; have := Z4.out; have := bkw0_0.out; have := Z5.out; have := ZMg.out; have := Z6.out; have := bkg0_0.out; have := Z7.out; have := Z8.out; have := Z9.out; have := Z10.out; have := hb.2; omega) (fun b hb hc => by have := hb.2; have := hc.1; omega) (by omega) (by omega)).mono ?_
    rintro e wg0 ⟨rfl, qhg0_queries, qhg0_fields, dg0⟩
    have Z11 : Hid (w10.heap.size ≤ wg0.heap.size) := Lib.hid dg0.size
    replace gw : Hid (Gr w wg0) := Lib.hid (Gr.trans' gw.out (dg0.below (fun b hb => by have := Z1.out; have := Z2.out; have := Z3.out; have := ZV.out; have := Z4.out; have := bkw0_0.out; have := Z5.out; have := ZMg.out; have := Z6.out; have := bkg0_0.out; have := Z7.out; have := Z8.out; have := Z9.out; have := Z10.out; have := Z11.out; rcases hb with hb | hb <;> (have := hb.1; omega)) (gw.out.size)))
    replace gv : Hid (Gr w3 wg0) := Lib.hid (Gr.trans' gv.out (dg0.below (fun b hb => by have := Z1.out; have := Z2.out; have := Z3.out; have := ZV.out; have := Z4.out; have := bkw0_0.out; have := Z5.out; have := ZMg.out; have := Z6.out; have := bkg0_0.out; have := Z7.out; have := Z8.out; have := Z9.out; have := Z10.out; have := Z11.out; rcases hb with hb | hb <;> (have := hb.1; omega)) (gv.out.size)))
    replace hv0 : Hid (RQueries wg0 (.slice a0 x0.length c0) x0) := Lib.hid (RSlice.mono keeps_query gw.out Bhv0.out)
    replace hw0_queries : Hid (RQueries wg0 (.slice aw0_queries nw0_queries cw0_queries) (buildL x0).queries) := Lib.hid (RSlice.mono keeps_query gv.out Bhw0_queries.out)
    replace hw0_fields : Hid (RSpanss wg0 (.slice aw0_fields nw0_fields cw0_fields) (buildL x0).fields) := Lib.hid (RSlice.mono (keeps_of keeps_span) gv.out Bhw0_fields.out)
    replace kw0_0 : wg0.cell? ⟨w3.heap.size, 0, none⟩ = some (.slice aw0_queries nw0_queries cw0_queries) := (World.cell?_of_block (w := w10) (dg0.block _ (World.block_lt_of_cell? _ _ kw0_0) (fun hc => by have := Z1.out; have := Z2.out; have := Z3.out; have := ZV.out; have := Z4.out; have := bkw0_0.out; have := Z5.out; have := ZMg.out; have := Z6.out; have := bkg0_0.out; have := Z7.out; have := Z8.out; have := Z9.out; have := Z10.out; have := Z11.out; rcases hc with hc | hc <;> (have := hc.1; have := hc.2; dsimp only at *; omega)))).trans kw0_0
    replace kw0_1 : wg0.cell? ⟨w3.heap.size, 1, none⟩ = some (.slice aw0_fields nw0_fields cw0_fields) := (World.cell?_of_block (w := w10) (dg0.block _ (World.block_lt_of_cell? _ _ kw0_1) (fun hc => by have := Z1.out; have := Z2.out; have := Z3.out; have := ZV.out; have := Z4.out; have := bkw0_0.out; have := Z5.out; have := ZMg.out; have := Z6.out; have := bkg0_0.out; have := Z7.out; have := Z8.out; have := Z9.out; have := Z10.out; have := Z11.out; rcases hc with hc | hc <;> (have := hc.1; have := hc.2; dsimp only at *; omega)))).trans kw0_1
    replace kg0_0 : wg0.cell? ⟨w5.heap.size, 0, none⟩ = some (.slice ag0_queries ng0_queries cg0_queries) := (World.cell?_of_block (w := w10) (dg0.block _ (World.block_lt_of_cell? _ _ kg0_0) (fun hc => by have := Z1.out; have := Z2.out; have := Z3.out; have := ZV.out; have := Z4.out; have := bkw0_0.out; have := Z5.out; have := ZMg.out; have := Z6.out; have := bkg0_0.out; have := Z7.out; have := Z8.out; have := Z9.out; have := Z10.out; have := Z11.out; rcases hc with hc | hc <;> (have := hc.1; have := hc.2; dsimp only at *; omega)))).trans kg0_0
    replace kg0_1 : wg0.cell? ⟨w5.heap.size, 1, none⟩ = some (.slice ag0_fields ng0_fields cg0_fields) := (World.cell?_of_block (w := w10) (dg0.block _ (World.block_lt_of_cell? _ _ kg0_1) (fun hc => by have := Z1.out; have := Z2.out; have := Z3.out; have := ZV.out; have := Z4.out; have := bkw0_0.out; have := Z5.out; have := ZMg.out; have := Z6.out; have := bkg0_0.out; have := Z7.out; have := Z8.out; have := Z9.out; have := Z10.out; have := Z11.out; rcases hc with hc | hc <;> (have := hc.1; have := hc.2; dsimp only at *; omega)))).trans kg0_1
    clear hg0_queries
    have Mhg0_queries : Hid (RQueries wg0 (.slice ag0_queries ng0_queries cg0_queries) (marksTo mkQuery cntQuery (1 : Int) (buildL x0).queries.length (buildL x0).queries)) := Lib.hid (rd_pqueries qhg0_queries)
    clear qhg0_queries
    clear hg0_fields
    have Mhg0_fields : Hid (RSpanss wg0 (.slice ag0_fields ng0_fields cg0_fields) (marksTo markedSpan (sumT cntSpan) ((1 : Int) + (sumT cntQuery (buildL x0).queries : Int)) (buildL x0).fields.length (buildL x0).fields)) := Lib.hid (rd_pspanss qhg0_fields)
    clear qhg0_fields
    have hcg0 : 0 ≤ (((1 : Int) + (sumT cntQuery (buildL x0).queries : Int)) + (sumT (sumT cntSpan) (buildL x0).fields : Int)) := by omega
    have ef : ((((1 : Int) + (sumT cntQuery (buildL x0).queries : Int)) + (sumT (sumT cntSpan) (buildL x0).fields : Int)) != (((1 : Int) + (sumT cntQuery (buildL x0).queries : Int)) + (sumT (sumT cntSpan) (buildL x0).fields : Int))) = false := by simp
    go_wp2_with fail
    refine (laws_heldIndex (buildL x0) _ _ (1 : Int) _ Mhg0_queries.out Mhg0_fields.out (by omega) (by omega)).mono ?_
    rintro e w12 ⟨rfl, g12⟩
    have Z12 : Hid (wg0.heap.size + 0 ≤ w12.heap.size) := Lib.hid (by have := g12.size; simpa using this)
    replace hv0 : Hid (RQueries w12 (.slice a0 x0.length c0) x0) := Lib.hid (RSlice.mono keeps_query g12 hv0.out)
    replace hw0_queries : Hid (RQueries w12 (.slice aw0_queries nw0_queries cw0_queries) (buildL x0).queries) := Lib.hid (RSlice.mono keeps_query g12 hw0_queries.out)
    replace hw0_fields : Hid (RSpanss w12 (.slice aw0_fields nw0_fields cw0_fields) (buildL x0).fields) := Lib.hid (RSlice.mono (keeps_of keeps_span) g12 hw0_fields.out)
    replace Mhg0_queries : Hid (RQueries w12 (.slice ag0_queries ng0_queries cg0_queries) (marksTo mkQuery cntQuery (1 : Int) (buildL x0).queries.length (buildL x0).queries)) := Lib.hid (RSlice.mono keeps_query g12 Mhg0_queries.out)
    replace Mhg0_fields : Hid (RSpanss w12 (.slice ag0_fields ng0_fields cg0_fields) (marksTo markedSpan (sumT cntSpan) ((1 : Int) + (sumT cntQuery (buildL x0).queries : Int)) (buildL x0).fields.length (buildL x0).fields)) := Lib.hid (RSlice.mono (keeps_of keeps_span) g12 Mhg0_fields.out)
    replace kw0_0 : w12.cell? ⟨w3.heap.size, 0, none⟩ = some (.slice aw0_queries nw0_queries cw0_queries) := g12.cellv kw0_0
    replace kw0_1 : w12.cell? ⟨w3.heap.size, 1, none⟩ = some (.slice aw0_fields nw0_fields cw0_fields) := g12.cellv kw0_1
    replace kg0_0 : w12.cell? ⟨w5.heap.size, 0, none⟩ = some (.slice ag0_queries ng0_queries cg0_queries) := g12.cellv kg0_0
    replace kg0_1 : w12.cell? ⟨w5.heap.size, 1, none⟩ = some (.slice ag0_fields ng0_fields cg0_fields) := g12.cellv kg0_1
    replace gw : Hid (Gr w w12) := Lib.hid (gw.out.trans g12)
    replace gv : Hid (Gr w3 w12) := Lib.hid (gv.out.trans g12)
    go_wp2_with fail
    refine (laws_toQueryS_own _ x0 _ hv0.out HT0.out).mono ?_
    rintro e w13 ⟨_, rfl, ⟨az0, nz0, cz0, rfl⟩, g13, r_hz0⟩
    have Z13 : Hid (w12.heap.size + 0 ≤ w13.heap.size) := Lib.hid (by have := g13.size; simpa using this)
    replace hv0 : Hid (RQueries w13 (.slice a0 x0.length c0) x0) := Lib.hid (RSlice.mono keeps_query g13 hv0.out)
    replace hw0_queries : Hid (RQueries w13 (.slice aw0_queries nw0_queries cw0_queries) (buildL x0).queries) := Lib.hid (RSlice.mono keeps_query g13 hw0_queries.out)
    replace hw0_fields : Hid (RSpanss w13 (.slice aw0_fields nw0_fields cw0_fields) (buildL x0).fields) := Lib.hid (RSlice.mono (keeps_of keeps_span) g13 hw0_fields.out)
    replace Mhg0_queries : Hid (RQueries w13 (.slice ag0_queries ng0_queries cg0_queries) (marksTo mkQuery cntQuery (1 : Int) (buildL x0).queries.length (buildL x0).queries)) := Lib.hid (RSlice.mono keeps_query g13 Mhg0_queries.out)
    replace Mhg0_fields : Hid (RSpanss w13 (.slice ag0_fields ng0_fields cg0_fields) (marksTo markedSpan (sumT cntSpan) ((1 : Int) + (sumT cntQuery (buildL x0).queries : Int)) (buildL x0).fields.length (buildL x0).fields)) := Lib.hid (RSlice.mono (keeps_of keeps_span) g13 Mhg0_fields.out)
    replace kw0_0 : w13.cell? ⟨w3.heap.size, 0, none⟩ = some (.slice aw0_queries nw0_queries cw0_queries) := g13.cellv kw0_0
    replace kw0_1 : w13.cell? ⟨w3.heap.size, 1, none⟩ = some (.slice aw0_fields nw0_fields cw0_fields) := g13.cellv kw0_1
    replace kg0_0 : w13.cell? ⟨w5.heap.size, 0, none⟩ = some (.slice ag0_queries ng0_queries cg0_queries) := g13.cellv kg0_0
    replace kg0_1 : w13.cell? ⟨w5.heap.size, 1, none⟩ = some (.slice ag0_fields ng0_fields cg0_fields) := g13.cellv kg0_1
    replace gw : Hid (Gr w w13) := Lib.hid (gw.out.trans g13)
    replace gv : Hid (Gr w3 w13) := Lib.hid (gv.out.trans g13)
    have hz0 : Hid (PQueries (In w12.heap.size w13.heap.size) w13 (.slice az0 nz0 cz0) x0) := Lib.hid (r_hz0.wide (by simp) (by omega))
    clear r_hz0
    go_wp2_with fail
    refine (impl_BuildIndex _ x0 _ (rd_pqueries hz0.out) HT0.out).mono ?_
    rintro e w14 ⟨vh0_queries, vh0_fields, rfl, g14, mh, hmh, hnh, r_hh0_queries, r_hh0_fields⟩
    have Z14 : Hid (w13.heap.size + 0 ≤ w14.heap.size) := Lib.hid (by have := g14.size; simpa using this)
    replace hv0 : Hid (RQueries w14 (.slice a0 x0.length c0) x0) := Lib.hid (RSlice.mono keeps_query g14 hv0.out)
    replace hw0_queries : Hid (RQueries w14 (.slice aw0_queries nw0_queries cw0_queries) (buildL x0).queries) := Lib.hid (RSlice.mono keeps_query g14 hw0_queries.out)
    replace hw0_fields : Hid (RSpanss w14 (.slice aw0_fields nw0_fields cw0_fields) (buildL x0).fields) := Lib.hid (RSlice.mono (keeps_of keeps_span) g14 hw0_fields.out)
    replace Mhg0_queries : Hid (RQueries w14 (.slice ag0_queries ng0_queries cg0_queries) (marksTo mkQuery cntQuery (1 : Int) (buildL x0).queries.length (buildL x0).queries)) := Lib.hid (RSlice.mono keeps_query g14 Mhg0_queries.out)
    replace Mhg0_fields : Hid (RSpanss w14 (.slice ag0_fields ng0_fields cg0_fields) (marksTo markedSpan (sumT cntSpan) ((1 : Int) + (sumT cntQuery (buildL x0).queries : Int)) (buildL x0).fields.length (buildL x0).fields)) := Lib.hid (RSlice.mono (keeps_of keeps_span) g14 Mhg0_fields.out)
    replace hz0 : Hid (PQueries (In w12.heap.size w13.heap.size) w14 (.slice az0 nz0 cz0) x0) := Lib.hid (OSl.gr fr_query hz0.out g14)
    replace kw0_0 : w14.cell? ⟨w3.heap.size, 0, none⟩ = some (.slice aw0_queries nw0_queries cw0_queries) := g14.cellv kw0_0
    replace kw0_1 : w14.cell? ⟨w3.heap.size, 1, none⟩ = some (.slice aw0_fields nw0_fields cw0_fields) := g14.cellv kw0_1
    replace kg0_0 : w14.cell? ⟨w5.heap.size, 0, none⟩ = some (.slice ag0_queries ng0_queries cg0_queries) := g14.cellv kg0_0
    replace kg0_1 : w14.cell? ⟨w5.heap.size, 1, none⟩ = some (.slice ag0_fields ng0_fields cg0_fields) := g14.cellv kg0_1
    replace gw : Hid (Gr w w14) := Lib.hid (gw.out.trans g14)
    replace gv : Hid (Gr w3 w14) := Lib.hid (gv.out.trans g14)
    clear hz0
    obtain ⟨ah0_queries, nh0_queries, ch0_queries, rfl⟩ := r_hh0_queries.isSl
    obtain ⟨ah0_fields, nh0_fields, ch0_fields, rfl⟩ := r_hh0_fields.isSl
    have ZMh : Hid (w13.heap.size ≤ mh) := Lib.hid (by have := hmh; (try simp at this); omega)
    have hh0_queries : Hid (PQueries (In w13.heap.size mh) w14 (.slice ah0_queries nh0_queries ch0_queries) (buildL x0).queries) := Lib.hid (r_hh0_queries.wide (by simp) (by omega))
    clear r_hh0_queries
    have hh0_fields : Hid (PSpanss (In mh w14.heap.size) w14 (.slice ah0_fields nh0_fields ch0_fields) (buildL x0).fields) := Lib.hid (r_hh0_fields.wide (Nat.le_refl _) (by omega))
    clear r_hh0_fields
    have Lkw0_0 := ((Gr.refl w14).alloc (.cells #[.slice ah0_queries nh0_queries ch0_queries, .slice ah0_fields nh0_fields ch0_fields] 87)).cellv kw0_0
    have Lkw0_1 := ((Gr.refl w14).alloc (.cells #[.slice ah0_queries nh0_queries ch0_queries, .slice ah0_fields nh0_fields ch0_fields] 87)).cellv kw0_1
    have Lkg0_0 := ((Gr.refl w14).alloc (.cells #[.slice ah0_queries nh0_queries ch0_queries, .slice ah0_fields nh0_fields ch0_fields] 87)).cellv kg0_0
    have Lkg0_1 := ((Gr.refl w14).alloc (.cells #[.slice ah0_queries nh0_queries ch0_queries, .slice ah0_fields nh0_fields ch0_fields] 87)).cellv kg0_1
    go_wp2_with fail
    refine (laws_eqIndex (buildL x0) _ _ _ _ _ (RSlice.mono keeps_query ((Gr.refl w14).alloc _) (rd_pqueries hh0_queries.out)) (RSlice.mono (keeps_of keeps_span) ((Gr.refl w14).alloc _) (rd_pspanss hh0_fields.out)) (RSlice.mono keeps_query ((Gr.refl w14).alloc _) hw0_queries.out) (RSlice.mono (keeps_of keeps_span) ((Gr.refl w14).alloc _) hw0_fields.out)).mono ?_
    rintro e w15 ⟨rfl, g15⟩
    have gs15 : Gr w14 w15 := ((Gr.refl w14).alloc _).trans g15
    have Z15 : Hid (w14.heap.size + 1 ≤ w15.heap.size) := Lib.hid (by have := g15.size; simpa using this)
    replace hv0 : Hid (RQueries w15 (.slice a0 x0.length c0) x0) := Lib.hid (RSlice.mono keeps_query gs15 hv0.out)
    replace hw0_queries : Hid (RQueries w15 (.slice aw0_queries nw0_queries cw0_queries) (buildL x0).queries) := Lib.hid (RSlice.mono keeps_query gs15 hw0_queries.out)
    replace hw0_fields : Hid (RSpanss w15 (.slice aw0_fields nw0_fields cw0_fields) (buildL x0).fields) := Lib.hid (RSlice.mono (keeps_of keeps_span) gs15 hw0_fields.out)
    replace Mhg0_queries : Hid (RQueries w15 (.slice ag0_queries ng0_queries cg0_queries) (marksTo mkQuery cntQuery (1 : Int) (buildL x0).queries.length (buildL x0).queries)) := Lib.hid (RSlice.mono keeps_query gs15 Mhg0_queries.out)
    replace Mhg0_fields : Hid (RSpanss w15 (.slice ag0_fields ng0_fields cg0_fields) (marksTo markedSpan (sumT cntSpan) ((1 : Int) + (sumT cntQuery (buildL x0).queries : Int)) (buildL x0).fields.length (buildL x0).fields)) := Lib.hid (RSlice.mono (keeps_of keeps_span) gs15 Mhg0_fields.out)
    replace hh0_queries : Hid (PQueries (In w13.heap.size mh) w15 (.slice ah0_queries nh0_queries ch0_queries) (buildL x0).queries) := Lib.hid (OSl.gr fr_query hh0_queries.out gs15)
    replace hh0_fields : Hid (PSpanss (In mh w14.heap.size) w15 (.slice ah0_fields nh0_fields ch0_fields) (buildL x0).fields) := Lib.hid (OSl.gr (fr_of fr_span) hh0_fields.out gs15)
    replace kw0_0 : w15.cell? ⟨w3.heap.size, 0, none⟩ = some (.slice aw0_queries nw0_queries cw0_queries) := gs15.cellv kw0_0
    replace kw0_1 : w15.cell? ⟨w3.heap.size, 1, none⟩ = some (.slice aw0_fields nw0_fields cw0_fields) := gs15.cellv kw0_1
    replace kg0_0 : w15.cell? ⟨w5.heap.size, 0, none⟩ = some (.slice ag0_queries ng0_queries cg0_queries) := gs15.cellv kg0_0
    replace kg0_1 : w15.cell? ⟨w5.heap.size, 1, none⟩ = some (.slice ag0_fields ng0_fields cg0_fields) := gs15.cellv kg0_1
    replace gw : Hid (Gr w w15) := Lib.hid (gw.out.trans gs15)
    replace gv : Hid (Gr w3 w15) := Lib.hid (gv.out.trans gs15)
    have kh0_0 : w15.cell? ⟨w14.heap.size, 0, none⟩ = some (.slice ah0_queries nh0_queries ch0_queries) := g15.cellv (by simp [go_sem])
    have kh0_1 : w15.cell? ⟨w14.heap.size, 1, none⟩ = some (.slice ah0_fields nh0_fields ch0_fields) := g15.cellv (by simp [go_sem])
    have bkh0_0 : Hid (w14.heap.size < w15.heap.size) := Lib.hid (by have := Z15.out; omega)
    clear Lkw0_0 Lkw0_1 Lkg0_0 Lkg0_1
    go_wp2_with fail
    refine (laws_heldIndex (buildL x0) _ _ (1 : Int) _ Mhg0_queries.out Mhg0_fields.out (by omega) (by omega)).mono ?_
    rintro e w16 ⟨rfl, g16⟩
    have Z16 : Hid (w15.heap.size + 0 ≤ w16.heap.size) := Lib.hid (by have := g16.size; simpa using this)
    replace hv0 : Hid (RQueries w16 (.slice a0 x0.length c0) x0) := Lib.hid (RSlice.mono keeps_query g16 hv0.out)
    replace hw0_queries : Hid (RQueries w16 (.slice aw0_queries nw0_queries cw0_queries) (buildL x0).queries) := Lib.hid (RSlice.mono keeps_query g16 hw0_queries.out)
    replace hw0_fields : Hid (RSpanss w16 (.slice aw0_fields nw0_fields cw0_fields) (buildL x0).fields) := Lib.hid (RSlice.mono (keeps_of keeps_span) g16 hw0_fields.out)
    replace Mhg0_queries : Hid (RQueries w16 (.slice ag0_queries ng0_queries cg0_queries) (marksTo mkQuery cntQuery (1 : Int) (buildL x0).queries.length (buildL x0).queries)) := Lib.hid (RSlice.mono keeps_query g16 Mhg0_queries.out)
    replace Mhg0_fields : Hid (RSpanss w16 (.slice ag0_fields ng0_fields cg0_fields) (marksTo markedSpan (sumT cntSpan) ((1 : Int) + (sumT cntQuery (buildL x0).queries : Int)) (buildL x0).fields.length (buildL x0).fields)) := Lib.hid (RSlice.mono (keeps_of keeps_span) g16 Mhg0_fields.out)
    replace hh0_queries : Hid (PQueries (In w13.heap.size mh) w16 (.slice ah0_queries nh0_queries ch0_queries) (buildL x0).queries) := Lib.hid (OSl.gr fr_query hh0_queries.out g16)
    replace hh0_fields : Hid (PSpanss (In mh w14.heap.size) w16 (.slice ah0_fields nh0_fields ch0_fields) (buildL x0).fields) := Lib.hid (OSl.gr (fr_of fr_span) hh0_fields.out g16)
    replace kw0_0 : w16.cell? ⟨w3.heap.size, 0, none⟩ = some (.slice aw0_queries nw0_queries cw0_queries) := g16.cellv kw0_0
    replace kw0_1 : w16.cell? ⟨w3.heap.size, 1, none⟩ = some (.slice aw0_fields nw0_fields cw0_fields) := g16.cellv kw0_1
    replace kg0_0 : w16.cell? ⟨w5.heap.size, 0, none⟩ = some (.slice ag0_queries ng0_queries cg0_queries) := g16.cellv kg0_0
    replace kg0_1 : w16.cell? ⟨w5.heap.size, 1, none⟩ = some (.slice ag0_fields ng0_fields cg0_fields) := g16.cellv kg0_1
    replace kh0_0 : w16.cell? ⟨w14.heap.size, 0, none⟩ = some (.slice ah0_queries nh0_queries ch0_queries) := g16.cellv kh0_0
    replace kh0_1 : w16.cell? ⟨w14.heap.size, 1, none⟩ = some (.slice ah0_fields nh0_fields ch0_fields) := g16.cellv kh0_1
    replace gw : Hid (Gr w w16) := Lib.hid (gw.out.trans g16)
    replace gv : Hid (Gr w3 w16) := Lib.hid (gv.out.trans g16)
    go_wp2_with fail
    go_ret
    exact ⟨rfl, gw.out⟩
  · have HZ0 := Lib.hid (szV_no (t := (totL totQuery x0)) (left := (1048576 : Int)) (by omega))
    have HA0 := Lib.hid (show (0 : Int) ≤ (1048576 : Int) ∧ (1048576 : Int) ≤ 1048576 from by omega)
    clear hs0
    go_enter Try.func10, Try.ntmps10
    have Bhv0 := Lib.hid hv0
    replace hv0 := Lib.hid hv0
    go_wp2_with fail
    refine (laws_szQueryS _ _ x0 _ hv0.out HA0.out.1 HA0.out.2).mono ?_
    rintro e w1 ⟨rfl, g1⟩
    have Z1 : Hid (w.heap.size + 0 ≤ w1.heap.size) := Lib.hid (by have := g1.size; simpa using this)
    replace hv0 : Hid (RQueries w1 (.slice a0 x0.length c0) x0) := Lib.hid (RSlice.mono keeps_query g1 hv0.out)
    have gw : Hid (Gr w w1) := Lib.hid g1
    rw [HZ0.out]
    go_wp2_with fail
    go_ret
    exact ⟨rfl, gw.out⟩

-- endgen
end Go.Proofs.Ytnnapjaggahjgaa
