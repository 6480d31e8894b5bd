/- SegmentRows: the walk of the law. -/
import Derived.Test.YtnnapjaggahjgaaSegR
import Derived.Test.YtnnapjaggahjgaaMkRow
namespace Go.Proofs.Ytnnapjaggahjgaa
open Go.RowKit
-- mgen FnExactSegmentRows SegmentRows+HT0 RowS "(segRowsL x0 n1 n2)" "by have := segRowsL_small x0 n1 n2; have := HT0.out; omega" Store int int
set_option maxRecDepth 100000 in
set_option maxHeartbeats 1500000 in
theorem law_FnExactSegmentRows (w : World) (x0 : DStore) (u0_segs : Value) (h0_segs : RVersionss w u0_segs x0.segs) (_ : I64 x0.now) (n1 : Int) (_ : I64 n1) (n2 : Int) (_ : I64 n2) : Calls Try.prog 7 #[.agg #[u0_segs, .int .i64 x0.now], .int .i64 n1, .int .i64 n2] w fun e w' => e = .returned (.bool true) ∧ Gr w w' := by
  by_cases hs0 : ((totStore x0) : Int) ≤ (1048576 : Int)
  · have HZ0 := Lib.hid (szV_yes (t := (totStore x0)) (left := (1048576 : Int)) (by omega))
    have HA0 := Lib.hid (show (0 : Int) ≤ (1048576 : Int) ∧ (1048576 : Int) ≤ 1048576 from by omega)
    have HB0 := Lib.hid (show (0 : Int) ≤ (1048576 : Int) - ((totStore x0) : Int) ∧ (1048576 : Int) - ((totStore x0) : Int) ≤ 1048576 from by omega)
    have HT0 := Lib.hid (show (totStore x0) ≤ 4294967296 from by omega)
    have HQ0 : Hid ((totStore x0) ≤ 1048576) := Lib.hid (by omega)
    clear hs0
    go_enter Try.func7, Try.ntmps7
    have Bh0_segs := Lib.hid h0_segs
    replace h0_segs := Lib.hid h0_segs
    go_wp2_with fail
    refine (laws_szStore x0 u0_segs _ _ (RSlice.mono (keeps_of keeps_version) ((Gr.refl w).alloc _) h0_segs.out) HA0.out.1 HA0.out.2).mono ?_
    rintro e w1 ⟨rfl, g1⟩
    have gs1 : Gr w w1 := ((Gr.refl w).alloc _).trans g1
    have Z1 : Hid (w.heap.size + 1 ≤ w1.heap.size) := Lib.hid (by have := g1.size; simpa using this)
    replace h0_segs : Hid (RVersionss w1 u0_segs x0.segs) := Lib.hid (RSlice.mono (keeps_of keeps_version) gs1 h0_segs.out)
    have gw : Hid (Gr w w1) := Lib.hid gs1
    have kb0_0 : w1.cell? ⟨w.heap.size, 0, none⟩ = some (u0_segs) := g1.cellv (by simp [go_sem])
    have kb0_1 : w1.cell? ⟨w.heap.size, 1, none⟩ = some (.int .i64 x0.now) := g1.cellv (by simp [go_sem])
    have bkb0_0 : Hid (w.heap.size < w1.heap.size) := Lib.hid (by have := Z1.out; omega)
    rw [HZ0.out]
    have hB0 := HB0.out.1
    have hC0 := HB0.out.2
    go_wp2_with fail
    refine (laws_toStore_own x0 u0_segs _ h0_segs.out HT0.out).mono ?_
    rintro e w2 ⟨vp0_segs, rfl, g2, r_hp0_segs⟩
    have Z2 : Hid (w1.heap.size + 0 ≤ w2.heap.size) := Lib.hid (by have := g2.size; simpa using this)
    replace h0_segs : Hid (RVersionss w2 u0_segs x0.segs) := Lib.hid (RSlice.mono (keeps_of keeps_version) g2 h0_segs.out)
    replace kb0_0 : w2.cell? ⟨w.heap.size, 0, none⟩ = some (u0_segs) := g2.cellv kb0_0
    replace kb0_1 : w2.cell? ⟨w.heap.size, 1, none⟩ = some (.int .i64 x0.now) := g2.cellv kb0_1
    replace gw : Hid (Gr w w2) := Lib.hid (gw.out.trans g2)
    obtain ⟨ap0_segs, np0_segs, cp0_segs, rfl⟩ := r_hp0_segs.isSl
    have hp0_segs : Hid (PVersionss (In w1.heap.size w2.heap.size) w2 (.slice ap0_segs np0_segs cp0_segs) x0.segs) := Lib.hid (r_hp0_segs.wide (by simp) (by omega))
    clear r_hp0_segs
    go_wp2_with fail
    refine (spec_SegmentRows x0 _ n1 n2 _ (rd_pversionss hp0_segs.out) HT0.out).mono ?_
    rintro e w3 ⟨vw0, rfl, r_hw0, g3⟩
    have Z3 : Hid (w2.heap.size + 0 ≤ w3.heap.size) := Lib.hid (by have := g3.size; simpa using this)
    replace h0_segs : Hid (RVersionss w3 u0_segs x0.segs) := Lib.hid (RSlice.mono (keeps_of keeps_version) g3 h0_segs.out)
    replace hp0_segs : Hid (PVersionss (In w1.heap.size w2.heap.size) w3 (.slice ap0_segs np0_segs cp0_segs) x0.segs) := Lib.hid (OSl.gr (fr_of fr_version) hp0_segs.out g3)
    replace kb0_0 : w3.cell? ⟨w.heap.size, 0, none⟩ = some (u0_segs) := g3.cellv kb0_0
    replace kb0_1 : w3.cell? ⟨w.heap.size, 1, none⟩ = some (.int .i64 x0.now) := g3.cellv kb0_1
    replace gw : Hid (Gr w w3) := Lib.hid (gw.out.trans g3)
    clear hp0_segs
    obtain ⟨aw0, nw0, cw0, rfl⟩ := r_hw0.isSl
    have hw0 : Hid (RRows w3 (.slice aw0 nw0 cw0) (segRowsL x0 n1 n2)) := Lib.hid r_hw0
    have Bhw0 := Lib.hid r_hw0
    clear r_hw0
    have gv : Hid (Gr w3 w3) := Lib.hid (Gr.refl _)
    have ZV : Hid (w.heap.size ≤ w3.heap.size) := Lib.hid gw.out.size
    go_wp2_with fail
    refine (laws_toStore_own x0 u0_segs _ h0_segs.out HT0.out).mono ?_
    rintro e w4 ⟨vx0_segs, rfl, g4, r_hx0_segs⟩
    have Z4 : Hid (w3.heap.size + 0 ≤ w4.heap.size) := Lib.hid (by have := g4.size; simpa using this)
    replace h0_segs : Hid (RVersionss w4 u0_segs x0.segs) := Lib.hid (RSlice.mono (keeps_of keeps_version) g4 h0_segs.out)
    replace hw0 : Hid (RRows w4 (.slice aw0 nw0 cw0) (segRowsL x0 n1 n2)) := Lib.hid (RSlice.mono keeps_row g4 hw0.out)
    replace kb0_0 : w4.cell? ⟨w.heap.size, 0, none⟩ = some (u0_segs) := g4.cellv kb0_0
    replace kb0_1 : w4.cell? ⟨w.heap.size, 1, none⟩ = some (.int .i64 x0.now) := g4.cellv kb0_1
    replace gw : Hid (Gr w w4) := Lib.hid (gw.out.trans g4)
    replace gv : Hid (Gr w3 w4) := Lib.hid (gv.out.trans g4)
    obtain ⟨ax0_segs, nx0_segs, cx0_segs, rfl⟩ := r_hx0_segs.isSl
    have hx0_segs : Hid (PVersionss (In w3.heap.size w4.heap.size) w4 (.slice ax0_segs nx0_segs cx0_segs) x0.segs) := Lib.hid (r_hx0_segs.wide (by simp) (by omega))
    clear r_hx0_segs
    have Lkb0_0 := ((Gr.refl w4).alloc (.cells #[.slice ax0_segs nx0_segs cx0_segs, .int .i64 x0.now] 29)).cellv kb0_0
    have Lkb0_1 := ((Gr.refl w4).alloc (.cells #[.slice ax0_segs nx0_segs cx0_segs, .int .i64 x0.now] 29)).cellv kb0_1
    go_wp2_with fail
    refine (impl_SegmentRows x0 _ n1 n2 _ (RSlice.mono (keeps_of keeps_version) ((Gr.refl w4).alloc _) (rd_pversionss hx0_segs.out)) HT0.out).mono ?_
    rintro e w5 ⟨vg0, rfl, g5, r_hg0⟩
    have gs5 : Gr w4 w5 := ((Gr.refl w4).alloc _).trans g5
    have Z5 : Hid (w4.heap.size + 1 ≤ w5.heap.size) := Lib.hid (by have := g5.size; simpa using this)
    replace h0_segs : Hid (RVersionss w5 u0_segs x0.segs) := Lib.hid (RSlice.mono (keeps_of keeps_version) gs5 h0_segs.out)
    replace hw0 : Hid (RRows w5 (.slice aw0 nw0 cw0) (segRowsL x0 n1 n2)) := Lib.hid (RSlice.mono keeps_row gs5 hw0.out)
    replace hx0_segs : Hid (PVersionss (In w3.heap.size w4.heap.size) w5 (.slice ax0_segs nx0_segs cx0_segs) x0.segs) := Lib.hid (OSl.gr (fr_of fr_version) hx0_segs.out gs5)
    replace kb0_0 : w5.cell? ⟨w.heap.size, 0, none⟩ = some (u0_segs) := gs5.cellv kb0_0
    replace kb0_1 : w5.cell? ⟨w.heap.size, 1, none⟩ = some (.int .i64 x0.now) := gs5.cellv kb0_1
    replace gw : Hid (Gr w w5) := Lib.hid (gw.out.trans gs5)
    replace gv : Hid (Gr w3 w5) := Lib.hid (gv.out.trans gs5)
    have kx0_0 : w5.cell? ⟨w4.heap.size, 0, none⟩ = some (.slice ax0_segs nx0_segs cx0_segs) := g5.cellv (by simp [go_sem])
    have kx0_1 : w5.cell? ⟨w4.heap.size, 1, none⟩ = some (.int .i64 x0.now) := g5.cellv (by simp [go_sem])
    have bkx0_0 : Hid (w4.heap.size < w5.heap.size) := Lib.hid (by have := Z5.out; omega)
    clear Lkb0_0 Lkb0_1
    obtain ⟨ag0, ng0, cg0, rfl⟩ := r_hg0.isSl
    have hg0 : Hid (PRows (In (w4.heap.size + 1) w5.heap.size) w5 (.slice ag0 ng0 cg0) (segRowsL x0 n1 n2)) := Lib.hid (r_hg0.wide (by simp) (by omega))
    clear r_hg0
    go_wp2_with fail
    refine (laws_eqRowS_same _ _ (segRowsL x0 n1 n2) _ (rd_prows hg0.out) hw0.out).mono ?_
    rintro e w6 ⟨rfl, g6⟩
    have Z6 : Hid (w5.heap.size + 0 ≤ w6.heap.size) := Lib.hid (by have := g6.size; simpa using this)
    replace h0_segs : Hid (RVersionss w6 u0_segs x0.segs) := Lib.hid (RSlice.mono (keeps_of keeps_version) g6 h0_segs.out)
    replace hw0 : Hid (RRows w6 (.slice aw0 nw0 cw0) (segRowsL x0 n1 n2)) := Lib.hid (RSlice.mono keeps_row g6 hw0.out)
    replace hx0_segs : Hid (PVersionss (In w3.heap.size w4.heap.size) w6 (.slice ax0_segs nx0_segs cx0_segs) x0.segs) := Lib.hid (OSl.gr (fr_of fr_version) hx0_segs.out g6)
    replace hg0 : Hid (PRows (In (w4.heap.size + 1) w5.heap.size) w6 (.slice ag0 ng0 cg0) (segRowsL x0 n1 n2)) := Lib.hid (OSl.gr fr_row hg0.out g6)
    replace kb0_0 : w6.cell? ⟨w.heap.size, 0, none⟩ = some (u0_segs) := g6.cellv kb0_0
    replace kb0_1 : w6.cell? ⟨w.heap.size, 1, none⟩ = some (.int .i64 x0.now) := g6.cellv kb0_1
    replace kx0_0 : w6.cell? ⟨w4.heap.size, 0, none⟩ = some (.slice ax0_segs nx0_segs cx0_segs) := g6.cellv kx0_0
    replace kx0_1 : w6.cell? ⟨w4.heap.size, 1, none⟩ = some (.int .i64 x0.now) := g6.cellv kx0_1
    replace gw : Hid (Gr w w6) := Lib.hid (gw.out.trans g6)
    replace gv : Hid (Gr w3 w6) := Lib.hid (gv.out.trans g6)
    go_wp2
    go_region_held3 (fun w' => w'.cell? ⟨w.heap.size, 0, none⟩ = some (u0_segs) ∧ w'.cell? ⟨w.heap.size, 1, none⟩ = some (.int .i64 x0.now) ∧ w'.cell? ⟨w4.heap.size, 0, none⟩ = some (.slice ax0_segs nx0_segs cx0_segs) ∧ w'.cell? ⟨w4.heap.size, 1, none⟩ = some (.int .i64 x0.now) ∧ RVersionss w' u0_segs x0.segs ∧ RVersionss w' (.slice ax0_segs nx0_segs cx0_segs) x0.segs ∧ Gr w6 w')
      (first | exact ⟨kb0_0, kb0_1, kx0_0, kx0_1, h0_segs.out, (rd_pversionss hx0_segs.out), Gr.refl _⟩ | exact ⟨kb0_0, kb0_1, kx0_0, kx0_1, h0_segs.out, (rd_pversionss hx0_segs.out), (Gr.refl _).drew⟩ | (go_split_ands; exact ⟨Gr.cellv gb0 (by assumption), Gr.cellv gb0 (by assumption), Gr.cellv gb0 (by assumption), Gr.cellv gb0 (by assumption), (RSlice.mono (keeps_of keeps_version) gb0 (by assumption)), (RSlice.mono (keeps_of keeps_version) gb0 (by assumption)), Gr.trans (by assumption) gb0⟩) | (go_split_ands; exact ⟨Gr.cellv ga0 (by assumption), Gr.cellv ga0 (by assumption), Gr.cellv ga0 (by assumption), Gr.cellv ga0 (by assumption), (RSlice.mono (keeps_of keeps_version) ga0 (by assumption)), (RSlice.mono (keeps_of keeps_version) ga0 (by assumption)), Gr.trans (by assumption) ga0⟩))
      (first | (go_at_call 17; go_split_ands; refine (laws_toStore_gr x0 u0_segs _ (by assumption) HT0.out).mono ?_; rintro e wa0 ⟨vy0_segs, rfl, ⟨ay0_segs, ny0_segs, cy0_segs, rfl⟩, ry0_segs, ga0⟩) | (go_at_call 19; go_split_ands; refine (laws_eqStore x0 _ _ _ (by assumption) (ry0_segs _ (Loc.refl _ _))).mono ?_; rintro e wb0 ⟨rfl, gb0⟩))
    have gs7 : Gr w6 wb0 := ((Gr.refl w6).drew.trans ga0).trans gb0
    have Z7 : Hid (w6.heap.size ≤ wb0.heap.size) := Lib.hid gs7.size
    replace h0_segs : Hid (RVersionss wb0 u0_segs x0.segs) := Lib.hid (RSlice.mono (keeps_of keeps_version) gs7 h0_segs.out)
    replace hw0 : Hid (RRows wb0 (.slice aw0 nw0 cw0) (segRowsL x0 n1 n2)) := Lib.hid (RSlice.mono keeps_row gs7 hw0.out)
    replace hx0_segs : Hid (PVersionss (In w3.heap.size w4.heap.size) wb0 (.slice ax0_segs nx0_segs cx0_segs) x0.segs) := Lib.hid (OSl.gr (fr_of fr_version) hx0_segs.out gs7)
    replace hg0 : Hid (PRows (In (w4.heap.size + 1) w5.heap.size) wb0 (.slice ag0 ng0 cg0) (segRowsL x0 n1 n2)) := Lib.hid (OSl.gr fr_row hg0.out gs7)
    replace kb0_0 : wb0.cell? ⟨w.heap.size, 0, none⟩ = some (u0_segs) := gs7.cellv kb0_0
    replace kb0_1 : wb0.cell? ⟨w.heap.size, 1, none⟩ = some (.int .i64 x0.now) := gs7.cellv kb0_1
    replace kx0_0 : wb0.cell? ⟨w4.heap.size, 0, none⟩ = some (.slice ax0_segs nx0_segs cx0_segs) := gs7.cellv kx0_0
    replace kx0_1 : wb0.cell? ⟨w4.heap.size, 1, none⟩ = some (.int .i64 x0.now) := gs7.cellv kx0_1
    replace gw : Hid (Gr w wb0) := Lib.hid (gw.out.trans gs7)
    replace gv : Hid (Gr w3 wb0) := Lib.hid (gv.out.trans gs7)
    have cb0 := HQ0.out
    have cm0_segs := cnt_VersionSS x0.segs
    unfold totStore at cb0
    go_wp2_with fail
    refine (laws_markStore (In w3.heap.size w4.heap.size) x0 _ (1 : Int) _ hx0_segs.out (fun b hb => by have := Z1.out; have := bkb0_0.out; have := Z2.out; have := Z3.out; have := ZV.out; have := Z4.out; have := Z5.out; have := bkx0_0.out; have := Z6.out; have := Z7.out; have := hb.2; omega) (by omega) (by omega)).mono ?_
    rintro e wm0 ⟨rfl, _, dm0⟩
    have Z8 : Hid (wb0.heap.size ≤ wm0.heap.size) := Lib.hid dm0.size
    replace gw : Hid (Gr w wm0) := Lib.hid (Gr.trans' gw.out (dm0.below (fun b hb => by have := Z1.out; have := bkb0_0.out; have := Z2.out; have := Z3.out; have := ZV.out; have := Z4.out; have := Z5.out; have := bkx0_0.out; have := Z6.out; have := Z7.out; have := Z8.out; have := hb.1; omega) (gw.out.size)))
    replace gv : Hid (Gr w3 wm0) := Lib.hid (Gr.trans' gv.out (dm0.below (fun b hb => by have := Z1.out; have := bkb0_0.out; have := Z2.out; have := Z3.out; have := ZV.out; have := Z4.out; have := Z5.out; have := bkx0_0.out; have := Z6.out; have := Z7.out; have := Z8.out; have := hb.1; omega) (gv.out.size)))
    replace h0_segs : Hid (RVersionss wm0 u0_segs x0.segs) := Lib.hid (RSlice.mono (keeps_of keeps_version) gw.out Bh0_segs.out)
    replace hw0 : Hid (RRows wm0 (.slice aw0 nw0 cw0) (segRowsL x0 n1 n2)) := Lib.hid (RSlice.mono keeps_row gv.out Bhw0.out)
    replace hg0 : Hid (PRows (In (w4.heap.size + 1) w5.heap.size) wm0 (.slice ag0 ng0 cg0) (segRowsL x0 n1 n2)) := Lib.hid (OSl.frame fr_row hg0.out (dm0.agree fun b hb hc => by have := Z1.out; have := bkb0_0.out; have := Z2.out; have := Z3.out; have := ZV.out; have := Z4.out; have := Z5.out; have := bkx0_0.out; have := Z6.out; have := Z7.out; have := Z8.out; have := hb.1; have := hb.2; have := hc.1; have := hc.2; omega))
    replace kb0_0 : wm0.cell? ⟨w.heap.size, 0, none⟩ = some (u0_segs) := (World.cell?_of_block (w := wb0) (dm0.block _ (World.block_lt_of_cell? _ _ kb0_0) (fun hc => by have := Z1.out; have := bkb0_0.out; have := Z2.out; have := Z3.out; have := ZV.out; have := Z4.out; have := Z5.out; have := bkx0_0.out; have := Z6.out; have := Z7.out; have := Z8.out; have := hc.1; have := hc.2; dsimp only at *; omega))).trans kb0_0
    replace kb0_1 : wm0.cell? ⟨w.heap.size, 1, none⟩ = some (.int .i64 x0.now) := (World.cell?_of_block (w := wb0) (dm0.block _ (World.block_lt_of_cell? _ _ kb0_1) (fun hc => by have := Z1.out; have := bkb0_0.out; have := Z2.out; have := Z3.out; have := ZV.out; have := Z4.out; have := Z5.out; have := bkx0_0.out; have := Z6.out; have := Z7.out; have := Z8.out; have := hc.1; have := hc.2; dsimp only at *; omega))).trans kb0_1
    replace kx0_0 : wm0.cell? ⟨w4.heap.size, 0, none⟩ = some (.slice ax0_segs nx0_segs cx0_segs) := (World.cell?_of_block (w := wb0) (dm0.block _ (World.block_lt_of_cell? _ _ kx0_0) (fun hc => by have := Z1.out; have := bkb0_0.out; have := Z2.out; have := Z3.out; have := ZV.out; have := Z4.out; have := Z5.out; have := bkx0_0.out; have := Z6.out; have := Z7.out; have := Z8.out; have := hc.1; have := hc.2; dsimp only at *; omega))).trans kx0_0
    replace kx0_1 : wm0.cell? ⟨w4.heap.size, 1, none⟩ = some (.int .i64 x0.now) := (World.cell?_of_block (w := wb0) (dm0.block _ (World.block_lt_of_cell? _ _ kx0_1) (fun hc => by have := Z1.out; have := bkb0_0.out; have := Z2.out; have := Z3.out; have := ZV.out; have := Z4.out; have := Z5.out; have := bkx0_0.out; have := Z6.out; have := Z7.out; have := Z8.out; have := hc.1; have := hc.2; dsimp only at *; omega))).trans kx0_1
    clear hx0_segs
    have cu0 : 0 ≤ ((1 : Int) + (sumT (sumT cntVersion) x0.segs : Int)) := by omega
    clear kx0_0
    clear kx0_1
    go_wp2_with fail
    refine (laws_eqRowS_same _ _ (segRowsL x0 n1 n2) _ (rd_prows hg0.out) hw0.out).mono ?_
    rintro e w9 ⟨rfl, g9⟩
    have Z9 : Hid (wm0.heap.size + 0 ≤ w9.heap.size) := Lib.hid (by have := g9.size; simpa using this)
    replace h0_segs : Hid (RVersionss w9 u0_segs x0.segs) := Lib.hid (RSlice.mono (keeps_of keeps_version) g9 h0_segs.out)
    replace hw0 : Hid (RRows w9 (.slice aw0 nw0 cw0) (segRowsL x0 n1 n2)) := Lib.hid (RSlice.mono keeps_row g9 hw0.out)
    replace hg0 : Hid (PRows (In (w4.heap.size + 1) w5.heap.size) w9 (.slice ag0 ng0 cg0) (segRowsL x0 n1 n2)) := Lib.hid (OSl.gr fr_row hg0.out g9)
    replace kb0_0 : w9.cell? ⟨w.heap.size, 0, none⟩ = some (u0_segs) := g9.cellv kb0_0
    replace kb0_1 : w9.cell? ⟨w.heap.size, 1, none⟩ = some (.int .i64 x0.now) := g9.cellv kb0_1
    replace gw : Hid (Gr w w9) := Lib.hid (gw.out.trans g9)
    replace gv : Hid (Gr w3 w9) := Lib.hid (gv.out.trans g9)
    have HBR := Lib.hid (show (1 : Int) + (sumT cntRow (segRowsL x0 n1 n2) : Int) ≤ 4611686018427387904 from by have := segRowsL_small x0 n1 n2; have := HT0.out; omega)
    have hbr := HBR.out
    go_wp2_with fail
    refine (laws_markRowS (In (w4.heap.size + 1) w5.heap.size) _ (segRowsL x0 n1 n2) (1 : Int) _ hg0.out (by omega) (by omega)).mono ?_
    rintro e wg0 ⟨rfl, qhg0, dg0⟩
    have Z10 : Hid (w9.heap.size ≤ wg0.heap.size) := Lib.hid dg0.size
    replace gw : Hid (Gr w wg0) := Lib.hid (Gr.trans' gw.out (dg0.below (fun b hb => by have := Z1.out; have := bkb0_0.out; have := Z2.out; have := Z3.out; have := ZV.out; have := Z4.out; have := Z5.out; have := bkx0_0.out; have := Z6.out; have := Z7.out; have := Z8.out; have := Z9.out; have := Z10.out; have := hb.1; omega) (gw.out.size)))
    replace gv : Hid (Gr w3 wg0) := Lib.hid (Gr.trans' gv.out (dg0.below (fun b hb => by have := Z1.out; have := bkb0_0.out; have := Z2.out; have := Z3.out; have := ZV.out; have := Z4.out; have := Z5.out; have := bkx0_0.out; have := Z6.out; have := Z7.out; have := Z8.out; have := Z9.out; have := Z10.out; have := hb.1; omega) (gv.out.size)))
    replace h0_segs : Hid (RVersionss wg0 u0_segs x0.segs) := Lib.hid (RSlice.mono (keeps_of keeps_version) gw.out Bh0_segs.out)
    replace hw0 : Hid (RRows wg0 (.slice aw0 nw0 cw0) (segRowsL x0 n1 n2)) := Lib.hid (RSlice.mono keeps_row gv.out Bhw0.out)
    replace kb0_0 : wg0.cell? ⟨w.heap.size, 0, none⟩ = some (u0_segs) := (World.cell?_of_block (w := w9) (dg0.block _ (World.block_lt_of_cell? _ _ kb0_0) (fun hc => by have := Z1.out; have := bkb0_0.out; have := Z2.out; have := Z3.out; have := ZV.out; have := Z4.out; have := Z5.out; have := bkx0_0.out; have := Z6.out; have := Z7.out; have := Z8.out; have := Z9.out; have := Z10.out; have := hc.1; have := hc.2; dsimp only at *; omega))).trans kb0_0
    replace kb0_1 : wg0.cell? ⟨w.heap.size, 1, none⟩ = some (.int .i64 x0.now) := (World.cell?_of_block (w := w9) (dg0.block _ (World.block_lt_of_cell? _ _ kb0_1) (fun hc => by have := Z1.out; have := bkb0_0.out; have := Z2.out; have := Z3.out; have := ZV.out; have := Z4.out; have := Z5.out; have := bkx0_0.out; have := Z6.out; have := Z7.out; have := Z8.out; have := Z9.out; have := Z10.out; have := hc.1; have := hc.2; dsimp only at *; omega))).trans kb0_1
    clear hg0
    have Mhg0 : Hid (RRows wg0 (.slice ag0 ng0 cg0) (marksTo mkRow cntRow (1 : Int) (segRowsL x0 n1 n2).length (segRowsL x0 n1 n2))) := Lib.hid (rd_prows qhg0)
    clear qhg0
    have hcg0 : 0 ≤ ((1 : Int) + (sumT cntRow (segRowsL x0 n1 n2) : Int)) := by omega
    have ef : (((1 : Int) + (sumT cntRow (segRowsL x0 n1 n2) : Int)) != ((1 : Int) + (sumT cntRow (segRowsL x0 n1 n2) : Int))) = false := by simp
    go_wp2_with fail
    refine (laws_heldRowS _ (segRowsL x0 n1 n2) (1 : Int) _ Mhg0.out (by omega) (by omega)).mono ?_
    rintro e w11 ⟨rfl, g11⟩
    have Z11 : Hid (wg0.heap.size + 0 ≤ w11.heap.size) := Lib.hid (by have := g11.size; simpa using this)
    replace h0_segs : Hid (RVersionss w11 u0_segs x0.segs) := Lib.hid (RSlice.mono (keeps_of keeps_version) g11 h0_segs.out)
    replace hw0 : Hid (RRows w11 (.slice aw0 nw0 cw0) (segRowsL x0 n1 n2)) := Lib.hid (RSlice.mono keeps_row g11 hw0.out)
    replace Mhg0 : Hid (RRows w11 (.slice ag0 ng0 cg0) (marksTo mkRow cntRow (1 : Int) (segRowsL x0 n1 n2).length (segRowsL x0 n1 n2))) := Lib.hid (RSlice.mono keeps_row g11 Mhg0.out)
    replace kb0_0 : w11.cell? ⟨w.heap.size, 0, none⟩ = some (u0_segs) := g11.cellv kb0_0
    replace kb0_1 : w11.cell? ⟨w.heap.size, 1, none⟩ = some (.int .i64 x0.now) := g11.cellv kb0_1
    replace gw : Hid (Gr w w11) := Lib.hid (gw.out.trans g11)
    replace gv : Hid (Gr w3 w11) := Lib.hid (gv.out.trans g11)
    go_wp2_with fail
    refine (laws_toStore_own x0 u0_segs _ h0_segs.out HT0.out).mono ?_
    rintro e w12 ⟨vz0_segs, rfl, g12, r_hz0_segs⟩
    have Z12 : Hid (w11.heap.size + 0 ≤ w12.heap.size) := Lib.hid (by have := g12.size; simpa using this)
    replace h0_segs : Hid (RVersionss w12 u0_segs x0.segs) := Lib.hid (RSlice.mono (keeps_of keeps_version) g12 h0_segs.out)
    replace hw0 : Hid (RRows w12 (.slice aw0 nw0 cw0) (segRowsL x0 n1 n2)) := Lib.hid (RSlice.mono keeps_row g12 hw0.out)
    replace Mhg0 : Hid (RRows w12 (.slice ag0 ng0 cg0) (marksTo mkRow cntRow (1 : Int) (segRowsL x0 n1 n2).length (segRowsL x0 n1 n2))) := Lib.hid (RSlice.mono keeps_row g12 Mhg0.out)
    replace kb0_0 : w12.cell? ⟨w.heap.size, 0, none⟩ = some (u0_segs) := g12.cellv kb0_0
    replace kb0_1 : w12.cell? ⟨w.heap.size, 1, none⟩ = some (.int .i64 x0.now) := g12.cellv kb0_1
    replace gw : Hid (Gr w w12) := Lib.hid (gw.out.trans g12)
    replace gv : Hid (Gr w3 w12) := Lib.hid (gv.out.trans g12)
    obtain ⟨az0_segs, nz0_segs, cz0_segs, rfl⟩ := r_hz0_segs.isSl
    have hz0_segs : Hid (PVersionss (In w11.heap.size w12.heap.size) w12 (.slice az0_segs nz0_segs cz0_segs) x0.segs) := Lib.hid (r_hz0_segs.wide (by simp) (by omega))
    clear r_hz0_segs
    go_wp2_with fail
    refine (impl_SegmentRows x0 _ n1 n2 _ (rd_pversionss hz0_segs.out) HT0.out).mono ?_
    rintro e w13 ⟨vh0, rfl, g13, r_hh0⟩
    have Z13 : Hid (w12.heap.size + 0 ≤ w13.heap.size) := Lib.hid (by have := g13.size; simpa using this)
    replace h0_segs : Hid (RVersionss w13 u0_segs x0.segs) := Lib.hid (RSlice.mono (keeps_of keeps_version) g13 h0_segs.out)
    replace hw0 : Hid (RRows w13 (.slice aw0 nw0 cw0) (segRowsL x0 n1 n2)) := Lib.hid (RSlice.mono keeps_row g13 hw0.out)
    replace Mhg0 : Hid (RRows w13 (.slice ag0 ng0 cg0) (marksTo mkRow cntRow (1 : Int) (segRowsL x0 n1 n2).length (segRowsL x0 n1 n2))) := Lib.hid (RSlice.mono keeps_row g13 Mhg0.out)
    replace hz0_segs : Hid (PVersionss (In w11.heap.size w12.heap.size) w13 (.slice az0_segs nz0_segs cz0_segs) x0.segs) := Lib.hid (OSl.gr (fr_of fr_version) hz0_segs.out g13)
    replace kb0_0 : w13.cell? ⟨w.heap.size, 0, none⟩ = some (u0_segs) := g13.cellv kb0_0
    replace kb0_1 : w13.cell? ⟨w.heap.size, 1, none⟩ = some (.int .i64 x0.now) := g13.cellv kb0_1
    replace gw : Hid (Gr w w13) := Lib.hid (gw.out.trans g13)
    replace gv : Hid (Gr w3 w13) := Lib.hid (gv.out.trans g13)
    clear hz0_segs
    obtain ⟨ah0, nh0, ch0, rfl⟩ := r_hh0.isSl
    have hh0 : Hid (PRows (In w12.heap.size w13.heap.size) w13 (.slice ah0 nh0 ch0) (segRowsL x0 n1 n2)) := Lib.hid (r_hh0.wide (by simp) (by omega))
    clear r_hh0
    go_wp2_with fail
    refine (laws_eqRowS_same _ _ (segRowsL x0 n1 n2) _ (rd_prows hh0.out) hw0.out).mono ?_
    rintro e w14 ⟨rfl, g14⟩
    have Z14 : Hid (w13.heap.size + 0 ≤ w14.heap.size) := Lib.hid (by have := g14.size; simpa using this)
    replace h0_segs : Hid (RVersionss w14 u0_segs x0.segs) := Lib.hid (RSlice.mono (keeps_of keeps_version) g14 h0_segs.out)
    replace hw0 : Hid (RRows w14 (.slice aw0 nw0 cw0) (segRowsL x0 n1 n2)) := Lib.hid (RSlice.mono keeps_row g14 hw0.out)
    replace Mhg0 : Hid (RRows w14 (.slice ag0 ng0 cg0) (marksTo mkRow cntRow (1 : Int) (segRowsL x0 n1 n2).length (segRowsL x0 n1 n2))) := Lib.hid (RSlice.mono keeps_row g14 Mhg0.out)
    replace hh0 : Hid (PRows (In w12.heap.size w13.heap.size) w14 (.slice ah0 nh0 ch0) (segRowsL x0 n1 n2)) := Lib.hid (OSl.gr fr_row hh0.out g14)
    replace kb0_0 : w14.cell? ⟨w.heap.size, 0, none⟩ = some (u0_segs) := g14.cellv kb0_0
    replace kb0_1 : w14.cell? ⟨w.heap.size, 1, none⟩ = some (.int .i64 x0.now) := g14.cellv kb0_1
    replace gw : Hid (Gr w w14) := Lib.hid (gw.out.trans g14)
    replace gv : Hid (Gr w3 w14) := Lib.hid (gv.out.trans g14)
    go_wp2_with fail
    refine (laws_heldRowS _ (segRowsL x0 n1 n2) (1 : Int) _ Mhg0.out (by omega) (by omega)).mono ?_
    rintro e w15 ⟨rfl, g15⟩
    have Z15 : Hid (w14.heap.size + 0 ≤ w15.heap.size) := Lib.hid (by have := g15.size; simpa using this)
    replace h0_segs : Hid (RVersionss w15 u0_segs x0.segs) := Lib.hid (RSlice.mono (keeps_of keeps_version) g15 h0_segs.out)
    replace hw0 : Hid (RRows w15 (.slice aw0 nw0 cw0) (segRowsL x0 n1 n2)) := Lib.hid (RSlice.mono keeps_row g15 hw0.out)
    replace Mhg0 : Hid (RRows w15 (.slice ag0 ng0 cg0) (marksTo mkRow cntRow (1 : Int) (segRowsL x0 n1 n2).length (segRowsL x0 n1 n2))) := Lib.hid (RSlice.mono keeps_row g15 Mhg0.out)
    replace hh0 : Hid (PRows (In w12.heap.size w13.heap.size) w15 (.slice ah0 nh0 ch0) (segRowsL x0 n1 n2)) := Lib.hid (OSl.gr fr_row hh0.out g15)
    replace kb0_0 : w15.cell? ⟨w.heap.size, 0, none⟩ = some (u0_segs) := g15.cellv kb0_0
    replace kb0_1 : w15.cell? ⟨w.heap.size, 1, none⟩ = some (.int .i64 x0.now) := g15.cellv kb0_1
    replace gw : Hid (Gr w w15) := Lib.hid (gw.out.trans g15)
    replace gv : Hid (Gr w3 w15) := Lib.hid (gv.out.trans g15)
    go_wp2_with fail
    go_ret
    exact ⟨rfl, gw.out⟩
  · have HZ0 := Lib.hid (szV_no (t := (totStore x0)) (left := (1048576 : Int)) (by omega))
    have HA0 := Lib.hid (show (0 : Int) ≤ (1048576 : Int) ∧ (1048576 : Int) ≤ 1048576 from by omega)
    clear hs0
    go_enter Try.func7, Try.ntmps7
    have Bh0_segs := Lib.hid h0_segs
    replace h0_segs := Lib.hid h0_segs
    go_wp2_with fail
    refine (laws_szStore x0 u0_segs _ _ (RSlice.mono (keeps_of keeps_version) ((Gr.refl w).alloc _) h0_segs.out) HA0.out.1 HA0.out.2).mono ?_
    rintro e w1 ⟨rfl, g1⟩
    have gs1 : Gr w w1 := ((Gr.refl w).alloc _).trans g1
    have Z1 : Hid (w.heap.size + 1 ≤ w1.heap.size) := Lib.hid (by have := g1.size; simpa using this)
    replace h0_segs : Hid (RVersionss w1 u0_segs x0.segs) := Lib.hid (RSlice.mono (keeps_of keeps_version) gs1 h0_segs.out)
    have gw : Hid (Gr w w1) := Lib.hid gs1
    have kb0_0 : w1.cell? ⟨w.heap.size, 0, none⟩ = some (u0_segs) := g1.cellv (by simp [go_sem])
    have kb0_1 : w1.cell? ⟨w.heap.size, 1, none⟩ = some (.int .i64 x0.now) := g1.cellv (by simp [go_sem])
    have bkb0_0 : Hid (w.heap.size < w1.heap.size) := Lib.hid (by have := Z1.out; omega)
    rw [HZ0.out]
    go_wp2_with fail
    go_ret
    exact ⟨rfl, gw.out⟩

-- endgen
end Go.Proofs.Ytnnapjaggahjgaa
