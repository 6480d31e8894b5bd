/- ParseRow: the law. -/
import Derived.Test.YtjeffagejbdjkaaDoorPRowR
import Derived.Test.YtjeffagejbdjkaaDoorMkRow
namespace Go.Proofs.YtjeffagejbdjkaaDoor
open Go.RowKit
theorem rowOr_small (l : List UInt8) : (rowOr (implRow l)).vals.length ≤ 3 ∧ I64 (rowOr (implRow l)).id := by
  cases h : implRow l with
  | none => exact ⟨by simp [rowOr], by simp [rowOr, I64]⟩
  | some r =>
    have h1 := isRow_parts (implRow_some h).1
    refine ⟨by show r.vals.length ≤ 3; omega, ?_⟩
    show I64 r.id
    unfold I64; omega
theorem spec_ParR (l : List UInt8) (w : World) (hl : l.length ≤ 1048576) : Calls Tryd.prog 35 #[.string ⟨l.toArray⟩] w fun e w' => ∃ v, e = .returned (.tuple #[.agg #[.int .i64 (rowOr (implRow l)).id, v], .bool (implRow l).isSome]) ∧ RInts w' v (rowOr (implRow l)).vals ∧ Gr w w' := by
  rw [← specRow_eq]; exact spec_ParseRow l w hl
theorem impl_ParR (l : List UInt8) (w : World) (hl : l.length ≤ 1048576) (hT : Tens Tryd.prog w) (hS : ErrS Tryd.prog w) (hR : ErrR Tryd.prog w) (hM : MaxL w) : Calls Tryd.prog 36 #[.string ⟨l.toArray⟩] w fun e w' => ∃ v, e = .returned (.tuple #[.agg #[.int .i64 (rowOr (implRow l)).id, v], .bool (implRow l).isSome]) ∧ Gr w w' ∧ PInts (In w.heap.size w'.heap.size) w' v (rowOr (implRow l)).vals := impl_ParseRow l w hl hT hS hR hM
-- mgen FnExactParseRow ParR+HQ0!parse Row,bool "(rowOr (implRow x0));((implRow x0).isSome)" "by have := rowOr_small x0; have := cnt_IntS ((rowOr (implRow x0)).vals); omega" str
set_option maxRecDepth 100000 in
set_option maxHeartbeats 1500000 in
theorem lawl_FnExactParseRow (w : World) (hT : Tens Tryd.prog w) (hS : ErrS Tryd.prog w) (hR : ErrR Tryd.prog w) (hM : MaxL w) (x0 : List UInt8) : Calls Tryd.prog 9 #[.string ⟨x0.toArray⟩] w fun e w' => e = .returned (.bool true) ∧ Gr w w' := by
  have HTens := Lib.hid hT
  have HErS := Lib.hid hS
  have HErR := Lib.hid hR
  have HMx := Lib.hid hM
  clear hT hS hR hM
  by_cases hs0 : (x0.length : Int) ≤ 1048576
  · have HQ0 : Hid (x0.length ≤ 1048576) := Lib.hid (by omega)
    go_enter Tryd.func9, Tryd.ntmps9
    go_wp2_with fail
    refine (spec_ParR x0 _ HQ0.out).mono ?_
    rintro e w1 ⟨vw0_vals, rfl, r_hw0_vals, g1⟩
    have Z1 : Hid (w.heap.size + 0 ≤ w1.heap.size) := Lib.hid (by have := g1.size; simpa using this)
    have gw : Hid (Gr w w1) := Lib.hid g1
    obtain ⟨aw0_vals, nw0_vals, cw0_vals, rfl⟩ := r_hw0_vals.isSl
    have hw0_vals : Hid (RInts w1 (.slice aw0_vals nw0_vals cw0_vals) (rowOr (implRow x0)).vals) := Lib.hid r_hw0_vals
    have Bhw0_vals := Lib.hid r_hw0_vals
    clear r_hw0_vals
    have gv : Hid (Gr w1 w1) := Lib.hid (Gr.refl _)
    have ZV : Hid (w.heap.size ≤ w1.heap.size) := Lib.hid gw.out.size
    go_wp2_with fail
    refine (impl_ParR x0 _ HQ0.out (tab_gr HTens.out (gw.out.trans ((Gr.refl w1).alloc _))) (errS_gr HErS.out (gw.out.trans ((Gr.refl w1).alloc _))) (errR_gr HErR.out (gw.out.trans ((Gr.refl w1).alloc _))) (maxL_gr HMx.out (gw.out.trans ((Gr.refl w1).alloc _)))).mono ?_
    rintro e w2 ⟨vg0_vals, rfl, g2, r_hg0_vals⟩
    have gs2 : Gr w1 w2 := ((Gr.refl w1).alloc _).trans g2
    have Z2 : Hid (w1.heap.size + 1 ≤ w2.heap.size) := Lib.hid (by have := g2.size; simpa using this)
    replace hw0_vals : Hid (RInts w2 (.slice aw0_vals nw0_vals cw0_vals) (rowOr (implRow x0)).vals) := Lib.hid (RSlice.mono keeps_int gs2 hw0_vals.out)
    replace gw : Hid (Gr w w2) := Lib.hid (gw.out.trans gs2)
    replace gv : Hid (Gr w1 w2) := Lib.hid (gv.out.trans gs2)
    have kw0_0 : w2.cell? ⟨w1.heap.size, 0, none⟩ = some (.int .i64 (rowOr (implRow x0)).id) := g2.cellv (by simp [go_sem])
    have kw0_1 : w2.cell? ⟨w1.heap.size, 1, none⟩ = some (.slice aw0_vals nw0_vals cw0_vals) := g2.cellv (by simp [go_sem])
    have bkw0_0 : Hid (w1.heap.size < w2.heap.size) := Lib.hid (by have := Z2.out; omega)
    obtain ⟨ag0_vals, ng0_vals, cg0_vals, rfl⟩ := r_hg0_vals.isSl
    have hg0_vals : Hid (PInts (In (w1.heap.size + 1) w2.heap.size) w2 (.slice ag0_vals ng0_vals cg0_vals) (rowOr (implRow x0)).vals) := Lib.hid (r_hg0_vals.wide (by simp) (by omega))
    clear r_hg0_vals
    have Lkw0_0 := ((Gr.refl w2).alloc (.cells #[.int .i64 (rowOr (implRow x0)).id, .slice ag0_vals ng0_vals cg0_vals] 33)).cellv kw0_0
    have Lkw0_1 := ((Gr.refl w2).alloc (.cells #[.int .i64 (rowOr (implRow x0)).id, .slice ag0_vals ng0_vals cg0_vals] 33)).cellv kw0_1
    have ei1 : ((((implRow x0).isSome) : Bool) != ((implRow x0).isSome)) = false := by simp
    go_wp2_with fail
    refine (laws_eqRow (rowOr (implRow x0)) _ _ _ (RSlice.mono keeps_int ((Gr.refl w2).alloc _) (rd_pints hg0_vals.out)) (RSlice.mono keeps_int ((Gr.refl w2).alloc _) hw0_vals.out)).mono ?_
    rintro e w3 ⟨rfl, g3⟩
    have gs3 : Gr w2 w3 := ((Gr.refl w2).alloc _).trans g3
    have Z3 : Hid (w2.heap.size + 1 ≤ w3.heap.size) := Lib.hid (by have := g3.size; simpa using this)
    replace hw0_vals : Hid (RInts w3 (.slice aw0_vals nw0_vals cw0_vals) (rowOr (implRow x0)).vals) := Lib.hid (RSlice.mono keeps_int gs3 hw0_vals.out)
    replace hg0_vals : Hid (PInts (In (w1.heap.size + 1) w2.heap.size) w3 (.slice ag0_vals ng0_vals cg0_vals) (rowOr (implRow x0)).vals) := Lib.hid (OSl.gr fr_int hg0_vals.out gs3)
    replace kw0_0 : w3.cell? ⟨w1.heap.size, 0, none⟩ = some (.int .i64 (rowOr (implRow x0)).id) := gs3.cellv kw0_0
    replace kw0_1 : w3.cell? ⟨w1.heap.size, 1, none⟩ = some (.slice aw0_vals nw0_vals cw0_vals) := gs3.cellv kw0_1
    replace gw : Hid (Gr w w3) := Lib.hid (gw.out.trans gs3)
    replace gv : Hid (Gr w1 w3) := Lib.hid (gv.out.trans gs3)
    have kg0_0 : w3.cell? ⟨w2.heap.size, 0, none⟩ = some (.int .i64 (rowOr (implRow x0)).id) := g3.cellv (by simp [go_sem])
    have kg0_1 : w3.cell? ⟨w2.heap.size, 1, none⟩ = some (.slice ag0_vals ng0_vals cg0_vals) := g3.cellv (by simp [go_sem])
    have bkg0_0 : Hid (w2.heap.size < w3.heap.size) := Lib.hid (by have := Z3.out; omega)
    clear Lkw0_0 Lkw0_1
    have HBR := Lib.hid (show (1 : Int) + (sumT cntI (rowOr (implRow x0)).vals : Int) ≤ 4611686018427387904 from by have := rowOr_small x0; have := cnt_IntS ((rowOr (implRow x0)).vals); omega)
    have hbr := HBR.out
    go_wp2_with fail
    refine (laws_markRow (In (w1.heap.size + 1) w2.heap.size) (rowOr (implRow x0)) _ (1 : Int) _ hg0_vals.out (fun b hb => by have := Z1.out; have := ZV.out; have := Z2.out; have := bkw0_0.out; have := Z3.out; have := bkg0_0.out; have := hb.2; omega) (by omega) (by omega)).mono ?_
    rintro e wg0 ⟨rfl, qhg0_vals, dg0⟩
    have Z4 : Hid (w3.heap.size ≤ wg0.heap.size) := Lib.hid dg0.size
    replace gw : Hid (Gr w wg0) := Lib.hid (Gr.trans' gw.out (dg0.below (fun b hb => by have := Z1.out; have := ZV.out; have := Z2.out; have := bkw0_0.out; have := Z3.out; have := bkg0_0.out; have := Z4.out; have := hb.1; omega) (gw.out.size)))
    replace gv : Hid (Gr w1 wg0) := Lib.hid (Gr.trans' gv.out (dg0.below (fun b hb => by have := Z1.out; have := ZV.out; have := Z2.out; have := bkw0_0.out; have := Z3.out; have := bkg0_0.out; have := Z4.out; have := hb.1; omega) (gv.out.size)))
    replace hw0_vals : Hid (RInts wg0 (.slice aw0_vals nw0_vals cw0_vals) (rowOr (implRow x0)).vals) := Lib.hid (RSlice.mono keeps_int gv.out Bhw0_vals.out)
    replace kw0_0 : wg0.cell? ⟨w1.heap.size, 0, none⟩ = some (.int .i64 (rowOr (implRow x0)).id) := (World.cell?_of_block (w := w3) (dg0.block _ (World.block_lt_of_cell? _ _ kw0_0) (fun hc => by have := Z1.out; have := ZV.out; have := Z2.out; have := bkw0_0.out; have := Z3.out; have := bkg0_0.out; have := Z4.out; have := hc.1; have := hc.2; dsimp only at *; omega))).trans kw0_0
    replace kw0_1 : wg0.cell? ⟨w1.heap.size, 1, none⟩ = some (.slice aw0_vals nw0_vals cw0_vals) := (World.cell?_of_block (w := w3) (dg0.block _ (World.block_lt_of_cell? _ _ kw0_1) (fun hc => by have := Z1.out; have := ZV.out; have := Z2.out; have := bkw0_0.out; have := Z3.out; have := bkg0_0.out; have := Z4.out; have := hc.1; have := hc.2; dsimp only at *; omega))).trans kw0_1
    replace kg0_0 : wg0.cell? ⟨w2.heap.size, 0, none⟩ = some (.int .i64 (rowOr (implRow x0)).id) := (World.cell?_of_block (w := w3) (dg0.block _ (World.block_lt_of_cell? _ _ kg0_0) (fun hc => by have := Z1.out; have := ZV.out; have := Z2.out; have := bkw0_0.out; have := Z3.out; have := bkg0_0.out; have := Z4.out; have := hc.1; have := hc.2; dsimp only at *; omega))).trans kg0_0
    replace kg0_1 : wg0.cell? ⟨w2.heap.size, 1, none⟩ = some (.slice ag0_vals ng0_vals cg0_vals) := (World.cell?_of_block (w := w3) (dg0.block _ (World.block_lt_of_cell? _ _ kg0_1) (fun hc => by have := Z1.out; have := ZV.out; have := Z2.out; have := bkw0_0.out; have := Z3.out; have := bkg0_0.out; have := Z4.out; have := hc.1; have := hc.2; dsimp only at *; omega))).trans kg0_1
    clear hg0_vals
    have Mhg0_vals : Hid (RInts wg0 (.slice ag0_vals ng0_vals cg0_vals) (marksTo mkI cntI (1 : Int) (rowOr (implRow x0)).vals.length (rowOr (implRow x0)).vals)) := Lib.hid (rd_pints qhg0_vals)
    clear qhg0_vals
    have hcg0 : 0 ≤ ((1 : Int) + (sumT cntI (rowOr (implRow x0)).vals : Int)) := by omega
    have ef : (((1 : Int) + (sumT cntI (rowOr (implRow x0)).vals : Int)) != ((1 : Int) + (sumT cntI (rowOr (implRow x0)).vals : Int))) = false := by simp
    go_wp2_with fail
    refine (laws_heldRow (rowOr (implRow x0)) _ (1 : Int) _ Mhg0_vals.out (by omega) (by omega)).mono ?_
    rintro e w5 ⟨rfl, g5⟩
    have Z5 : Hid (wg0.heap.size + 0 ≤ w5.heap.size) := Lib.hid (by have := g5.size; simpa using this)
    replace hw0_vals : Hid (RInts w5 (.slice aw0_vals nw0_vals cw0_vals) (rowOr (implRow x0)).vals) := Lib.hid (RSlice.mono keeps_int g5 hw0_vals.out)
    replace Mhg0_vals : Hid (RInts w5 (.slice ag0_vals ng0_vals cg0_vals) (marksTo mkI cntI (1 : Int) (rowOr (implRow x0)).vals.length (rowOr (implRow x0)).vals)) := Lib.hid (RSlice.mono keeps_int g5 Mhg0_vals.out)
    replace kw0_0 : w5.cell? ⟨w1.heap.size, 0, none⟩ = some (.int .i64 (rowOr (implRow x0)).id) := g5.cellv kw0_0
    replace kw0_1 : w5.cell? ⟨w1.heap.size, 1, none⟩ = some (.slice aw0_vals nw0_vals cw0_vals) := g5.cellv kw0_1
    replace kg0_0 : w5.cell? ⟨w2.heap.size, 0, none⟩ = some (.int .i64 (rowOr (implRow x0)).id) := g5.cellv kg0_0
    replace kg0_1 : w5.cell? ⟨w2.heap.size, 1, none⟩ = some (.slice ag0_vals ng0_vals cg0_vals) := g5.cellv kg0_1
    replace gw : Hid (Gr w w5) := Lib.hid (gw.out.trans g5)
    replace gv : Hid (Gr w1 w5) := Lib.hid (gv.out.trans g5)
    go_wp2_with fail
    refine (impl_ParR x0 _ HQ0.out (tab_gr HTens.out (gw.out.trans (Gr.refl _))) (errS_gr HErS.out (gw.out.trans (Gr.refl _))) (errR_gr HErR.out (gw.out.trans (Gr.refl _))) (maxL_gr HMx.out (gw.out.trans (Gr.refl _)))).mono ?_
    rintro e w6 ⟨vh0_vals, rfl, g6, r_hh0_vals⟩
    have Z6 : Hid (w5.heap.size + 0 ≤ w6.heap.size) := Lib.hid (by have := g6.size; simpa using this)
    replace hw0_vals : Hid (RInts w6 (.slice aw0_vals nw0_vals cw0_vals) (rowOr (implRow x0)).vals) := Lib.hid (RSlice.mono keeps_int g6 hw0_vals.out)
    replace Mhg0_vals : Hid (RInts w6 (.slice ag0_vals ng0_vals cg0_vals) (marksTo mkI cntI (1 : Int) (rowOr (implRow x0)).vals.length (rowOr (implRow x0)).vals)) := Lib.hid (RSlice.mono keeps_int g6 Mhg0_vals.out)
    replace kw0_0 : w6.cell? ⟨w1.heap.size, 0, none⟩ = some (.int .i64 (rowOr (implRow x0)).id) := g6.cellv kw0_0
    replace kw0_1 : w6.cell? ⟨w1.heap.size, 1, none⟩ = some (.slice aw0_vals nw0_vals cw0_vals) := g6.cellv kw0_1
    replace kg0_0 : w6.cell? ⟨w2.heap.size, 0, none⟩ = some (.int .i64 (rowOr (implRow x0)).id) := g6.cellv kg0_0
    replace kg0_1 : w6.cell? ⟨w2.heap.size, 1, none⟩ = some (.slice ag0_vals ng0_vals cg0_vals) := g6.cellv kg0_1
    replace gw : Hid (Gr w w6) := Lib.hid (gw.out.trans g6)
    replace gv : Hid (Gr w1 w6) := Lib.hid (gv.out.trans g6)
    obtain ⟨ah0_vals, nh0_vals, ch0_vals, rfl⟩ := r_hh0_vals.isSl
    have hh0_vals : Hid (PInts (In w5.heap.size w6.heap.size) w6 (.slice ah0_vals nh0_vals ch0_vals) (rowOr (implRow x0)).vals) := Lib.hid (r_hh0_vals.wide (by simp) (by omega))
    clear r_hh0_vals
    have Lkw0_0 := ((Gr.refl w6).alloc (.cells #[.int .i64 (rowOr (implRow x0)).id, .slice ah0_vals nh0_vals ch0_vals] 33)).cellv kw0_0
    have Lkw0_1 := ((Gr.refl w6).alloc (.cells #[.int .i64 (rowOr (implRow x0)).id, .slice ah0_vals nh0_vals ch0_vals] 33)).cellv kw0_1
    have Lkg0_0 := ((Gr.refl w6).alloc (.cells #[.int .i64 (rowOr (implRow x0)).id, .slice ah0_vals nh0_vals ch0_vals] 33)).cellv kg0_0
    have Lkg0_1 := ((Gr.refl w6).alloc (.cells #[.int .i64 (rowOr (implRow x0)).id, .slice ah0_vals nh0_vals ch0_vals] 33)).cellv kg0_1
    go_wp2_with fail
    refine (laws_eqRow (rowOr (implRow x0)) _ _ _ (RSlice.mono keeps_int ((Gr.refl w6).alloc _) (rd_pints hh0_vals.out)) (RSlice.mono keeps_int ((Gr.refl w6).alloc _) hw0_vals.out)).mono ?_
    rintro e w7 ⟨rfl, g7⟩
    have gs7 : Gr w6 w7 := ((Gr.refl w6).alloc _).trans g7
    have Z7 : Hid (w6.heap.size + 1 ≤ w7.heap.size) := Lib.hid (by have := g7.size; simpa using this)
    replace hw0_vals : Hid (RInts w7 (.slice aw0_vals nw0_vals cw0_vals) (rowOr (implRow x0)).vals) := Lib.hid (RSlice.mono keeps_int gs7 hw0_vals.out)
    replace Mhg0_vals : Hid (RInts w7 (.slice ag0_vals ng0_vals cg0_vals) (marksTo mkI cntI (1 : Int) (rowOr (implRow x0)).vals.length (rowOr (implRow x0)).vals)) := Lib.hid (RSlice.mono keeps_int gs7 Mhg0_vals.out)
    replace hh0_vals : Hid (PInts (In w5.heap.size w6.heap.size) w7 (.slice ah0_vals nh0_vals ch0_vals) (rowOr (implRow x0)).vals) := Lib.hid (OSl.gr fr_int hh0_vals.out gs7)
    replace kw0_0 : w7.cell? ⟨w1.heap.size, 0, none⟩ = some (.int .i64 (rowOr (implRow x0)).id) := gs7.cellv kw0_0
    replace kw0_1 : w7.cell? ⟨w1.heap.size, 1, none⟩ = some (.slice aw0_vals nw0_vals cw0_vals) := gs7.cellv kw0_1
    replace kg0_0 : w7.cell? ⟨w2.heap.size, 0, none⟩ = some (.int .i64 (rowOr (implRow x0)).id) := gs7.cellv kg0_0
    replace kg0_1 : w7.cell? ⟨w2.heap.size, 1, none⟩ = some (.slice ag0_vals ng0_vals cg0_vals) := gs7.cellv kg0_1
    replace gw : Hid (Gr w w7) := Lib.hid (gw.out.trans gs7)
    replace gv : Hid (Gr w1 w7) := Lib.hid (gv.out.trans gs7)
    have kh0_0 : w7.cell? ⟨w6.heap.size, 0, none⟩ = some (.int .i64 (rowOr (implRow x0)).id) := g7.cellv (by simp [go_sem])
    have kh0_1 : w7.cell? ⟨w6.heap.size, 1, none⟩ = some (.slice ah0_vals nh0_vals ch0_vals) := g7.cellv (by simp [go_sem])
    have bkh0_0 : Hid (w6.heap.size < w7.heap.size) := Lib.hid (by have := Z7.out; omega)
    clear Lkw0_0 Lkw0_1 Lkg0_0 Lkg0_1
    go_wp2_with fail
    refine (laws_heldRow (rowOr (implRow x0)) _ (1 : Int) _ Mhg0_vals.out (by omega) (by omega)).mono ?_
    rintro e w8 ⟨rfl, g8⟩
    have Z8 : Hid (w7.heap.size + 0 ≤ w8.heap.size) := Lib.hid (by have := g8.size; simpa using this)
    replace hw0_vals : Hid (RInts w8 (.slice aw0_vals nw0_vals cw0_vals) (rowOr (implRow x0)).vals) := Lib.hid (RSlice.mono keeps_int g8 hw0_vals.out)
    replace Mhg0_vals : Hid (RInts w8 (.slice ag0_vals ng0_vals cg0_vals) (marksTo mkI cntI (1 : Int) (rowOr (implRow x0)).vals.length (rowOr (implRow x0)).vals)) := Lib.hid (RSlice.mono keeps_int g8 Mhg0_vals.out)
    replace hh0_vals : Hid (PInts (In w5.heap.size w6.heap.size) w8 (.slice ah0_vals nh0_vals ch0_vals) (rowOr (implRow x0)).vals) := Lib.hid (OSl.gr fr_int hh0_vals.out g8)
    replace kw0_0 : w8.cell? ⟨w1.heap.size, 0, none⟩ = some (.int .i64 (rowOr (implRow x0)).id) := g8.cellv kw0_0
    replace kw0_1 : w8.cell? ⟨w1.heap.size, 1, none⟩ = some (.slice aw0_vals nw0_vals cw0_vals) := g8.cellv kw0_1
    replace kg0_0 : w8.cell? ⟨w2.heap.size, 0, none⟩ = some (.int .i64 (rowOr (implRow x0)).id) := g8.cellv kg0_0
    replace kg0_1 : w8.cell? ⟨w2.heap.size, 1, none⟩ = some (.slice ag0_vals ng0_vals cg0_vals) := g8.cellv kg0_1
    replace kh0_0 : w8.cell? ⟨w6.heap.size, 0, none⟩ = some (.int .i64 (rowOr (implRow x0)).id) := g8.cellv kh0_0
    replace kh0_1 : w8.cell? ⟨w6.heap.size, 1, none⟩ = some (.slice ah0_vals nh0_vals ch0_vals) := g8.cellv kh0_1
    replace gw : Hid (Gr w w8) := Lib.hid (gw.out.trans g8)
    replace gv : Hid (Gr w1 w8) := Lib.hid (gv.out.trans g8)
    go_wp2_with fail
    go_ret
    exact ⟨rfl, gw.out⟩
  · go_enter Tryd.func9, Tryd.ntmps9
    go_wp2_with fail
    go_ret
    exact ⟨rfl, Gr.refl _⟩

-- endgen
theorem law_FnExactParseRow (w : World) (hT : Tens Tryd.prog w) (hS : ∃ p, w.var? Tryd.prog "strconv.ErrSyntax" = some #[.iface 147 p]) (hR : ∃ p, w.var? Tryd.prog "strconv.ErrRange" = some #[.iface 147 p]) (hSh : w.ShapedOpen Tryd.prog) (s : ByteArray) (_ : s.size ≤ 9223372036854775807) : Calls Tryd.prog 9 #[.string s] w fun e w' => e = .returned (.bool true) ∧ Gr w w' := by
  obtain ⟨l, rfl⟩ : ∃ l : List UInt8, s = ⟨l.toArray⟩ := ⟨_, ba_list s⟩
  exact lawl_FnExactParseRow w hT (by obtain ⟨p, h⟩ := hS; exact ⟨_, p, h⟩) (by obtain ⟨p, h⟩ := hR; exact ⟨_, p, h⟩) (Tryd.laysM146.s1_3 w hSh) l
end Go.Proofs.YtjeffagejbdjkaaDoor
