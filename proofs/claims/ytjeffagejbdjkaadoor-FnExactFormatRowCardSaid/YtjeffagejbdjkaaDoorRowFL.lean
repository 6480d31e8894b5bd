/- FormatRow: the law. -/
import Derived.Test.YtjeffagejbdjkaaDoorRowF
import Derived.Test.YtjeffagejbdjkaaDoorMkRow
namespace Go.Proofs.YtjeffagejbdjkaaDoor
open Go.RowKit
-- mgen FnExactFormatRow FormatRow+HQ0+HI0!tens!i64 str "⟨(rowText x0).toArray⟩" - Row
set_option maxRecDepth 100000 in
set_option maxHeartbeats 1500000 in
theorem law_FnExactFormatRow (w : World) (hT : Tens Tryd.prog w) (x0 : DRow) (u0_vals : Value) (_ : I64 x0.id) (h0_vals : RInts w u0_vals x0.vals) : Calls Tryd.prog 5 #[.agg #[.int .i64 x0.id, u0_vals]] w fun e w' => e = .returned (.bool true) ∧ Gr w w' := by
  have HI0 : Hid (I64 x0.id) := Lib.hid (by assumption)
  have HTens := Lib.hid hT
  clear hT
  by_cases hs0 : ((totRow x0) : Int) ≤ (1048576 : Int)
  · have HZ0 := Lib.hid (szV_yes (t := (totRow x0)) (left := (1048576 : Int)) (by omega))
    have HA0 := Lib.hid (show (0 : Int) ≤ (1048576 : Int) ∧ (1048576 : Int) ≤ 1048576 from by omega)
    have HB0 := Lib.hid (show (0 : Int) ≤ (1048576 : Int) - ((totRow x0) : Int) ∧ (1048576 : Int) - ((totRow x0) : Int) ≤ 1048576 from by omega)
    have HT0 := Lib.hid (show (totRow x0) ≤ 4294967296 from by omega)
    have HQ0 : Hid ((totRow x0) ≤ 1048576) := Lib.hid (by omega)
    clear hs0
    go_enter Tryd.func5, Tryd.ntmps5
    have Bh0_vals := Lib.hid h0_vals
    replace h0_vals := Lib.hid h0_vals
    go_wp2_with fail
    refine (laws_szRow x0 u0_vals _ _ (RSlice.mono keeps_int ((Gr.refl w).alloc _) h0_vals.out) HA0.out.1 HA0.out.2).mono ?_
    rintro e w1 ⟨rfl, g1⟩
    have gs1 : Gr w w1 := ((Gr.refl w).alloc _).trans g1
    have Z1 : Hid (w.heap.size + 1 ≤ w1.heap.size) := Lib.hid (by have := g1.size; simpa using this)
    replace h0_vals : Hid (RInts w1 u0_vals x0.vals) := Lib.hid (RSlice.mono keeps_int gs1 h0_vals.out)
    have gw : Hid (Gr w w1) := Lib.hid gs1
    have kb0_0 : w1.cell? ⟨w.heap.size, 0, none⟩ = some (.int .i64 x0.id) := g1.cellv (by simp [go_sem])
    have kb0_1 : w1.cell? ⟨w.heap.size, 1, none⟩ = some (u0_vals) := g1.cellv (by simp [go_sem])
    have bkb0_0 : Hid (w.heap.size < w1.heap.size) := Lib.hid (by have := Z1.out; omega)
    rw [HZ0.out]
    have hB0 := HB0.out.1
    have hC0 := HB0.out.2
    go_wp2_with fail
    refine (laws_toRow_own x0 u0_vals _ h0_vals.out HT0.out).mono ?_
    rintro e w2 ⟨vp0_vals, rfl, g2, r_hp0_vals⟩
    have Z2 : Hid (w1.heap.size + 0 ≤ w2.heap.size) := Lib.hid (by have := g2.size; simpa using this)
    replace h0_vals : Hid (RInts w2 u0_vals x0.vals) := Lib.hid (RSlice.mono keeps_int g2 h0_vals.out)
    replace kb0_0 : w2.cell? ⟨w.heap.size, 0, none⟩ = some (.int .i64 x0.id) := g2.cellv kb0_0
    replace kb0_1 : w2.cell? ⟨w.heap.size, 1, none⟩ = some (u0_vals) := g2.cellv kb0_1
    replace gw : Hid (Gr w w2) := Lib.hid (gw.out.trans g2)
    obtain ⟨ap0_vals, np0_vals, cp0_vals, rfl⟩ := r_hp0_vals.isSl
    have hp0_vals : Hid (PInts (In w1.heap.size w2.heap.size) w2 (.slice ap0_vals np0_vals cp0_vals) x0.vals) := Lib.hid (r_hp0_vals.wide (by simp) (by omega))
    clear r_hp0_vals
    go_wp2_with fail
    refine (spec_FormatRow x0 _ _ (rd_pints hp0_vals.out) HQ0.out HI0.out).mono ?_
    rintro e w3 ⟨rfl, g3⟩
    have Z3 : Hid (w2.heap.size + 0 ≤ w3.heap.size) := Lib.hid (by have := g3.size; simpa using this)
    replace h0_vals : Hid (RInts w3 u0_vals x0.vals) := Lib.hid (RSlice.mono keeps_int g3 h0_vals.out)
    replace hp0_vals : Hid (PInts (In w1.heap.size w2.heap.size) w3 (.slice ap0_vals np0_vals cp0_vals) x0.vals) := Lib.hid (OSl.gr fr_int hp0_vals.out g3)
    replace kb0_0 : w3.cell? ⟨w.heap.size, 0, none⟩ = some (.int .i64 x0.id) := g3.cellv kb0_0
    replace kb0_1 : w3.cell? ⟨w.heap.size, 1, none⟩ = some (u0_vals) := g3.cellv kb0_1
    replace gw : Hid (Gr w w3) := Lib.hid (gw.out.trans g3)
    clear hp0_vals
    have gv : Hid (Gr w3 w3) := Lib.hid (Gr.refl _)
    have ZV : Hid (w.heap.size ≤ w3.heap.size) := Lib.hid gw.out.size
    go_wp2_with fail
    refine (laws_toRow_own x0 u0_vals _ h0_vals.out HT0.out).mono ?_
    rintro e w4 ⟨vx0_vals, rfl, g4, r_hx0_vals⟩
    have Z4 : Hid (w3.heap.size + 0 ≤ w4.heap.size) := Lib.hid (by have := g4.size; simpa using this)
    replace h0_vals : Hid (RInts w4 u0_vals x0.vals) := Lib.hid (RSlice.mono keeps_int g4 h0_vals.out)
    replace kb0_0 : w4.cell? ⟨w.heap.size, 0, none⟩ = some (.int .i64 x0.id) := g4.cellv kb0_0
    replace kb0_1 : w4.cell? ⟨w.heap.size, 1, none⟩ = some (u0_vals) := g4.cellv kb0_1
    replace gw : Hid (Gr w w4) := Lib.hid (gw.out.trans g4)
    replace gv : Hid (Gr w3 w4) := Lib.hid (gv.out.trans g4)
    obtain ⟨ax0_vals, nx0_vals, cx0_vals, rfl⟩ := r_hx0_vals.isSl
    have hx0_vals : Hid (PInts (In w3.heap.size w4.heap.size) w4 (.slice ax0_vals nx0_vals cx0_vals) x0.vals) := Lib.hid (r_hx0_vals.wide (by simp) (by omega))
    clear r_hx0_vals
    have Lkb0_0 := ((Gr.refl w4).alloc (.cells #[.int .i64 x0.id, .slice ax0_vals nx0_vals cx0_vals] 33)).cellv kb0_0
    have Lkb0_1 := ((Gr.refl w4).alloc (.cells #[.int .i64 x0.id, .slice ax0_vals nx0_vals cx0_vals] 33)).cellv kb0_1
    go_wp2_with fail
    refine (impl_FormatRow x0 _ _ (RSlice.mono keeps_int ((Gr.refl w4).alloc _) (rd_pints hx0_vals.out)) HQ0.out HI0.out (tab_gr HTens.out (gw.out.trans ((Gr.refl w4).alloc _)))).mono ?_
    rintro e w5 ⟨rfl, g5⟩
    have gs5 : Gr w4 w5 := ((Gr.refl w4).alloc _).trans g5
    have Z5 : Hid (w4.heap.size + 1 ≤ w5.heap.size) := Lib.hid (by have := g5.size; simpa using this)
    replace h0_vals : Hid (RInts w5 u0_vals x0.vals) := Lib.hid (RSlice.mono keeps_int gs5 h0_vals.out)
    replace hx0_vals : Hid (PInts (In w3.heap.size w4.heap.size) w5 (.slice ax0_vals nx0_vals cx0_vals) x0.vals) := Lib.hid (OSl.gr fr_int hx0_vals.out gs5)
    replace kb0_0 : w5.cell? ⟨w.heap.size, 0, none⟩ = some (.int .i64 x0.id) := gs5.cellv kb0_0
    replace kb0_1 : w5.cell? ⟨w.heap.size, 1, none⟩ = some (u0_vals) := gs5.cellv kb0_1
    replace gw : Hid (Gr w w5) := Lib.hid (gw.out.trans gs5)
    replace gv : Hid (Gr w3 w5) := Lib.hid (gv.out.trans gs5)
    have kx0_0 : w5.cell? ⟨w4.heap.size, 0, none⟩ = some (.int .i64 x0.id) := g5.cellv (by simp [go_sem])
    have kx0_1 : w5.cell? ⟨w4.heap.size, 1, none⟩ = some (.slice ax0_vals nx0_vals cx0_vals) := g5.cellv (by simp [go_sem])
    have bkx0_0 : Hid (w4.heap.size < w5.heap.size) := Lib.hid (by have := Z5.out; omega)
    clear Lkb0_0 Lkb0_1
    go_wp2
    go_region_held3 (fun w' => w'.cell? ⟨w.heap.size, 0, none⟩ = some (.int .i64 x0.id) ∧ w'.cell? ⟨w.heap.size, 1, none⟩ = some (u0_vals) ∧ w'.cell? ⟨w4.heap.size, 0, none⟩ = some (.int .i64 x0.id) ∧ w'.cell? ⟨w4.heap.size, 1, none⟩ = some (.slice ax0_vals nx0_vals cx0_vals) ∧ RInts w' u0_vals x0.vals ∧ RInts w' (.slice ax0_vals nx0_vals cx0_vals) x0.vals ∧ Gr w5 w')
      (first | exact ⟨kb0_0, kb0_1, kx0_0, kx0_1, h0_vals.out, (rd_pints hx0_vals.out), Gr.refl _⟩ | exact ⟨kb0_0, kb0_1, kx0_0, kx0_1, h0_vals.out, (rd_pints hx0_vals.out), (Gr.refl _).drew⟩ | (go_split_ands; exact ⟨Gr.cellv gb0 (by assumption), Gr.cellv gb0 (by assumption), Gr.cellv gb0 (by assumption), Gr.cellv gb0 (by assumption), (RSlice.mono keeps_int gb0 (by assumption)), (RSlice.mono keeps_int gb0 (by assumption)), Gr.trans (by assumption) gb0⟩) | (go_split_ands; exact ⟨Gr.cellv ga0 (by assumption), Gr.cellv ga0 (by assumption), Gr.cellv ga0 (by assumption), Gr.cellv ga0 (by assumption), (RSlice.mono keeps_int ga0 (by assumption)), (RSlice.mono keeps_int ga0 (by assumption)), Gr.trans (by assumption) ga0⟩))
      (first | (go_at_call 20; go_split_ands; refine (laws_toRow_gr x0 u0_vals _ (by assumption) HT0.out).mono ?_; rintro e wa0 ⟨vy0_vals, rfl, ⟨ay0_vals, ny0_vals, cy0_vals, rfl⟩, ry0_vals, ga0⟩) | (go_at_call 22; go_split_ands; refine (laws_eqRow x0 _ _ _ (by assumption) (ry0_vals _ (Loc.refl _ _))).mono ?_; rintro e wb0 ⟨rfl, gb0⟩))
    have gs6 : Gr w5 wb0 := ((Gr.refl w5).drew.trans ga0).trans gb0
    have Z6 : Hid (w5.heap.size ≤ wb0.heap.size) := Lib.hid gs6.size
    replace h0_vals : Hid (RInts wb0 u0_vals x0.vals) := Lib.hid (RSlice.mono keeps_int gs6 h0_vals.out)
    replace hx0_vals : Hid (PInts (In w3.heap.size w4.heap.size) wb0 (.slice ax0_vals nx0_vals cx0_vals) x0.vals) := Lib.hid (OSl.gr fr_int hx0_vals.out gs6)
    replace kb0_0 : wb0.cell? ⟨w.heap.size, 0, none⟩ = some (.int .i64 x0.id) := gs6.cellv kb0_0
    replace kb0_1 : wb0.cell? ⟨w.heap.size, 1, none⟩ = some (u0_vals) := gs6.cellv kb0_1
    replace kx0_0 : wb0.cell? ⟨w4.heap.size, 0, none⟩ = some (.int .i64 x0.id) := gs6.cellv kx0_0
    replace kx0_1 : wb0.cell? ⟨w4.heap.size, 1, none⟩ = some (.slice ax0_vals nx0_vals cx0_vals) := gs6.cellv kx0_1
    replace gw : Hid (Gr w wb0) := Lib.hid (gw.out.trans gs6)
    replace gv : Hid (Gr w3 wb0) := Lib.hid (gv.out.trans gs6)
    go_wp2_with fail
    go_ret
    exact ⟨rfl, gw.out⟩
  · have HZ0 := Lib.hid (szV_no (t := (totRow x0)) (left := (1048576 : Int)) (by omega))
    have HA0 := Lib.hid (show (0 : Int) ≤ (1048576 : Int) ∧ (1048576 : Int) ≤ 1048576 from by omega)
    clear hs0
    go_enter Tryd.func5, Tryd.ntmps5
    have Bh0_vals := Lib.hid h0_vals
    replace h0_vals := Lib.hid h0_vals
    go_wp2_with fail
    refine (laws_szRow x0 u0_vals _ _ (RSlice.mono keeps_int ((Gr.refl w).alloc _) h0_vals.out) HA0.out.1 HA0.out.2).mono ?_
    rintro e w1 ⟨rfl, g1⟩
    have gs1 : Gr w w1 := ((Gr.refl w).alloc _).trans g1
    have Z1 : Hid (w.heap.size + 1 ≤ w1.heap.size) := Lib.hid (by have := g1.size; simpa using this)
    replace h0_vals : Hid (RInts w1 u0_vals x0.vals) := Lib.hid (RSlice.mono keeps_int gs1 h0_vals.out)
    have gw : Hid (Gr w w1) := Lib.hid gs1
    have kb0_0 : w1.cell? ⟨w.heap.size, 0, none⟩ = some (.int .i64 x0.id) := g1.cellv (by simp [go_sem])
    have kb0_1 : w1.cell? ⟨w.heap.size, 1, none⟩ = some (u0_vals) := g1.cellv (by simp [go_sem])
    have bkb0_0 : Hid (w.heap.size < w1.heap.size) := Lib.hid (by have := Z1.out; omega)
    rw [HZ0.out]
    go_wp2_with fail
    go_ret
    exact ⟨rfl, gw.out⟩

-- endgen
end Go.Proofs.YtjeffagejbdjkaaDoor
