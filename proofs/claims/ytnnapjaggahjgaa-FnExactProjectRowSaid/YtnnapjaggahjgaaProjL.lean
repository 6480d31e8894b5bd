/- ProjectRow: the law. -/
import Derived.Test.YtnnapjaggahjgaaProj
import Derived.Test.YtnnapjaggahjgaaMkQuery
import Derived.Test.YtnnapjaggahjgaaMkRow
namespace Go.Proofs.Ytnnapjaggahjgaa
open Go.RowKit
-- mgen FnExactProjectRow ProjectRow IntS "(projL x0 x1)" "by have := projL_small x0 x1; omega" Query Row
set_option maxRecDepth 100000 in
set_option maxHeartbeats 1500000 in
theorem law_FnExactProjectRow (w : World) (x0 : DQuery) (u0_conds : Value) (u0_out : Value) (_ : I64 x0.id) (_ : I64 x0.tenant) (h0_conds : RConds w u0_conds x0.conds) (h0_out : RInts w u0_out x0.out) (x1 : DRow) (u1_vals : Value) (_ : I64 x1.id) (h1_vals : RInts w u1_vals x1.vals) : Calls Try.prog 4 #[.agg #[.int .i64 x0.id, .int .i64 x0.tenant, u0_conds, u0_out], .agg #[.int .i64 x1.id, u1_vals]] w fun e w' => e = .returned (.bool true) ∧ Gr w w' := by
  by_cases hs0 : ((totQuery x0) : Int) ≤ (1048576 : Int)
  · by_cases hs1 : ((totRow x1) : Int) ≤ (1048576 - ((totQuery x0) : Int))
    · have HZ0 := Lib.hid (szV_yes (t := (totQuery x0)) (left := (1048576 : Int)) (by omega))
      have HA0 := Lib.hid (show (0 : Int) ≤ (1048576 : Int) ∧ (1048576 : Int) ≤ 1048576 from by omega)
      have HB0 := Lib.hid (show (0 : Int) ≤ (1048576 : Int) - ((totQuery x0) : Int) ∧ (1048576 : Int) - ((totQuery x0) : Int) ≤ 1048576 from by omega)
      have HZ1 := Lib.hid (szV_yes (t := (totRow x1)) (left := (1048576 - ((totQuery x0) : Int))) (by omega))
      have HA1 := Lib.hid (show (0 : Int) ≤ (1048576 - ((totQuery x0) : Int)) ∧ (1048576 - ((totQuery x0) : Int)) ≤ 1048576 from by omega)
      have HB1 := Lib.hid (show (0 : Int) ≤ (1048576 - ((totQuery x0) : Int)) - ((totRow x1) : Int) ∧ (1048576 - ((totQuery x0) : Int)) - ((totRow x1) : Int) ≤ 1048576 from by omega)
      have HT0 := Lib.hid (show (totQuery x0) ≤ 4294967296 from by omega)
      have HT1 := Lib.hid (show (totRow x1) ≤ 4294967296 from by omega)
      have HQ0 : Hid ((totQuery x0) ≤ 1048576) := Lib.hid (by omega)
      have HQ1 : Hid ((totRow x1) ≤ 1048576) := Lib.hid (by omega)
      clear hs0 hs1
      go_enter Try.func4, Try.ntmps4
      have Bh0_conds := Lib.hid h0_conds
      replace h0_conds := Lib.hid h0_conds
      have Bh0_out := Lib.hid h0_out
      replace h0_out := Lib.hid h0_out
      have Bh1_vals := Lib.hid h1_vals
      replace h1_vals := Lib.hid h1_vals
      go_wp2_with fail
      refine (laws_szQuery x0 u0_conds u0_out _ _ (RSlice.mono keeps_cond (((Gr.refl w).alloc _).alloc _) h0_conds.out) (RSlice.mono keeps_int (((Gr.refl w).alloc _).alloc _) h0_out.out) HA0.out.1 HA0.out.2).mono ?_
      rintro e w1 ⟨rfl, g1⟩
      have gs1 : Gr w w1 := (((Gr.refl w).alloc _).alloc _).trans g1
      have Z1 : Hid (w.heap.size + 2 ≤ w1.heap.size) := Lib.hid (by have := g1.size; simpa using this)
      replace h0_conds : Hid (RConds w1 u0_conds x0.conds) := Lib.hid (RSlice.mono keeps_cond gs1 h0_conds.out)
      replace h0_out : Hid (RInts w1 u0_out x0.out) := Lib.hid (RSlice.mono keeps_int gs1 h0_out.out)
      replace h1_vals : Hid (RInts w1 u1_vals x1.vals) := Lib.hid (RSlice.mono keeps_int gs1 h1_vals.out)
      have gw : Hid (Gr w w1) := Lib.hid gs1
      have kb0_0 : w1.cell? ⟨w.heap.size, 0, none⟩ = some (.int .i64 x0.id) := g1.cellv (by simp [go_sem])
      have kb0_1 : w1.cell? ⟨w.heap.size, 1, none⟩ = some (.int .i64 x0.tenant) := g1.cellv (by simp [go_sem])
      have kb0_2 : w1.cell? ⟨w.heap.size, 2, none⟩ = some (u0_conds) := g1.cellv (by simp [go_sem])
      have kb0_3 : w1.cell? ⟨w.heap.size, 3, none⟩ = some (u0_out) := g1.cellv (by simp [go_sem])
      have kb1_0 : w1.cell? ⟨w.heap.size + 1, 0, none⟩ = some (.int .i64 x1.id) := g1.cellv (by simp [go_sem])
      have kb1_1 : w1.cell? ⟨w.heap.size + 1, 1, none⟩ = some (u1_vals) := g1.cellv (by simp [go_sem])
      have bkb0_0 : Hid (w.heap.size < w1.heap.size) := Lib.hid (by have := Z1.out; omega)
      have bkb1_0 : Hid (w.heap.size + 1 < w1.heap.size) := Lib.hid (by have := Z1.out; omega)
      rw [HZ0.out]
      have hB0 := HB0.out.1
      have hC0 := HB0.out.2
      go_wp2_with fail
      refine (laws_szRow x1 u1_vals _ _ h1_vals.out HA1.out.1 HA1.out.2).mono ?_
      rintro e w2 ⟨rfl, g2⟩
      have Z2 : Hid (w1.heap.size + 0 ≤ w2.heap.size) := Lib.hid (by have := g2.size; simpa using this)
      replace h0_conds : Hid (RConds w2 u0_conds x0.conds) := Lib.hid (RSlice.mono keeps_cond g2 h0_conds.out)
      replace h0_out : Hid (RInts w2 u0_out x0.out) := Lib.hid (RSlice.mono keeps_int g2 h0_out.out)
      replace h1_vals : Hid (RInts w2 u1_vals x1.vals) := Lib.hid (RSlice.mono keeps_int g2 h1_vals.out)
      replace kb0_0 : w2.cell? ⟨w.heap.size, 0, none⟩ = some (.int .i64 x0.id) := g2.cellv kb0_0
      replace kb0_1 : w2.cell? ⟨w.heap.size, 1, none⟩ = some (.int .i64 x0.tenant) := g2.cellv kb0_1
      replace kb0_2 : w2.cell? ⟨w.heap.size, 2, none⟩ = some (u0_conds) := g2.cellv kb0_2
      replace kb0_3 : w2.cell? ⟨w.heap.size, 3, none⟩ = some (u0_out) := g2.cellv kb0_3
      replace kb1_0 : w2.cell? ⟨w.heap.size + 1, 0, none⟩ = some (.int .i64 x1.id) := g2.cellv kb1_0
      replace kb1_1 : w2.cell? ⟨w.heap.size + 1, 1, none⟩ = some (u1_vals) := g2.cellv kb1_1
      replace gw : Hid (Gr w w2) := Lib.hid (gw.out.trans g2)
      rw [HZ1.out]
      have hB1 := HB1.out.1
      have hC1 := HB1.out.2
      -- drawn
      go_wp2
      go_region_held3 (fun w' => w'.cell? ⟨w.heap.size, 0, none⟩ = some (.int .i64 x0.id) ∧ w'.cell? ⟨w.heap.size, 1, none⟩ = some (.int .i64 x0.tenant) ∧ w'.cell? ⟨w.heap.size, 2, none⟩ = some (u0_conds) ∧ w'.cell? ⟨w.heap.size, 3, none⟩ = some (u0_out) ∧ w'.cell? ⟨w.heap.size + 1, 0, none⟩ = some (.int .i64 x1.id) ∧ w'.cell? ⟨w.heap.size + 1, 1, none⟩ = some (u1_vals) ∧ RConds w' u0_conds x0.conds ∧ RInts w' u0_out x0.out ∧ RInts w' u1_vals x1.vals ∧ Gr w2 w')
        (first | exact ⟨kb0_0, kb0_1, kb0_2, kb0_3, kb1_0, kb1_1, h0_conds.out, h0_out.out, h1_vals.out, Gr.refl _⟩ | exact ⟨kb0_0, kb0_1, kb0_2, kb0_3, kb1_0, kb1_1, h0_conds.out, h0_out.out, h1_vals.out, (Gr.refl _).drew⟩ | (go_split_ands; exact ⟨Gr.cellv gpf (by assumption), Gr.cellv gpf (by assumption), Gr.cellv gpf (by assumption), Gr.cellv gpf (by assumption), Gr.cellv gpf (by assumption), Gr.cellv gpf (by assumption), (RSlice.mono keeps_cond gpf (by assumption)), (RSlice.mono keeps_int gpf (by assumption)), (RSlice.mono keeps_int gpf (by assumption)), Gr.trans (by assumption) gpf⟩) | (go_split_ands; exact ⟨Gr.cellv gp1 (by assumption), Gr.cellv gp1 (by assumption), Gr.cellv gp1 (by assumption), Gr.cellv gp1 (by assumption), Gr.cellv gp1 (by assumption), Gr.cellv gp1 (by assumption), (RSlice.mono keeps_cond gp1 (by assumption)), (RSlice.mono keeps_int gp1 (by assumption)), (RSlice.mono keeps_int gp1 (by assumption)), Gr.trans (by assumption) gp1⟩) | (go_split_ands; exact ⟨Gr.cellv gp0 (by assumption), Gr.cellv gp0 (by assumption), Gr.cellv gp0 (by assumption), Gr.cellv gp0 (by assumption), Gr.cellv gp0 (by assumption), Gr.cellv gp0 (by assumption), (RSlice.mono keeps_cond gp0 (by assumption)), (RSlice.mono keeps_int gp0 (by assumption)), (RSlice.mono keeps_int gp0 (by assumption)), Gr.trans (by assumption) gp0⟩))
        (first | (go_at_call 23; go_split_ands; with_reducible refine (laws_toQuery_own x0 u0_conds u0_out _ (by assumption) (by assumption) HT0.out).mono ?_; rintro e wp0 ⟨vp0_conds, vp0_out, rfl, gp0, mp0, hmp0, hnp0, r_hp0_conds, r_hp0_out⟩) | (go_at_call 24; go_split_ands; with_reducible refine (laws_toRow_own x1 u1_vals _ (by assumption) HT1.out).mono ?_; rintro e wp1 ⟨vp1_vals, rfl, gp1, r_hp1_vals⟩) | (go_at_call 22; refine (spec_ProjectRow x0 _ _ x1 _ _ (RSlice.mono keeps_cond gp1 (rd_pconds r_hp0_conds)) (RSlice.mono keeps_int gp1 (rd_pints r_hp0_out)) (rd_pints r_hp1_vals)).mono ?_; rintro e wpf ⟨vw0, rfl, r_hw0, gpf⟩))
      have hdr3 : Gr w2 w2.drew := (Gr.refl w2).drew
      have gs3 : Gr w2 wpf := (((hdr3.trans gp0).trans gp1).trans gpf)
      have Z3 : Hid (w2.heap.size + 0 ≤ wpf.heap.size) := Lib.hid gs3.size
      have ZZp0 : Hid (w2.heap.size ≤ wp0.heap.size) := Lib.hid (by have := gp0.size; simpa using this)
      have ZZp1 : Hid (wp0.heap.size ≤ wp1.heap.size) := Lib.hid (by have := gp1.size; simpa using this)
      replace h0_conds : Hid (RConds wpf u0_conds x0.conds) := Lib.hid (RSlice.mono keeps_cond gs3 h0_conds.out)
      replace h0_out : Hid (RInts wpf u0_out x0.out) := Lib.hid (RSlice.mono keeps_int gs3 h0_out.out)
      replace h1_vals : Hid (RInts wpf u1_vals x1.vals) := Lib.hid (RSlice.mono keeps_int gs3 h1_vals.out)
      replace kb0_0 : wpf.cell? ⟨w.heap.size, 0, none⟩ = some (.int .i64 x0.id) := gs3.cellv kb0_0
      replace kb0_1 : wpf.cell? ⟨w.heap.size, 1, none⟩ = some (.int .i64 x0.tenant) := gs3.cellv kb0_1
      replace kb0_2 : wpf.cell? ⟨w.heap.size, 2, none⟩ = some (u0_conds) := gs3.cellv kb0_2
      replace kb0_3 : wpf.cell? ⟨w.heap.size, 3, none⟩ = some (u0_out) := gs3.cellv kb0_3
      replace kb1_0 : wpf.cell? ⟨w.heap.size + 1, 0, none⟩ = some (.int .i64 x1.id) := gs3.cellv kb1_0
      replace kb1_1 : wpf.cell? ⟨w.heap.size + 1, 1, none⟩ = some (u1_vals) := gs3.cellv kb1_1
      replace gw : Hid (Gr w wpf) := Lib.hid (gw.out.trans gs3)
      obtain ⟨aw0, nw0, cw0, rfl⟩ := r_hw0.isSl
      have hw0 : Hid (RInts wpf (.slice aw0 nw0 cw0) (projL x0 x1)) := Lib.hid r_hw0
      have Bhw0 := Lib.hid r_hw0
      clear r_hw0
      have gv : Hid (Gr wpf wpf) := Lib.hid (Gr.refl _)
      have ZV : Hid (w.heap.size ≤ wpf.heap.size) := Lib.hid gw.out.size
      go_wp2_with fail
      refine (laws_toQuery_own x0 u0_conds u0_out _ h0_conds.out h0_out.out HT0.out).mono ?_
      rintro e w4 ⟨vx0_conds, vx0_out, rfl, g4, mx0, hmx0, hnx0, r_hx0_conds, r_hx0_out⟩
      have Z4 : Hid (wpf.heap.size + 0 ≤ w4.heap.size) := Lib.hid (by have := g4.size; simpa using this)
      replace h0_conds : Hid (RConds w4 u0_conds x0.conds) := Lib.hid (RSlice.mono keeps_cond g4 h0_conds.out)
      replace h0_out : Hid (RInts w4 u0_out x0.out) := Lib.hid (RSlice.mono keeps_int g4 h0_out.out)
      replace h1_vals : Hid (RInts w4 u1_vals x1.vals) := Lib.hid (RSlice.mono keeps_int g4 h1_vals.out)
      replace hw0 : Hid (RInts w4 (.slice aw0 nw0 cw0) (projL x0 x1)) := Lib.hid (RSlice.mono keeps_int g4 hw0.out)
      replace kb0_0 : w4.cell? ⟨w.heap.size, 0, none⟩ = some (.int .i64 x0.id) := g4.cellv kb0_0
      replace kb0_1 : w4.cell? ⟨w.heap.size, 1, none⟩ = some (.int .i64 x0.tenant) := g4.cellv kb0_1
      replace kb0_2 : w4.cell? ⟨w.heap.size, 2, none⟩ = some (u0_conds) := g4.cellv kb0_2
      replace kb0_3 : w4.cell? ⟨w.heap.size, 3, none⟩ = some (u0_out) := g4.cellv kb0_3
      replace kb1_0 : w4.cell? ⟨w.heap.size + 1, 0, none⟩ = some (.int .i64 x1.id) := g4.cellv kb1_0
      replace kb1_1 : w4.cell? ⟨w.heap.size + 1, 1, none⟩ = some (u1_vals) := g4.cellv kb1_1
      replace gw : Hid (Gr w w4) := Lib.hid (gw.out.trans g4)
      replace gv : Hid (Gr wpf w4) := Lib.hid (gv.out.trans g4)
      obtain ⟨ax0_conds, nx0_conds, cx0_conds, rfl⟩ := r_hx0_conds.isSl
      have ZMx0_conds : Hid (wpf.heap.size ≤ mx0) := Lib.hid (by have := hmx0; (try simp at this); omega)
      have hx0_conds : Hid (PConds (In wpf.heap.size mx0) w4 (.slice ax0_conds nx0_conds cx0_conds) x0.conds) := Lib.hid (r_hx0_conds.wide (by simp) (by omega))
      clear r_hx0_conds
      obtain ⟨ax0_out, nx0_out, cx0_out, rfl⟩ := r_hx0_out.isSl
      have ZMx0_out : Hid (wpf.heap.size ≤ mx0) := Lib.hid (by have := hmx0; (try simp at this); omega)
      have hx0_out : Hid (PInts (In mx0 w4.heap.size) w4 (.slice ax0_out nx0_out cx0_out) x0.out) := Lib.hid (r_hx0_out.wide (Nat.le_refl _) (by omega))
      clear r_hx0_out
      have Lkb0_0 := ((Gr.refl w4).alloc (.cells #[.int .i64 x0.id, .int .i64 x0.tenant, .slice ax0_conds nx0_conds cx0_conds, .slice ax0_out nx0_out cx0_out] 44)).cellv kb0_0
      have Lkb0_1 := ((Gr.refl w4).alloc (.cells #[.int .i64 x0.id, .int .i64 x0.tenant, .slice ax0_conds nx0_conds cx0_conds, .slice ax0_out nx0_out cx0_out] 44)).cellv kb0_1
      have Lkb0_2 := ((Gr.refl w4).alloc (.cells #[.int .i64 x0.id, .int .i64 x0.tenant, .slice ax0_conds nx0_conds cx0_conds, .slice ax0_out nx0_out cx0_out] 44)).cellv kb0_2
      have Lkb0_3 := ((Gr.refl w4).alloc (.cells #[.int .i64 x0.id, .int .i64 x0.tenant, .slice ax0_conds nx0_conds cx0_conds, .slice ax0_out nx0_out cx0_out] 44)).cellv kb0_3
      have Lkb1_0 := ((Gr.refl w4).alloc (.cells #[.int .i64 x0.id, .int .i64 x0.tenant, .slice ax0_conds nx0_conds cx0_conds, .slice ax0_out nx0_out cx0_out] 44)).cellv kb1_0
      have Lkb1_1 := ((Gr.refl w4).alloc (.cells #[.int .i64 x0.id, .int .i64 x0.tenant, .slice ax0_conds nx0_conds cx0_conds, .slice ax0_out nx0_out cx0_out] 44)).cellv kb1_1
      go_wp2_with fail
      refine (laws_toRow_own x1 u1_vals _ (RSlice.mono keeps_int ((Gr.refl w4).alloc _) h1_vals.out) HT1.out).mono ?_
      rintro e w5 ⟨vx1_vals, rfl, g5, r_hx1_vals⟩
      have gs5 : Gr w4 w5 := ((Gr.refl w4).alloc _).trans g5
      have Z5 : Hid (w4.heap.size + 1 ≤ w5.heap.size) := Lib.hid (by have := g5.size; simpa using this)
      replace h0_conds : Hid (RConds w5 u0_conds x0.conds) := Lib.hid (RSlice.mono keeps_cond gs5 h0_conds.out)
      replace h0_out : Hid (RInts w5 u0_out x0.out) := Lib.hid (RSlice.mono keeps_int gs5 h0_out.out)
      replace h1_vals : Hid (RInts w5 u1_vals x1.vals) := Lib.hid (RSlice.mono keeps_int gs5 h1_vals.out)
      replace hw0 : Hid (RInts w5 (.slice aw0 nw0 cw0) (projL x0 x1)) := Lib.hid (RSlice.mono keeps_int gs5 hw0.out)
      replace hx0_conds : Hid (PConds (In wpf.heap.size mx0) w5 (.slice ax0_conds nx0_conds cx0_conds) x0.conds) := Lib.hid (OSl.gr fr_cond hx0_conds.out gs5)
      replace hx0_out : Hid (PInts (In mx0 w4.heap.size) w5 (.slice ax0_out nx0_out cx0_out) x0.out) := Lib.hid (OSl.gr fr_int hx0_out.out gs5)
      replace kb0_0 : w5.cell? ⟨w.heap.size, 0, none⟩ = some (.int .i64 x0.id) := gs5.cellv kb0_0
      replace kb0_1 : w5.cell? ⟨w.heap.size, 1, none⟩ = some (.int .i64 x0.tenant) := gs5.cellv kb0_1
      replace kb0_2 : w5.cell? ⟨w.heap.size, 2, none⟩ = some (u0_conds) := gs5.cellv kb0_2
      replace kb0_3 : w5.cell? ⟨w.heap.size, 3, none⟩ = some (u0_out) := gs5.cellv kb0_3
      replace kb1_0 : w5.cell? ⟨w.heap.size + 1, 0, none⟩ = some (.int .i64 x1.id) := gs5.cellv kb1_0
      replace kb1_1 : w5.cell? ⟨w.heap.size + 1, 1, none⟩ = some (u1_vals) := gs5.cellv kb1_1
      replace gw : Hid (Gr w w5) := Lib.hid (gw.out.trans gs5)
      replace gv : Hid (Gr wpf w5) := Lib.hid (gv.out.trans gs5)
      have kx0_0 : w5.cell? ⟨w4.heap.size, 0, none⟩ = some (.int .i64 x0.id) := g5.cellv (by simp [go_sem])
      have kx0_1 : w5.cell? ⟨w4.heap.size, 1, none⟩ = some (.int .i64 x0.tenant) := g5.cellv (by simp [go_sem])
      have kx0_2 : w5.cell? ⟨w4.heap.size, 2, none⟩ = some (.slice ax0_conds nx0_conds cx0_conds) := g5.cellv (by simp [go_sem])
      have kx0_3 : w5.cell? ⟨w4.heap.size, 3, none⟩ = some (.slice ax0_out nx0_out cx0_out) := g5.cellv (by simp [go_sem])
      have bkx0_0 : Hid (w4.heap.size < w5.heap.size) := Lib.hid (by have := Z5.out; omega)
      clear Lkb0_0 Lkb0_1 Lkb0_2 Lkb0_3 Lkb1_0 Lkb1_1
      obtain ⟨ax1_vals, nx1_vals, cx1_vals, rfl⟩ := r_hx1_vals.isSl
      have hx1_vals : Hid (PInts (In (w4.heap.size + 1) w5.heap.size) w5 (.slice ax1_vals nx1_vals cx1_vals) x1.vals) := Lib.hid (r_hx1_vals.wide (by simp) (by omega))
      clear r_hx1_vals
      have Lkb0_0 := ((Gr.refl w5).alloc (.cells #[.int .i64 x1.id, .slice ax1_vals nx1_vals cx1_vals] 46)).cellv kb0_0
      have Lkb0_1 := ((Gr.refl w5).alloc (.cells #[.int .i64 x1.id, .slice ax1_vals nx1_vals cx1_vals] 46)).cellv kb0_1
      have Lkb0_2 := ((Gr.refl w5).alloc (.cells #[.int .i64 x1.id, .slice ax1_vals nx1_vals cx1_vals] 46)).cellv kb0_2
      have Lkb0_3 := ((Gr.refl w5).alloc (.cells #[.int .i64 x1.id, .slice ax1_vals nx1_vals cx1_vals] 46)).cellv kb0_3
      have Lkb1_0 := ((Gr.refl w5).alloc (.cells #[.int .i64 x1.id, .slice ax1_vals nx1_vals cx1_vals] 46)).cellv kb1_0
      have Lkb1_1 := ((Gr.refl w5).alloc (.cells #[.int .i64 x1.id, .slice ax1_vals nx1_vals cx1_vals] 46)).cellv kb1_1
      have Lkx0_0 := ((Gr.refl w5).alloc (.cells #[.int .i64 x1.id, .slice ax1_vals nx1_vals cx1_vals] 46)).cellv kx0_0
      have Lkx0_1 := ((Gr.refl w5).alloc (.cells #[.int .i64 x1.id, .slice ax1_vals nx1_vals cx1_vals] 46)).cellv kx0_1
      have Lkx0_2 := ((Gr.refl w5).alloc (.cells #[.int .i64 x1.id, .slice ax1_vals nx1_vals cx1_vals] 46)).cellv kx0_2
      have Lkx0_3 := ((Gr.refl w5).alloc (.cells #[.int .i64 x1.id, .slice ax1_vals nx1_vals cx1_vals] 46)).cellv kx0_3
      go_wp2_with fail
      refine (impl_ProjectRow x0 _ _ x1 _ _ (RSlice.mono keeps_cond ((Gr.refl w5).alloc _) (rd_pconds hx0_conds.out)) (RSlice.mono keeps_int ((Gr.refl w5).alloc _) (rd_pints hx0_out.out)) (RSlice.mono keeps_int ((Gr.refl w5).alloc _) (rd_pints hx1_vals.out))).mono ?_
      rintro e w6 ⟨vg0, rfl, g6, r_hg0⟩
      have gs6 : Gr w5 w6 := ((Gr.refl w5).alloc _).trans g6
      have Z6 : Hid (w5.heap.size + 1 ≤ w6.heap.size) := Lib.hid (by have := g6.size; simpa using this)
      replace h0_conds : Hid (RConds w6 u0_conds x0.conds) := Lib.hid (RSlice.mono keeps_cond gs6 h0_conds.out)
      replace h0_out : Hid (RInts w6 u0_out x0.out) := Lib.hid (RSlice.mono keeps_int gs6 h0_out.out)
      replace h1_vals : Hid (RInts w6 u1_vals x1.vals) := Lib.hid (RSlice.mono keeps_int gs6 h1_vals.out)
      replace hw0 : Hid (RInts w6 (.slice aw0 nw0 cw0) (projL x0 x1)) := Lib.hid (RSlice.mono keeps_int gs6 hw0.out)
      replace hx0_conds : Hid (PConds (In wpf.heap.size mx0) w6 (.slice ax0_conds nx0_conds cx0_conds) x0.conds) := Lib.hid (OSl.gr fr_cond hx0_conds.out gs6)
      replace hx0_out : Hid (PInts (In mx0 w4.heap.size) w6 (.slice ax0_out nx0_out cx0_out) x0.out) := Lib.hid (OSl.gr fr_int hx0_out.out gs6)
      replace hx1_vals : Hid (PInts (In (w4.heap.size + 1) w5.heap.size) w6 (.slice ax1_vals nx1_vals cx1_vals) x1.vals) := Lib.hid (OSl.gr fr_int hx1_vals.out gs6)
      replace kb0_0 : w6.cell? ⟨w.heap.size, 0, none⟩ = some (.int .i64 x0.id) := gs6.cellv kb0_0
      replace kb0_1 : w6.cell? ⟨w.heap.size, 1, none⟩ = some (.int .i64 x0.tenant) := gs6.cellv kb0_1
      replace kb0_2 : w6.cell? ⟨w.heap.size, 2, none⟩ = some (u0_conds) := gs6.cellv kb0_2
      replace kb0_3 : w6.cell? ⟨w.heap.size, 3, none⟩ = some (u0_out) := gs6.cellv kb0_3
      replace kb1_0 : w6.cell? ⟨w.heap.size + 1, 0, none⟩ = some (.int .i64 x1.id) := gs6.cellv kb1_0
      replace kb1_1 : w6.cell? ⟨w.heap.size + 1, 1, none⟩ = some (u1_vals) := gs6.cellv kb1_1
      replace kx0_0 : w6.cell? ⟨w4.heap.size, 0, none⟩ = some (.int .i64 x0.id) := gs6.cellv kx0_0
      replace kx0_1 : w6.cell? ⟨w4.heap.size, 1, none⟩ = some (.int .i64 x0.tenant) := gs6.cellv kx0_1
      replace kx0_2 : w6.cell? ⟨w4.heap.size, 2, none⟩ = some (.slice ax0_conds nx0_conds cx0_conds) := gs6.cellv kx0_2
      replace kx0_3 : w6.cell? ⟨w4.heap.size, 3, none⟩ = some (.slice ax0_out nx0_out cx0_out) := gs6.cellv kx0_3
      replace gw : Hid (Gr w w6) := Lib.hid (gw.out.trans gs6)
      replace gv : Hid (Gr wpf w6) := Lib.hid (gv.out.trans gs6)
      have kx1_0 : w6.cell? ⟨w5.heap.size, 0, none⟩ = some (.int .i64 x1.id) := g6.cellv (by simp [go_sem])
      have kx1_1 : w6.cell? ⟨w5.heap.size, 1, none⟩ = some (.slice ax1_vals nx1_vals cx1_vals) := g6.cellv (by simp [go_sem])
      have bkx1_0 : Hid (w5.heap.size < w6.heap.size) := Lib.hid (by have := Z6.out; omega)
      clear Lkb0_0 Lkb0_1 Lkb0_2 Lkb0_3 Lkb1_0 Lkb1_1 Lkx0_0 Lkx0_1 Lkx0_2 Lkx0_3
      obtain ⟨ag0, ng0, cg0, rfl⟩ := r_hg0.isSl
      have hg0 : Hid (PInts (In (w5.heap.size + 1) w6.heap.size) w6 (.slice ag0 ng0 cg0) (projL x0 x1)) := Lib.hid (r_hg0.wide (by simp) (by omega))
      clear r_hg0
      go_wp2_with fail
      refine (laws_eqIntS_same _ _ (projL x0 x1) _ (rd_pints hg0.out) hw0.out).mono ?_
      rintro e w7 ⟨rfl, g7⟩
      have Z7 : Hid (w6.heap.size + 0 ≤ w7.heap.size) := Lib.hid (by have := g7.size; simpa using this)
      replace h0_conds : Hid (RConds w7 u0_conds x0.conds) := Lib.hid (RSlice.mono keeps_cond g7 h0_conds.out)
      replace h0_out : Hid (RInts w7 u0_out x0.out) := Lib.hid (RSlice.mono keeps_int g7 h0_out.out)
      replace h1_vals : Hid (RInts w7 u1_vals x1.vals) := Lib.hid (RSlice.mono keeps_int g7 h1_vals.out)
      replace hw0 : Hid (RInts w7 (.slice aw0 nw0 cw0) (projL x0 x1)) := Lib.hid (RSlice.mono keeps_int g7 hw0.out)
      replace hx0_conds : Hid (PConds (In wpf.heap.size mx0) w7 (.slice ax0_conds nx0_conds cx0_conds) x0.conds) := Lib.hid (OSl.gr fr_cond hx0_conds.out g7)
      replace hx0_out : Hid (PInts (In mx0 w4.heap.size) w7 (.slice ax0_out nx0_out cx0_out) x0.out) := Lib.hid (OSl.gr fr_int hx0_out.out g7)
      replace hx1_vals : Hid (PInts (In (w4.heap.size + 1) w5.heap.size) w7 (.slice ax1_vals nx1_vals cx1_vals) x1.vals) := Lib.hid (OSl.gr fr_int hx1_vals.out g7)
      replace hg0 : Hid (PInts (In (w5.heap.size + 1) w6.heap.size) w7 (.slice ag0 ng0 cg0) (projL x0 x1)) := Lib.hid (OSl.gr fr_int hg0.out g7)
      replace kb0_0 : w7.cell? ⟨w.heap.size, 0, none⟩ = some (.int .i64 x0.id) := g7.cellv kb0_0
      replace kb0_1 : w7.cell? ⟨w.heap.size, 1, none⟩ = some (.int .i64 x0.tenant) := g7.cellv kb0_1
      replace kb0_2 : w7.cell? ⟨w.heap.size, 2, none⟩ = some (u0_conds) := g7.cellv kb0_2
      replace kb0_3 : w7.cell? ⟨w.heap.size, 3, none⟩ = some (u0_out) := g7.cellv kb0_3
      replace kb1_0 : w7.cell? ⟨w.heap.size + 1, 0, none⟩ = some (.int .i64 x1.id) := g7.cellv kb1_0
      replace kb1_1 : w7.cell? ⟨w.heap.size + 1, 1, none⟩ = some (u1_vals) := g7.cellv kb1_1
      replace kx0_0 : w7.cell? ⟨w4.heap.size, 0, none⟩ = some (.int .i64 x0.id) := g7.cellv kx0_0
      replace kx0_1 : w7.cell? ⟨w4.heap.size, 1, none⟩ = some (.int .i64 x0.tenant) := g7.cellv kx0_1
      replace kx0_2 : w7.cell? ⟨w4.heap.size, 2, none⟩ = some (.slice ax0_conds nx0_conds cx0_conds) := g7.cellv kx0_2
      replace kx0_3 : w7.cell? ⟨w4.heap.size, 3, none⟩ = some (.slice ax0_out nx0_out cx0_out) := g7.cellv kx0_3
      replace kx1_0 : w7.cell? ⟨w5.heap.size, 0, none⟩ = some (.int .i64 x1.id) := g7.cellv kx1_0
      replace kx1_1 : w7.cell? ⟨w5.heap.size, 1, none⟩ = some (.slice ax1_vals nx1_vals cx1_vals) := g7.cellv kx1_1
      replace gw : Hid (Gr w w7) := Lib.hid (gw.out.trans g7)
      replace gv : Hid (Gr wpf w7) := Lib.hid (gv.out.trans g7)
      go_wp2
      go_region_held3 (fun w' => w'.cell? ⟨w.heap.size, 0, none⟩ = some (.int .i64 x0.id) ∧ w'.cell? ⟨w.heap.size, 1, none⟩ = some (.int .i64 x0.tenant) ∧ w'.cell? ⟨w.heap.size, 2, none⟩ = some (u0_conds) ∧ w'.cell? ⟨w.heap.size, 3, none⟩ = some (u0_out) ∧ w'.cell? ⟨w4.heap.size, 0, none⟩ = some (.int .i64 x0.id) ∧ w'.cell? ⟨w4.heap.size, 1, none⟩ = some (.int .i64 x0.tenant) ∧ w'.cell? ⟨w4.heap.size, 2, none⟩ = some (.slice ax0_conds nx0_conds cx0_conds) ∧ w'.cell? ⟨w4.heap.size, 3, none⟩ = some (.slice ax0_out nx0_out cx0_out) ∧ RConds w' u0_conds x0.conds ∧ RInts w' u0_out x0.out ∧ RConds w' (.slice ax0_conds nx0_conds cx0_conds) x0.conds ∧ RInts w' (.slice ax0_out nx0_out cx0_out) x0.out ∧ Gr w7 w')
        (first | exact ⟨kb0_0, kb0_1, kb0_2, kb0_3, kx0_0, kx0_1, kx0_2, kx0_3, h0_conds.out, h0_out.out, (rd_pconds hx0_conds.out), (rd_pints hx0_out.out), Gr.refl _⟩ | exact ⟨kb0_0, kb0_1, kb0_2, kb0_3, kx0_0, kx0_1, kx0_2, kx0_3, h0_conds.out, h0_out.out, (rd_pconds hx0_conds.out), (rd_pints hx0_out.out), (Gr.refl _).drew⟩ | (go_split_ands; exact ⟨Gr.cellv gb0 (by assumption), Gr.cellv gb0 (by assumption), Gr.cellv gb0 (by assumption), Gr.cellv gb0 (by assumption), Gr.cellv gb0 (by assumption), Gr.cellv gb0 (by assumption), Gr.cellv gb0 (by assumption), Gr.cellv gb0 (by assumption), (RSlice.mono keeps_cond gb0 (by assumption)), (RSlice.mono keeps_int gb0 (by assumption)), (RSlice.mono keeps_cond gb0 (by assumption)), (RSlice.mono keeps_int gb0 (by assumption)), Gr.trans (by assumption) gb0⟩) | (go_split_ands; exact ⟨Gr.cellv ga0 (by assumption), Gr.cellv ga0 (by assumption), Gr.cellv ga0 (by assumption), Gr.cellv ga0 (by assumption), Gr.cellv ga0 (by assumption), Gr.cellv ga0 (by assumption), Gr.cellv ga0 (by assumption), Gr.cellv ga0 (by assumption), (RSlice.mono keeps_cond ga0 (by assumption)), (RSlice.mono keeps_int ga0 (by assumption)), (RSlice.mono keeps_cond ga0 (by assumption)), (RSlice.mono keeps_int ga0 (by assumption)), Gr.trans (by assumption) ga0⟩))
        (first | (go_at_call 23; go_split_ands; refine (laws_toQuery_gr x0 u0_conds u0_out _ (by assumption) (by assumption) HT0.out).mono ?_; rintro e wa0 ⟨vy0_conds, vy0_out, rfl, ⟨ay0_conds, ny0_conds, cy0_conds, rfl⟩, ry0_conds, ⟨ay0_out, ny0_out, cy0_out, rfl⟩, ry0_out, ga0⟩) | (go_at_call 27; go_split_ands; refine (laws_eqQuery x0 _ _ _ _ _ (by assumption) (by assumption) (ry0_conds _ (Loc.refl _ _)) (ry0_out _ (Loc.refl _ _))).mono ?_; rintro e wb0 ⟨rfl, gb0⟩))
      have gs8 : Gr w7 wb0 := ((Gr.refl w7).drew.trans ga0).trans gb0
      have Z8 : Hid (w7.heap.size ≤ wb0.heap.size) := Lib.hid gs8.size
      replace h0_conds : Hid (RConds wb0 u0_conds x0.conds) := Lib.hid (RSlice.mono keeps_cond gs8 h0_conds.out)
      replace h0_out : Hid (RInts wb0 u0_out x0.out) := Lib.hid (RSlice.mono keeps_int gs8 h0_out.out)
      replace h1_vals : Hid (RInts wb0 u1_vals x1.vals) := Lib.hid (RSlice.mono keeps_int gs8 h1_vals.out)
      replace hw0 : Hid (RInts wb0 (.slice aw0 nw0 cw0) (projL x0 x1)) := Lib.hid (RSlice.mono keeps_int gs8 hw0.out)
      replace hx0_conds : Hid (PConds (In wpf.heap.size mx0) wb0 (.slice ax0_conds nx0_conds cx0_conds) x0.conds) := Lib.hid (OSl.gr fr_cond hx0_conds.out gs8)
      replace hx0_out : Hid (PInts (In mx0 w4.heap.size) wb0 (.slice ax0_out nx0_out cx0_out) x0.out) := Lib.hid (OSl.gr fr_int hx0_out.out gs8)
      replace hx1_vals : Hid (PInts (In (w4.heap.size + 1) w5.heap.size) wb0 (.slice ax1_vals nx1_vals cx1_vals) x1.vals) := Lib.hid (OSl.gr fr_int hx1_vals.out gs8)
      replace hg0 : Hid (PInts (In (w5.heap.size + 1) w6.heap.size) wb0 (.slice ag0 ng0 cg0) (projL x0 x1)) := Lib.hid (OSl.gr fr_int hg0.out gs8)
      replace kb0_0 : wb0.cell? ⟨w.heap.size, 0, none⟩ = some (.int .i64 x0.id) := gs8.cellv kb0_0
      replace kb0_1 : wb0.cell? ⟨w.heap.size, 1, none⟩ = some (.int .i64 x0.tenant) := gs8.cellv kb0_1
      replace kb0_2 : wb0.cell? ⟨w.heap.size, 2, none⟩ = some (u0_conds) := gs8.cellv kb0_2
      replace kb0_3 : wb0.cell? ⟨w.heap.size, 3, none⟩ = some (u0_out) := gs8.cellv kb0_3
      replace kb1_0 : wb0.cell? ⟨w.heap.size + 1, 0, none⟩ = some (.int .i64 x1.id) := gs8.cellv kb1_0
      replace kb1_1 : wb0.cell? ⟨w.heap.size + 1, 1, none⟩ = some (u1_vals) := gs8.cellv kb1_1
      replace kx0_0 : wb0.cell? ⟨w4.heap.size, 0, none⟩ = some (.int .i64 x0.id) := gs8.cellv kx0_0
      replace kx0_1 : wb0.cell? ⟨w4.heap.size, 1, none⟩ = some (.int .i64 x0.tenant) := gs8.cellv kx0_1
      replace kx0_2 : wb0.cell? ⟨w4.heap.size, 2, none⟩ = some (.slice ax0_conds nx0_conds cx0_conds) := gs8.cellv kx0_2
      replace kx0_3 : wb0.cell? ⟨w4.heap.size, 3, none⟩ = some (.slice ax0_out nx0_out cx0_out) := gs8.cellv kx0_3
      replace kx1_0 : wb0.cell? ⟨w5.heap.size, 0, none⟩ = some (.int .i64 x1.id) := gs8.cellv kx1_0
      replace kx1_1 : wb0.cell? ⟨w5.heap.size, 1, none⟩ = some (.slice ax1_vals nx1_vals cx1_vals) := gs8.cellv kx1_1
      replace gw : Hid (Gr w wb0) := Lib.hid (gw.out.trans gs8)
      replace gv : Hid (Gr wpf wb0) := Lib.hid (gv.out.trans gs8)
      go_wp2
      go_region_held3 (fun w' => w'.cell? ⟨w.heap.size + 1, 0, none⟩ = some (.int .i64 x1.id) ∧ w'.cell? ⟨w.heap.size + 1, 1, none⟩ = some (u1_vals) ∧ w'.cell? ⟨w5.heap.size, 0, none⟩ = some (.int .i64 x1.id) ∧ w'.cell? ⟨w5.heap.size, 1, none⟩ = some (.slice ax1_vals nx1_vals cx1_vals) ∧ RInts w' u1_vals x1.vals ∧ RInts w' (.slice ax1_vals nx1_vals cx1_vals) x1.vals ∧ Gr wb0 w')
        (first | exact ⟨kb1_0, kb1_1, kx1_0, kx1_1, h1_vals.out, (rd_pints hx1_vals.out), Gr.refl _⟩ | exact ⟨kb1_0, kb1_1, kx1_0, kx1_1, h1_vals.out, (rd_pints hx1_vals.out), (Gr.refl _).drew⟩ | (go_split_ands; exact ⟨Gr.cellv gb1 (by assumption), Gr.cellv gb1 (by assumption), Gr.cellv gb1 (by assumption), Gr.cellv gb1 (by assumption), (RSlice.mono keeps_int gb1 (by assumption)), (RSlice.mono keeps_int gb1 (by assumption)), Gr.trans (by assumption) gb1⟩) | (go_split_ands; exact ⟨Gr.cellv ga1 (by assumption), Gr.cellv ga1 (by assumption), Gr.cellv ga1 (by assumption), Gr.cellv ga1 (by assumption), (RSlice.mono keeps_int ga1 (by assumption)), (RSlice.mono keeps_int ga1 (by assumption)), Gr.trans (by assumption) ga1⟩))
        (first | (go_at_call 24; go_split_ands; refine (laws_toRow_gr x1 u1_vals _ (by assumption) HT1.out).mono ?_; rintro e wa1 ⟨vy1_vals, rfl, ⟨ay1_vals, ny1_vals, cy1_vals, rfl⟩, ry1_vals, ga1⟩) | (go_at_call 28; go_split_ands; refine (laws_eqRow x1 _ _ _ (by assumption) (ry1_vals _ (Loc.refl _ _))).mono ?_; rintro e wb1 ⟨rfl, gb1⟩))
      have gs9 : Gr wb0 wb1 := ((Gr.refl wb0).drew.trans ga1).trans gb1
      have Z9 : Hid (wb0.heap.size ≤ wb1.heap.size) := Lib.hid gs9.size
      replace h0_conds : Hid (RConds wb1 u0_conds x0.conds) := Lib.hid (RSlice.mono keeps_cond gs9 h0_conds.out)
      replace h0_out : Hid (RInts wb1 u0_out x0.out) := Lib.hid (RSlice.mono keeps_int gs9 h0_out.out)
      replace h1_vals : Hid (RInts wb1 u1_vals x1.vals) := Lib.hid (RSlice.mono keeps_int gs9 h1_vals.out)
      replace hw0 : Hid (RInts wb1 (.slice aw0 nw0 cw0) (projL x0 x1)) := Lib.hid (RSlice.mono keeps_int gs9 hw0.out)
      replace hx0_conds : Hid (PConds (In wpf.heap.size mx0) wb1 (.slice ax0_conds nx0_conds cx0_conds) x0.conds) := Lib.hid (OSl.gr fr_cond hx0_conds.out gs9)
      replace hx0_out : Hid (PInts (In mx0 w4.heap.size) wb1 (.slice ax0_out nx0_out cx0_out) x0.out) := Lib.hid (OSl.gr fr_int hx0_out.out gs9)
      replace hx1_vals : Hid (PInts (In (w4.heap.size + 1) w5.heap.size) wb1 (.slice ax1_vals nx1_vals cx1_vals) x1.vals) := Lib.hid (OSl.gr fr_int hx1_vals.out gs9)
      replace hg0 : Hid (PInts (In (w5.heap.size + 1) w6.heap.size) wb1 (.slice ag0 ng0 cg0) (projL x0 x1)) := Lib.hid (OSl.gr fr_int hg0.out gs9)
      replace kb0_0 : wb1.cell? ⟨w.heap.size, 0, none⟩ = some (.int .i64 x0.id) := gs9.cellv kb0_0
      replace kb0_1 : wb1.cell? ⟨w.heap.size, 1, none⟩ = some (.int .i64 x0.tenant) := gs9.cellv kb0_1
      replace kb0_2 : wb1.cell? ⟨w.heap.size, 2, none⟩ = some (u0_conds) := gs9.cellv kb0_2
      replace kb0_3 : wb1.cell? ⟨w.heap.size, 3, none⟩ = some (u0_out) := gs9.cellv kb0_3
      replace kb1_0 : wb1.cell? ⟨w.heap.size + 1, 0, none⟩ = some (.int .i64 x1.id) := gs9.cellv kb1_0
      replace kb1_1 : wb1.cell? ⟨w.heap.size + 1, 1, none⟩ = some (u1_vals) := gs9.cellv kb1_1
      replace kx0_0 : wb1.cell? ⟨w4.heap.size, 0, none⟩ = some (.int .i64 x0.id) := gs9.cellv kx0_0
      replace kx0_1 : wb1.cell? ⟨w4.heap.size, 1, none⟩ = some (.int .i64 x0.tenant) := gs9.cellv kx0_1
      replace kx0_2 : wb1.cell? ⟨w4.heap.size, 2, none⟩ = some (.slice ax0_conds nx0_conds cx0_conds) := gs9.cellv kx0_2
      replace kx0_3 : wb1.cell? ⟨w4.heap.size, 3, none⟩ = some (.slice ax0_out nx0_out cx0_out) := gs9.cellv kx0_3
      replace kx1_0 : wb1.cell? ⟨w5.heap.size, 0, none⟩ = some (.int .i64 x1.id) := gs9.cellv kx1_0
      replace kx1_1 : wb1.cell? ⟨w5.heap.size, 1, none⟩ = some (.slice ax1_vals nx1_vals cx1_vals) := gs9.cellv kx1_1
      replace gw : Hid (Gr w wb1) := Lib.hid (gw.out.trans gs9)
      replace gv : Hid (Gr wpf wb1) := Lib.hid (gv.out.trans gs9)
      have cb0 := HQ0.out
      have cm0_conds := cnt_CondS x0.conds
      have cm0_out := cnt_IntS x0.out
      unfold totQuery at cb0
      go_wp2_with fail
      refine (laws_markQuery (In wpf.heap.size mx0) (In mx0 w4.heap.size) x0 _ _ (1 : Int) _ hx0_conds.out (fun b hb => by have := Z1.out; have := bkb0_0.out; have := bkb1_0.out; have := Z2.out; have := Z3.out; have := ZZp0.out; have := ZZp1.out; have := ZV.out; have := Z4.out; have := ZMx0_conds.out; have := ZMx0_out.out; have := Z5.out; have := bkx0_0.out; have := Z6.out; have := bkx1_0.out; have := Z7.out; have := Z8.out; have := Z9.out; have := hb.2; omega) hx0_out.out (fun b hb => by have := Z1.out; have := bkb0_0.out; have := bkb1_0.out; have := Z2.out; have := Z3.out; have := ZZp0.out; have := ZZp1.out; have := ZV.out; have := Z4.out; have := ZMx0_conds.out; have := ZMx0_out.out; have := Z5.out; have := bkx0_0.out; have := Z6.out; have := bkx1_0.out; have := Z7.out; have := Z8.out; have := Z9.out; have := hb.2; omega) (fun b hb hc => by have := hb.2; have := hc.1; omega) (by omega) (by omega)).mono ?_
      rintro e wm0 ⟨rfl, _, _, dm0⟩
      have Z10 : Hid (wb1.heap.size ≤ wm0.heap.size) := Lib.hid dm0.size
      replace gw : Hid (Gr w wm0) := Lib.hid (Gr.trans' gw.out (dm0.below (fun b hb => by have := Z1.out; have := bkb0_0.out; have := bkb1_0.out; have := Z2.out; have := Z3.out; have := ZZp0.out; have := ZZp1.out; have := ZV.out; have := Z4.out; have := ZMx0_conds.out; have := ZMx0_out.out; have := Z5.out; have := bkx0_0.out; have := Z6.out; have := bkx1_0.out; have := Z7.out; have := Z8.out; have := Z9.out; have := Z10.out; rcases hb with hb | hb <;> (have := hb.1; omega)) (gw.out.size)))
      replace gv : Hid (Gr wpf wm0) := Lib.hid (Gr.trans' gv.out (dm0.below (fun b hb => by have := Z1.out; have := bkb0_0.out; have := bkb1_0.out; have := Z2.out; have := Z3.out; have := ZZp0.out; have := ZZp1.out; have := ZV.out; have := Z4.out; have := ZMx0_conds.out; have := ZMx0_out.out; have := Z5.out; have := bkx0_0.out; have := Z6.out; have := bkx1_0.out; have := Z7.out; have := Z8.out; have := Z9.out; have := Z10.out; rcases hb with hb | hb <;> (have := hb.1; omega)) (gv.out.size)))
      replace h0_conds : Hid (RConds wm0 u0_conds x0.conds) := Lib.hid (RSlice.mono keeps_cond gw.out Bh0_conds.out)
      replace h0_out : Hid (RInts wm0 u0_out x0.out) := Lib.hid (RSlice.mono keeps_int gw.out Bh0_out.out)
      replace h1_vals : Hid (RInts wm0 u1_vals x1.vals) := Lib.hid (RSlice.mono keeps_int gw.out Bh1_vals.out)
      replace hw0 : Hid (RInts wm0 (.slice aw0 nw0 cw0) (projL x0 x1)) := Lib.hid (RSlice.mono keeps_int gv.out Bhw0.out)
      replace hx1_vals : Hid (PInts (In (w4.heap.size + 1) w5.heap.size) wm0 (.slice ax1_vals nx1_vals cx1_vals) x1.vals) := Lib.hid (OSl.frame fr_int hx1_vals.out (dm0.agree fun b hb hc => by have := Z1.out; have := bkb0_0.out; have := bkb1_0.out; have := Z2.out; have := Z3.out; have := ZZp0.out; have := ZZp1.out; have := ZV.out; have := Z4.out; have := ZMx0_conds.out; have := ZMx0_out.out; have := Z5.out; have := bkx0_0.out; have := Z6.out; have := bkx1_0.out; have := Z7.out; have := Z8.out; have := Z9.out; have := Z10.out; rcases hc with hc | hc <;> (have := hb.1; have := hb.2; have := hc.1; have := hc.2; omega)))
      replace hg0 : Hid (PInts (In (w5.heap.size + 1) w6.heap.size) wm0 (.slice ag0 ng0 cg0) (projL x0 x1)) := Lib.hid (OSl.frame fr_int hg0.out (dm0.agree fun b hb hc => by have := Z1.out; have := bkb0_0.out; have := bkb1_0.out; have := Z2.out; have := Z3.out; have := ZZp0.out; have := ZZp1.out; have := ZV.out; have := Z4.out; have := ZMx0_conds.out; have := ZMx0_out.out; have := Z5.out; have := bkx0_0.out; have := Z6.out; have := bkx1_0.out; have := Z7.out; have := Z8.out; have := Z9.out; have := Z10.out; rcases hc with hc | hc <;> (have := hb.1; have := hb.2; have := hc.1; have := hc.2; omega)))
      replace kb0_0 : wm0.cell? ⟨w.heap.size, 0, none⟩ = some (.int .i64 x0.id) := (World.cell?_of_block (w := wb1) (dm0.block _ (World.block_lt_of_cell? _ _ kb0_0) (fun hc => by have := Z1.out; have := bkb0_0.out; have := bkb1_0.out; have := Z2.out; have := Z3.out; have := ZZp0.out; have := ZZp1.out; have := ZV.out; have := Z4.out; have := ZMx0_conds.out; have := ZMx0_out.out; have := Z5.out; have := bkx0_0.out; have := Z6.out; have := bkx1_0.out; have := Z7.out; have := Z8.out; have := Z9.out; have := Z10.out; rcases hc with hc | hc <;> (have := hc.1; have := hc.2; dsimp only at *; omega)))).trans kb0_0
      replace kb0_1 : wm0.cell? ⟨w.heap.size, 1, none⟩ = some (.int .i64 x0.tenant) := (World.cell?_of_block (w := wb1) (dm0.block _ (World.block_lt_of_cell? _ _ kb0_1) (fun hc => by have := Z1.out; have := bkb0_0.out; have := bkb1_0.out; have := Z2.out; have := Z3.out; have := ZZp0.out; have := ZZp1.out; have := ZV.out; have := Z4.out; have := ZMx0_conds.out; have := ZMx0_out.out; have := Z5.out; have := bkx0_0.out; have := Z6.out; have := bkx1_0.out; have := Z7.out; have := Z8.out; have := Z9.out; have := Z10.out; rcases hc with hc | hc <;> (have := hc.1; have := hc.2; dsimp only at *; omega)))).trans kb0_1
      replace kb0_2 : wm0.cell? ⟨w.heap.size, 2, none⟩ = some (u0_conds) := (World.cell?_of_block (w := wb1) (dm0.block _ (World.block_lt_of_cell? _ _ kb0_2) (fun hc => by have := Z1.out; have := bkb0_0.out; have := bkb1_0.out; have := Z2.out; have := Z3.out; have := ZZp0.out; have := ZZp1.out; have := ZV.out; have := Z4.out; have := ZMx0_conds.out; have := ZMx0_out.out; have := Z5.out; have := bkx0_0.out; have := Z6.out; have := bkx1_0.out; have := Z7.out; have := Z8.out; have := Z9.out; have := Z10.out; rcases hc with hc | hc <;> (have := hc.1; have := hc.2; dsimp only at *; omega)))).trans kb0_2
      replace kb0_3 : wm0.cell? ⟨w.heap.size, 3, none⟩ = some (u0_out) := (World.cell?_of_block (w := wb1) (dm0.block _ (World.block_lt_of_cell? _ _ kb0_3) (fun hc => by have := Z1.out; have := bkb0_0.out; have := bkb1_0.out; have := Z2.out; have := Z3.out; have := ZZp0.out; have := ZZp1.out; have := ZV.out; have := Z4.out; have := ZMx0_conds.out; have := ZMx0_out.out; have := Z5.out; have := bkx0_0.out; have := Z6.out; have := bkx1_0.out; have := Z7.out; have := Z8.out; have := Z9.out; have := Z10.out; rcases hc with hc | hc <;> (have := hc.1; have := hc.2; dsimp only at *; omega)))).trans kb0_3
      replace kb1_0 : wm0.cell? ⟨w.heap.size + 1, 0, none⟩ = some (.int .i64 x1.id) := (World.cell?_of_block (w := wb1) (dm0.block _ (World.block_lt_of_cell? _ _ kb1_0) (fun hc => by have := Z1.out; have := bkb0_0.out; have := bkb1_0.out; have := Z2.out; have := Z3.out; have := ZZp0.out; have := ZZp1.out; have := ZV.out; have := Z4.out; have := ZMx0_conds.out; have := ZMx0_out.out; have := Z5.out; have := bkx0_0.out; have := Z6.out; have := bkx1_0.out; have := Z7.out; have := Z8.out; have := Z9.out; have := Z10.out; rcases hc with hc | hc <;> (have := hc.1; have := hc.2; dsimp only at *; omega)))).trans kb1_0
      replace kb1_1 : wm0.cell? ⟨w.heap.size + 1, 1, none⟩ = some (u1_vals) := (World.cell?_of_block (w := wb1) (dm0.block _ (World.block_lt_of_cell? _ _ kb1_1) (fun hc => by have := Z1.out; have := bkb0_0.out; have := bkb1_0.out; have := Z2.out; have := Z3.out; have := ZZp0.out; have := ZZp1.out; have := ZV.out; have := Z4.out; have := ZMx0_conds.out; have := ZMx0_out.out; have := Z5.out; have := bkx0_0.out; have := Z6.out; have := bkx1_0.out; have := Z7.out; have := Z8.out; have := Z9.out; have := Z10.out; rcases hc with hc | hc <;> (have := hc.1; have := hc.2; dsimp only at *; omega)))).trans kb1_1
      replace kx0_0 : wm0.cell? ⟨w4.heap.size, 0, none⟩ = some (.int .i64 x0.id) := (World.cell?_of_block (w := wb1) (dm0.block _ (World.block_lt_of_cell? _ _ kx0_0) (fun hc => by have := Z1.out; have := bkb0_0.out; have := bkb1_0.out; have := Z2.out; have := Z3.out; have := ZZp0.out; have := ZZp1.out; have := ZV.out; have := Z4.out; have := ZMx0_conds.out; have := ZMx0_out.out; have := Z5.out; have := bkx0_0.out; have := Z6.out; have := bkx1_0.out; have := Z7.out; have := Z8.out; have := Z9.out; have := Z10.out; rcases hc with hc | hc <;> (have := hc.1; have := hc.2; dsimp only at *; omega)))).trans kx0_0
      replace kx0_1 : wm0.cell? ⟨w4.heap.size, 1, none⟩ = some (.int .i64 x0.tenant) := (World.cell?_of_block (w := wb1) (dm0.block _ (World.block_lt_of_cell? _ _ kx0_1) (fun hc => by have := Z1.out; have := bkb0_0.out; have := bkb1_0.out; have := Z2.out; have := Z3.out; have := ZZp0.out; have := ZZp1.out; have := ZV.out; have := Z4.out; have := ZMx0_conds.out; have := ZMx0_out.out; have := Z5.out; have := bkx0_0.out; have := Z6.out; have := bkx1_0.out; have := Z7.out; have := Z8.out; have := Z9.out; have := Z10.out; rcases hc with hc | hc <;> (have := hc.1; have := hc.2; dsimp only at *; omega)))).trans kx0_1
      replace kx0_2 : wm0.cell? ⟨w4.heap.size, 2, none⟩ = some (.slice ax0_conds nx0_conds cx0_conds) := (World.cell?_of_block (w := wb1) (dm0.block _ (World.block_lt_of_cell? _ _ kx0_2) (fun hc => by have := Z1.out; have := bkb0_0.out; have := bkb1_0.out; have := Z2.out; have := Z3.out; have := ZZp0.out; have := ZZp1.out; have := ZV.out; have := Z4.out; have := ZMx0_conds.out; have := ZMx0_out.out; have := Z5.out; have := bkx0_0.out; have := Z6.out; have := bkx1_0.out; have := Z7.out; have := Z8.out; have := Z9.out; have := Z10.out; rcases hc with hc | hc <;> (have := hc.1; have := hc.2; dsimp only at *; omega)))).trans kx0_2
      replace kx0_3 : wm0.cell? ⟨w4.heap.size, 3, none⟩ = some (.slice ax0_out nx0_out cx0_out) := (World.cell?_of_block (w := wb1) (dm0.block _ (World.block_lt_of_cell? _ _ kx0_3) (fun hc => by have := Z1.out; have := bkb0_0.out; have := bkb1_0.out; have := Z2.out; have := Z3.out; have := ZZp0.out; have := ZZp1.out; have := ZV.out; have := Z4.out; have := ZMx0_conds.out; have := ZMx0_out.out; have := Z5.out; have := bkx0_0.out; have := Z6.out; have := bkx1_0.out; have := Z7.out; have := Z8.out; have := Z9.out; have := Z10.out; rcases hc with hc | hc <;> (have := hc.1; have := hc.2; dsimp only at *; omega)))).trans kx0_3
      replace kx1_0 : wm0.cell? ⟨w5.heap.size, 0, none⟩ = some (.int .i64 x1.id) := (World.cell?_of_block (w := wb1) (dm0.block _ (World.block_lt_of_cell? _ _ kx1_0) (fun hc => by have := Z1.out; have := bkb0_0.out; have := bkb1_0.out; have := Z2.out; have := Z3.out; have := ZZp0.out; have := ZZp1.out; have := ZV.out; have := Z4.out; have := ZMx0_conds.out; have := ZMx0_out.out; have := Z5.out; have := bkx0_0.out; have := Z6.out; have := bkx1_0.out; have := Z7.out; have := Z8.out; have := Z9.out; have := Z10.out; rcases hc with hc | hc <;> (have := hc.1; have := hc.2; dsimp only at *; omega)))).trans kx1_0
      replace kx1_1 : wm0.cell? ⟨w5.heap.size, 1, none⟩ = some (.slice ax1_vals nx1_vals cx1_vals) := (World.cell?_of_block (w := wb1) (dm0.block _ (World.block_lt_of_cell? _ _ kx1_1) (fun hc => by have := Z1.out; have := bkb0_0.out; have := bkb1_0.out; have := Z2.out; have := Z3.out; have := ZZp0.out; have := ZZp1.out; have := ZV.out; have := Z4.out; have := ZMx0_conds.out; have := ZMx0_out.out; have := Z5.out; have := bkx0_0.out; have := Z6.out; have := bkx1_0.out; have := Z7.out; have := Z8.out; have := Z9.out; have := Z10.out; rcases hc with hc | hc <;> (have := hc.1; have := hc.2; dsimp only at *; omega)))).trans kx1_1
      clear hx0_conds
      clear hx0_out
      have cu0 : 0 ≤ (((1 : Int) + (sumT cntCond x0.conds : Int)) + (sumT cntI x0.out : Int)) := by omega
      have cb1 := HQ1.out
      have cm1_vals := cnt_IntS x1.vals
      unfold totRow at cb1
      go_wp2_with fail
      refine (laws_markRow (In (w4.heap.size + 1) w5.heap.size) x1 _ (((1 : Int) + (sumT cntCond x0.conds : Int)) + (sumT cntI x0.out : Int)) _ hx1_vals.out (fun b hb => by have := Z1.out; have := bkb0_0.out; have := bkb1_0.out; have := Z2.out; have := Z3.out; have := ZZp0.out; have := ZZp1.out; have := ZV.out; have := Z4.out; have := ZMx0_conds.out; have := ZMx0_out.out; have := Z5.out; have := bkx0_0.out; have := Z6.out; have := bkx1_0.out; have := Z7.out; have := Z8.out; have := Z9.out; have := Z10.out; have := hb.2; omega) (by omega) (by omega)).mono ?_
      rintro e wm1 ⟨rfl, _, dm1⟩
      have Z11 : Hid (wm0.heap.size ≤ wm1.heap.size) := Lib.hid dm1.size
      replace gw : Hid (Gr w wm1) := Lib.hid (Gr.trans' gw.out (dm1.below (fun b hb => by have := Z1.out; have := bkb0_0.out; have := bkb1_0.out; have := Z2.out; have := Z3.out; have := ZZp0.out; have := ZZp1.out; have := ZV.out; have := Z4.out; have := ZMx0_conds.out; have := ZMx0_out.out; have := Z5.out; have := bkx0_0.out; have := Z6.out; have := bkx1_0.out; have := Z7.out; have := Z8.out; have := Z9.out; have := Z10.out; have := Z11.out; have := hb.1; omega) (gw.out.size)))
      replace gv : Hid (Gr wpf wm1) := Lib.hid (Gr.trans' gv.out (dm1.below (fun b hb => by have := Z1.out; have := bkb0_0.out; have := bkb1_0.out; have := Z2.out; have := Z3.out; have := ZZp0.out; have := ZZp1.out; have := ZV.out; have := Z4.out; have := ZMx0_conds.out; have := ZMx0_out.out; have := Z5.out; have := bkx0_0.out; have := Z6.out; have := bkx1_0.out; have := Z7.out; have := Z8.out; have := Z9.out; have := Z10.out; have := Z11.out; have := hb.1; omega) (gv.out.size)))
      replace h0_conds : Hid (RConds wm1 u0_conds x0.conds) := Lib.hid (RSlice.mono keeps_cond gw.out Bh0_conds.out)
      replace h0_out : Hid (RInts wm1 u0_out x0.out) := Lib.hid (RSlice.mono keeps_int gw.out Bh0_out.out)
      replace h1_vals : Hid (RInts wm1 u1_vals x1.vals) := Lib.hid (RSlice.mono keeps_int gw.out Bh1_vals.out)
      replace hw0 : Hid (RInts wm1 (.slice aw0 nw0 cw0) (projL x0 x1)) := Lib.hid (RSlice.mono keeps_int gv.out Bhw0.out)
      replace hg0 : Hid (PInts (In (w5.heap.size + 1) w6.heap.size) wm1 (.slice ag0 ng0 cg0) (projL x0 x1)) := Lib.hid (OSl.frame fr_int hg0.out (dm1.agree fun b hb hc => by have := Z1.out; have := bkb0_0.out; have := bkb1_0.out; have := Z2.out; have := Z3.out; have := ZZp0.out; have := ZZp1.out; have := ZV.out; have := Z4.out; have := ZMx0_conds.out; have := ZMx0_out.out; have := Z5.out; have := bkx0_0.out; have := Z6.out; have := bkx1_0.out; have := Z7.out; have := Z8.out; have := Z9.out; have := Z10.out; have := Z11.out; have := hb.1; have := hb.2; have := hc.1; have := hc.2; omega))
      replace kb0_0 : wm1.cell? ⟨w.heap.size, 0, none⟩ = some (.int .i64 x0.id) := (World.cell?_of_block (w := wm0) (dm1.block _ (World.block_lt_of_cell? _ _ kb0_0) (fun hc => by have := Z1.out; have := bkb0_0.out; have := bkb1_0.out; have := Z2.out; have := Z3.out; have := ZZp0.out; have := ZZp1.out; have := ZV.out; have := Z4.out; have := ZMx0_conds.out; have := ZMx0_out.out; have := Z5.out; have := bkx0_0.out; have := Z6.out; have := bkx1_0.out; have := Z7.out; have := Z8.out; have := Z9.out; have := Z10.out; have := Z11.out; have := hc.1; have := hc.2; dsimp only at *; omega))).trans kb0_0
      replace kb0_1 : wm1.cell? ⟨w.heap.size, 1, none⟩ = some (.int .i64 x0.tenant) := (World.cell?_of_block (w := wm0) (dm1.block _ (World.block_lt_of_cell? _ _ kb0_1) (fun hc => by have := Z1.out; have := bkb0_0.out; have := bkb1_0.out; have := Z2.out; have := Z3.out; have := ZZp0.out; have := ZZp1.out; have := ZV.out; have := Z4.out; have := ZMx0_conds.out; have := ZMx0_out.out; have := Z5.out; have := bkx0_0.out; have := Z6.out; have := bkx1_0.out; have := Z7.out; have := Z8.out; have := Z9.out; have := Z10.out; have := Z11.out; have := hc.1; have := hc.2; dsimp only at *; omega))).trans kb0_1
      replace kb0_2 : wm1.cell? ⟨w.heap.size, 2, none⟩ = some (u0_conds) := (World.cell?_of_block (w := wm0) (dm1.block _ (World.block_lt_of_cell? _ _ kb0_2) (fun hc => by have := Z1.out; have := bkb0_0.out; have := bkb1_0.out; have := Z2.out; have := Z3.out; have := ZZp0.out; have := ZZp1.out; have := ZV.out; have := Z4.out; have := ZMx0_conds.out; have := ZMx0_out.out; have := Z5.out; have := bkx0_0.out; have := Z6.out; have := bkx1_0.out; have := Z7.out; have := Z8.out; have := Z9.out; have := Z10.out; have := Z11.out; have := hc.1; have := hc.2; dsimp only at *; omega))).trans kb0_2
      replace kb0_3 : wm1.cell? ⟨w.heap.size, 3, none⟩ = some (u0_out) := (World.cell?_of_block (w := wm0) (dm1.block _ (World.block_lt_of_cell? _ _ kb0_3) (fun hc => by have := Z1.out; have := bkb0_0.out; have := bkb1_0.out; have := Z2.out; have := Z3.out; have := ZZp0.out; have := ZZp1.out; have := ZV.out; have := Z4.out; have := ZMx0_conds.out; have := ZMx0_out.out; have := Z5.out; have := bkx0_0.out; have := Z6.out; have := bkx1_0.out; have := Z7.out; have := Z8.out; have := Z9.out; have := Z10.out; have := Z11.out; have := hc.1; have := hc.2; dsimp only at *; omega))).trans kb0_3
      replace kb1_0 : wm1.cell? ⟨w.heap.size + 1, 0, none⟩ = some (.int .i64 x1.id) := (World.cell?_of_block (w := wm0) (dm1.block _ (World.block_lt_of_cell? _ _ kb1_0) (fun hc => by have := Z1.out; have := bkb0_0.out; have := bkb1_0.out; have := Z2.out; have := Z3.out; have := ZZp0.out; have := ZZp1.out; have := ZV.out; have := Z4.out; have := ZMx0_conds.out; have := ZMx0_out.out; have := Z5.out; have := bkx0_0.out; have := Z6.out; have := bkx1_0.out; have := Z7.out; have := Z8.out; have := Z9.out; have := Z10.out; have := Z11.out; have := hc.1; have := hc.2; dsimp only at *; omega))).trans kb1_0
      replace kb1_1 : wm1.cell? ⟨w.heap.size + 1, 1, none⟩ = some (u1_vals) := (World.cell?_of_block (w := wm0) (dm1.block _ (World.block_lt_of_cell? _ _ kb1_1) (fun hc => by have := Z1.out; have := bkb0_0.out; have := bkb1_0.out; have := Z2.out; have := Z3.out; have := ZZp0.out; have := ZZp1.out; have := ZV.out; have := Z4.out; have := ZMx0_conds.out; have := ZMx0_out.out; have := Z5.out; have := bkx0_0.out; have := Z6.out; have := bkx1_0.out; have := Z7.out; have := Z8.out; have := Z9.out; have := Z10.out; have := Z11.out; have := hc.1; have := hc.2; dsimp only at *; omega))).trans kb1_1
      replace kx0_0 : wm1.cell? ⟨w4.heap.size, 0, none⟩ = some (.int .i64 x0.id) := (World.cell?_of_block (w := wm0) (dm1.block _ (World.block_lt_of_cell? _ _ kx0_0) (fun hc => by have := Z1.out; have := bkb0_0.out; have := bkb1_0.out; have := Z2.out; have := Z3.out; have := ZZp0.out; have := ZZp1.out; have := ZV.out; have := Z4.out; have := ZMx0_conds.out; have := ZMx0_out.out; have := Z5.out; have := bkx0_0.out; have := Z6.out; have := bkx1_0.out; have := Z7.out; have := Z8.out; have := Z9.out; have := Z10.out; have := Z11.out; have := hc.1; have := hc.2; dsimp only at *; omega))).trans kx0_0
      replace kx0_1 : wm1.cell? ⟨w4.heap.size, 1, none⟩ = some (.int .i64 x0.tenant) := (World.cell?_of_block (w := wm0) (dm1.block _ (World.block_lt_of_cell? _ _ kx0_1) (fun hc => by have := Z1.out; have := bkb0_0.out; have := bkb1_0.out; have := Z2.out; have := Z3.out; have := ZZp0.out; have := ZZp1.out; have := ZV.out; have := Z4.out; have := ZMx0_conds.out; have := ZMx0_out.out; have := Z5.out; have := bkx0_0.out; have := Z6.out; have := bkx1_0.out; have := Z7.out; have := Z8.out; have := Z9.out; have := Z10.out; have := Z11.out; have := hc.1; have := hc.2; dsimp only at *; omega))).trans kx0_1
      replace kx0_2 : wm1.cell? ⟨w4.heap.size, 2, none⟩ = some (.slice ax0_conds nx0_conds cx0_conds) := (World.cell?_of_block (w := wm0) (dm1.block _ (World.block_lt_of_cell? _ _ kx0_2) (fun hc => by have := Z1.out; have := bkb0_0.out; have := bkb1_0.out; have := Z2.out; have := Z3.out; have := ZZp0.out; have := ZZp1.out; have := ZV.out; have := Z4.out; have := ZMx0_conds.out; have := ZMx0_out.out; have := Z5.out; have := bkx0_0.out; have := Z6.out; have := bkx1_0.out; have := Z7.out; have := Z8.out; have := Z9.out; have := Z10.out; have := Z11.out; have := hc.1; have := hc.2; dsimp only at *; omega))).trans kx0_2
      replace kx0_3 : wm1.cell? ⟨w4.heap.size, 3, none⟩ = some (.slice ax0_out nx0_out cx0_out) := (World.cell?_of_block (w := wm0) (dm1.block _ (World.block_lt_of_cell? _ _ kx0_3) (fun hc => by have := Z1.out; have := bkb0_0.out; have := bkb1_0.out; have := Z2.out; have := Z3.out; have := ZZp0.out; have := ZZp1.out; have := ZV.out; have := Z4.out; have := ZMx0_conds.out; have := ZMx0_out.out; have := Z5.out; have := bkx0_0.out; have := Z6.out; have := bkx1_0.out; have := Z7.out; have := Z8.out; have := Z9.out; have := Z10.out; have := Z11.out; have := hc.1; have := hc.2; dsimp only at *; omega))).trans kx0_3
      replace kx1_0 : wm1.cell? ⟨w5.heap.size, 0, none⟩ = some (.int .i64 x1.id) := (World.cell?_of_block (w := wm0) (dm1.block _ (World.block_lt_of_cell? _ _ kx1_0) (fun hc => by have := Z1.out; have := bkb0_0.out; have := bkb1_0.out; have := Z2.out; have := Z3.out; have := ZZp0.out; have := ZZp1.out; have := ZV.out; have := Z4.out; have := ZMx0_conds.out; have := ZMx0_out.out; have := Z5.out; have := bkx0_0.out; have := Z6.out; have := bkx1_0.out; have := Z7.out; have := Z8.out; have := Z9.out; have := Z10.out; have := Z11.out; have := hc.1; have := hc.2; dsimp only at *; omega))).trans kx1_0
      replace kx1_1 : wm1.cell? ⟨w5.heap.size, 1, none⟩ = some (.slice ax1_vals nx1_vals cx1_vals) := (World.cell?_of_block (w := wm0) (dm1.block _ (World.block_lt_of_cell? _ _ kx1_1) (fun hc => by have := Z1.out; have := bkb0_0.out; have := bkb1_0.out; have := Z2.out; have := Z3.out; have := ZZp0.out; have := ZZp1.out; have := ZV.out; have := Z4.out; have := ZMx0_conds.out; have := ZMx0_out.out; have := Z5.out; have := bkx0_0.out; have := Z6.out; have := bkx1_0.out; have := Z7.out; have := Z8.out; have := Z9.out; have := Z10.out; have := Z11.out; have := hc.1; have := hc.2; dsimp only at *; omega))).trans kx1_1
      clear hx1_vals
      have cu1 : 0 ≤ ((((1 : Int) + (sumT cntCond x0.conds : Int)) + (sumT cntI x0.out : Int)) + (sumT cntI x1.vals : Int)) := by omega
      clear kx0_0
      clear kx0_1
      clear kx0_2
      clear kx0_3
      clear kx1_0
      clear kx1_1
      go_wp2_with fail
      refine (laws_eqIntS_same _ _ (projL x0 x1) _ (rd_pints hg0.out) hw0.out).mono ?_
      rintro e w12 ⟨rfl, g12⟩
      have Z12 : Hid (wm1.heap.size + 0 ≤ w12.heap.size) := Lib.hid (by have := g12.size; simpa using this)
      replace h0_conds : Hid (RConds w12 u0_conds x0.conds) := Lib.hid (RSlice.mono keeps_cond g12 h0_conds.out)
      replace h0_out : Hid (RInts w12 u0_out x0.out) := Lib.hid (RSlice.mono keeps_int g12 h0_out.out)
      replace h1_vals : Hid (RInts w12 u1_vals x1.vals) := Lib.hid (RSlice.mono keeps_int g12 h1_vals.out)
      replace hw0 : Hid (RInts w12 (.slice aw0 nw0 cw0) (projL x0 x1)) := Lib.hid (RSlice.mono keeps_int g12 hw0.out)
      replace hg0 : Hid (PInts (In (w5.heap.size + 1) w6.heap.size) w12 (.slice ag0 ng0 cg0) (projL x0 x1)) := Lib.hid (OSl.gr fr_int hg0.out g12)
      replace kb0_0 : w12.cell? ⟨w.heap.size, 0, none⟩ = some (.int .i64 x0.id) := g12.cellv kb0_0
      replace kb0_1 : w12.cell? ⟨w.heap.size, 1, none⟩ = some (.int .i64 x0.tenant) := g12.cellv kb0_1
      replace kb0_2 : w12.cell? ⟨w.heap.size, 2, none⟩ = some (u0_conds) := g12.cellv kb0_2
      replace kb0_3 : w12.cell? ⟨w.heap.size, 3, none⟩ = some (u0_out) := g12.cellv kb0_3
      replace kb1_0 : w12.cell? ⟨w.heap.size + 1, 0, none⟩ = some (.int .i64 x1.id) := g12.cellv kb1_0
      replace kb1_1 : w12.cell? ⟨w.heap.size + 1, 1, none⟩ = some (u1_vals) := g12.cellv kb1_1
      replace gw : Hid (Gr w w12) := Lib.hid (gw.out.trans g12)
      replace gv : Hid (Gr wpf w12) := Lib.hid (gv.out.trans g12)
      have HBR := Lib.hid (show (1 : Int) + (sumT cntI (projL x0 x1) : Int) ≤ 4611686018427387904 from by have := projL_small x0 x1; omega)
      have hbr := HBR.out
      go_wp2_with fail
      refine (laws_markIntS (In (w5.heap.size + 1) w6.heap.size) _ (projL x0 x1) (1 : Int) _ hg0.out (by omega) (by omega)).mono ?_
      rintro e wg0 ⟨rfl, qhg0, dg0⟩
      have Z13 : Hid (w12.heap.size ≤ wg0.heap.size) := Lib.hid dg0.size
      replace gw : Hid (Gr w wg0) := Lib.hid (Gr.trans' gw.out (dg0.below (fun b hb => by have := Z1.out; have := bkb0_0.out; have := bkb1_0.out; have := Z2.out; have := Z3.out; have := ZZp0.out; have := ZZp1.out; have := ZV.out; have := Z4.out; have := ZMx0_conds.out; have := ZMx0_out.out; have := Z5.out; have := bkx0_0.out; have := Z6.out; have := bkx1_0.out; have := Z7.out; have := Z8.out; have := Z9.out; have := Z10.out; have := Z11.out; have := Z12.out; have := Z13.out; have := hb.1; omega) (gw.out.size)))
      replace gv : Hid (Gr wpf wg0) := Lib.hid (Gr.trans' gv.out (dg0.below (fun b hb => by have := Z1.out; have := bkb0_0.out; have := bkb1_0.out; have := Z2.out; have := Z3.out; have := ZZp0.out; have := ZZp1.out; have := ZV.out; have := Z4.out; have := ZMx0_conds.out; have := ZMx0_out.out; have := Z5.out; have := bkx0_0.out; have := Z6.out; have := bkx1_0.out; have := Z7.out; have := Z8.out; have := Z9.out; have := Z10.out; have := Z11.out; have := Z12.out; have := Z13.out; have := hb.1; omega) (gv.out.size)))
      replace h0_conds : Hid (RConds wg0 u0_conds x0.conds) := Lib.hid (RSlice.mono keeps_cond gw.out Bh0_conds.out)
      replace h0_out : Hid (RInts wg0 u0_out x0.out) := Lib.hid (RSlice.mono keeps_int gw.out Bh0_out.out)
      replace h1_vals : Hid (RInts wg0 u1_vals x1.vals) := Lib.hid (RSlice.mono keeps_int gw.out Bh1_vals.out)
      replace hw0 : Hid (RInts wg0 (.slice aw0 nw0 cw0) (projL x0 x1)) := Lib.hid (RSlice.mono keeps_int gv.out Bhw0.out)
      replace kb0_0 : wg0.cell? ⟨w.heap.size, 0, none⟩ = some (.int .i64 x0.id) := (World.cell?_of_block (w := w12) (dg0.block _ (World.block_lt_of_cell? _ _ kb0_0) (fun hc => by have := Z1.out; have := bkb0_0.out; have := bkb1_0.out; have := Z2.out; have := Z3.out; have := ZZp0.out; have := ZZp1.out; have := ZV.out; have := Z4.out; have := ZMx0_conds.out; have := ZMx0_out.out; have := Z5.out; have := bkx0_0.out; have := Z6.out; have := bkx1_0.out; have := Z7.out; have := Z8.out; have := Z9.out; have := Z10.out; have := Z11.out; have := Z12.out; have := Z13.out; have := hc.1; have := hc.2; dsimp only at *; omega))).trans kb0_0
      replace kb0_1 : wg0.cell? ⟨w.heap.size, 1, none⟩ = some (.int .i64 x0.tenant) := (World.cell?_of_block (w := w12) (dg0.block _ (World.block_lt_of_cell? _ _ kb0_1) (fun hc => by have := Z1.out; have := bkb0_0.out; have := bkb1_0.out; have := Z2.out; have := Z3.out; have := ZZp0.out; have := ZZp1.out; have := ZV.out; have := Z4.out; have := ZMx0_conds.out; have := ZMx0_out.out; have := Z5.out; have := bkx0_0.out; have := Z6.out; have := bkx1_0.out; have := Z7.out; have := Z8.out; have := Z9.out; have := Z10.out; have := Z11.out; have := Z12.out; have := Z13.out; have := hc.1; have := hc.2; dsimp only at *; omega))).trans kb0_1
      replace kb0_2 : wg0.cell? ⟨w.heap.size, 2, none⟩ = some (u0_conds) := (World.cell?_of_block (w := w12) (dg0.block _ (World.block_lt_of_cell? _ _ kb0_2) (fun hc => by have := Z1.out; have := bkb0_0.out; have := bkb1_0.out; have := Z2.out; have := Z3.out; have := ZZp0.out; have := ZZp1.out; have := ZV.out; have := Z4.out; have := ZMx0_conds.out; have := ZMx0_out.out; have := Z5.out; have := bkx0_0.out; have := Z6.out; have := bkx1_0.out; have := Z7.out; have := Z8.out; have := Z9.out; have := Z10.out; have := Z11.out; have := Z12.out; have := Z13.out; have := hc.1; have := hc.2; dsimp only at *; omega))).trans kb0_2
      replace kb0_3 : wg0.cell? ⟨w.heap.size, 3, none⟩ = some (u0_out) := (World.cell?_of_block (w := w12) (dg0.block _ (World.block_lt_of_cell? _ _ kb0_3) (fun hc => by have := Z1.out; have := bkb0_0.out; have := bkb1_0.out; have := Z2.out; have := Z3.out; have := ZZp0.out; have := ZZp1.out; have := ZV.out; have := Z4.out; have := ZMx0_conds.out; have := ZMx0_out.out; have := Z5.out; have := bkx0_0.out; have := Z6.out; have := bkx1_0.out; have := Z7.out; have := Z8.out; have := Z9.out; have := Z10.out; have := Z11.out; have := Z12.out; have := Z13.out; have := hc.1; have := hc.2; dsimp only at *; omega))).trans kb0_3
      replace kb1_0 : wg0.cell? ⟨w.heap.size + 1, 0, none⟩ = some (.int .i64 x1.id) := (World.cell?_of_block (w := w12) (dg0.block _ (World.block_lt_of_cell? _ _ kb1_0) (fun hc => by have := Z1.out; have := bkb0_0.out; have := bkb1_0.out; have := Z2.out; have := Z3.out; have := ZZp0.out; have := ZZp1.out; have := ZV.out; have := Z4.out; have := ZMx0_conds.out; have := ZMx0_out.out; have := Z5.out; have := bkx0_0.out; have := Z6.out; have := bkx1_0.out; have := Z7.out; have := Z8.out; have := Z9.out; have := Z10.out; have := Z11.out; have := Z12.out; have := Z13.out; have := hc.1; have := hc.2; dsimp only at *; omega))).trans kb1_0
      replace kb1_1 : wg0.cell? ⟨w.heap.size + 1, 1, none⟩ = some (u1_vals) := (World.cell?_of_block (w := w12) (dg0.block _ (World.block_lt_of_cell? _ _ kb1_1) (fun hc => by have := Z1.out; have := bkb0_0.out; have := bkb1_0.out; have := Z2.out; have := Z3.out; have := ZZp0.out; have := ZZp1.out; have := ZV.out; have := Z4.out; have := ZMx0_conds.out; have := ZMx0_out.out; have := Z5.out; have := bkx0_0.out; have := Z6.out; have := bkx1_0.out; have := Z7.out; have := Z8.out; have := Z9.out; have := Z10.out; have := Z11.out; have := Z12.out; have := Z13.out; have := hc.1; have := hc.2; dsimp only at *; omega))).trans kb1_1
      clear hg0
      have Mhg0 : Hid (RInts wg0 (.slice ag0 ng0 cg0) (marksTo mkI cntI (1 : Int) (projL x0 x1).length (projL x0 x1))) := Lib.hid (rd_pints qhg0)
      clear qhg0
      have hcg0 : 0 ≤ ((1 : Int) + (sumT cntI (projL x0 x1) : Int)) := by omega
      have ef : (((1 : Int) + (sumT cntI (projL x0 x1) : Int)) != ((1 : Int) + (sumT cntI (projL x0 x1) : Int))) = false := by simp
      go_wp2_with fail
      refine (laws_heldIntS _ (projL x0 x1) (1 : Int) _ Mhg0.out (by omega) (by omega)).mono ?_
      rintro e w14 ⟨rfl, g14⟩
      have Z14 : Hid (wg0.heap.size + 0 ≤ w14.heap.size) := Lib.hid (by have := g14.size; simpa using this)
      replace h0_conds : Hid (RConds w14 u0_conds x0.conds) := Lib.hid (RSlice.mono keeps_cond g14 h0_conds.out)
      replace h0_out : Hid (RInts w14 u0_out x0.out) := Lib.hid (RSlice.mono keeps_int g14 h0_out.out)
      replace h1_vals : Hid (RInts w14 u1_vals x1.vals) := Lib.hid (RSlice.mono keeps_int g14 h1_vals.out)
      replace hw0 : Hid (RInts w14 (.slice aw0 nw0 cw0) (projL x0 x1)) := Lib.hid (RSlice.mono keeps_int g14 hw0.out)
      replace Mhg0 : Hid (RInts w14 (.slice ag0 ng0 cg0) (marksTo mkI cntI (1 : Int) (projL x0 x1).length (projL x0 x1))) := Lib.hid (RSlice.mono keeps_int g14 Mhg0.out)
      replace kb0_0 : w14.cell? ⟨w.heap.size, 0, none⟩ = some (.int .i64 x0.id) := g14.cellv kb0_0
      replace kb0_1 : w14.cell? ⟨w.heap.size, 1, none⟩ = some (.int .i64 x0.tenant) := g14.cellv kb0_1
      replace kb0_2 : w14.cell? ⟨w.heap.size, 2, none⟩ = some (u0_conds) := g14.cellv kb0_2
      replace kb0_3 : w14.cell? ⟨w.heap.size, 3, none⟩ = some (u0_out) := g14.cellv kb0_3
      replace kb1_0 : w14.cell? ⟨w.heap.size + 1, 0, none⟩ = some (.int .i64 x1.id) := g14.cellv kb1_0
      replace kb1_1 : w14.cell? ⟨w.heap.size + 1, 1, none⟩ = some (u1_vals) := g14.cellv kb1_1
      replace gw : Hid (Gr w w14) := Lib.hid (gw.out.trans g14)
      replace gv : Hid (Gr wpf w14) := Lib.hid (gv.out.trans g14)
      -- drawn
      go_wp2
      go_region_held3 (fun w' => w'.cell? ⟨w.heap.size, 0, none⟩ = some (.int .i64 x0.id) ∧ w'.cell? ⟨w.heap.size, 1, none⟩ = some (.int .i64 x0.tenant) ∧ w'.cell? ⟨w.heap.size, 2, none⟩ = some (u0_conds) ∧ w'.cell? ⟨w.heap.size, 3, none⟩ = some (u0_out) ∧ w'.cell? ⟨w.heap.size + 1, 0, none⟩ = some (.int .i64 x1.id) ∧ w'.cell? ⟨w.heap.size + 1, 1, none⟩ = some (u1_vals) ∧ RConds w' u0_conds x0.conds ∧ RInts w' u0_out x0.out ∧ RInts w' u1_vals x1.vals ∧ RInts w' (.slice aw0 nw0 cw0) (projL x0 x1) ∧ RInts w' (.slice ag0 ng0 cg0) (marksTo mkI cntI (1 : Int) (projL x0 x1).length (projL x0 x1)) ∧ Gr w14 w')
        (first | exact ⟨kb0_0, kb0_1, kb0_2, kb0_3, kb1_0, kb1_1, h0_conds.out, h0_out.out, h1_vals.out, hw0.out, Mhg0.out, Gr.refl _⟩ | exact ⟨kb0_0, kb0_1, kb0_2, kb0_3, kb1_0, kb1_1, h0_conds.out, h0_out.out, h1_vals.out, hw0.out, Mhg0.out, (Gr.refl _).drew⟩ | (go_split_ands; exact ⟨Gr.cellv gzf (by assumption), Gr.cellv gzf (by assumption), Gr.cellv gzf (by assumption), Gr.cellv gzf (by assumption), Gr.cellv gzf (by assumption), Gr.cellv gzf (by assumption), (RSlice.mono keeps_cond gzf (by assumption)), (RSlice.mono keeps_int gzf (by assumption)), (RSlice.mono keeps_int gzf (by assumption)), (RSlice.mono keeps_int gzf (by assumption)), (RSlice.mono keeps_int gzf (by assumption)), Gr.trans (by assumption) gzf⟩) | (go_split_ands; exact ⟨Gr.cellv gz1 (by assumption), Gr.cellv gz1 (by assumption), Gr.cellv gz1 (by assumption), Gr.cellv gz1 (by assumption), Gr.cellv gz1 (by assumption), Gr.cellv gz1 (by assumption), (RSlice.mono keeps_cond gz1 (by assumption)), (RSlice.mono keeps_int gz1 (by assumption)), (RSlice.mono keeps_int gz1 (by assumption)), (RSlice.mono keeps_int gz1 (by assumption)), (RSlice.mono keeps_int gz1 (by assumption)), Gr.trans (by assumption) gz1⟩) | (go_split_ands; exact ⟨Gr.cellv gz0 (by assumption), Gr.cellv gz0 (by assumption), Gr.cellv gz0 (by assumption), Gr.cellv gz0 (by assumption), Gr.cellv gz0 (by assumption), Gr.cellv gz0 (by assumption), (RSlice.mono keeps_cond gz0 (by assumption)), (RSlice.mono keeps_int gz0 (by assumption)), (RSlice.mono keeps_int gz0 (by assumption)), (RSlice.mono keeps_int gz0 (by assumption)), (RSlice.mono keeps_int gz0 (by assumption)), Gr.trans (by assumption) gz0⟩))
        (first | (go_at_call 23; go_split_ands; with_reducible refine (laws_toQuery_own x0 u0_conds u0_out _ (by assumption) (by assumption) HT0.out).mono ?_; rintro e wz0 ⟨vz0_conds, vz0_out, rfl, gz0, mz0, hmz0, hnz0, r_hz0_conds, r_hz0_out⟩) | (go_at_call 24; go_split_ands; with_reducible refine (laws_toRow_own x1 u1_vals _ (by assumption) HT1.out).mono ?_; rintro e wz1 ⟨vz1_vals, rfl, gz1, r_hz1_vals⟩) | (go_at_call 25; refine (impl_ProjectRow x0 _ _ x1 _ _ (RSlice.mono keeps_cond gz1 (rd_pconds r_hz0_conds)) (RSlice.mono keeps_int gz1 (rd_pints r_hz0_out)) (rd_pints r_hz1_vals)).mono ?_; rintro e wzf ⟨vh0, rfl, gzf, r_hh0⟩))
      have hdr15 : Gr w14 w14.drew := (Gr.refl w14).drew
      have gs15 : Gr w14 wzf := (((hdr15.trans gz0).trans gz1).trans gzf)
      have Z15 : Hid (w14.heap.size + 0 ≤ wzf.heap.size) := Lib.hid gs15.size
      have ZZz0 : Hid (w14.heap.size ≤ wz0.heap.size) := Lib.hid (by have := gz0.size; simpa using this)
      have ZZz1 : Hid (wz0.heap.size ≤ wz1.heap.size) := Lib.hid (by have := gz1.size; simpa using this)
      replace h0_conds : Hid (RConds wzf u0_conds x0.conds) := Lib.hid (RSlice.mono keeps_cond gs15 h0_conds.out)
      replace h0_out : Hid (RInts wzf u0_out x0.out) := Lib.hid (RSlice.mono keeps_int gs15 h0_out.out)
      replace h1_vals : Hid (RInts wzf u1_vals x1.vals) := Lib.hid (RSlice.mono keeps_int gs15 h1_vals.out)
      replace hw0 : Hid (RInts wzf (.slice aw0 nw0 cw0) (projL x0 x1)) := Lib.hid (RSlice.mono keeps_int gs15 hw0.out)
      replace Mhg0 : Hid (RInts wzf (.slice ag0 ng0 cg0) (marksTo mkI cntI (1 : Int) (projL x0 x1).length (projL x0 x1))) := Lib.hid (RSlice.mono keeps_int gs15 Mhg0.out)
      replace kb0_0 : wzf.cell? ⟨w.heap.size, 0, none⟩ = some (.int .i64 x0.id) := gs15.cellv kb0_0
      replace kb0_1 : wzf.cell? ⟨w.heap.size, 1, none⟩ = some (.int .i64 x0.tenant) := gs15.cellv kb0_1
      replace kb0_2 : wzf.cell? ⟨w.heap.size, 2, none⟩ = some (u0_conds) := gs15.cellv kb0_2
      replace kb0_3 : wzf.cell? ⟨w.heap.size, 3, none⟩ = some (u0_out) := gs15.cellv kb0_3
      replace kb1_0 : wzf.cell? ⟨w.heap.size + 1, 0, none⟩ = some (.int .i64 x1.id) := gs15.cellv kb1_0
      replace kb1_1 : wzf.cell? ⟨w.heap.size + 1, 1, none⟩ = some (u1_vals) := gs15.cellv kb1_1
      replace gw : Hid (Gr w wzf) := Lib.hid (gw.out.trans gs15)
      replace gv : Hid (Gr wpf wzf) := Lib.hid (gv.out.trans gs15)
      obtain ⟨ah0, nh0, ch0, rfl⟩ := r_hh0.isSl
      have hh0 : Hid (PInts (In wz1.heap.size wzf.heap.size) wzf (.slice ah0 nh0 ch0) (projL x0 x1)) := Lib.hid (r_hh0.wide (by simp) (by omega))
      clear r_hh0
      go_wp2_with fail
      refine (laws_eqIntS_same _ _ (projL x0 x1) _ (rd_pints hh0.out) hw0.out).mono ?_
      rintro e w16 ⟨rfl, g16⟩
      have Z16 : Hid (wzf.heap.size + 0 ≤ w16.heap.size) := Lib.hid (by have := g16.size; simpa using this)
      replace h0_conds : Hid (RConds w16 u0_conds x0.conds) := Lib.hid (RSlice.mono keeps_cond g16 h0_conds.out)
      replace h0_out : Hid (RInts w16 u0_out x0.out) := Lib.hid (RSlice.mono keeps_int g16 h0_out.out)
      replace h1_vals : Hid (RInts w16 u1_vals x1.vals) := Lib.hid (RSlice.mono keeps_int g16 h1_vals.out)
      replace hw0 : Hid (RInts w16 (.slice aw0 nw0 cw0) (projL x0 x1)) := Lib.hid (RSlice.mono keeps_int g16 hw0.out)
      replace Mhg0 : Hid (RInts w16 (.slice ag0 ng0 cg0) (marksTo mkI cntI (1 : Int) (projL x0 x1).length (projL x0 x1))) := Lib.hid (RSlice.mono keeps_int g16 Mhg0.out)
      replace hh0 : Hid (PInts (In wz1.heap.size wzf.heap.size) w16 (.slice ah0 nh0 ch0) (projL x0 x1)) := Lib.hid (OSl.gr fr_int hh0.out g16)
      replace kb0_0 : w16.cell? ⟨w.heap.size, 0, none⟩ = some (.int .i64 x0.id) := g16.cellv kb0_0
      replace kb0_1 : w16.cell? ⟨w.heap.size, 1, none⟩ = some (.int .i64 x0.tenant) := g16.cellv kb0_1
      replace kb0_2 : w16.cell? ⟨w.heap.size, 2, none⟩ = some (u0_conds) := g16.cellv kb0_2
      replace kb0_3 : w16.cell? ⟨w.heap.size, 3, none⟩ = some (u0_out) := g16.cellv kb0_3
      replace kb1_0 : w16.cell? ⟨w.heap.size + 1, 0, none⟩ = some (.int .i64 x1.id) := g16.cellv kb1_0
      replace kb1_1 : w16.cell? ⟨w.heap.size + 1, 1, none⟩ = some (u1_vals) := g16.cellv kb1_1
      replace gw : Hid (Gr w w16) := Lib.hid (gw.out.trans g16)
      replace gv : Hid (Gr wpf w16) := Lib.hid (gv.out.trans g16)
      go_wp2_with fail
      refine (laws_heldIntS _ (projL x0 x1) (1 : Int) _ Mhg0.out (by omega) (by omega)).mono ?_
      rintro e w17 ⟨rfl, g17⟩
      have Z17 : Hid (w16.heap.size + 0 ≤ w17.heap.size) := Lib.hid (by have := g17.size; simpa using this)
      replace h0_conds : Hid (RConds w17 u0_conds x0.conds) := Lib.hid (RSlice.mono keeps_cond g17 h0_conds.out)
      replace h0_out : Hid (RInts w17 u0_out x0.out) := Lib.hid (RSlice.mono keeps_int g17 h0_out.out)
      replace h1_vals : Hid (RInts w17 u1_vals x1.vals) := Lib.hid (RSlice.mono keeps_int g17 h1_vals.out)
      replace hw0 : Hid (RInts w17 (.slice aw0 nw0 cw0) (projL x0 x1)) := Lib.hid (RSlice.mono keeps_int g17 hw0.out)
      replace Mhg0 : Hid (RInts w17 (.slice ag0 ng0 cg0) (marksTo mkI cntI (1 : Int) (projL x0 x1).length (projL x0 x1))) := Lib.hid (RSlice.mono keeps_int g17 Mhg0.out)
      replace hh0 : Hid (PInts (In wz1.heap.size wzf.heap.size) w17 (.slice ah0 nh0 ch0) (projL x0 x1)) := Lib.hid (OSl.gr fr_int hh0.out g17)
      replace kb0_0 : w17.cell? ⟨w.heap.size, 0, none⟩ = some (.int .i64 x0.id) := g17.cellv kb0_0
      replace kb0_1 : w17.cell? ⟨w.heap.size, 1, none⟩ = some (.int .i64 x0.tenant) := g17.cellv kb0_1
      replace kb0_2 : w17.cell? ⟨w.heap.size, 2, none⟩ = some (u0_conds) := g17.cellv kb0_2
      replace kb0_3 : w17.cell? ⟨w.heap.size, 3, none⟩ = some (u0_out) := g17.cellv kb0_3
      replace kb1_0 : w17.cell? ⟨w.heap.size + 1, 0, none⟩ = some (.int .i64 x1.id) := g17.cellv kb1_0
      replace kb1_1 : w17.cell? ⟨w.heap.size + 1, 1, none⟩ = some (u1_vals) := g17.cellv kb1_1
      replace gw : Hid (Gr w w17) := Lib.hid (gw.out.trans g17)
      replace gv : Hid (Gr wpf w17) := Lib.hid (gv.out.trans g17)
      go_wp2_with fail
      go_ret
      exact ⟨rfl, gw.out⟩
    · have HZ0 := Lib.hid (szV_yes (t := (totQuery x0)) (left := (1048576 : Int)) (by omega))
      have HA0 := Lib.hid (show (0 : Int) ≤ (1048576 : Int) ∧ (1048576 : Int) ≤ 1048576 from by omega)
      have HB0 := Lib.hid (show (0 : Int) ≤ (1048576 : Int) - ((totQuery x0) : Int) ∧ (1048576 : Int) - ((totQuery x0) : Int) ≤ 1048576 from by omega)
      have HZ1 := Lib.hid (szV_no (t := (totRow x1)) (left := (1048576 - ((totQuery x0) : Int))) (by omega))
      have HA1 := Lib.hid (show (0 : Int) ≤ (1048576 - ((totQuery x0) : Int)) ∧ (1048576 - ((totQuery x0) : Int)) ≤ 1048576 from by omega)
      clear hs0 hs1
      go_enter Try.func4, Try.ntmps4
      have Bh0_conds := Lib.hid h0_conds
      replace h0_conds := Lib.hid h0_conds
      have Bh0_out := Lib.hid h0_out
      replace h0_out := Lib.hid h0_out
      have Bh1_vals := Lib.hid h1_vals
      replace h1_vals := Lib.hid h1_vals
      go_wp2_with fail
      refine (laws_szQuery x0 u0_conds u0_out _ _ (RSlice.mono keeps_cond (((Gr.refl w).alloc _).alloc _) h0_conds.out) (RSlice.mono keeps_int (((Gr.refl w).alloc _).alloc _) h0_out.out) HA0.out.1 HA0.out.2).mono ?_
      rintro e w1 ⟨rfl, g1⟩
      have gs1 : Gr w w1 := (((Gr.refl w).alloc _).alloc _).trans g1
      have Z1 : Hid (w.heap.size + 2 ≤ w1.heap.size) := Lib.hid (by have := g1.size; simpa using this)
      replace h0_conds : Hid (RConds w1 u0_conds x0.conds) := Lib.hid (RSlice.mono keeps_cond gs1 h0_conds.out)
      replace h0_out : Hid (RInts w1 u0_out x0.out) := Lib.hid (RSlice.mono keeps_int gs1 h0_out.out)
      replace h1_vals : Hid (RInts w1 u1_vals x1.vals) := Lib.hid (RSlice.mono keeps_int gs1 h1_vals.out)
      have gw : Hid (Gr w w1) := Lib.hid gs1
      have kb0_0 : w1.cell? ⟨w.heap.size, 0, none⟩ = some (.int .i64 x0.id) := g1.cellv (by simp [go_sem])
      have kb0_1 : w1.cell? ⟨w.heap.size, 1, none⟩ = some (.int .i64 x0.tenant) := g1.cellv (by simp [go_sem])
      have kb0_2 : w1.cell? ⟨w.heap.size, 2, none⟩ = some (u0_conds) := g1.cellv (by simp [go_sem])
      have kb0_3 : w1.cell? ⟨w.heap.size, 3, none⟩ = some (u0_out) := g1.cellv (by simp [go_sem])
      have kb1_0 : w1.cell? ⟨w.heap.size + 1, 0, none⟩ = some (.int .i64 x1.id) := g1.cellv (by simp [go_sem])
      have kb1_1 : w1.cell? ⟨w.heap.size + 1, 1, none⟩ = some (u1_vals) := g1.cellv (by simp [go_sem])
      have bkb0_0 : Hid (w.heap.size < w1.heap.size) := Lib.hid (by have := Z1.out; omega)
      have bkb1_0 : Hid (w.heap.size + 1 < w1.heap.size) := Lib.hid (by have := Z1.out; omega)
      rw [HZ0.out]
      have hB0 := HB0.out.1
      have hC0 := HB0.out.2
      go_wp2_with fail
      refine (laws_szRow x1 u1_vals _ _ h1_vals.out HA1.out.1 HA1.out.2).mono ?_
      rintro e w2 ⟨rfl, g2⟩
      have Z2 : Hid (w1.heap.size + 0 ≤ w2.heap.size) := Lib.hid (by have := g2.size; simpa using this)
      replace h0_conds : Hid (RConds w2 u0_conds x0.conds) := Lib.hid (RSlice.mono keeps_cond g2 h0_conds.out)
      replace h0_out : Hid (RInts w2 u0_out x0.out) := Lib.hid (RSlice.mono keeps_int g2 h0_out.out)
      replace h1_vals : Hid (RInts w2 u1_vals x1.vals) := Lib.hid (RSlice.mono keeps_int g2 h1_vals.out)
      replace kb0_0 : w2.cell? ⟨w.heap.size, 0, none⟩ = some (.int .i64 x0.id) := g2.cellv kb0_0
      replace kb0_1 : w2.cell? ⟨w.heap.size, 1, none⟩ = some (.int .i64 x0.tenant) := g2.cellv kb0_1
      replace kb0_2 : w2.cell? ⟨w.heap.size, 2, none⟩ = some (u0_conds) := g2.cellv kb0_2
      replace kb0_3 : w2.cell? ⟨w.heap.size, 3, none⟩ = some (u0_out) := g2.cellv kb0_3
      replace kb1_0 : w2.cell? ⟨w.heap.size + 1, 0, none⟩ = some (.int .i64 x1.id) := g2.cellv kb1_0
      replace kb1_1 : w2.cell? ⟨w.heap.size + 1, 1, none⟩ = some (u1_vals) := g2.cellv kb1_1
      replace gw : Hid (Gr w w2) := Lib.hid (gw.out.trans g2)
      rw [HZ1.out]
      go_wp2_with fail
      go_ret
      exact ⟨rfl, gw.out⟩
  · have HZ0 := Lib.hid (szV_no (t := (totQuery x0)) (left := (1048576 : Int)) (by omega))
    have HA0 := Lib.hid (show (0 : Int) ≤ (1048576 : Int) ∧ (1048576 : Int) ≤ 1048576 from by omega)
    clear hs0
    go_enter Try.func4, Try.ntmps4
    have Bh0_conds := Lib.hid h0_conds
    replace h0_conds := Lib.hid h0_conds
    have Bh0_out := Lib.hid h0_out
    replace h0_out := Lib.hid h0_out
    have Bh1_vals := Lib.hid h1_vals
    replace h1_vals := Lib.hid h1_vals
    go_wp2_with fail
    refine (laws_szQuery x0 u0_conds u0_out _ _ (RSlice.mono keeps_cond (((Gr.refl w).alloc _).alloc _) h0_conds.out) (RSlice.mono keeps_int (((Gr.refl w).alloc _).alloc _) h0_out.out) HA0.out.1 HA0.out.2).mono ?_
    rintro e w1 ⟨rfl, g1⟩
    have gs1 : Gr w w1 := (((Gr.refl w).alloc _).alloc _).trans g1
    have Z1 : Hid (w.heap.size + 2 ≤ w1.heap.size) := Lib.hid (by have := g1.size; simpa using this)
    replace h0_conds : Hid (RConds w1 u0_conds x0.conds) := Lib.hid (RSlice.mono keeps_cond gs1 h0_conds.out)
    replace h0_out : Hid (RInts w1 u0_out x0.out) := Lib.hid (RSlice.mono keeps_int gs1 h0_out.out)
    replace h1_vals : Hid (RInts w1 u1_vals x1.vals) := Lib.hid (RSlice.mono keeps_int gs1 h1_vals.out)
    have gw : Hid (Gr w w1) := Lib.hid gs1
    have kb0_0 : w1.cell? ⟨w.heap.size, 0, none⟩ = some (.int .i64 x0.id) := g1.cellv (by simp [go_sem])
    have kb0_1 : w1.cell? ⟨w.heap.size, 1, none⟩ = some (.int .i64 x0.tenant) := g1.cellv (by simp [go_sem])
    have kb0_2 : w1.cell? ⟨w.heap.size, 2, none⟩ = some (u0_conds) := g1.cellv (by simp [go_sem])
    have kb0_3 : w1.cell? ⟨w.heap.size, 3, none⟩ = some (u0_out) := g1.cellv (by simp [go_sem])
    have kb1_0 : w1.cell? ⟨w.heap.size + 1, 0, none⟩ = some (.int .i64 x1.id) := g1.cellv (by simp [go_sem])
    have kb1_1 : w1.cell? ⟨w.heap.size + 1, 1, none⟩ = some (u1_vals) := g1.cellv (by simp [go_sem])
    have bkb0_0 : Hid (w.heap.size < w1.heap.size) := Lib.hid (by have := Z1.out; omega)
    have bkb1_0 : Hid (w.heap.size + 1 < w1.heap.size) := Lib.hid (by have := Z1.out; omega)
    rw [HZ0.out]
    go_wp2_with fail
    go_ret
    exact ⟨rfl, gw.out⟩

-- endgen
end Go.Proofs.Ytnnapjaggahjgaa
