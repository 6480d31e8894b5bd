/- MatchesRow: the law. -/
import Derived.Test.YtgadgidhomijpaaMatch
import Derived.Test.YtgadgidhomijpaaMkQuery
import Derived.Test.YtgadgidhomijpaaMkRow
namespace Go.Proofs.Ytgadgidhomijpaa
open Go.RowKit
-- mgen FnExactMatchesRow MatchesRow bool "(matchB x0 x1)" - Query Row
set_option maxRecDepth 100000 in
set_option maxHeartbeats 1500000 in
theorem law_FnExactMatchesRow (w : World) (x0 : DQuery) (u0_conds : Value) (u0_out : Value) (_ : I64 x0.id) (_ : I64 x0.tenant) (h0_conds : RConds w u0_conds x0.conds) (h0_out : RInts w u0_out x0.out) (x1 : DRow) (u1_vals : Value) (_ : I64 x1.id) (h1_vals : RInts w u1_vals x1.vals) : Calls Try.prog 14 #[.agg #[.int .i64 x0.id, .int .i64 x0.tenant, u0_conds, u0_out], .agg #[.int .i64 x1.id, u1_vals]] w fun e w' => e = .returned (.bool true) ∧ Gr w w' := by
  by_cases hs0 : ((totQuery x0) : Int) ≤ (1048576 : Int)
  · by_cases hs1 : ((totRow x1) : Int) ≤ (1048576 - ((totQuery x0) : Int))
    · have HZ0 := Lib.hid (szV_yes (t := (totQuery x0)) (left := (1048576 : Int)) (by omega))
      have HA0 := Lib.hid (show (0 : Int) ≤ (1048576 : Int) ∧ (1048576 : Int) ≤ 1048576 from by omega)
      have HB0 := Lib.hid (show (0 : Int) ≤ (1048576 : Int) - ((totQuery x0) : Int) ∧ (1048576 : Int) - ((totQuery x0) : Int) ≤ 1048576 from by omega)
      have HZ1 := Lib.hid (szV_yes (t := (totRow x1)) (left := (1048576 - ((totQuery x0) : Int))) (by omega))
      have HA1 := Lib.hid (show (0 : Int) ≤ (1048576 - ((totQuery x0) : Int)) ∧ (1048576 - ((totQuery x0) : Int)) ≤ 1048576 from by omega)
      have HB1 := Lib.hid (show (0 : Int) ≤ (1048576 - ((totQuery x0) : Int)) - ((totRow x1) : Int) ∧ (1048576 - ((totQuery x0) : Int)) - ((totRow x1) : Int) ≤ 1048576 from by omega)
      have HT0 := Lib.hid (show (totQuery x0) ≤ 4294967296 from by omega)
      have HT1 := Lib.hid (show (totRow x1) ≤ 4294967296 from by omega)
      have HQ0 : Hid ((totQuery x0) ≤ 1048576) := Lib.hid (by omega)
      have HQ1 : Hid ((totRow x1) ≤ 1048576) := Lib.hid (by omega)
      clear hs0 hs1
      go_enter Try.func14, Try.ntmps14
      have Bh0_conds := Lib.hid h0_conds
      replace h0_conds := Lib.hid h0_conds
      have Bh0_out := Lib.hid h0_out
      replace h0_out := Lib.hid h0_out
      have Bh1_vals := Lib.hid h1_vals
      replace h1_vals := Lib.hid h1_vals
      go_wp2_with fail
      refine (laws_szQuery x0 u0_conds u0_out _ _ (RSlice.mono keeps_cond (((Gr.refl w).alloc _).alloc _) h0_conds.out) (RSlice.mono keeps_int (((Gr.refl w).alloc _).alloc _) h0_out.out) HA0.out.1 HA0.out.2).mono ?_
      rintro e w1 ⟨rfl, g1⟩
      have gs1 : Gr w w1 := (((Gr.refl w).alloc _).alloc _).trans g1
      have Z1 : Hid (w.heap.size + 2 ≤ w1.heap.size) := Lib.hid (by have := g1.size; simpa using this)
      replace h0_conds : Hid (RConds w1 u0_conds x0.conds) := Lib.hid (RSlice.mono keeps_cond gs1 h0_conds.out)
      replace h0_out : Hid (RInts w1 u0_out x0.out) := Lib.hid (RSlice.mono keeps_int gs1 h0_out.out)
      replace h1_vals : Hid (RInts w1 u1_vals x1.vals) := Lib.hid (RSlice.mono keeps_int gs1 h1_vals.out)
      have gw : Hid (Gr w w1) := Lib.hid gs1
      have kb0_0 : w1.cell? ⟨w.heap.size, 0, none⟩ = some (.int .i64 x0.id) := g1.cellv (by simp [go_sem])
      have kb0_1 : w1.cell? ⟨w.heap.size, 1, none⟩ = some (.int .i64 x0.tenant) := g1.cellv (by simp [go_sem])
      have kb0_2 : w1.cell? ⟨w.heap.size, 2, none⟩ = some (u0_conds) := g1.cellv (by simp [go_sem])
      have kb0_3 : w1.cell? ⟨w.heap.size, 3, none⟩ = some (u0_out) := g1.cellv (by simp [go_sem])
      have kb1_0 : w1.cell? ⟨w.heap.size + 1, 0, none⟩ = some (.int .i64 x1.id) := g1.cellv (by simp [go_sem])
      have kb1_1 : w1.cell? ⟨w.heap.size + 1, 1, none⟩ = some (u1_vals) := g1.cellv (by simp [go_sem])
      have bkb0_0 : Hid (w.heap.size < w1.heap.size) := Lib.hid (by have := Z1.out; omega)
      have bkb1_0 : Hid (w.heap.size + 1 < w1.heap.size) := Lib.hid (by have := Z1.out; omega)
      rw [HZ0.out]
      have hB0 := HB0.out.1
      have hC0 := HB0.out.2
      go_wp2_with fail
      refine (laws_szRow x1 u1_vals _ _ h1_vals.out HA1.out.1 HA1.out.2).mono ?_
      rintro e w2 ⟨rfl, g2⟩
      have Z2 : Hid (w1.heap.size + 0 ≤ w2.heap.size) := Lib.hid (by have := g2.size; simpa using this)
      replace h0_conds : Hid (RConds w2 u0_conds x0.conds) := Lib.hid (RSlice.mono keeps_cond g2 h0_conds.out)
      replace h0_out : Hid (RInts w2 u0_out x0.out) := Lib.hid (RSlice.mono keeps_int g2 h0_out.out)
      replace h1_vals : Hid (RInts w2 u1_vals x1.vals) := Lib.hid (RSlice.mono keeps_int g2 h1_vals.out)
      replace kb0_0 : w2.cell? ⟨w.heap.size, 0, none⟩ = some (.int .i64 x0.id) := g2.cellv kb0_0
      replace kb0_1 : w2.cell? ⟨w.heap.size, 1, none⟩ = some (.int .i64 x0.tenant) := g2.cellv kb0_1
      replace kb0_2 : w2.cell? ⟨w.heap.size, 2, none⟩ = some (u0_conds) := g2.cellv kb0_2
      replace kb0_3 : w2.cell? ⟨w.heap.size, 3, none⟩ = some (u0_out) := g2.cellv kb0_3
      replace kb1_0 : w2.cell? ⟨w.heap.size + 1, 0, none⟩ = some (.int .i64 x1.id) := g2.cellv kb1_0
      replace kb1_1 : w2.cell? ⟨w.heap.size + 1, 1, none⟩ = some (u1_vals) := g2.cellv kb1_1
      replace gw : Hid (Gr w w2) := Lib.hid (gw.out.trans g2)
      rw [HZ1.out]
      have hB1 := HB1.out.1
      have hC1 := HB1.out.2
      -- drawn
      go_wp2
      go_region_held3 (fun w' => w'.cell? ⟨w.heap.size, 0, none⟩ = some (.int .i64 x0.id) ∧ w'.cell? ⟨w.heap.size, 1, none⟩ = some (.int .i64 x0.tenant) ∧ w'.cell? ⟨w.heap.size, 2, none⟩ = some (u0_conds) ∧ w'.cell? ⟨w.heap.size, 3, none⟩ = some (u0_out) ∧ w'.cell? ⟨w.heap.size + 1, 0, none⟩ = some (.int .i64 x1.id) ∧ w'.cell? ⟨w.heap.size + 1, 1, none⟩ = some (u1_vals) ∧ RConds w' u0_conds x0.conds ∧ RInts w' u0_out x0.out ∧ RInts w' u1_vals x1.vals ∧ Gr w2 w')
        (first | exact ⟨kb0_0, kb0_1, kb0_2, kb0_3, kb1_0, kb1_1, h0_conds.out, h0_out.out, h1_vals.out, Gr.refl _⟩ | exact ⟨kb0_0, kb0_1, kb0_2, kb0_3, kb1_0, kb1_1, h0_conds.out, h0_out.out, h1_vals.out, (Gr.refl _).drew⟩ | (go_split_ands; exact ⟨Gr.cellv gpf (by assumption), Gr.cellv gpf (by assumption), Gr.cellv gpf (by assumption), Gr.cellv gpf (by assumption), Gr.cellv gpf (by assumption), Gr.cellv gpf (by assumption), (RSlice.mono keeps_cond gpf (by assumption)), (RSlice.mono keeps_int gpf (by assumption)), (RSlice.mono keeps_int gpf (by assumption)), Gr.trans (by assumption) gpf⟩) | (go_split_ands; exact ⟨Gr.cellv gp1 (by assumption), Gr.cellv gp1 (by assumption), Gr.cellv gp1 (by assumption), Gr.cellv gp1 (by assumption), Gr.cellv gp1 (by assumption), Gr.cellv gp1 (by assumption), (RSlice.mono keeps_cond gp1 (by assumption)), (RSlice.mono keeps_int gp1 (by assumption)), (RSlice.mono keeps_int gp1 (by assumption)), Gr.trans (by assumption) gp1⟩) | (go_split_ands; exact ⟨Gr.cellv gp0 (by assumption), Gr.cellv gp0 (by assumption), Gr.cellv gp0 (by assumption), Gr.cellv gp0 (by assumption), Gr.cellv gp0 (by assumption), Gr.cellv gp0 (by assumption), (RSlice.mono keeps_cond gp0 (by assumption)), (RSlice.mono keeps_int gp0 (by assumption)), (RSlice.mono keeps_int gp0 (by assumption)), Gr.trans (by assumption) gp0⟩))
        (first | (go_at_call 42; go_split_ands; with_reducible refine (laws_toQuery_own x0 u0_conds u0_out _ (by assumption) (by assumption) HT0.out).mono ?_; rintro e wp0 ⟨vp0_conds, vp0_out, rfl, gp0, mp0, hmp0, hnp0, r_hp0_conds, r_hp0_out⟩) | (go_at_call 59; go_split_ands; with_reducible refine (laws_toRow_own x1 u1_vals _ (by assumption) HT1.out).mono ?_; rintro e wp1 ⟨vp1_vals, rfl, gp1, r_hp1_vals⟩) | (go_at_call 58; refine (spec_MatchesRow x0 _ _ x1 _ _ (RSlice.mono keeps_cond gp1 (rd_pconds r_hp0_conds)) (RSlice.mono keeps_int gp1 (rd_pints r_hp0_out)) (rd_pints r_hp1_vals)).mono ?_; rintro e wpf ⟨rfl, gpf⟩))
      have hdr3 : Gr w2 w2.drew := (Gr.refl w2).drew
      have gs3 : Gr w2 wpf := (((hdr3.trans gp0).trans gp1).trans gpf)
      have Z3 : Hid (w2.heap.size + 0 ≤ wpf.heap.size) := Lib.hid gs3.size
      have ZZp0 : Hid (w2.heap.size ≤ wp0.heap.size) := Lib.hid (by have := gp0.size; simpa using this)
      have ZZp1 : Hid (wp0.heap.size ≤ wp1.heap.size) := Lib.hid (by have := gp1.size; simpa using this)
      replace h0_conds : Hid (RConds wpf u0_conds x0.conds) := Lib.hid (RSlice.mono keeps_cond gs3 h0_conds.out)
      replace h0_out : Hid (RInts wpf u0_out x0.out) := Lib.hid (RSlice.mono keeps_int gs3 h0_out.out)
      replace h1_vals : Hid (RInts wpf u1_vals x1.vals) := Lib.hid (RSlice.mono keeps_int gs3 h1_vals.out)
      replace kb0_0 : wpf.cell? ⟨w.heap.size, 0, none⟩ = some (.int .i64 x0.id) := gs3.cellv kb0_0
      replace kb0_1 : wpf.cell? ⟨w.heap.size, 1, none⟩ = some (.int .i64 x0.tenant) := gs3.cellv kb0_1
      replace kb0_2 : wpf.cell? ⟨w.heap.size, 2, none⟩ = some (u0_conds) := gs3.cellv kb0_2
      replace kb0_3 : wpf.cell? ⟨w.heap.size, 3, none⟩ = some (u0_out) := gs3.cellv kb0_3
      replace kb1_0 : wpf.cell? ⟨w.heap.size + 1, 0, none⟩ = some (.int .i64 x1.id) := gs3.cellv kb1_0
      replace kb1_1 : wpf.cell? ⟨w.heap.size + 1, 1, none⟩ = some (u1_vals) := gs3.cellv kb1_1
      replace gw : Hid (Gr w wpf) := Lib.hid (gw.out.trans gs3)
      have gv : Hid (Gr wpf wpf) := Lib.hid (Gr.refl _)
      have ZV : Hid (w.heap.size ≤ wpf.heap.size) := Lib.hid gw.out.size
      go_wp2_with fail
      refine (laws_toQuery_own x0 u0_conds u0_out _ h0_conds.out h0_out.out HT0.out).mono ?_
      rintro e w4 ⟨vx0_conds, vx0_out, rfl, g4, mx0, hmx0, hnx0, r_hx0_conds, r_hx0_out⟩
      have Z4 : Hid (wpf.heap.size + 0 ≤ w4.heap.size) := Lib.hid (by have := g4.size; simpa using this)
      replace h0_conds : Hid (RConds w4 u0_conds x0.conds) := Lib.hid (RSlice.mono keeps_cond g4 h0_conds.out)
      replace h0_out : Hid (RInts w4 u0_out x0.out) := Lib.hid (RSlice.mono keeps_int g4 h0_out.out)
      replace h1_vals : Hid (RInts w4 u1_vals x1.vals) := Lib.hid (RSlice.mono keeps_int g4 h1_vals.out)
      replace kb0_0 : w4.cell? ⟨w.heap.size, 0, none⟩ = some (.int .i64 x0.id) := g4.cellv kb0_0
      replace kb0_1 : w4.cell? ⟨w.heap.size, 1, none⟩ = some (.int .i64 x0.tenant) := g4.cellv kb0_1
      replace kb0_2 : w4.cell? ⟨w.heap.size, 2, none⟩ = some (u0_conds) := g4.cellv kb0_2
      replace kb0_3 : w4.cell? ⟨w.heap.size, 3, none⟩ = some (u0_out) := g4.cellv kb0_3
      replace kb1_0 : w4.cell? ⟨w.heap.size + 1, 0, none⟩ = some (.int .i64 x1.id) := g4.cellv kb1_0
      replace kb1_1 : w4.cell? ⟨w.heap.size + 1, 1, none⟩ = some (u1_vals) := g4.cellv kb1_1
      replace gw : Hid (Gr w w4) := Lib.hid (gw.out.trans g4)
      replace gv : Hid (Gr wpf w4) := Lib.hid (gv.out.trans g4)
      obtain ⟨ax0_conds, nx0_conds, cx0_conds, rfl⟩ := r_hx0_conds.isSl
      have ZMx0_conds : Hid (wpf.heap.size ≤ mx0) := Lib.hid (by have := hmx0; (try simp at this); omega)
      have hx0_conds : Hid (PConds (In wpf.heap.size mx0) w4 (.slice ax0_conds nx0_conds cx0_conds) x0.conds) := Lib.hid (r_hx0_conds.wide (by simp) (by omega))
      clear r_hx0_conds
      obtain ⟨ax0_out, nx0_out, cx0_out, rfl⟩ := r_hx0_out.isSl
      have ZMx0_out : Hid (wpf.heap.size ≤ mx0) := Lib.hid (by have := hmx0; (try simp at this); omega)
      have hx0_out : Hid (PInts (In mx0 w4.heap.size) w4 (.slice ax0_out nx0_out cx0_out) x0.out) := Lib.hid (r_hx0_out.wide (Nat.le_refl _) (by omega))
      clear r_hx0_out
      have Lkb0_0 := ((Gr.refl w4).alloc (.cells #[.int .i64 x0.id, .int .i64 x0.tenant, .slice ax0_conds nx0_conds cx0_conds, .slice ax0_out nx0_out cx0_out] 51)).cellv kb0_0
      have Lkb0_1 := ((Gr.refl w4).alloc (.cells #[.int .i64 x0.id, .int .i64 x0.tenant, .slice ax0_conds nx0_conds cx0_conds, .slice ax0_out nx0_out cx0_out] 51)).cellv kb0_1
      have Lkb0_2 := ((Gr.refl w4).alloc (.cells #[.int .i64 x0.id, .int .i64 x0.tenant, .slice ax0_conds nx0_conds cx0_conds, .slice ax0_out nx0_out cx0_out] 51)).cellv kb0_2
      have Lkb0_3 := ((Gr.refl w4).alloc (.cells #[.int .i64 x0.id, .int .i64 x0.tenant, .slice ax0_conds nx0_conds cx0_conds, .slice ax0_out nx0_out cx0_out] 51)).cellv kb0_3
      have Lkb1_0 := ((Gr.refl w4).alloc (.cells #[.int .i64 x0.id, .int .i64 x0.tenant, .slice ax0_conds nx0_conds cx0_conds, .slice ax0_out nx0_out cx0_out] 51)).cellv kb1_0
      have Lkb1_1 := ((Gr.refl w4).alloc (.cells #[.int .i64 x0.id, .int .i64 x0.tenant, .slice ax0_conds nx0_conds cx0_conds, .slice ax0_out nx0_out cx0_out] 51)).cellv kb1_1
      go_wp2_with fail
      refine (laws_toRow_own x1 u1_vals _ (RSlice.mono keeps_int ((Gr.refl w4).alloc _) h1_vals.out) HT1.out).mono ?_
      rintro e w5 ⟨vx1_vals, rfl, g5, r_hx1_vals⟩
      have gs5 : Gr w4 w5 := ((Gr.refl w4).alloc _).trans g5
      have Z5 : Hid (w4.heap.size + 1 ≤ w5.heap.size) := Lib.hid (by have := g5.size; simpa using this)
      replace h0_conds : Hid (RConds w5 u0_conds x0.conds) := Lib.hid (RSlice.mono keeps_cond gs5 h0_conds.out)
      replace h0_out : Hid (RInts w5 u0_out x0.out) := Lib.hid (RSlice.mono keeps_int gs5 h0_out.out)
      replace h1_vals : Hid (RInts w5 u1_vals x1.vals) := Lib.hid (RSlice.mono keeps_int gs5 h1_vals.out)
      replace hx0_conds : Hid (PConds (In wpf.heap.size mx0) w5 (.slice ax0_conds nx0_conds cx0_conds) x0.conds) := Lib.hid (OSl.gr fr_cond hx0_conds.out gs5)
      replace hx0_out : Hid (PInts (In mx0 w4.heap.size) w5 (.slice ax0_out nx0_out cx0_out) x0.out) := Lib.hid (OSl.gr fr_int hx0_out.out gs5)
      replace kb0_0 : w5.cell? ⟨w.heap.size, 0, none⟩ = some (.int .i64 x0.id) := gs5.cellv kb0_0
      replace kb0_1 : w5.cell? ⟨w.heap.size, 1, none⟩ = some (.int .i64 x0.tenant) := gs5.cellv kb0_1
      replace kb0_2 : w5.cell? ⟨w.heap.size, 2, none⟩ = some (u0_conds) := gs5.cellv kb0_2
      replace kb0_3 : w5.cell? ⟨w.heap.size, 3, none⟩ = some (u0_out) := gs5.cellv kb0_3
      replace kb1_0 : w5.cell? ⟨w.heap.size + 1, 0, none⟩ = some (.int .i64 x1.id) := gs5.cellv kb1_0
      replace kb1_1 : w5.cell? ⟨w.heap.size + 1, 1, none⟩ = some (u1_vals) := gs5.cellv kb1_1
      replace gw : Hid (Gr w w5) := Lib.hid (gw.out.trans gs5)
      replace gv : Hid (Gr wpf w5) := Lib.hid (gv.out.trans gs5)
      have kx0_0 : w5.cell? ⟨w4.heap.size, 0, none⟩ = some (.int .i64 x0.id) := g5.cellv (by simp [go_sem])
      have kx0_1 : w5.cell? ⟨w4.heap.size, 1, none⟩ = some (.int .i64 x0.tenant) := g5.cellv (by simp [go_sem])
      have kx0_2 : w5.cell? ⟨w4.heap.size, 2, none⟩ = some (.slice ax0_conds nx0_conds cx0_conds) := g5.cellv (by simp [go_sem])
      have kx0_3 : w5.cell? ⟨w4.heap.size, 3, none⟩ = some (.slice ax0_out nx0_out cx0_out) := g5.cellv (by simp [go_sem])
      have bkx0_0 : Hid (w4.heap.size < w5.heap.size) := Lib.hid (by have := Z5.out; omega)
      clear Lkb0_0 Lkb0_1 Lkb0_2 Lkb0_3 Lkb1_0 Lkb1_1
      obtain ⟨ax1_vals, nx1_vals, cx1_vals, rfl⟩ := r_hx1_vals.isSl
      have hx1_vals : Hid (PInts (In (w4.heap.size + 1) w5.heap.size) w5 (.slice ax1_vals nx1_vals cx1_vals) x1.vals) := Lib.hid (r_hx1_vals.wide (by simp) (by omega))
      clear r_hx1_vals
      have Lkb0_0 := ((Gr.refl w5).alloc (.cells #[.int .i64 x1.id, .slice ax1_vals nx1_vals cx1_vals] 78)).cellv kb0_0
      have Lkb0_1 := ((Gr.refl w5).alloc (.cells #[.int .i64 x1.id, .slice ax1_vals nx1_vals cx1_vals] 78)).cellv kb0_1
      have Lkb0_2 := ((Gr.refl w5).alloc (.cells #[.int .i64 x1.id, .slice ax1_vals nx1_vals cx1_vals] 78)).cellv kb0_2
      have Lkb0_3 := ((Gr.refl w5).alloc (.cells #[.int .i64 x1.id, .slice ax1_vals nx1_vals cx1_vals] 78)).cellv kb0_3
      have Lkb1_0 := ((Gr.refl w5).alloc (.cells #[.int .i64 x1.id, .slice ax1_vals nx1_vals cx1_vals] 78)).cellv kb1_0
      have Lkb1_1 := ((Gr.refl w5).alloc (.cells #[.int .i64 x1.id, .slice ax1_vals nx1_vals cx1_vals] 78)).cellv kb1_1
      have Lkx0_0 := ((Gr.refl w5).alloc (.cells #[.int .i64 x1.id, .slice ax1_vals nx1_vals cx1_vals] 78)).cellv kx0_0
      have Lkx0_1 := ((Gr.refl w5).alloc (.cells #[.int .i64 x1.id, .slice ax1_vals nx1_vals cx1_vals] 78)).cellv kx0_1
      have Lkx0_2 := ((Gr.refl w5).alloc (.cells #[.int .i64 x1.id, .slice ax1_vals nx1_vals cx1_vals] 78)).cellv kx0_2
      have Lkx0_3 := ((Gr.refl w5).alloc (.cells #[.int .i64 x1.id, .slice ax1_vals nx1_vals cx1_vals] 78)).cellv kx0_3
      go_wp2_with fail
      refine (impl_MatchesRow x0 _ _ x1 _ _ (RSlice.mono keeps_cond ((Gr.refl w5).alloc _) (rd_pconds hx0_conds.out)) (RSlice.mono keeps_int ((Gr.refl w5).alloc _) (rd_pints hx0_out.out)) (RSlice.mono keeps_int ((Gr.refl w5).alloc _) (rd_pints hx1_vals.out))).mono ?_
      rintro e w6 ⟨rfl, g6⟩
      have gs6 : Gr w5 w6 := ((Gr.refl w5).alloc _).trans g6
      have Z6 : Hid (w5.heap.size + 1 ≤ w6.heap.size) := Lib.hid (by have := g6.size; simpa using this)
      replace h0_conds : Hid (RConds w6 u0_conds x0.conds) := Lib.hid (RSlice.mono keeps_cond gs6 h0_conds.out)
      replace h0_out : Hid (RInts w6 u0_out x0.out) := Lib.hid (RSlice.mono keeps_int gs6 h0_out.out)
      replace h1_vals : Hid (RInts w6 u1_vals x1.vals) := Lib.hid (RSlice.mono keeps_int gs6 h1_vals.out)
      replace hx0_conds : Hid (PConds (In wpf.heap.size mx0) w6 (.slice ax0_conds nx0_conds cx0_conds) x0.conds) := Lib.hid (OSl.gr fr_cond hx0_conds.out gs6)
      replace hx0_out : Hid (PInts (In mx0 w4.heap.size) w6 (.slice ax0_out nx0_out cx0_out) x0.out) := Lib.hid (OSl.gr fr_int hx0_out.out gs6)
      replace hx1_vals : Hid (PInts (In (w4.heap.size + 1) w5.heap.size) w6 (.slice ax1_vals nx1_vals cx1_vals) x1.vals) := Lib.hid (OSl.gr fr_int hx1_vals.out gs6)
      replace kb0_0 : w6.cell? ⟨w.heap.size, 0, none⟩ = some (.int .i64 x0.id) := gs6.cellv kb0_0
      replace kb0_1 : w6.cell? ⟨w.heap.size, 1, none⟩ = some (.int .i64 x0.tenant) := gs6.cellv kb0_1
      replace kb0_2 : w6.cell? ⟨w.heap.size, 2, none⟩ = some (u0_conds) := gs6.cellv kb0_2
      replace kb0_3 : w6.cell? ⟨w.heap.size, 3, none⟩ = some (u0_out) := gs6.cellv kb0_3
      replace kb1_0 : w6.cell? ⟨w.heap.size + 1, 0, none⟩ = some (.int .i64 x1.id) := gs6.cellv kb1_0
      replace kb1_1 : w6.cell? ⟨w.heap.size + 1, 1, none⟩ = some (u1_vals) := gs6.cellv kb1_1
      replace kx0_0 : w6.cell? ⟨w4.heap.size, 0, none⟩ = some (.int .i64 x0.id) := gs6.cellv kx0_0
      replace kx0_1 : w6.cell? ⟨w4.heap.size, 1, none⟩ = some (.int .i64 x0.tenant) := gs6.cellv kx0_1
      replace kx0_2 : w6.cell? ⟨w4.heap.size, 2, none⟩ = some (.slice ax0_conds nx0_conds cx0_conds) := gs6.cellv kx0_2
      replace kx0_3 : w6.cell? ⟨w4.heap.size, 3, none⟩ = some (.slice ax0_out nx0_out cx0_out) := gs6.cellv kx0_3
      replace gw : Hid (Gr w w6) := Lib.hid (gw.out.trans gs6)
      replace gv : Hid (Gr wpf w6) := Lib.hid (gv.out.trans gs6)
      have kx1_0 : w6.cell? ⟨w5.heap.size, 0, none⟩ = some (.int .i64 x1.id) := g6.cellv (by simp [go_sem])
      have kx1_1 : w6.cell? ⟨w5.heap.size, 1, none⟩ = some (.slice ax1_vals nx1_vals cx1_vals) := g6.cellv (by simp [go_sem])
      have bkx1_0 : Hid (w5.heap.size < w6.heap.size) := Lib.hid (by have := Z6.out; omega)
      clear Lkb0_0 Lkb0_1 Lkb0_2 Lkb0_3 Lkb1_0 Lkb1_1 Lkx0_0 Lkx0_1 Lkx0_2 Lkx0_3
      have ei0 : (((matchB x0 x1) : Bool) != (matchB x0 x1)) = false := by simp
      go_wp2
      go_region_held3 (fun w' => w'.cell? ⟨w.heap.size, 0, none⟩ = some (.int .i64 x0.id) ∧ w'.cell? ⟨w.heap.size, 1, none⟩ = some (.int .i64 x0.tenant) ∧ w'.cell? ⟨w.heap.size, 2, none⟩ = some (u0_conds) ∧ w'.cell? ⟨w.heap.size, 3, none⟩ = some (u0_out) ∧ w'.cell? ⟨w4.heap.size, 0, none⟩ = some (.int .i64 x0.id) ∧ w'.cell? ⟨w4.heap.size, 1, none⟩ = some (.int .i64 x0.tenant) ∧ w'.cell? ⟨w4.heap.size, 2, none⟩ = some (.slice ax0_conds nx0_conds cx0_conds) ∧ w'.cell? ⟨w4.heap.size, 3, none⟩ = some (.slice ax0_out nx0_out cx0_out) ∧ RConds w' u0_conds x0.conds ∧ RInts w' u0_out x0.out ∧ RConds w' (.slice ax0_conds nx0_conds cx0_conds) x0.conds ∧ RInts w' (.slice ax0_out nx0_out cx0_out) x0.out ∧ Gr w6 w')
        (first | exact ⟨kb0_0, kb0_1, kb0_2, kb0_3, kx0_0, kx0_1, kx0_2, kx0_3, h0_conds.out, h0_out.out, (rd_pconds hx0_conds.out), (rd_pints hx0_out.out), Gr.refl _⟩ | exact ⟨kb0_0, kb0_1, kb0_2, kb0_3, kx0_0, kx0_1, kx0_2, kx0_3, h0_conds.out, h0_out.out, (rd_pconds hx0_conds.out), (rd_pints hx0_out.out), (Gr.refl _).drew⟩ | (go_split_ands; exact ⟨Gr.cellv gb0 (by assumption), Gr.cellv gb0 (by assumption), Gr.cellv gb0 (by assumption), Gr.cellv gb0 (by assumption), Gr.cellv gb0 (by assumption), Gr.cellv gb0 (by assumption), Gr.cellv gb0 (by assumption), Gr.cellv gb0 (by assumption), (RSlice.mono keeps_cond gb0 (by assumption)), (RSlice.mono keeps_int gb0 (by assumption)), (RSlice.mono keeps_cond gb0 (by assumption)), (RSlice.mono keeps_int gb0 (by assumption)), Gr.trans (by assumption) gb0⟩) | (go_split_ands; exact ⟨Gr.cellv ga0 (by assumption), Gr.cellv ga0 (by assumption), Gr.cellv ga0 (by assumption), Gr.cellv ga0 (by assumption), Gr.cellv ga0 (by assumption), Gr.cellv ga0 (by assumption), Gr.cellv ga0 (by assumption), Gr.cellv ga0 (by assumption), (RSlice.mono keeps_cond ga0 (by assumption)), (RSlice.mono keeps_int ga0 (by assumption)), (RSlice.mono keeps_cond ga0 (by assumption)), (RSlice.mono keeps_int ga0 (by assumption)), Gr.trans (by assumption) ga0⟩))
        (first | (go_at_call 42; go_split_ands; refine (laws_toQuery_gr x0 u0_conds u0_out _ (by assumption) (by assumption) HT0.out).mono ?_; rintro e wa0 ⟨vy0_conds, vy0_out, rfl, ⟨ay0_conds, ny0_conds, cy0_conds, rfl⟩, ry0_conds, ⟨ay0_out, ny0_out, cy0_out, rfl⟩, ry0_out, ga0⟩) | (go_at_call 44; go_split_ands; refine (laws_eqQuery x0 _ _ _ _ _ (by assumption) (by assumption) (ry0_conds _ (Loc.refl _ _)) (ry0_out _ (Loc.refl _ _))).mono ?_; rintro e wb0 ⟨rfl, gb0⟩))
      have gs7 : Gr w6 wb0 := ((Gr.refl w6).drew.trans ga0).trans gb0
      have Z7 : Hid (w6.heap.size ≤ wb0.heap.size) := Lib.hid gs7.size
      replace h0_conds : Hid (RConds wb0 u0_conds x0.conds) := Lib.hid (RSlice.mono keeps_cond gs7 h0_conds.out)
      replace h0_out : Hid (RInts wb0 u0_out x0.out) := Lib.hid (RSlice.mono keeps_int gs7 h0_out.out)
      replace h1_vals : Hid (RInts wb0 u1_vals x1.vals) := Lib.hid (RSlice.mono keeps_int gs7 h1_vals.out)
      replace hx0_conds : Hid (PConds (In wpf.heap.size mx0) wb0 (.slice ax0_conds nx0_conds cx0_conds) x0.conds) := Lib.hid (OSl.gr fr_cond hx0_conds.out gs7)
      replace hx0_out : Hid (PInts (In mx0 w4.heap.size) wb0 (.slice ax0_out nx0_out cx0_out) x0.out) := Lib.hid (OSl.gr fr_int hx0_out.out gs7)
      replace hx1_vals : Hid (PInts (In (w4.heap.size + 1) w5.heap.size) wb0 (.slice ax1_vals nx1_vals cx1_vals) x1.vals) := Lib.hid (OSl.gr fr_int hx1_vals.out gs7)
      replace kb0_0 : wb0.cell? ⟨w.heap.size, 0, none⟩ = some (.int .i64 x0.id) := gs7.cellv kb0_0
      replace kb0_1 : wb0.cell? ⟨w.heap.size, 1, none⟩ = some (.int .i64 x0.tenant) := gs7.cellv kb0_1
      replace kb0_2 : wb0.cell? ⟨w.heap.size, 2, none⟩ = some (u0_conds) := gs7.cellv kb0_2
      replace kb0_3 : wb0.cell? ⟨w.heap.size, 3, none⟩ = some (u0_out) := gs7.cellv kb0_3
      replace kb1_0 : wb0.cell? ⟨w.heap.size + 1, 0, none⟩ = some (.int .i64 x1.id) := gs7.cellv kb1_0
      replace kb1_1 : wb0.cell? ⟨w.heap.size + 1, 1, none⟩ = some (u1_vals) := gs7.cellv kb1_1
      replace kx0_0 : wb0.cell? ⟨w4.heap.size, 0, none⟩ = some (.int .i64 x0.id) := gs7.cellv kx0_0
      replace kx0_1 : wb0.cell? ⟨w4.heap.size, 1, none⟩ = some (.int .i64 x0.tenant) := gs7.cellv kx0_1
      replace kx0_2 : wb0.cell? ⟨w4.heap.size, 2, none⟩ = some (.slice ax0_conds nx0_conds cx0_conds) := gs7.cellv kx0_2
      replace kx0_3 : wb0.cell? ⟨w4.heap.size, 3, none⟩ = some (.slice ax0_out nx0_out cx0_out) := gs7.cellv kx0_3
      replace kx1_0 : wb0.cell? ⟨w5.heap.size, 0, none⟩ = some (.int .i64 x1.id) := gs7.cellv kx1_0
      replace kx1_1 : wb0.cell? ⟨w5.heap.size, 1, none⟩ = some (.slice ax1_vals nx1_vals cx1_vals) := gs7.cellv kx1_1
      replace gw : Hid (Gr w wb0) := Lib.hid (gw.out.trans gs7)
      replace gv : Hid (Gr wpf wb0) := Lib.hid (gv.out.trans gs7)
      go_wp2
      go_region_held3 (fun w' => w'.cell? ⟨w.heap.size + 1, 0, none⟩ = some (.int .i64 x1.id) ∧ w'.cell? ⟨w.heap.size + 1, 1, none⟩ = some (u1_vals) ∧ w'.cell? ⟨w5.heap.size, 0, none⟩ = some (.int .i64 x1.id) ∧ w'.cell? ⟨w5.heap.size, 1, none⟩ = some (.slice ax1_vals nx1_vals cx1_vals) ∧ RInts w' u1_vals x1.vals ∧ RInts w' (.slice ax1_vals nx1_vals cx1_vals) x1.vals ∧ Gr wb0 w')
        (first | exact ⟨kb1_0, kb1_1, kx1_0, kx1_1, h1_vals.out, (rd_pints hx1_vals.out), Gr.refl _⟩ | exact ⟨kb1_0, kb1_1, kx1_0, kx1_1, h1_vals.out, (rd_pints hx1_vals.out), (Gr.refl _).drew⟩ | (go_split_ands; exact ⟨Gr.cellv gb1 (by assumption), Gr.cellv gb1 (by assumption), Gr.cellv gb1 (by assumption), Gr.cellv gb1 (by assumption), (RSlice.mono keeps_int gb1 (by assumption)), (RSlice.mono keeps_int gb1 (by assumption)), Gr.trans (by assumption) gb1⟩) | (go_split_ands; exact ⟨Gr.cellv ga1 (by assumption), Gr.cellv ga1 (by assumption), Gr.cellv ga1 (by assumption), Gr.cellv ga1 (by assumption), (RSlice.mono keeps_int ga1 (by assumption)), (RSlice.mono keeps_int ga1 (by assumption)), Gr.trans (by assumption) ga1⟩))
        (first | (go_at_call 59; go_split_ands; refine (laws_toRow_gr x1 u1_vals _ (by assumption) HT1.out).mono ?_; rintro e wa1 ⟨vy1_vals, rfl, ⟨ay1_vals, ny1_vals, cy1_vals, rfl⟩, ry1_vals, ga1⟩) | (go_at_call 61; go_split_ands; refine (laws_eqRow x1 _ _ _ (by assumption) (ry1_vals _ (Loc.refl _ _))).mono ?_; rintro e wb1 ⟨rfl, gb1⟩))
      have gs8 : Gr wb0 wb1 := ((Gr.refl wb0).drew.trans ga1).trans gb1
      have Z8 : Hid (wb0.heap.size ≤ wb1.heap.size) := Lib.hid gs8.size
      replace h0_conds : Hid (RConds wb1 u0_conds x0.conds) := Lib.hid (RSlice.mono keeps_cond gs8 h0_conds.out)
      replace h0_out : Hid (RInts wb1 u0_out x0.out) := Lib.hid (RSlice.mono keeps_int gs8 h0_out.out)
      replace h1_vals : Hid (RInts wb1 u1_vals x1.vals) := Lib.hid (RSlice.mono keeps_int gs8 h1_vals.out)
      replace hx0_conds : Hid (PConds (In wpf.heap.size mx0) wb1 (.slice ax0_conds nx0_conds cx0_conds) x0.conds) := Lib.hid (OSl.gr fr_cond hx0_conds.out gs8)
      replace hx0_out : Hid (PInts (In mx0 w4.heap.size) wb1 (.slice ax0_out nx0_out cx0_out) x0.out) := Lib.hid (OSl.gr fr_int hx0_out.out gs8)
      replace hx1_vals : Hid (PInts (In (w4.heap.size + 1) w5.heap.size) wb1 (.slice ax1_vals nx1_vals cx1_vals) x1.vals) := Lib.hid (OSl.gr fr_int hx1_vals.out gs8)
      replace kb0_0 : wb1.cell? ⟨w.heap.size, 0, none⟩ = some (.int .i64 x0.id) := gs8.cellv kb0_0
      replace kb0_1 : wb1.cell? ⟨w.heap.size, 1, none⟩ = some (.int .i64 x0.tenant) := gs8.cellv kb0_1
      replace kb0_2 : wb1.cell? ⟨w.heap.size, 2, none⟩ = some (u0_conds) := gs8.cellv kb0_2
      replace kb0_3 : wb1.cell? ⟨w.heap.size, 3, none⟩ = some (u0_out) := gs8.cellv kb0_3
      replace kb1_0 : wb1.cell? ⟨w.heap.size + 1, 0, none⟩ = some (.int .i64 x1.id) := gs8.cellv kb1_0
      replace kb1_1 : wb1.cell? ⟨w.heap.size + 1, 1, none⟩ = some (u1_vals) := gs8.cellv kb1_1
      replace kx0_0 : wb1.cell? ⟨w4.heap.size, 0, none⟩ = some (.int .i64 x0.id) := gs8.cellv kx0_0
      replace kx0_1 : wb1.cell? ⟨w4.heap.size, 1, none⟩ = some (.int .i64 x0.tenant) := gs8.cellv kx0_1
      replace kx0_2 : wb1.cell? ⟨w4.heap.size, 2, none⟩ = some (.slice ax0_conds nx0_conds cx0_conds) := gs8.cellv kx0_2
      replace kx0_3 : wb1.cell? ⟨w4.heap.size, 3, none⟩ = some (.slice ax0_out nx0_out cx0_out) := gs8.cellv kx0_3
      replace kx1_0 : wb1.cell? ⟨w5.heap.size, 0, none⟩ = some (.int .i64 x1.id) := gs8.cellv kx1_0
      replace kx1_1 : wb1.cell? ⟨w5.heap.size, 1, none⟩ = some (.slice ax1_vals nx1_vals cx1_vals) := gs8.cellv kx1_1
      replace gw : Hid (Gr w wb1) := Lib.hid (gw.out.trans gs8)
      replace gv : Hid (Gr wpf wb1) := Lib.hid (gv.out.trans gs8)
      go_wp2_with fail
      go_ret
      exact ⟨rfl, gw.out⟩
    · have HZ0 := Lib.hid (szV_yes (t := (totQuery x0)) (left := (1048576 : Int)) (by omega))
      have HA0 := Lib.hid (show (0 : Int) ≤ (1048576 : Int) ∧ (1048576 : Int) ≤ 1048576 from by omega)
      have HB0 := Lib.hid (show (0 : Int) ≤ (1048576 : Int) - ((totQuery x0) : Int) ∧ (1048576 : Int) - ((totQuery x0) : Int) ≤ 1048576 from by omega)
      have HZ1 := Lib.hid (szV_no (t := (totRow x1)) (left := (1048576 - ((totQuery x0) : Int))) (by omega))
      have HA1 := Lib.hid (show (0 : Int) ≤ (1048576 - ((totQuery x0) : Int)) ∧ (1048576 - ((totQuery x0) : Int)) ≤ 1048576 from by omega)
      clear hs0 hs1
      go_enter Try.func14, Try.ntmps14
      have Bh0_conds := Lib.hid h0_conds
      replace h0_conds := Lib.hid h0_conds
      have Bh0_out := Lib.hid h0_out
      replace h0_out := Lib.hid h0_out
      have Bh1_vals := Lib.hid h1_vals
      replace h1_vals := Lib.hid h1_vals
      go_wp2_with fail
      refine (laws_szQuery x0 u0_conds u0_out _ _ (RSlice.mono keeps_cond (((Gr.refl w).alloc _).alloc _) h0_conds.out) (RSlice.mono keeps_int (((Gr.refl w).alloc _).alloc _) h0_out.out) HA0.out.1 HA0.out.2).mono ?_
      rintro e w1 ⟨rfl, g1⟩
      have gs1 : Gr w w1 := (((Gr.refl w).alloc _).alloc _).trans g1
      have Z1 : Hid (w.heap.size + 2 ≤ w1.heap.size) := Lib.hid (by have := g1.size; simpa using this)
      replace h0_conds : Hid (RConds w1 u0_conds x0.conds) := Lib.hid (RSlice.mono keeps_cond gs1 h0_conds.out)
      replace h0_out : Hid (RInts w1 u0_out x0.out) := Lib.hid (RSlice.mono keeps_int gs1 h0_out.out)
      replace h1_vals : Hid (RInts w1 u1_vals x1.vals) := Lib.hid (RSlice.mono keeps_int gs1 h1_vals.out)
      have gw : Hid (Gr w w1) := Lib.hid gs1
      have kb0_0 : w1.cell? ⟨w.heap.size, 0, none⟩ = some (.int .i64 x0.id) := g1.cellv (by simp [go_sem])
      have kb0_1 : w1.cell? ⟨w.heap.size, 1, none⟩ = some (.int .i64 x0.tenant) := g1.cellv (by simp [go_sem])
      have kb0_2 : w1.cell? ⟨w.heap.size, 2, none⟩ = some (u0_conds) := g1.cellv (by simp [go_sem])
      have kb0_3 : w1.cell? ⟨w.heap.size, 3, none⟩ = some (u0_out) := g1.cellv (by simp [go_sem])
      have kb1_0 : w1.cell? ⟨w.heap.size + 1, 0, none⟩ = some (.int .i64 x1.id) := g1.cellv (by simp [go_sem])
      have kb1_1 : w1.cell? ⟨w.heap.size + 1, 1, none⟩ = some (u1_vals) := g1.cellv (by simp [go_sem])
      have bkb0_0 : Hid (w.heap.size < w1.heap.size) := Lib.hid (by have := Z1.out; omega)
      have bkb1_0 : Hid (w.heap.size + 1 < w1.heap.size) := Lib.hid (by have := Z1.out; omega)
      rw [HZ0.out]
      have hB0 := HB0.out.1
      have hC0 := HB0.out.2
      go_wp2_with fail
      refine (laws_szRow x1 u1_vals _ _ h1_vals.out HA1.out.1 HA1.out.2).mono ?_
      rintro e w2 ⟨rfl, g2⟩
      have Z2 : Hid (w1.heap.size + 0 ≤ w2.heap.size) := Lib.hid (by have := g2.size; simpa using this)
      replace h0_conds : Hid (RConds w2 u0_conds x0.conds) := Lib.hid (RSlice.mono keeps_cond g2 h0_conds.out)
      replace h0_out : Hid (RInts w2 u0_out x0.out) := Lib.hid (RSlice.mono keeps_int g2 h0_out.out)
      replace h1_vals : Hid (RInts w2 u1_vals x1.vals) := Lib.hid (RSlice.mono keeps_int g2 h1_vals.out)
      replace kb0_0 : w2.cell? ⟨w.heap.size, 0, none⟩ = some (.int .i64 x0.id) := g2.cellv kb0_0
      replace kb0_1 : w2.cell? ⟨w.heap.size, 1, none⟩ = some (.int .i64 x0.tenant) := g2.cellv kb0_1
      replace kb0_2 : w2.cell? ⟨w.heap.size, 2, none⟩ = some (u0_conds) := g2.cellv kb0_2
      replace kb0_3 : w2.cell? ⟨w.heap.size, 3, none⟩ = some (u0_out) := g2.cellv kb0_3
      replace kb1_0 : w2.cell? ⟨w.heap.size + 1, 0, none⟩ = some (.int .i64 x1.id) := g2.cellv kb1_0
      replace kb1_1 : w2.cell? ⟨w.heap.size + 1, 1, none⟩ = some (u1_vals) := g2.cellv kb1_1
      replace gw : Hid (Gr w w2) := Lib.hid (gw.out.trans g2)
      rw [HZ1.out]
      go_wp2_with fail
      go_ret
      exact ⟨rfl, gw.out⟩
  · have HZ0 := Lib.hid (szV_no (t := (totQuery x0)) (left := (1048576 : Int)) (by omega))
    have HA0 := Lib.hid (show (0 : Int) ≤ (1048576 : Int) ∧ (1048576 : Int) ≤ 1048576 from by omega)
    clear hs0
    go_enter Try.func14, Try.ntmps14
    have Bh0_conds := Lib.hid h0_conds
    replace h0_conds := Lib.hid h0_conds
    have Bh0_out := Lib.hid h0_out
    replace h0_out := Lib.hid h0_out
    have Bh1_vals := Lib.hid h1_vals
    replace h1_vals := Lib.hid h1_vals
    go_wp2_with fail
    refine (laws_szQuery x0 u0_conds u0_out _ _ (RSlice.mono keeps_cond (((Gr.refl w).alloc _).alloc _) h0_conds.out) (RSlice.mono keeps_int (((Gr.refl w).alloc _).alloc _) h0_out.out) HA0.out.1 HA0.out.2).mono ?_
    rintro e w1 ⟨rfl, g1⟩
    have gs1 : Gr w w1 := (((Gr.refl w).alloc _).alloc _).trans g1
    have Z1 : Hid (w.heap.size + 2 ≤ w1.heap.size) := Lib.hid (by have := g1.size; simpa using this)
    replace h0_conds : Hid (RConds w1 u0_conds x0.conds) := Lib.hid (RSlice.mono keeps_cond gs1 h0_conds.out)
    replace h0_out : Hid (RInts w1 u0_out x0.out) := Lib.hid (RSlice.mono keeps_int gs1 h0_out.out)
    replace h1_vals : Hid (RInts w1 u1_vals x1.vals) := Lib.hid (RSlice.mono keeps_int gs1 h1_vals.out)
    have gw : Hid (Gr w w1) := Lib.hid gs1
    have kb0_0 : w1.cell? ⟨w.heap.size, 0, none⟩ = some (.int .i64 x0.id) := g1.cellv (by simp [go_sem])
    have kb0_1 : w1.cell? ⟨w.heap.size, 1, none⟩ = some (.int .i64 x0.tenant) := g1.cellv (by simp [go_sem])
    have kb0_2 : w1.cell? ⟨w.heap.size, 2, none⟩ = some (u0_conds) := g1.cellv (by simp [go_sem])
    have kb0_3 : w1.cell? ⟨w.heap.size, 3, none⟩ = some (u0_out) := g1.cellv (by simp [go_sem])
    have kb1_0 : w1.cell? ⟨w.heap.size + 1, 0, none⟩ = some (.int .i64 x1.id) := g1.cellv (by simp [go_sem])
    have kb1_1 : w1.cell? ⟨w.heap.size + 1, 1, none⟩ = some (u1_vals) := g1.cellv (by simp [go_sem])
    have bkb0_0 : Hid (w.heap.size < w1.heap.size) := Lib.hid (by have := Z1.out; omega)
    have bkb1_0 : Hid (w.heap.size + 1 < w1.heap.size) := Lib.hid (by have := Z1.out; omega)
    rw [HZ0.out]
    go_wp2_with fail
    go_ret
    exact ⟨rfl, gw.out⟩

-- endgen
end Go.Proofs.Ytgadgidhomijpaa
