/- ProbeSet: the law. Written by gen_probe3.py. -/
import Derived.Test.YtnnapjaggahjgaaProbe3
import Derived.Test.YtnnapjaggahjgaaMkIndex
import Derived.Test.YtnnapjaggahjgaaMkRow
namespace Go.Proofs.Ytnnapjaggahjgaa
open Go.RowKit
set_option maxRecDepth 100000 in
set_option maxHeartbeats 1500000 in
theorem law_FnExactProbeSet (w : World) (x0 : DIndex) (u0_queries : Value) (u0_fields : Value) (h0_queries : RQueries w u0_queries x0.queries) (h0_fields : RSpanss w u0_fields x0.fields) (x1 : DRow) (u1_vals : Value) (_ : I64 x1.id) (h1_vals : RInts w u1_vals x1.vals) (v2 : Value) (x2 : List Int) (hv2 : RInts w v2 x2) : Calls Try.prog 12 #[.agg #[u0_queries, u0_fields], .agg #[.int .i64 x1.id, u1_vals], v2] w fun e w' => e = .returned (.bool true) ∧ Gr w w' := by
  obtain ⟨a2, c2, hve2⟩ := hv2.form
  subst hve2
  by_cases hs0 : (x2.length : Int) ≤ 1048576
  · by_cases hs1 : ((totIndex x0) : Int) ≤ (1048576 : Int)
    · by_cases hs2 : ((totRow x1) : Int) ≤ (1048576 - ((totIndex x0) : Int))
      · have HZ0 := Lib.hid (szV_yes (t := (totIndex x0)) (left := (1048576 : Int)) (by omega))
        have HA0 := Lib.hid (show (0 : Int) ≤ (1048576 : Int) ∧ (1048576 : Int) ≤ 1048576 from by omega)
        have HB0 := Lib.hid (show (0 : Int) ≤ (1048576 : Int) - ((totIndex x0) : Int) ∧ (1048576 : Int) - ((totIndex x0) : Int) ≤ 1048576 from by omega)
        have HZ1 := Lib.hid (szV_yes (t := (totRow x1)) (left := (1048576 - ((totIndex x0) : Int))) (by omega))
        have HA1 := Lib.hid (show (0 : Int) ≤ (1048576 - ((totIndex x0) : Int)) ∧ (1048576 - ((totIndex x0) : Int)) ≤ 1048576 from by omega)
        have HB1 := Lib.hid (show (0 : Int) ≤ (1048576 - ((totIndex x0) : Int)) - ((totRow x1) : Int) ∧ (1048576 - ((totIndex x0) : Int)) - ((totRow x1) : Int) ≤ 1048576 from by omega)
        have HT0 := Lib.hid (show (totIndex x0) ≤ 4294967296 from by omega)
        have HT1 := Lib.hid (show (totRow x1) ≤ 4294967296 from by omega)
        have HT2 := Lib.hid (show x2.length ≤ 4294967296 from by omega)
        have HQ0 : Hid ((totIndex x0) ≤ 1048576) := Lib.hid (by omega)
        have HQ1 : Hid ((totRow x1) ≤ 1048576) := Lib.hid (by omega)
        have HQ2 : Hid (x2.length ≤ 1048576) := Lib.hid (by omega)
        clear hs1 hs2
        go_enter Try.func12, Try.ntmps12
        have Bh0_queries := Lib.hid h0_queries
        replace h0_queries := Lib.hid h0_queries
        have Bh0_fields := Lib.hid h0_fields
        replace h0_fields := Lib.hid h0_fields
        have Bh1_vals := Lib.hid h1_vals
        replace h1_vals := Lib.hid h1_vals
        have Bhv2 := Lib.hid hv2
        replace hv2 := Lib.hid hv2
        go_wp2_with fail
        refine (laws_szIndex x0 u0_queries u0_fields _ _ (RSlice.mono keeps_query (((Gr.refl w).alloc _).alloc _) h0_queries.out) (RSlice.mono (keeps_of keeps_span) (((Gr.refl w).alloc _).alloc _) h0_fields.out) HA0.out.1 HA0.out.2).mono ?_
        rintro e w1 ⟨rfl, g1⟩
        have gs1 : Gr w w1 := (((Gr.refl w).alloc _).alloc _).trans g1
        have Z1 : Hid (w.heap.size + 2 ≤ w1.heap.size) := Lib.hid (by have := g1.size; simpa using this)
        replace h0_queries : Hid (RQueries w1 u0_queries x0.queries) := Lib.hid (RSlice.mono keeps_query gs1 h0_queries.out)
        replace h0_fields : Hid (RSpanss w1 u0_fields x0.fields) := Lib.hid (RSlice.mono (keeps_of keeps_span) gs1 h0_fields.out)
        replace h1_vals : Hid (RInts w1 u1_vals x1.vals) := Lib.hid (RSlice.mono keeps_int gs1 h1_vals.out)
        replace hv2 : Hid (RInts w1 (.slice a2 x2.length c2) x2) := Lib.hid (RSlice.mono keeps_int gs1 hv2.out)
        have gw : Hid (Gr w w1) := Lib.hid gs1
        have kb0_0 : w1.cell? ⟨w.heap.size, 0, none⟩ = some (u0_queries) := g1.cellv (by simp [go_sem])
        have kb0_1 : w1.cell? ⟨w.heap.size, 1, none⟩ = some (u0_fields) := g1.cellv (by simp [go_sem])
        have kb1_0 : w1.cell? ⟨w.heap.size + 1, 0, none⟩ = some (.int .i64 x1.id) := g1.cellv (by simp [go_sem])
        have kb1_1 : w1.cell? ⟨w.heap.size + 1, 1, none⟩ = some (u1_vals) := g1.cellv (by simp [go_sem])
        have bkb0_0 : Hid (w.heap.size < w1.heap.size) := Lib.hid (by have := Z1.out; omega)
        have bkb1_0 : Hid (w.heap.size + 1 < w1.heap.size) := Lib.hid (by have := Z1.out; omega)
        rw [HZ0.out]
        have hB0 := HB0.out.1
        have hC0 := HB0.out.2
        go_wp2_with fail
        refine (laws_szRow x1 u1_vals _ _ h1_vals.out HA1.out.1 HA1.out.2).mono ?_
        rintro e w2 ⟨rfl, g2⟩
        have Z2 : Hid (w1.heap.size + 0 ≤ w2.heap.size) := Lib.hid (by have := g2.size; simpa using this)
        replace h0_queries : Hid (RQueries w2 u0_queries x0.queries) := Lib.hid (RSlice.mono keeps_query g2 h0_queries.out)
        replace h0_fields : Hid (RSpanss w2 u0_fields x0.fields) := Lib.hid (RSlice.mono (keeps_of keeps_span) g2 h0_fields.out)
        replace h1_vals : Hid (RInts w2 u1_vals x1.vals) := Lib.hid (RSlice.mono keeps_int g2 h1_vals.out)
        replace hv2 : Hid (RInts w2 (.slice a2 x2.length c2) x2) := Lib.hid (RSlice.mono keeps_int g2 hv2.out)
        replace kb0_0 : w2.cell? ⟨w.heap.size, 0, none⟩ = some (u0_queries) := g2.cellv kb0_0
        replace kb0_1 : w2.cell? ⟨w.heap.size, 1, none⟩ = some (u0_fields) := g2.cellv kb0_1
        replace kb1_0 : w2.cell? ⟨w.heap.size + 1, 0, none⟩ = some (.int .i64 x1.id) := g2.cellv kb1_0
        replace kb1_1 : w2.cell? ⟨w.heap.size + 1, 1, none⟩ = some (u1_vals) := g2.cellv kb1_1
        replace gw : Hid (Gr w w2) := Lib.hid (gw.out.trans g2)
        rw [HZ1.out]
        have hB1 := HB1.out.1
        have hC1 := HB1.out.2
        -- drawn
        go_wp2
        go_region_held3 (fun w' => w'.cell? ⟨w.heap.size, 0, none⟩ = some (u0_queries) ∧ w'.cell? ⟨w.heap.size, 1, none⟩ = some (u0_fields) ∧ w'.cell? ⟨w.heap.size + 1, 0, none⟩ = some (.int .i64 x1.id) ∧ w'.cell? ⟨w.heap.size + 1, 1, none⟩ = some (u1_vals) ∧ RQueries w' u0_queries x0.queries ∧ RSpanss w' u0_fields x0.fields ∧ RInts w' u1_vals x1.vals ∧ RInts w' (.slice a2 x2.length c2) x2 ∧ Gr w2 w')
          (first | exact ⟨kb0_0, kb0_1, kb1_0, kb1_1, h0_queries.out, h0_fields.out, h1_vals.out, hv2.out, Gr.refl _⟩ | exact ⟨kb0_0, kb0_1, kb1_0, kb1_1, h0_queries.out, h0_fields.out, h1_vals.out, hv2.out, (Gr.refl _).drew⟩ | (go_split_ands; exact ⟨Gr.cellv gpf (by assumption), Gr.cellv gpf (by assumption), Gr.cellv gpf (by assumption), Gr.cellv gpf (by assumption), (RSlice.mono keeps_query gpf (by assumption)), (RSlice.mono (keeps_of keeps_span) gpf (by assumption)), (RSlice.mono keeps_int gpf (by assumption)), (RSlice.mono keeps_int gpf (by assumption)), Gr.trans (by assumption) gpf⟩) | (go_split_ands; exact ⟨Gr.cellv gp2 (by assumption), Gr.cellv gp2 (by assumption), Gr.cellv gp2 (by assumption), Gr.cellv gp2 (by assumption), (RSlice.mono keeps_query gp2 (by assumption)), (RSlice.mono (keeps_of keeps_span) gp2 (by assumption)), (RSlice.mono keeps_int gp2 (by assumption)), (RSlice.mono keeps_int gp2 (by assumption)), Gr.trans (by assumption) gp2⟩) | (go_split_ands; exact ⟨Gr.cellv gp1 (by assumption), Gr.cellv gp1 (by assumption), Gr.cellv gp1 (by assumption), Gr.cellv gp1 (by assumption), (RSlice.mono keeps_query gp1 (by assumption)), (RSlice.mono (keeps_of keeps_span) gp1 (by assumption)), (RSlice.mono keeps_int gp1 (by assumption)), (RSlice.mono keeps_int gp1 (by assumption)), Gr.trans (by assumption) gp1⟩) | (go_split_ands; exact ⟨Gr.cellv gp0 (by assumption), Gr.cellv gp0 (by assumption), Gr.cellv gp0 (by assumption), Gr.cellv gp0 (by assumption), (RSlice.mono keeps_query gp0 (by assumption)), (RSlice.mono (keeps_of keeps_span) gp0 (by assumption)), (RSlice.mono keeps_int gp0 (by assumption)), (RSlice.mono keeps_int gp0 (by assumption)), Gr.trans (by assumption) gp0⟩))
          (first | (go_at_call 57; go_split_ands; refine (laws_toIndex_own x0 u0_queries u0_fields _ (by assumption) (by assumption) HT0.out).mono ?_; rintro e wp0 ⟨vp0_queries, vp0_fields, rfl, gp0, mp0, hmp0, hnp0, r_hp0_queries, r_hp0_fields⟩) | (go_at_call 24; go_split_ands; refine (laws_toRow_own x1 u1_vals _ (by assumption) HT1.out).mono ?_; rintro e wp1 ⟨vp1_vals, rfl, gp1, r_hp1_vals⟩) | (go_at_call 65; go_split_ands; refine (laws_toIntS_own (.slice a2 x2.length c2) x2 _ (by assumption) HT2.out).mono ?_; rintro e wp2 ⟨_, rfl, ⟨ap2, np2, cp2, rfl⟩, gp2, r_hp2⟩) | (go_at_call 67; refine (spec_ProbeSet x0 _ _ x1 _ _ x2 _ (RSlice.mono keeps_query gp2 (RSlice.mono keeps_query gp1 (rd_pqueries r_hp0_queries))) (RSlice.mono (keeps_of keeps_span) gp2 (RSlice.mono (keeps_of keeps_span) gp1 (rd_pspanss r_hp0_fields))) (RSlice.mono keeps_int gp2 (rd_pints r_hp1_vals)) (rd_pints r_hp2) HT0.out).mono ?_; rintro e wpf ⟨vw0, rfl, r_hw0, gpf⟩))
        have hdr3 : Gr w2 w2.drew := (Gr.refl w2).drew
        have gs3 : Gr w2 wpf := ((((hdr3.trans gp0).trans gp1).trans gp2).trans gpf)
        have Z3 : Hid (w2.heap.size + 0 ≤ wpf.heap.size) := Lib.hid gs3.size
        have ZZp0 : Hid (w2.heap.size ≤ wp0.heap.size) := Lib.hid (by have := gp0.size; simpa using this)
        have ZZp1 : Hid (wp0.heap.size ≤ wp1.heap.size) := Lib.hid (by have := gp1.size; simpa using this)
        have ZZp2 : Hid (wp1.heap.size ≤ wp2.heap.size) := Lib.hid (by have := gp2.size; simpa using this)
        replace h0_queries : Hid (RQueries wpf u0_queries x0.queries) := Lib.hid (RSlice.mono keeps_query gs3 h0_queries.out)
        replace h0_fields : Hid (RSpanss wpf u0_fields x0.fields) := Lib.hid (RSlice.mono (keeps_of keeps_span) gs3 h0_fields.out)
        replace h1_vals : Hid (RInts wpf u1_vals x1.vals) := Lib.hid (RSlice.mono keeps_int gs3 h1_vals.out)
        replace hv2 : Hid (RInts wpf (.slice a2 x2.length c2) x2) := Lib.hid (RSlice.mono keeps_int gs3 hv2.out)
        replace kb0_0 : wpf.cell? ⟨w.heap.size, 0, none⟩ = some (u0_queries) := gs3.cellv kb0_0
        replace kb0_1 : wpf.cell? ⟨w.heap.size, 1, none⟩ = some (u0_fields) := gs3.cellv kb0_1
        replace kb1_0 : wpf.cell? ⟨w.heap.size + 1, 0, none⟩ = some (.int .i64 x1.id) := gs3.cellv kb1_0
        replace kb1_1 : wpf.cell? ⟨w.heap.size + 1, 1, none⟩ = some (u1_vals) := gs3.cellv kb1_1
        replace gw : Hid (Gr w wpf) := Lib.hid (gw.out.trans gs3)
        obtain ⟨aw0, nw0, cw0, rfl⟩ := r_hw0.isSl
        have hw0 : Hid (RInts wpf (.slice aw0 nw0 cw0) (probeL x0 x1 x2).1) := Lib.hid r_hw0
        have Bhw0 := Lib.hid r_hw0
        clear r_hw0
        have gv : Hid (Gr wpf wpf) := Lib.hid (Gr.refl _)
        have ZV : Hid (w.heap.size ≤ wpf.heap.size) := Lib.hid gw.out.size
        go_wp2_with fail
        refine (laws_toIndex_own x0 u0_queries u0_fields _ h0_queries.out h0_fields.out HT0.out).mono ?_
        rintro e w4 ⟨vx0_queries, vx0_fields, rfl, g4, mx0, hmx0, hnx0, r_hx0_queries, r_hx0_fields⟩
        have Z4 : Hid (wpf.heap.size + 0 ≤ w4.heap.size) := Lib.hid (by have := g4.size; simpa using this)
        replace h0_queries : Hid (RQueries w4 u0_queries x0.queries) := Lib.hid (RSlice.mono keeps_query g4 h0_queries.out)
        replace h0_fields : Hid (RSpanss w4 u0_fields x0.fields) := Lib.hid (RSlice.mono (keeps_of keeps_span) g4 h0_fields.out)
        replace h1_vals : Hid (RInts w4 u1_vals x1.vals) := Lib.hid (RSlice.mono keeps_int g4 h1_vals.out)
        replace hv2 : Hid (RInts w4 (.slice a2 x2.length c2) x2) := Lib.hid (RSlice.mono keeps_int g4 hv2.out)
        replace hw0 : Hid (RInts w4 (.slice aw0 nw0 cw0) (probeL x0 x1 x2).1) := Lib.hid (RSlice.mono keeps_int g4 hw0.out)
        replace kb0_0 : w4.cell? ⟨w.heap.size, 0, none⟩ = some (u0_queries) := g4.cellv kb0_0
        replace kb0_1 : w4.cell? ⟨w.heap.size, 1, none⟩ = some (u0_fields) := g4.cellv kb0_1
        replace kb1_0 : w4.cell? ⟨w.heap.size + 1, 0, none⟩ = some (.int .i64 x1.id) := g4.cellv kb1_0
        replace kb1_1 : w4.cell? ⟨w.heap.size + 1, 1, none⟩ = some (u1_vals) := g4.cellv kb1_1
        replace gw : Hid (Gr w w4) := Lib.hid (gw.out.trans g4)
        replace gv : Hid (Gr wpf w4) := Lib.hid (gv.out.trans g4)
        obtain ⟨ax0_queries, nx0_queries, cx0_queries, rfl⟩ := r_hx0_queries.isSl
        have ZMx0_queries : Hid (wpf.heap.size ≤ mx0) := Lib.hid (by have := hmx0; (try simp at this); omega)
        have hx0_queries : Hid (PQueries (In wpf.heap.size mx0) w4 (.slice ax0_queries nx0_queries cx0_queries) x0.queries) := Lib.hid (r_hx0_queries.wide (by simp) (by omega))
        clear r_hx0_queries
        obtain ⟨ax0_fields, nx0_fields, cx0_fields, rfl⟩ := r_hx0_fields.isSl
        have ZMx0_fields : Hid (wpf.heap.size ≤ mx0) := Lib.hid (by have := hmx0; (try simp at this); omega)
        have hx0_fields : Hid (PSpanss (In mx0 w4.heap.size) w4 (.slice ax0_fields nx0_fields cx0_fields) x0.fields) := Lib.hid (r_hx0_fields.wide (Nat.le_refl _) (by omega))
        clear r_hx0_fields
        have Lkb0_0 := ((Gr.refl w4).alloc (.cells #[.slice ax0_queries nx0_queries cx0_queries, .slice ax0_fields nx0_fields cx0_fields] 87)).cellv kb0_0
        have Lkb0_1 := ((Gr.refl w4).alloc (.cells #[.slice ax0_queries nx0_queries cx0_queries, .slice ax0_fields nx0_fields cx0_fields] 87)).cellv kb0_1
        have Lkb1_0 := ((Gr.refl w4).alloc (.cells #[.slice ax0_queries nx0_queries cx0_queries, .slice ax0_fields nx0_fields cx0_fields] 87)).cellv kb1_0
        have Lkb1_1 := ((Gr.refl w4).alloc (.cells #[.slice ax0_queries nx0_queries cx0_queries, .slice ax0_fields nx0_fields cx0_fields] 87)).cellv kb1_1
        go_wp2_with fail
        refine (laws_toRow_own x1 u1_vals _ (RSlice.mono keeps_int ((Gr.refl w4).alloc _) h1_vals.out) HT1.out).mono ?_
        rintro e w5 ⟨vx1_vals, rfl, g5, r_hx1_vals⟩
        have gs5 : Gr w4 w5 := ((Gr.refl w4).alloc _).trans g5
        have Z5 : Hid (w4.heap.size + 1 ≤ w5.heap.size) := Lib.hid (by have := g5.size; simpa using this)
        replace h0_queries : Hid (RQueries w5 u0_queries x0.queries) := Lib.hid (RSlice.mono keeps_query gs5 h0_queries.out)
        replace h0_fields : Hid (RSpanss w5 u0_fields x0.fields) := Lib.hid (RSlice.mono (keeps_of keeps_span) gs5 h0_fields.out)
        replace h1_vals : Hid (RInts w5 u1_vals x1.vals) := Lib.hid (RSlice.mono keeps_int gs5 h1_vals.out)
        replace hv2 : Hid (RInts w5 (.slice a2 x2.length c2) x2) := Lib.hid (RSlice.mono keeps_int gs5 hv2.out)
        replace hw0 : Hid (RInts w5 (.slice aw0 nw0 cw0) (probeL x0 x1 x2).1) := Lib.hid (RSlice.mono keeps_int gs5 hw0.out)
        replace hx0_queries : Hid (PQueries (In wpf.heap.size mx0) w5 (.slice ax0_queries nx0_queries cx0_queries) x0.queries) := Lib.hid (OSl.gr fr_query hx0_queries.out gs5)
        replace hx0_fields : Hid (PSpanss (In mx0 w4.heap.size) w5 (.slice ax0_fields nx0_fields cx0_fields) x0.fields) := Lib.hid (OSl.gr (fr_of fr_span) hx0_fields.out gs5)
        replace kb0_0 : w5.cell? ⟨w.heap.size, 0, none⟩ = some (u0_queries) := gs5.cellv kb0_0
        replace kb0_1 : w5.cell? ⟨w.heap.size, 1, none⟩ = some (u0_fields) := gs5.cellv kb0_1
        replace kb1_0 : w5.cell? ⟨w.heap.size + 1, 0, none⟩ = some (.int .i64 x1.id) := gs5.cellv kb1_0
        replace kb1_1 : w5.cell? ⟨w.heap.size + 1, 1, none⟩ = some (u1_vals) := gs5.cellv kb1_1
        replace gw : Hid (Gr w w5) := Lib.hid (gw.out.trans gs5)
        replace gv : Hid (Gr wpf w5) := Lib.hid (gv.out.trans gs5)
        have kx0_0 : w5.cell? ⟨w4.heap.size, 0, none⟩ = some (.slice ax0_queries nx0_queries cx0_queries) := g5.cellv (by simp [go_sem])
        have kx0_1 : w5.cell? ⟨w4.heap.size, 1, none⟩ = some (.slice ax0_fields nx0_fields cx0_fields) := g5.cellv (by simp [go_sem])
        have bkx0_0 : Hid (w4.heap.size < w5.heap.size) := Lib.hid (by have := Z5.out; omega)
        clear Lkb0_0 Lkb0_1 Lkb1_0 Lkb1_1
        obtain ⟨ax1_vals, nx1_vals, cx1_vals, rfl⟩ := r_hx1_vals.isSl
        have hx1_vals : Hid (PInts (In (w4.heap.size + 1) w5.heap.size) w5 (.slice ax1_vals nx1_vals cx1_vals) x1.vals) := Lib.hid (r_hx1_vals.wide (by simp) (by omega))
        clear r_hx1_vals
        have Lkb0_0 := ((Gr.refl w5).alloc (.cells #[.int .i64 x1.id, .slice ax1_vals nx1_vals cx1_vals] 46)).cellv kb0_0
        have Lkb0_1 := ((Gr.refl w5).alloc (.cells #[.int .i64 x1.id, .slice ax1_vals nx1_vals cx1_vals] 46)).cellv kb0_1
        have Lkb1_0 := ((Gr.refl w5).alloc (.cells #[.int .i64 x1.id, .slice ax1_vals nx1_vals cx1_vals] 46)).cellv kb1_0
        have Lkb1_1 := ((Gr.refl w5).alloc (.cells #[.int .i64 x1.id, .slice ax1_vals nx1_vals cx1_vals] 46)).cellv kb1_1
        have Lkx0_0 := ((Gr.refl w5).alloc (.cells #[.int .i64 x1.id, .slice ax1_vals nx1_vals cx1_vals] 46)).cellv kx0_0
        have Lkx0_1 := ((Gr.refl w5).alloc (.cells #[.int .i64 x1.id, .slice ax1_vals nx1_vals cx1_vals] 46)).cellv kx0_1
        go_wp2_with fail
        refine (laws_toIntS_own _ x2 _ (RSlice.mono keeps_int ((Gr.refl w5).alloc _) hv2.out) HT2.out).mono ?_
        rintro e w6 ⟨_, rfl, ⟨ax2, nx2, cx2, rfl⟩, g6, r_hx2⟩
        have gs6 : Gr w5 w6 := ((Gr.refl w5).alloc _).trans g6
        have Z6 : Hid (w5.heap.size + 1 ≤ w6.heap.size) := Lib.hid (by have := g6.size; simpa using this)
        replace h0_queries : Hid (RQueries w6 u0_queries x0.queries) := Lib.hid (RSlice.mono keeps_query gs6 h0_queries.out)
        replace h0_fields : Hid (RSpanss w6 u0_fields x0.fields) := Lib.hid (RSlice.mono (keeps_of keeps_span) gs6 h0_fields.out)
        replace h1_vals : Hid (RInts w6 u1_vals x1.vals) := Lib.hid (RSlice.mono keeps_int gs6 h1_vals.out)
        replace hv2 : Hid (RInts w6 (.slice a2 x2.length c2) x2) := Lib.hid (RSlice.mono keeps_int gs6 hv2.out)
        replace hw0 : Hid (RInts w6 (.slice aw0 nw0 cw0) (probeL x0 x1 x2).1) := Lib.hid (RSlice.mono keeps_int gs6 hw0.out)
        replace hx0_queries : Hid (PQueries (In wpf.heap.size mx0) w6 (.slice ax0_queries nx0_queries cx0_queries) x0.queries) := Lib.hid (OSl.gr fr_query hx0_queries.out gs6)
        replace hx0_fields : Hid (PSpanss (In mx0 w4.heap.size) w6 (.slice ax0_fields nx0_fields cx0_fields) x0.fields) := Lib.hid (OSl.gr (fr_of fr_span) hx0_fields.out gs6)
        replace hx1_vals : Hid (PInts (In (w4.heap.size + 1) w5.heap.size) w6 (.slice ax1_vals nx1_vals cx1_vals) x1.vals) := Lib.hid (OSl.gr fr_int hx1_vals.out gs6)
        replace kb0_0 : w6.cell? ⟨w.heap.size, 0, none⟩ = some (u0_queries) := gs6.cellv kb0_0
        replace kb0_1 : w6.cell? ⟨w.heap.size, 1, none⟩ = some (u0_fields) := gs6.cellv kb0_1
        replace kb1_0 : w6.cell? ⟨w.heap.size + 1, 0, none⟩ = some (.int .i64 x1.id) := gs6.cellv kb1_0
        replace kb1_1 : w6.cell? ⟨w.heap.size + 1, 1, none⟩ = some (u1_vals) := gs6.cellv kb1_1
        replace kx0_0 : w6.cell? ⟨w4.heap.size, 0, none⟩ = some (.slice ax0_queries nx0_queries cx0_queries) := gs6.cellv kx0_0
        replace kx0_1 : w6.cell? ⟨w4.heap.size, 1, none⟩ = some (.slice ax0_fields nx0_fields cx0_fields) := gs6.cellv kx0_1
        replace gw : Hid (Gr w w6) := Lib.hid (gw.out.trans gs6)
        replace gv : Hid (Gr wpf w6) := Lib.hid (gv.out.trans gs6)
        have kx1_0 : w6.cell? ⟨w5.heap.size, 0, none⟩ = some (.int .i64 x1.id) := g6.cellv (by simp [go_sem])
        have kx1_1 : w6.cell? ⟨w5.heap.size, 1, none⟩ = some (.slice ax1_vals nx1_vals cx1_vals) := g6.cellv (by simp [go_sem])
        have bkx1_0 : Hid (w5.heap.size < w6.heap.size) := Lib.hid (by have := Z6.out; omega)
        clear Lkb0_0 Lkb0_1 Lkb1_0 Lkb1_1 Lkx0_0 Lkx0_1
        have hx2 : Hid (PInts (In (w5.heap.size + 1) w6.heap.size) w6 (.slice ax2 nx2 cx2) x2) := Lib.hid (r_hx2.wide (by simp) (by omega))
        clear r_hx2
        go_wp2_with fail
        refine (impl_ProbeSet x0 _ _ x1 _ _ x2 _ (rd_pqueries hx0_queries.out) (rd_pspanss hx0_fields.out) (rd_pints hx1_vals.out) (rd_pints hx2.out) HT0.out).mono ?_
        rintro e w7 ⟨vg0, rfl, g7, r_hg0⟩
        have Z7 : Hid (w6.heap.size + 0 ≤ w7.heap.size) := Lib.hid (by have := g7.size; simpa using this)
        replace h0_queries : Hid (RQueries w7 u0_queries x0.queries) := Lib.hid (RSlice.mono keeps_query g7 h0_queries.out)
        replace h0_fields : Hid (RSpanss w7 u0_fields x0.fields) := Lib.hid (RSlice.mono (keeps_of keeps_span) g7 h0_fields.out)
        replace h1_vals : Hid (RInts w7 u1_vals x1.vals) := Lib.hid (RSlice.mono keeps_int g7 h1_vals.out)
        replace hv2 : Hid (RInts w7 (.slice a2 x2.length c2) x2) := Lib.hid (RSlice.mono keeps_int g7 hv2.out)
        replace hw0 : Hid (RInts w7 (.slice aw0 nw0 cw0) (probeL x0 x1 x2).1) := Lib.hid (RSlice.mono keeps_int g7 hw0.out)
        replace hx0_queries : Hid (PQueries (In wpf.heap.size mx0) w7 (.slice ax0_queries nx0_queries cx0_queries) x0.queries) := Lib.hid (OSl.gr fr_query hx0_queries.out g7)
        replace hx0_fields : Hid (PSpanss (In mx0 w4.heap.size) w7 (.slice ax0_fields nx0_fields cx0_fields) x0.fields) := Lib.hid (OSl.gr (fr_of fr_span) hx0_fields.out g7)
        replace hx1_vals : Hid (PInts (In (w4.heap.size + 1) w5.heap.size) w7 (.slice ax1_vals nx1_vals cx1_vals) x1.vals) := Lib.hid (OSl.gr fr_int hx1_vals.out g7)
        replace hx2 : Hid (PInts (In (w5.heap.size + 1) w6.heap.size) w7 (.slice ax2 nx2 cx2) x2) := Lib.hid (OSl.gr fr_int hx2.out g7)
        replace kb0_0 : w7.cell? ⟨w.heap.size, 0, none⟩ = some (u0_queries) := g7.cellv kb0_0
        replace kb0_1 : w7.cell? ⟨w.heap.size, 1, none⟩ = some (u0_fields) := g7.cellv kb0_1
        replace kb1_0 : w7.cell? ⟨w.heap.size + 1, 0, none⟩ = some (.int .i64 x1.id) := g7.cellv kb1_0
        replace kb1_1 : w7.cell? ⟨w.heap.size + 1, 1, none⟩ = some (u1_vals) := g7.cellv kb1_1
        replace kx0_0 : w7.cell? ⟨w4.heap.size, 0, none⟩ = some (.slice ax0_queries nx0_queries cx0_queries) := g7.cellv kx0_0
        replace kx0_1 : w7.cell? ⟨w4.heap.size, 1, none⟩ = some (.slice ax0_fields nx0_fields cx0_fields) := g7.cellv kx0_1
        replace kx1_0 : w7.cell? ⟨w5.heap.size, 0, none⟩ = some (.int .i64 x1.id) := g7.cellv kx1_0
        replace kx1_1 : w7.cell? ⟨w5.heap.size, 1, none⟩ = some (.slice ax1_vals nx1_vals cx1_vals) := g7.cellv kx1_1
        replace gw : Hid (Gr w w7) := Lib.hid (gw.out.trans g7)
        replace gv : Hid (Gr wpf w7) := Lib.hid (gv.out.trans g7)
        obtain ⟨ag0, ng0, cg0, rfl⟩ := r_hg0.isSl
        have hg0 : Hid (PInts (In w6.heap.size w7.heap.size) w7 (.slice ag0 ng0 cg0) (probeL x0 x1 x2).1) := Lib.hid (r_hg0.wide (by simp) (by omega))
        clear r_hg0
        have ei1 : (((probeL x0 x1 x2).2 : Int) != (probeL x0 x1 x2).2) = false := by simp
        go_wp2_with fail
        refine (laws_eqIntS_same _ _ (probeL x0 x1 x2).1 _ (rd_pints hg0.out) hw0.out).mono ?_
        rintro e w8 ⟨rfl, g8⟩
        have Z8 : Hid (w7.heap.size + 0 ≤ w8.heap.size) := Lib.hid (by have := g8.size; simpa using this)
        replace h0_queries : Hid (RQueries w8 u0_queries x0.queries) := Lib.hid (RSlice.mono keeps_query g8 h0_queries.out)
        replace h0_fields : Hid (RSpanss w8 u0_fields x0.fields) := Lib.hid (RSlice.mono (keeps_of keeps_span) g8 h0_fields.out)
        replace h1_vals : Hid (RInts w8 u1_vals x1.vals) := Lib.hid (RSlice.mono keeps_int g8 h1_vals.out)
        replace hv2 : Hid (RInts w8 (.slice a2 x2.length c2) x2) := Lib.hid (RSlice.mono keeps_int g8 hv2.out)
        replace hw0 : Hid (RInts w8 (.slice aw0 nw0 cw0) (probeL x0 x1 x2).1) := Lib.hid (RSlice.mono keeps_int g8 hw0.out)
        replace hx0_queries : Hid (PQueries (In wpf.heap.size mx0) w8 (.slice ax0_queries nx0_queries cx0_queries) x0.queries) := Lib.hid (OSl.gr fr_query hx0_queries.out g8)
        replace hx0_fields : Hid (PSpanss (In mx0 w4.heap.size) w8 (.slice ax0_fields nx0_fields cx0_fields) x0.fields) := Lib.hid (OSl.gr (fr_of fr_span) hx0_fields.out g8)
        replace hx1_vals : Hid (PInts (In (w4.heap.size + 1) w5.heap.size) w8 (.slice ax1_vals nx1_vals cx1_vals) x1.vals) := Lib.hid (OSl.gr fr_int hx1_vals.out g8)
        replace hx2 : Hid (PInts (In (w5.heap.size + 1) w6.heap.size) w8 (.slice ax2 nx2 cx2) x2) := Lib.hid (OSl.gr fr_int hx2.out g8)
        replace hg0 : Hid (PInts (In w6.heap.size w7.heap.size) w8 (.slice ag0 ng0 cg0) (probeL x0 x1 x2).1) := Lib.hid (OSl.gr fr_int hg0.out g8)
        replace kb0_0 : w8.cell? ⟨w.heap.size, 0, none⟩ = some (u0_queries) := g8.cellv kb0_0
        replace kb0_1 : w8.cell? ⟨w.heap.size, 1, none⟩ = some (u0_fields) := g8.cellv kb0_1
        replace kb1_0 : w8.cell? ⟨w.heap.size + 1, 0, none⟩ = some (.int .i64 x1.id) := g8.cellv kb1_0
        replace kb1_1 : w8.cell? ⟨w.heap.size + 1, 1, none⟩ = some (u1_vals) := g8.cellv kb1_1
        replace kx0_0 : w8.cell? ⟨w4.heap.size, 0, none⟩ = some (.slice ax0_queries nx0_queries cx0_queries) := g8.cellv kx0_0
        replace kx0_1 : w8.cell? ⟨w4.heap.size, 1, none⟩ = some (.slice ax0_fields nx0_fields cx0_fields) := g8.cellv kx0_1
        replace kx1_0 : w8.cell? ⟨w5.heap.size, 0, none⟩ = some (.int .i64 x1.id) := g8.cellv kx1_0
        replace kx1_1 : w8.cell? ⟨w5.heap.size, 1, none⟩ = some (.slice ax1_vals nx1_vals cx1_vals) := g8.cellv kx1_1
        replace gw : Hid (Gr w w8) := Lib.hid (gw.out.trans g8)
        replace gv : Hid (Gr wpf w8) := Lib.hid (gv.out.trans g8)
        go_wp2
        go_region_held3 (fun w' => w'.cell? ⟨w.heap.size, 0, none⟩ = some (u0_queries) ∧ w'.cell? ⟨w.heap.size, 1, none⟩ = some (u0_fields) ∧ w'.cell? ⟨w4.heap.size, 0, none⟩ = some (.slice ax0_queries nx0_queries cx0_queries) ∧ w'.cell? ⟨w4.heap.size, 1, none⟩ = some (.slice ax0_fields nx0_fields cx0_fields) ∧ RQueries w' u0_queries x0.queries ∧ RSpanss w' u0_fields x0.fields ∧ RQueries w' (.slice ax0_queries nx0_queries cx0_queries) x0.queries ∧ RSpanss w' (.slice ax0_fields nx0_fields cx0_fields) x0.fields ∧ Gr w8 w')
          (first | exact ⟨kb0_0, kb0_1, kx0_0, kx0_1, h0_queries.out, h0_fields.out, (rd_pqueries hx0_queries.out), (rd_pspanss hx0_fields.out), Gr.refl _⟩ | exact ⟨kb0_0, kb0_1, kx0_0, kx0_1, h0_queries.out, h0_fields.out, (rd_pqueries hx0_queries.out), (rd_pspanss hx0_fields.out), (Gr.refl _).drew⟩ | (go_split_ands; exact ⟨Gr.cellv gb0 (by assumption), Gr.cellv gb0 (by assumption), Gr.cellv gb0 (by assumption), Gr.cellv gb0 (by assumption), (RSlice.mono keeps_query gb0 (by assumption)), (RSlice.mono (keeps_of keeps_span) gb0 (by assumption)), (RSlice.mono keeps_query gb0 (by assumption)), (RSlice.mono (keeps_of keeps_span) gb0 (by assumption)), Gr.trans (by assumption) gb0⟩) | (go_split_ands; exact ⟨Gr.cellv ga0 (by assumption), Gr.cellv ga0 (by assumption), Gr.cellv ga0 (by assumption), Gr.cellv ga0 (by assumption), (RSlice.mono keeps_query ga0 (by assumption)), (RSlice.mono (keeps_of keeps_span) ga0 (by assumption)), (RSlice.mono keeps_query ga0 (by assumption)), (RSlice.mono (keeps_of keeps_span) ga0 (by assumption)), Gr.trans (by assumption) ga0⟩))
          (first | (go_at_call 57; go_split_ands; refine (laws_toIndex_gr x0 u0_queries u0_fields _ (by assumption) (by assumption) HT0.out).mono ?_; rintro e wa0 ⟨vy0_queries, vy0_fields, rfl, ⟨ay0_queries, ny0_queries, cy0_queries, rfl⟩, ry0_queries, ⟨ay0_fields, ny0_fields, cy0_fields, rfl⟩, ry0_fields, ga0⟩) | (go_at_call 59; go_split_ands; refine (laws_eqIndex x0 _ _ _ _ _ (by assumption) (by assumption) (ry0_queries _ (Loc.refl _ _)) (ry0_fields _ (Loc.refl _ _))).mono ?_; rintro e wb0 ⟨rfl, gb0⟩))
        have gs9 : Gr w8 wb0 := ((Gr.refl w8).drew.trans ga0).trans gb0
        have Z9 : Hid (w8.heap.size ≤ wb0.heap.size) := Lib.hid gs9.size
        replace h0_queries : Hid (RQueries wb0 u0_queries x0.queries) := Lib.hid (RSlice.mono keeps_query gs9 h0_queries.out)
        replace h0_fields : Hid (RSpanss wb0 u0_fields x0.fields) := Lib.hid (RSlice.mono (keeps_of keeps_span) gs9 h0_fields.out)
        replace h1_vals : Hid (RInts wb0 u1_vals x1.vals) := Lib.hid (RSlice.mono keeps_int gs9 h1_vals.out)
        replace hv2 : Hid (RInts wb0 (.slice a2 x2.length c2) x2) := Lib.hid (RSlice.mono keeps_int gs9 hv2.out)
        replace hw0 : Hid (RInts wb0 (.slice aw0 nw0 cw0) (probeL x0 x1 x2).1) := Lib.hid (RSlice.mono keeps_int gs9 hw0.out)
        replace hx0_queries : Hid (PQueries (In wpf.heap.size mx0) wb0 (.slice ax0_queries nx0_queries cx0_queries) x0.queries) := Lib.hid (OSl.gr fr_query hx0_queries.out gs9)
        replace hx0_fields : Hid (PSpanss (In mx0 w4.heap.size) wb0 (.slice ax0_fields nx0_fields cx0_fields) x0.fields) := Lib.hid (OSl.gr (fr_of fr_span) hx0_fields.out gs9)
        replace hx1_vals : Hid (PInts (In (w4.heap.size + 1) w5.heap.size) wb0 (.slice ax1_vals nx1_vals cx1_vals) x1.vals) := Lib.hid (OSl.gr fr_int hx1_vals.out gs9)
        replace hx2 : Hid (PInts (In (w5.heap.size + 1) w6.heap.size) wb0 (.slice ax2 nx2 cx2) x2) := Lib.hid (OSl.gr fr_int hx2.out gs9)
        replace hg0 : Hid (PInts (In w6.heap.size w7.heap.size) wb0 (.slice ag0 ng0 cg0) (probeL x0 x1 x2).1) := Lib.hid (OSl.gr fr_int hg0.out gs9)
        replace kb0_0 : wb0.cell? ⟨w.heap.size, 0, none⟩ = some (u0_queries) := gs9.cellv kb0_0
        replace kb0_1 : wb0.cell? ⟨w.heap.size, 1, none⟩ = some (u0_fields) := gs9.cellv kb0_1
        replace kb1_0 : wb0.cell? ⟨w.heap.size + 1, 0, none⟩ = some (.int .i64 x1.id) := gs9.cellv kb1_0
        replace kb1_1 : wb0.cell? ⟨w.heap.size + 1, 1, none⟩ = some (u1_vals) := gs9.cellv kb1_1
        replace kx0_0 : wb0.cell? ⟨w4.heap.size, 0, none⟩ = some (.slice ax0_queries nx0_queries cx0_queries) := gs9.cellv kx0_0
        replace kx0_1 : wb0.cell? ⟨w4.heap.size, 1, none⟩ = some (.slice ax0_fields nx0_fields cx0_fields) := gs9.cellv kx0_1
        replace kx1_0 : wb0.cell? ⟨w5.heap.size, 0, none⟩ = some (.int .i64 x1.id) := gs9.cellv kx1_0
        replace kx1_1 : wb0.cell? ⟨w5.heap.size, 1, none⟩ = some (.slice ax1_vals nx1_vals cx1_vals) := gs9.cellv kx1_1
        replace gw : Hid (Gr w wb0) := Lib.hid (gw.out.trans gs9)
        replace gv : Hid (Gr wpf wb0) := Lib.hid (gv.out.trans gs9)
        go_wp2
        go_region_held3 (fun w' => w'.cell? ⟨w.heap.size + 1, 0, none⟩ = some (.int .i64 x1.id) ∧ w'.cell? ⟨w.heap.size + 1, 1, none⟩ = some (u1_vals) ∧ w'.cell? ⟨w5.heap.size, 0, none⟩ = some (.int .i64 x1.id) ∧ w'.cell? ⟨w5.heap.size, 1, none⟩ = some (.slice ax1_vals nx1_vals cx1_vals) ∧ RInts w' u1_vals x1.vals ∧ RInts w' (.slice ax1_vals nx1_vals cx1_vals) x1.vals ∧ Gr wb0 w')
          (first | exact ⟨kb1_0, kb1_1, kx1_0, kx1_1, h1_vals.out, (rd_pints hx1_vals.out), Gr.refl _⟩ | exact ⟨kb1_0, kb1_1, kx1_0, kx1_1, h1_vals.out, (rd_pints hx1_vals.out), (Gr.refl _).drew⟩ | (go_split_ands; exact ⟨Gr.cellv gb1 (by assumption), Gr.cellv gb1 (by assumption), Gr.cellv gb1 (by assumption), Gr.cellv gb1 (by assumption), (RSlice.mono keeps_int gb1 (by assumption)), (RSlice.mono keeps_int gb1 (by assumption)), Gr.trans (by assumption) gb1⟩) | (go_split_ands; exact ⟨Gr.cellv ga1 (by assumption), Gr.cellv ga1 (by assumption), Gr.cellv ga1 (by assumption), Gr.cellv ga1 (by assumption), (RSlice.mono keeps_int ga1 (by assumption)), (RSlice.mono keeps_int ga1 (by assumption)), Gr.trans (by assumption) ga1⟩))
          (first | (go_at_call 24; go_split_ands; refine (laws_toRow_gr x1 u1_vals _ (by assumption) HT1.out).mono ?_; rintro e wa1 ⟨vy1_vals, rfl, ⟨ay1_vals, ny1_vals, cy1_vals, rfl⟩, ry1_vals, ga1⟩) | (go_at_call 28; go_split_ands; refine (laws_eqRow x1 _ _ _ (by assumption) (ry1_vals _ (Loc.refl _ _))).mono ?_; rintro e wb1 ⟨rfl, gb1⟩))
        have gs10 : Gr wb0 wb1 := ((Gr.refl wb0).drew.trans ga1).trans gb1
        have Z10 : Hid (wb0.heap.size ≤ wb1.heap.size) := Lib.hid gs10.size
        replace h0_queries : Hid (RQueries wb1 u0_queries x0.queries) := Lib.hid (RSlice.mono keeps_query gs10 h0_queries.out)
        replace h0_fields : Hid (RSpanss wb1 u0_fields x0.fields) := Lib.hid (RSlice.mono (keeps_of keeps_span) gs10 h0_fields.out)
        replace h1_vals : Hid (RInts wb1 u1_vals x1.vals) := Lib.hid (RSlice.mono keeps_int gs10 h1_vals.out)
        replace hv2 : Hid (RInts wb1 (.slice a2 x2.length c2) x2) := Lib.hid (RSlice.mono keeps_int gs10 hv2.out)
        replace hw0 : Hid (RInts wb1 (.slice aw0 nw0 cw0) (probeL x0 x1 x2).1) := Lib.hid (RSlice.mono keeps_int gs10 hw0.out)
        replace hx0_queries : Hid (PQueries (In wpf.heap.size mx0) wb1 (.slice ax0_queries nx0_queries cx0_queries) x0.queries) := Lib.hid (OSl.gr fr_query hx0_queries.out gs10)
        replace hx0_fields : Hid (PSpanss (In mx0 w4.heap.size) wb1 (.slice ax0_fields nx0_fields cx0_fields) x0.fields) := Lib.hid (OSl.gr (fr_of fr_span) hx0_fields.out gs10)
        replace hx1_vals : Hid (PInts (In (w4.heap.size + 1) w5.heap.size) wb1 (.slice ax1_vals nx1_vals cx1_vals) x1.vals) := Lib.hid (OSl.gr fr_int hx1_vals.out gs10)
        replace hx2 : Hid (PInts (In (w5.heap.size + 1) w6.heap.size) wb1 (.slice ax2 nx2 cx2) x2) := Lib.hid (OSl.gr fr_int hx2.out gs10)
        replace hg0 : Hid (PInts (In w6.heap.size w7.heap.size) wb1 (.slice ag0 ng0 cg0) (probeL x0 x1 x2).1) := Lib.hid (OSl.gr fr_int hg0.out gs10)
        replace kb0_0 : wb1.cell? ⟨w.heap.size, 0, none⟩ = some (u0_queries) := gs10.cellv kb0_0
        replace kb0_1 : wb1.cell? ⟨w.heap.size, 1, none⟩ = some (u0_fields) := gs10.cellv kb0_1
        replace kb1_0 : wb1.cell? ⟨w.heap.size + 1, 0, none⟩ = some (.int .i64 x1.id) := gs10.cellv kb1_0
        replace kb1_1 : wb1.cell? ⟨w.heap.size + 1, 1, none⟩ = some (u1_vals) := gs10.cellv kb1_1
        replace kx0_0 : wb1.cell? ⟨w4.heap.size, 0, none⟩ = some (.slice ax0_queries nx0_queries cx0_queries) := gs10.cellv kx0_0
        replace kx0_1 : wb1.cell? ⟨w4.heap.size, 1, none⟩ = some (.slice ax0_fields nx0_fields cx0_fields) := gs10.cellv kx0_1
        replace kx1_0 : wb1.cell? ⟨w5.heap.size, 0, none⟩ = some (.int .i64 x1.id) := gs10.cellv kx1_0
        replace kx1_1 : wb1.cell? ⟨w5.heap.size, 1, none⟩ = some (.slice ax1_vals nx1_vals cx1_vals) := gs10.cellv kx1_1
        replace gw : Hid (Gr w wb1) := Lib.hid (gw.out.trans gs10)
        replace gv : Hid (Gr wpf wb1) := Lib.hid (gv.out.trans gs10)
        go_wp2_with fail
        refine (laws_toIntS_own _ x2 _ hv2.out HT2.out).mono ?_
        rintro e w11 ⟨_, rfl, ⟨ay2, ny2, cy2, rfl⟩, g11, r_hy2⟩
        have Z11 : Hid (wb1.heap.size + 0 ≤ w11.heap.size) := Lib.hid (by have := g11.size; simpa using this)
        replace h0_queries : Hid (RQueries w11 u0_queries x0.queries) := Lib.hid (RSlice.mono keeps_query g11 h0_queries.out)
        replace h0_fields : Hid (RSpanss w11 u0_fields x0.fields) := Lib.hid (RSlice.mono (keeps_of keeps_span) g11 h0_fields.out)
        replace h1_vals : Hid (RInts w11 u1_vals x1.vals) := Lib.hid (RSlice.mono keeps_int g11 h1_vals.out)
        replace hv2 : Hid (RInts w11 (.slice a2 x2.length c2) x2) := Lib.hid (RSlice.mono keeps_int g11 hv2.out)
        replace hw0 : Hid (RInts w11 (.slice aw0 nw0 cw0) (probeL x0 x1 x2).1) := Lib.hid (RSlice.mono keeps_int g11 hw0.out)
        replace hx0_queries : Hid (PQueries (In wpf.heap.size mx0) w11 (.slice ax0_queries nx0_queries cx0_queries) x0.queries) := Lib.hid (OSl.gr fr_query hx0_queries.out g11)
        replace hx0_fields : Hid (PSpanss (In mx0 w4.heap.size) w11 (.slice ax0_fields nx0_fields cx0_fields) x0.fields) := Lib.hid (OSl.gr (fr_of fr_span) hx0_fields.out g11)
        replace hx1_vals : Hid (PInts (In (w4.heap.size + 1) w5.heap.size) w11 (.slice ax1_vals nx1_vals cx1_vals) x1.vals) := Lib.hid (OSl.gr fr_int hx1_vals.out g11)
        replace hx2 : Hid (PInts (In (w5.heap.size + 1) w6.heap.size) w11 (.slice ax2 nx2 cx2) x2) := Lib.hid (OSl.gr fr_int hx2.out g11)
        replace hg0 : Hid (PInts (In w6.heap.size w7.heap.size) w11 (.slice ag0 ng0 cg0) (probeL x0 x1 x2).1) := Lib.hid (OSl.gr fr_int hg0.out g11)
        replace kb0_0 : w11.cell? ⟨w.heap.size, 0, none⟩ = some (u0_queries) := g11.cellv kb0_0
        replace kb0_1 : w11.cell? ⟨w.heap.size, 1, none⟩ = some (u0_fields) := g11.cellv kb0_1
        replace kb1_0 : w11.cell? ⟨w.heap.size + 1, 0, none⟩ = some (.int .i64 x1.id) := g11.cellv kb1_0
        replace kb1_1 : w11.cell? ⟨w.heap.size + 1, 1, none⟩ = some (u1_vals) := g11.cellv kb1_1
        replace kx0_0 : w11.cell? ⟨w4.heap.size, 0, none⟩ = some (.slice ax0_queries nx0_queries cx0_queries) := g11.cellv kx0_0
        replace kx0_1 : w11.cell? ⟨w4.heap.size, 1, none⟩ = some (.slice ax0_fields nx0_fields cx0_fields) := g11.cellv kx0_1
        replace kx1_0 : w11.cell? ⟨w5.heap.size, 0, none⟩ = some (.int .i64 x1.id) := g11.cellv kx1_0
        replace kx1_1 : w11.cell? ⟨w5.heap.size, 1, none⟩ = some (.slice ax1_vals nx1_vals cx1_vals) := g11.cellv kx1_1
        replace gw : Hid (Gr w w11) := Lib.hid (gw.out.trans g11)
        replace gv : Hid (Gr wpf w11) := Lib.hid (gv.out.trans g11)
        have hy2 : Hid (PInts (In wb1.heap.size w11.heap.size) w11 (.slice ay2 ny2 cy2) x2) := Lib.hid (r_hy2.wide (by simp) (by omega))
        clear r_hy2
        go_wp2_with fail
        refine (laws_eqIntS_same _ _ x2 _ (rd_pints hx2.out) (rd_pints hy2.out)).mono ?_
        rintro e w12 ⟨rfl, g12⟩
        have Z12 : Hid (w11.heap.size + 0 ≤ w12.heap.size) := Lib.hid (by have := g12.size; simpa using this)
        replace h0_queries : Hid (RQueries w12 u0_queries x0.queries) := Lib.hid (RSlice.mono keeps_query g12 h0_queries.out)
        replace h0_fields : Hid (RSpanss w12 u0_fields x0.fields) := Lib.hid (RSlice.mono (keeps_of keeps_span) g12 h0_fields.out)
        replace h1_vals : Hid (RInts w12 u1_vals x1.vals) := Lib.hid (RSlice.mono keeps_int g12 h1_vals.out)
        replace hv2 : Hid (RInts w12 (.slice a2 x2.length c2) x2) := Lib.hid (RSlice.mono keeps_int g12 hv2.out)
        replace hw0 : Hid (RInts w12 (.slice aw0 nw0 cw0) (probeL x0 x1 x2).1) := Lib.hid (RSlice.mono keeps_int g12 hw0.out)
        replace hx0_queries : Hid (PQueries (In wpf.heap.size mx0) w12 (.slice ax0_queries nx0_queries cx0_queries) x0.queries) := Lib.hid (OSl.gr fr_query hx0_queries.out g12)
        replace hx0_fields : Hid (PSpanss (In mx0 w4.heap.size) w12 (.slice ax0_fields nx0_fields cx0_fields) x0.fields) := Lib.hid (OSl.gr (fr_of fr_span) hx0_fields.out g12)
        replace hx1_vals : Hid (PInts (In (w4.heap.size + 1) w5.heap.size) w12 (.slice ax1_vals nx1_vals cx1_vals) x1.vals) := Lib.hid (OSl.gr fr_int hx1_vals.out g12)
        replace hx2 : Hid (PInts (In (w5.heap.size + 1) w6.heap.size) w12 (.slice ax2 nx2 cx2) x2) := Lib.hid (OSl.gr fr_int hx2.out g12)
        replace hg0 : Hid (PInts (In w6.heap.size w7.heap.size) w12 (.slice ag0 ng0 cg0) (probeL x0 x1 x2).1) := Lib.hid (OSl.gr fr_int hg0.out g12)
        replace hy2 : Hid (PInts (In wb1.heap.size w11.heap.size) w12 (.slice ay2 ny2 cy2) x2) := Lib.hid (OSl.gr fr_int hy2.out g12)
        replace kb0_0 : w12.cell? ⟨w.heap.size, 0, none⟩ = some (u0_queries) := g12.cellv kb0_0
        replace kb0_1 : w12.cell? ⟨w.heap.size, 1, none⟩ = some (u0_fields) := g12.cellv kb0_1
        replace kb1_0 : w12.cell? ⟨w.heap.size + 1, 0, none⟩ = some (.int .i64 x1.id) := g12.cellv kb1_0
        replace kb1_1 : w12.cell? ⟨w.heap.size + 1, 1, none⟩ = some (u1_vals) := g12.cellv kb1_1
        replace kx0_0 : w12.cell? ⟨w4.heap.size, 0, none⟩ = some (.slice ax0_queries nx0_queries cx0_queries) := g12.cellv kx0_0
        replace kx0_1 : w12.cell? ⟨w4.heap.size, 1, none⟩ = some (.slice ax0_fields nx0_fields cx0_fields) := g12.cellv kx0_1
        replace kx1_0 : w12.cell? ⟨w5.heap.size, 0, none⟩ = some (.int .i64 x1.id) := g12.cellv kx1_0
        replace kx1_1 : w12.cell? ⟨w5.heap.size, 1, none⟩ = some (.slice ax1_vals nx1_vals cx1_vals) := g12.cellv kx1_1
        replace gw : Hid (Gr w w12) := Lib.hid (gw.out.trans g12)
        replace gv : Hid (Gr wpf w12) := Lib.hid (gv.out.trans g12)
        clear hy2
        have cb0 := HQ0.out
        have cm0_queries := cnt_QueryS x0.queries
        have cm0_fields := cnt_SpanSS x0.fields
        unfold totIndex at cb0
        go_wp2_with fail
        refine (laws_markIndex (In wpf.heap.size mx0) (In mx0 w4.heap.size) x0 _ _ (1 : Int) _ hx0_queries.out (fun b hb => by have := Z1.out; have := bkb0_0.out; have := bkb1_0.out; have := Z2.out; have := Z3.out; have := ZZp0.out; have := ZZp1.out; have := ZZp2.out; have := ZV.out; have := Z4.out; have := ZMx0_queries.out; have := ZMx0_fields.out; have := Z5.out; have := bkx0_0.out; have := Z6.out; have := bkx1_0.out; have := Z7.out; have := Z8.out; have := Z9.out; have := Z10.out; have := Z11.out; have := Z12.out; have := hb.2; omega) hx0_fields.out (fun b hb => by have := Z1.out; have := bkb0_0.out; have := bkb1_0.out; have := Z2.out; have := Z3.out; have := ZZp0.out; have := ZZp1.out; have := ZZp2.out; have := ZV.out; have := Z4.out; have := ZMx0_queries.out; have := ZMx0_fields.out; have := Z5.out; have := bkx0_0.out; have := Z6.out; have := bkx1_0.out; have := Z7.out; have := Z8.out; have := Z9.out; have := Z10.out; have := Z11.out; have := Z12.out; have := hb.2; omega) (fun b hb hc => by have := hb.2; have := hc.1; omega) (by omega) (by omega)).mono ?_
        rintro e wm0 ⟨rfl, _, _, dm0⟩
        have Z13 : Hid (w12.heap.size ≤ wm0.heap.size) := Lib.hid dm0.size
        replace gw : Hid (Gr w wm0) := Lib.hid (Gr.trans' gw.out (dm0.below (fun b hb => by have := Z1.out; have := bkb0_0.out; have := bkb1_0.out; have := Z2.out; have := Z3.out; have := ZZp0.out; have := ZZp1.out; have := ZZp2.out; have := ZV.out; have := Z4.out; have := ZMx0_queries.out; have := ZMx0_fields.out; have := Z5.out; have := bkx0_0.out; have := Z6.out; have := bkx1_0.out; have := Z7.out; have := Z8.out; have := Z9.out; have := Z10.out; have := Z11.out; have := Z12.out; have := Z13.out; rcases hb with hb | hb <;> (have := hb.1; omega)) (gw.out.size)))
        replace gv : Hid (Gr wpf wm0) := Lib.hid (Gr.trans' gv.out (dm0.below (fun b hb => by have := Z1.out; have := bkb0_0.out; have := bkb1_0.out; have := Z2.out; have := Z3.out; have := ZZp0.out; have := ZZp1.out; have := ZZp2.out; have := ZV.out; have := Z4.out; have := ZMx0_queries.out; have := ZMx0_fields.out; have := Z5.out; have := bkx0_0.out; have := Z6.out; have := bkx1_0.out; have := Z7.out; have := Z8.out; have := Z9.out; have := Z10.out; have := Z11.out; have := Z12.out; have := Z13.out; rcases hb with hb | hb <;> (have := hb.1; omega)) (gv.out.size)))
        replace h0_queries : Hid (RQueries wm0 u0_queries x0.queries) := Lib.hid (RSlice.mono keeps_query gw.out Bh0_queries.out)
        replace h0_fields : Hid (RSpanss wm0 u0_fields x0.fields) := Lib.hid (RSlice.mono (keeps_of keeps_span) gw.out Bh0_fields.out)
        replace h1_vals : Hid (RInts wm0 u1_vals x1.vals) := Lib.hid (RSlice.mono keeps_int gw.out Bh1_vals.out)
        replace hv2 : Hid (RInts wm0 (.slice a2 x2.length c2) x2) := Lib.hid (RSlice.mono keeps_int gw.out Bhv2.out)
        replace hw0 : Hid (RInts wm0 (.slice aw0 nw0 cw0) (probeL x0 x1 x2).1) := Lib.hid (RSlice.mono keeps_int gv.out Bhw0.out)
        replace hx1_vals : Hid (PInts (In (w4.heap.size + 1) w5.heap.size) wm0 (.slice ax1_vals nx1_vals cx1_vals) x1.vals) := Lib.hid (OSl.frame fr_int hx1_vals.out (dm0.agree fun b hb hc => by have := Z1.out; have := bkb0_0.out; have := bkb1_0.out; have := Z2.out; have := Z3.out; have := ZZp0.out; have := ZZp1.out; have := ZZp2.out; have := ZV.out; have := Z4.out; have := ZMx0_queries.out; have := ZMx0_fields.out; have := Z5.out; have := bkx0_0.out; have := Z6.out; have := bkx1_0.out; have := Z7.out; have := Z8.out; have := Z9.out; have := Z10.out; have := Z11.out; have := Z12.out; have := Z13.out; rcases hc with hc | hc <;> (have := hb.1; have := hb.2; have := hc.1; have := hc.2; omega)))
        replace hx2 : Hid (PInts (In (w5.heap.size + 1) w6.heap.size) wm0 (.slice ax2 nx2 cx2) x2) := Lib.hid (OSl.frame fr_int hx2.out (dm0.agree fun b hb hc => by have := Z1.out; have := bkb0_0.out; have := bkb1_0.out; have := Z2.out; have := Z3.out; have := ZZp0.out; have := ZZp1.out; have := ZZp2.out; have := ZV.out; have := Z4.out; have := ZMx0_queries.out; have := ZMx0_fields.out; have := Z5.out; have := bkx0_0.out; have := Z6.out; have := bkx1_0.out; have := Z7.out; have := Z8.out; have := Z9.out; have := Z10.out; have := Z11.out; have := Z12.out; have := Z13.out; rcases hc with hc | hc <;> (have := hb.1; have := hb.2; have := hc.1; have := hc.2; omega)))
        replace hg0 : Hid (PInts (In w6.heap.size w7.heap.size) wm0 (.slice ag0 ng0 cg0) (probeL x0 x1 x2).1) := Lib.hid (OSl.frame fr_int hg0.out (dm0.agree fun b hb hc => by have := Z1.out; have := bkb0_0.out; have := bkb1_0.out; have := Z2.out; have := Z3.out; have := ZZp0.out; have := ZZp1.out; have := ZZp2.out; have := ZV.out; have := Z4.out; have := ZMx0_queries.out; have := ZMx0_fields.out; have := Z5.out; have := bkx0_0.out; have := Z6.out; have := bkx1_0.out; have := Z7.out; have := Z8.out; have := Z9.out; have := Z10.out; have := Z11.out; have := Z12.out; have := Z13.out; rcases hc with hc | hc <;> (have := hb.1; have := hb.2; have := hc.1; have := hc.2; omega)))
        replace kb0_0 : wm0.cell? ⟨w.heap.size, 0, none⟩ = some (u0_queries) := (World.cell?_of_block (w := w12) (dm0.block _ (World.block_lt_of_cell? _ _ kb0_0) (fun hc => by have := Z1.out; have := bkb0_0.out; have := bkb1_0.out; have := Z2.out; have := Z3.out; have := ZZp0.out; have := ZZp1.out; have := ZZp2.out; have := ZV.out; have := Z4.out; have := ZMx0_queries.out; have := ZMx0_fields.out; have := Z5.out; have := bkx0_0.out; have := Z6.out; have := bkx1_0.out; have := Z7.out; have := Z8.out; have := Z9.out; have := Z10.out; have := Z11.out; have := Z12.out; have := Z13.out; rcases hc with hc | hc <;> (have := hc.1; have := hc.2; dsimp only at *; omega)))).trans kb0_0
        replace kb0_1 : wm0.cell? ⟨w.heap.size, 1, none⟩ = some (u0_fields) := (World.cell?_of_block (w := w12) (dm0.block _ (World.block_lt_of_cell? _ _ kb0_1) (fun hc => by have := Z1.out; have := bkb0_0.out; have := bkb1_0.out; have := Z2.out; have := Z3.out; have := ZZp0.out; have := ZZp1.out; have := ZZp2.out; have := ZV.out; have := Z4.out; have := ZMx0_queries.out; have := ZMx0_fields.out; have := Z5.out; have := bkx0_0.out; have := Z6.out; have := bkx1_0.out; have := Z7.out; have := Z8.out; have := Z9.out; have := Z10.out; have := Z11.out; have := Z12.out; have := Z13.out; rcases hc with hc | hc <;> (have := hc.1; have := hc.2; dsimp only at *; omega)))).trans kb0_1
        replace kb1_0 : wm0.cell? ⟨w.heap.size + 1, 0, none⟩ = some (.int .i64 x1.id) := (World.cell?_of_block (w := w12) (dm0.block _ (World.block_lt_of_cell? _ _ kb1_0) (fun hc => by have := Z1.out; have := bkb0_0.out; have := bkb1_0.out; have := Z2.out; have := Z3.out; have := ZZp0.out; have := ZZp1.out; have := ZZp2.out; have := ZV.out; have := Z4.out; have := ZMx0_queries.out; have := ZMx0_fields.out; have := Z5.out; have := bkx0_0.out; have := Z6.out; have := bkx1_0.out; have := Z7.out; have := Z8.out; have := Z9.out; have := Z10.out; have := Z11.out; have := Z12.out; have := Z13.out; rcases hc with hc | hc <;> (have := hc.1; have := hc.2; dsimp only at *; omega)))).trans kb1_0
        replace kb1_1 : wm0.cell? ⟨w.heap.size + 1, 1, none⟩ = some (u1_vals) := (World.cell?_of_block (w := w12) (dm0.block _ (World.block_lt_of_cell? _ _ kb1_1) (fun hc => by have := Z1.out; have := bkb0_0.out; have := bkb1_0.out; have := Z2.out; have := Z3.out; have := ZZp0.out; have := ZZp1.out; have := ZZp2.out; have := ZV.out; have := Z4.out; have := ZMx0_queries.out; have := ZMx0_fields.out; have := Z5.out; have := bkx0_0.out; have := Z6.out; have := bkx1_0.out; have := Z7.out; have := Z8.out; have := Z9.out; have := Z10.out; have := Z11.out; have := Z12.out; have := Z13.out; rcases hc with hc | hc <;> (have := hc.1; have := hc.2; dsimp only at *; omega)))).trans kb1_1
        replace kx0_0 : wm0.cell? ⟨w4.heap.size, 0, none⟩ = some (.slice ax0_queries nx0_queries cx0_queries) := (World.cell?_of_block (w := w12) (dm0.block _ (World.block_lt_of_cell? _ _ kx0_0) (fun hc => by have := Z1.out; have := bkb0_0.out; have := bkb1_0.out; have := Z2.out; have := Z3.out; have := ZZp0.out; have := ZZp1.out; have := ZZp2.out; have := ZV.out; have := Z4.out; have := ZMx0_queries.out; have := ZMx0_fields.out; have := Z5.out; have := bkx0_0.out; have := Z6.out; have := bkx1_0.out; have := Z7.out; have := Z8.out; have := Z9.out; have := Z10.out; have := Z11.out; have := Z12.out; have := Z13.out; rcases hc with hc | hc <;> (have := hc.1; have := hc.2; dsimp only at *; omega)))).trans kx0_0
        replace kx0_1 : wm0.cell? ⟨w4.heap.size, 1, none⟩ = some (.slice ax0_fields nx0_fields cx0_fields) := (World.cell?_of_block (w := w12) (dm0.block _ (World.block_lt_of_cell? _ _ kx0_1) (fun hc => by have := Z1.out; have := bkb0_0.out; have := bkb1_0.out; have := Z2.out; have := Z3.out; have := ZZp0.out; have := ZZp1.out; have := ZZp2.out; have := ZV.out; have := Z4.out; have := ZMx0_queries.out; have := ZMx0_fields.out; have := Z5.out; have := bkx0_0.out; have := Z6.out; have := bkx1_0.out; have := Z7.out; have := Z8.out; have := Z9.out; have := Z10.out; have := Z11.out; have := Z12.out; have := Z13.out; rcases hc with hc | hc <;> (have := hc.1; have := hc.2; dsimp only at *; omega)))).trans kx0_1
        replace kx1_0 : wm0.cell? ⟨w5.heap.size, 0, none⟩ = some (.int .i64 x1.id) := (World.cell?_of_block (w := w12) (dm0.block _ (World.block_lt_of_cell? _ _ kx1_0) (fun hc => by have := Z1.out; have := bkb0_0.out; have := bkb1_0.out; have := Z2.out; have := Z3.out; have := ZZp0.out; have := ZZp1.out; have := ZZp2.out; have := ZV.out; have := Z4.out; have := ZMx0_queries.out; have := ZMx0_fields.out; have := Z5.out; have := bkx0_0.out; have := Z6.out; have := bkx1_0.out; have := Z7.out; have := Z8.out; have := Z9.out; have := Z10.out; have := Z11.out; have := Z12.out; have := Z13.out; rcases hc with hc | hc <;> (have := hc.1; have := hc.2; dsimp only at *; omega)))).trans kx1_0
        replace kx1_1 : wm0.cell? ⟨w5.heap.size, 1, none⟩ = some (.slice ax1_vals nx1_vals cx1_vals) := (World.cell?_of_block (w := w12) (dm0.block _ (World.block_lt_of_cell? _ _ kx1_1) (fun hc => by have := Z1.out; have := bkb0_0.out; have := bkb1_0.out; have := Z2.out; have := Z3.out; have := ZZp0.out; have := ZZp1.out; have := ZZp2.out; have := ZV.out; have := Z4.out; have := ZMx0_queries.out; have := ZMx0_fields.out; have := Z5.out; have := bkx0_0.out; have := Z6.out; have := bkx1_0.out; have := Z7.out; have := Z8.out; have := Z9.out; have := Z10.out; have := Z11.out; have := Z12.out; have := Z13.out; rcases hc with hc | hc <;> (have := hc.1; have := hc.2; dsimp only at *; omega)))).trans kx1_1
        clear hx0_queries
        clear hx0_fields
        have cu0 : 0 ≤ (((1 : Int) + (sumT cntQuery x0.queries : Int)) + (sumT (sumT cntSpan) x0.fields : Int)) := by omega
        have cb1 := HQ1.out
        have cm1_vals := cnt_IntS x1.vals
        unfold totRow at cb1
        go_wp2_with fail
        refine (laws_markRow (In (w4.heap.size + 1) w5.heap.size) x1 _ (((1 : Int) + (sumT cntQuery x0.queries : Int)) + (sumT (sumT cntSpan) x0.fields : Int)) _ hx1_vals.out (fun b hb => by have := Z1.out; have := bkb0_0.out; have := bkb1_0.out; have := Z2.out; have := Z3.out; have := ZZp0.out; have := ZZp1.out; have := ZZp2.out; have := ZV.out; have := Z4.out; have := ZMx0_queries.out; have := ZMx0_fields.out; have := Z5.out; have := bkx0_0.out; have := Z6.out; have := bkx1_0.out; have := Z7.out; have := Z8.out; have := Z9.out; have := Z10.out; have := Z11.out; have := Z12.out; have := Z13.out; have := hb.2; omega) (by omega) (by omega)).mono ?_
        rintro e wm1 ⟨rfl, _, dm1⟩
        have Z14 : Hid (wm0.heap.size ≤ wm1.heap.size) := Lib.hid dm1.size
        replace gw : Hid (Gr w wm1) := Lib.hid (Gr.trans' gw.out (dm1.below (fun b hb => by have := Z1.out; have := bkb0_0.out; have := bkb1_0.out; have := Z2.out; have := Z3.out; have := ZZp0.out; have := ZZp1.out; have := ZZp2.out; have := ZV.out; have := Z4.out; have := ZMx0_queries.out; have := ZMx0_fields.out; have := Z5.out; have := bkx0_0.out; have := Z6.out; have := bkx1_0.out; have := Z7.out; have := Z8.out; have := Z9.out; have := Z10.out; have := Z11.out; have := Z12.out; have := Z13.out; have := Z14.out; have := hb.1; omega) (gw.out.size)))
        replace gv : Hid (Gr wpf wm1) := Lib.hid (Gr.trans' gv.out (dm1.below (fun b hb => by have := Z1.out; have := bkb0_0.out; have := bkb1_0.out; have := Z2.out; have := Z3.out; have := ZZp0.out; have := ZZp1.out; have := ZZp2.out; have := ZV.out; have := Z4.out; have := ZMx0_queries.out; have := ZMx0_fields.out; have := Z5.out; have := bkx0_0.out; have := Z6.out; have := bkx1_0.out; have := Z7.out; have := Z8.out; have := Z9.out; have := Z10.out; have := Z11.out; have := Z12.out; have := Z13.out; have := Z14.out; have := hb.1; omega) (gv.out.size)))
        replace h0_queries : Hid (RQueries wm1 u0_queries x0.queries) := Lib.hid (RSlice.mono keeps_query gw.out Bh0_queries.out)
        replace h0_fields : Hid (RSpanss wm1 u0_fields x0.fields) := Lib.hid (RSlice.mono (keeps_of keeps_span) gw.out Bh0_fields.out)
        replace h1_vals : Hid (RInts wm1 u1_vals x1.vals) := Lib.hid (RSlice.mono keeps_int gw.out Bh1_vals.out)
        replace hv2 : Hid (RInts wm1 (.slice a2 x2.length c2) x2) := Lib.hid (RSlice.mono keeps_int gw.out Bhv2.out)
        replace hw0 : Hid (RInts wm1 (.slice aw0 nw0 cw0) (probeL x0 x1 x2).1) := Lib.hid (RSlice.mono keeps_int gv.out Bhw0.out)
        replace hx2 : Hid (PInts (In (w5.heap.size + 1) w6.heap.size) wm1 (.slice ax2 nx2 cx2) x2) := Lib.hid (OSl.frame fr_int hx2.out (dm1.agree fun b hb hc => by have := Z1.out; have := bkb0_0.out; have := bkb1_0.out; have := Z2.out; have := Z3.out; have := ZZp0.out; have := ZZp1.out; have := ZZp2.out; have := ZV.out; have := Z4.out; have := ZMx0_queries.out; have := ZMx0_fields.out; have := Z5.out; have := bkx0_0.out; have := Z6.out; have := bkx1_0.out; have := Z7.out; have := Z8.out; have := Z9.out; have := Z10.out; have := Z11.out; have := Z12.out; have := Z13.out; have := Z14.out; have := hb.1; have := hb.2; have := hc.1; have := hc.2; omega))
        replace hg0 : Hid (PInts (In w6.heap.size w7.heap.size) wm1 (.slice ag0 ng0 cg0) (probeL x0 x1 x2).1) := Lib.hid (OSl.frame fr_int hg0.out (dm1.agree fun b hb hc => by have := Z1.out; have := bkb0_0.out; have := bkb1_0.out; have := Z2.out; have := Z3.out; have := ZZp0.out; have := ZZp1.out; have := ZZp2.out; have := ZV.out; have := Z4.out; have := ZMx0_queries.out; have := ZMx0_fields.out; have := Z5.out; have := bkx0_0.out; have := Z6.out; have := bkx1_0.out; have := Z7.out; have := Z8.out; have := Z9.out; have := Z10.out; have := Z11.out; have := Z12.out; have := Z13.out; have := Z14.out; have := hb.1; have := hb.2; have := hc.1; have := hc.2; omega))
        replace kb0_0 : wm1.cell? ⟨w.heap.size, 0, none⟩ = some (u0_queries) := (World.cell?_of_block (w := wm0) (dm1.block _ (World.block_lt_of_cell? _ _ kb0_0) (fun hc => by have := Z1.out; have := bkb0_0.out; have := bkb1_0.out; have := Z2.out; have := Z3.out; have := ZZp0.out; have := ZZp1.out; have := ZZp2.out; have := ZV.out; have := Z4.out; have := ZMx0_queries.out; have := ZMx0_fields.out; have := Z5.out; have := bkx0_0.out; have := Z6.out; have := bkx1_0.out; have := Z7.out; have := Z8.out; have := Z9.out; have := Z10.out; have := Z11.out; have := Z12.out; have := Z13.out; have := Z14.out; have := hc.1; have := hc.2; dsimp only at *; omega))).trans kb0_0
        replace kb0_1 : wm1.cell? ⟨w.heap.size, 1, none⟩ = some (u0_fields) := (World.cell?_of_block (w := wm0) (dm1.block _ (World.block_lt_of_cell? _ _ kb0_1) (fun hc => by have := Z1.out; have := bkb0_0.out; have := bkb1_0.out; have := Z2.out; have := Z3.out; have := ZZp0.out; have := ZZp1.out; have := ZZp2.out; have := ZV.out; have := Z4.out; have := ZMx0_queries.out; have := ZMx0_fields.out; have := Z5.out; have := bkx0_0.out; have := Z6.out; have := bkx1_0.out; have := Z7.out; have := Z8.out; have := Z9.out; have := Z10.out; have := Z11.out; have := Z12.out; have := Z13.out; have := Z14.out; have := hc.1; have := hc.2; dsimp only at *; omega))).trans kb0_1
        replace kb1_0 : wm1.cell? ⟨w.heap.size + 1, 0, none⟩ = some (.int .i64 x1.id) := (World.cell?_of_block (w := wm0) (dm1.block _ (World.block_lt_of_cell? _ _ kb1_0) (fun hc => by have := Z1.out; have := bkb0_0.out; have := bkb1_0.out; have := Z2.out; have := Z3.out; have := ZZp0.out; have := ZZp1.out; have := ZZp2.out; have := ZV.out; have := Z4.out; have := ZMx0_queries.out; have := ZMx0_fields.out; have := Z5.out; have := bkx0_0.out; have := Z6.out; have := bkx1_0.out; have := Z7.out; have := Z8.out; have := Z9.out; have := Z10.out; have := Z11.out; have := Z12.out; have := Z13.out; have := Z14.out; have := hc.1; have := hc.2; dsimp only at *; omega))).trans kb1_0
        replace kb1_1 : wm1.cell? ⟨w.heap.size + 1, 1, none⟩ = some (u1_vals) := (World.cell?_of_block (w := wm0) (dm1.block _ (World.block_lt_of_cell? _ _ kb1_1) (fun hc => by have := Z1.out; have := bkb0_0.out; have := bkb1_0.out; have := Z2.out; have := Z3.out; have := ZZp0.out; have := ZZp1.out; have := ZZp2.out; have := ZV.out; have := Z4.out; have := ZMx0_queries.out; have := ZMx0_fields.out; have := Z5.out; have := bkx0_0.out; have := Z6.out; have := bkx1_0.out; have := Z7.out; have := Z8.out; have := Z9.out; have := Z10.out; have := Z11.out; have := Z12.out; have := Z13.out; have := Z14.out; have := hc.1; have := hc.2; dsimp only at *; omega))).trans kb1_1
        replace kx0_0 : wm1.cell? ⟨w4.heap.size, 0, none⟩ = some (.slice ax0_queries nx0_queries cx0_queries) := (World.cell?_of_block (w := wm0) (dm1.block _ (World.block_lt_of_cell? _ _ kx0_0) (fun hc => by have := Z1.out; have := bkb0_0.out; have := bkb1_0.out; have := Z2.out; have := Z3.out; have := ZZp0.out; have := ZZp1.out; have := ZZp2.out; have := ZV.out; have := Z4.out; have := ZMx0_queries.out; have := ZMx0_fields.out; have := Z5.out; have := bkx0_0.out; have := Z6.out; have := bkx1_0.out; have := Z7.out; have := Z8.out; have := Z9.out; have := Z10.out; have := Z11.out; have := Z12.out; have := Z13.out; have := Z14.out; have := hc.1; have := hc.2; dsimp only at *; omega))).trans kx0_0
        replace kx0_1 : wm1.cell? ⟨w4.heap.size, 1, none⟩ = some (.slice ax0_fields nx0_fields cx0_fields) := (World.cell?_of_block (w := wm0) (dm1.block _ (World.block_lt_of_cell? _ _ kx0_1) (fun hc => by have := Z1.out; have := bkb0_0.out; have := bkb1_0.out; have := Z2.out; have := Z3.out; have := ZZp0.out; have := ZZp1.out; have := ZZp2.out; have := ZV.out; have := Z4.out; have := ZMx0_queries.out; have := ZMx0_fields.out; have := Z5.out; have := bkx0_0.out; have := Z6.out; have := bkx1_0.out; have := Z7.out; have := Z8.out; have := Z9.out; have := Z10.out; have := Z11.out; have := Z12.out; have := Z13.out; have := Z14.out; have := hc.1; have := hc.2; dsimp only at *; omega))).trans kx0_1
        replace kx1_0 : wm1.cell? ⟨w5.heap.size, 0, none⟩ = some (.int .i64 x1.id) := (World.cell?_of_block (w := wm0) (dm1.block _ (World.block_lt_of_cell? _ _ kx1_0) (fun hc => by have := Z1.out; have := bkb0_0.out; have := bkb1_0.out; have := Z2.out; have := Z3.out; have := ZZp0.out; have := ZZp1.out; have := ZZp2.out; have := ZV.out; have := Z4.out; have := ZMx0_queries.out; have := ZMx0_fields.out; have := Z5.out; have := bkx0_0.out; have := Z6.out; have := bkx1_0.out; have := Z7.out; have := Z8.out; have := Z9.out; have := Z10.out; have := Z11.out; have := Z12.out; have := Z13.out; have := Z14.out; have := hc.1; have := hc.2; dsimp only at *; omega))).trans kx1_0
        replace kx1_1 : wm1.cell? ⟨w5.heap.size, 1, none⟩ = some (.slice ax1_vals nx1_vals cx1_vals) := (World.cell?_of_block (w := wm0) (dm1.block _ (World.block_lt_of_cell? _ _ kx1_1) (fun hc => by have := Z1.out; have := bkb0_0.out; have := bkb1_0.out; have := Z2.out; have := Z3.out; have := ZZp0.out; have := ZZp1.out; have := ZZp2.out; have := ZV.out; have := Z4.out; have := ZMx0_queries.out; have := ZMx0_fields.out; have := Z5.out; have := bkx0_0.out; have := Z6.out; have := bkx1_0.out; have := Z7.out; have := Z8.out; have := Z9.out; have := Z10.out; have := Z11.out; have := Z12.out; have := Z13.out; have := Z14.out; have := hc.1; have := hc.2; dsimp only at *; omega))).trans kx1_1
        clear hx1_vals
        have cu1 : 0 ≤ ((((1 : Int) + (sumT cntQuery x0.queries : Int)) + (sumT (sumT cntSpan) x0.fields : Int)) + (sumT cntI x1.vals : Int)) := by omega
        have cb2 := HQ2.out
        have cm2 := cnt_IntS x2
        go_wp2_with fail
        refine (laws_markIntS (In (w5.heap.size + 1) w6.heap.size) _ x2 ((((1 : Int) + (sumT cntQuery x0.queries : Int)) + (sumT (sumT cntSpan) x0.fields : Int)) + (sumT cntI x1.vals : Int)) _ hx2.out (by omega) (by omega)).mono ?_
        rintro e wm2 ⟨rfl, _, dm2⟩
        have Z15 : Hid (wm1.heap.size ≤ wm2.heap.size) := Lib.hid dm2.size
        replace gw : Hid (Gr w wm2) := Lib.hid (Gr.trans' gw.out (dm2.below (fun b hb => by have := Z1.out; have := bkb0_0.out; have := bkb1_0.out; have := Z2.out; have := Z3.out; have := ZZp0.out; have := ZZp1.out; have := ZZp2.out; have := ZV.out; have := Z4.out; have := ZMx0_queries.out; have := ZMx0_fields.out; have := Z5.out; have := bkx0_0.out; have := Z6.out; have := bkx1_0.out; have := Z7.out; have := Z8.out; have := Z9.out; have := Z10.out; have := Z11.out; have := Z12.out; have := Z13.out; have := Z14.out; have := Z15.out; have := hb.1; omega) (gw.out.size)))
        replace gv : Hid (Gr wpf wm2) := Lib.hid (Gr.trans' gv.out (dm2.below (fun b hb => by have := Z1.out; have := bkb0_0.out; have := bkb1_0.out; have := Z2.out; have := Z3.out; have := ZZp0.out; have := ZZp1.out; have := ZZp2.out; have := ZV.out; have := Z4.out; have := ZMx0_queries.out; have := ZMx0_fields.out; have := Z5.out; have := bkx0_0.out; have := Z6.out; have := bkx1_0.out; have := Z7.out; have := Z8.out; have := Z9.out; have := Z10.out; have := Z11.out; have := Z12.out; have := Z13.out; have := Z14.out; have := Z15.out; have := hb.1; omega) (gv.out.size)))
        replace h0_queries : Hid (RQueries wm2 u0_queries x0.queries) := Lib.hid (RSlice.mono keeps_query gw.out Bh0_queries.out)
        replace h0_fields : Hid (RSpanss wm2 u0_fields x0.fields) := Lib.hid (RSlice.mono (keeps_of keeps_span) gw.out Bh0_fields.out)
        replace h1_vals : Hid (RInts wm2 u1_vals x1.vals) := Lib.hid (RSlice.mono keeps_int gw.out Bh1_vals.out)
        replace hv2 : Hid (RInts wm2 (.slice a2 x2.length c2) x2) := Lib.hid (RSlice.mono keeps_int gw.out Bhv2.out)
        replace hw0 : Hid (RInts wm2 (.slice aw0 nw0 cw0) (probeL x0 x1 x2).1) := Lib.hid (RSlice.mono keeps_int gv.out Bhw0.out)
        replace hg0 : Hid (PInts (In w6.heap.size w7.heap.size) wm2 (.slice ag0 ng0 cg0) (probeL x0 x1 x2).1) := Lib.hid (OSl.frame fr_int hg0.out (dm2.agree fun b hb hc => by have := Z1.out; have := bkb0_0.out; have := bkb1_0.out; have := Z2.out; have := Z3.out; have := ZZp0.out; have := ZZp1.out; have := ZZp2.out; have := ZV.out; have := Z4.out; have := ZMx0_queries.out; have := ZMx0_fields.out; have := Z5.out; have := bkx0_0.out; have := Z6.out; have := bkx1_0.out; have := Z7.out; have := Z8.out; have := Z9.out; have := Z10.out; have := Z11.out; have := Z12.out; have := Z13.out; have := Z14.out; have := Z15.out; have := hb.1; have := hb.2; have := hc.1; have := hc.2; omega))
        replace kb0_0 : wm2.cell? ⟨w.heap.size, 0, none⟩ = some (u0_queries) := (World.cell?_of_block (w := wm1) (dm2.block _ (World.block_lt_of_cell? _ _ kb0_0) (fun hc => by have := Z1.out; have := bkb0_0.out; have := bkb1_0.out; have := Z2.out; have := Z3.out; have := ZZp0.out; have := ZZp1.out; have := ZZp2.out; have := ZV.out; have := Z4.out; have := ZMx0_queries.out; have := ZMx0_fields.out; have := Z5.out; have := bkx0_0.out; have := Z6.out; have := bkx1_0.out; have := Z7.out; have := Z8.out; have := Z9.out; have := Z10.out; have := Z11.out; have := Z12.out; have := Z13.out; have := Z14.out; have := Z15.out; have := hc.1; have := hc.2; dsimp only at *; omega))).trans kb0_0
        replace kb0_1 : wm2.cell? ⟨w.heap.size, 1, none⟩ = some (u0_fields) := (World.cell?_of_block (w := wm1) (dm2.block _ (World.block_lt_of_cell? _ _ kb0_1) (fun hc => by have := Z1.out; have := bkb0_0.out; have := bkb1_0.out; have := Z2.out; have := Z3.out; have := ZZp0.out; have := ZZp1.out; have := ZZp2.out; have := ZV.out; have := Z4.out; have := ZMx0_queries.out; have := ZMx0_fields.out; have := Z5.out; have := bkx0_0.out; have := Z6.out; have := bkx1_0.out; have := Z7.out; have := Z8.out; have := Z9.out; have := Z10.out; have := Z11.out; have := Z12.out; have := Z13.out; have := Z14.out; have := Z15.out; have := hc.1; have := hc.2; dsimp only at *; omega))).trans kb0_1
        replace kb1_0 : wm2.cell? ⟨w.heap.size + 1, 0, none⟩ = some (.int .i64 x1.id) := (World.cell?_of_block (w := wm1) (dm2.block _ (World.block_lt_of_cell? _ _ kb1_0) (fun hc => by have := Z1.out; have := bkb0_0.out; have := bkb1_0.out; have := Z2.out; have := Z3.out; have := ZZp0.out; have := ZZp1.out; have := ZZp2.out; have := ZV.out; have := Z4.out; have := ZMx0_queries.out; have := ZMx0_fields.out; have := Z5.out; have := bkx0_0.out; have := Z6.out; have := bkx1_0.out; have := Z7.out; have := Z8.out; have := Z9.out; have := Z10.out; have := Z11.out; have := Z12.out; have := Z13.out; have := Z14.out; have := Z15.out; have := hc.1; have := hc.2; dsimp only at *; omega))).trans kb1_0
        replace kb1_1 : wm2.cell? ⟨w.heap.size + 1, 1, none⟩ = some (u1_vals) := (World.cell?_of_block (w := wm1) (dm2.block _ (World.block_lt_of_cell? _ _ kb1_1) (fun hc => by have := Z1.out; have := bkb0_0.out; have := bkb1_0.out; have := Z2.out; have := Z3.out; have := ZZp0.out; have := ZZp1.out; have := ZZp2.out; have := ZV.out; have := Z4.out; have := ZMx0_queries.out; have := ZMx0_fields.out; have := Z5.out; have := bkx0_0.out; have := Z6.out; have := bkx1_0.out; have := Z7.out; have := Z8.out; have := Z9.out; have := Z10.out; have := Z11.out; have := Z12.out; have := Z13.out; have := Z14.out; have := Z15.out; have := hc.1; have := hc.2; dsimp only at *; omega))).trans kb1_1
        replace kx0_0 : wm2.cell? ⟨w4.heap.size, 0, none⟩ = some (.slice ax0_queries nx0_queries cx0_queries) := (World.cell?_of_block (w := wm1) (dm2.block _ (World.block_lt_of_cell? _ _ kx0_0) (fun hc => by have := Z1.out; have := bkb0_0.out; have := bkb1_0.out; have := Z2.out; have := Z3.out; have := ZZp0.out; have := ZZp1.out; have := ZZp2.out; have := ZV.out; have := Z4.out; have := ZMx0_queries.out; have := ZMx0_fields.out; have := Z5.out; have := bkx0_0.out; have := Z6.out; have := bkx1_0.out; have := Z7.out; have := Z8.out; have := Z9.out; have := Z10.out; have := Z11.out; have := Z12.out; have := Z13.out; have := Z14.out; have := Z15.out; have := hc.1; have := hc.2; dsimp only at *; omega))).trans kx0_0
        replace kx0_1 : wm2.cell? ⟨w4.heap.size, 1, none⟩ = some (.slice ax0_fields nx0_fields cx0_fields) := (World.cell?_of_block (w := wm1) (dm2.block _ (World.block_lt_of_cell? _ _ kx0_1) (fun hc => by have := Z1.out; have := bkb0_0.out; have := bkb1_0.out; have := Z2.out; have := Z3.out; have := ZZp0.out; have := ZZp1.out; have := ZZp2.out; have := ZV.out; have := Z4.out; have := ZMx0_queries.out; have := ZMx0_fields.out; have := Z5.out; have := bkx0_0.out; have := Z6.out; have := bkx1_0.out; have := Z7.out; have := Z8.out; have := Z9.out; have := Z10.out; have := Z11.out; have := Z12.out; have := Z13.out; have := Z14.out; have := Z15.out; have := hc.1; have := hc.2; dsimp only at *; omega))).trans kx0_1
        replace kx1_0 : wm2.cell? ⟨w5.heap.size, 0, none⟩ = some (.int .i64 x1.id) := (World.cell?_of_block (w := wm1) (dm2.block _ (World.block_lt_of_cell? _ _ kx1_0) (fun hc => by have := Z1.out; have := bkb0_0.out; have := bkb1_0.out; have := Z2.out; have := Z3.out; have := ZZp0.out; have := ZZp1.out; have := ZZp2.out; have := ZV.out; have := Z4.out; have := ZMx0_queries.out; have := ZMx0_fields.out; have := Z5.out; have := bkx0_0.out; have := Z6.out; have := bkx1_0.out; have := Z7.out; have := Z8.out; have := Z9.out; have := Z10.out; have := Z11.out; have := Z12.out; have := Z13.out; have := Z14.out; have := Z15.out; have := hc.1; have := hc.2; dsimp only at *; omega))).trans kx1_0
        replace kx1_1 : wm2.cell? ⟨w5.heap.size, 1, none⟩ = some (.slice ax1_vals nx1_vals cx1_vals) := (World.cell?_of_block (w := wm1) (dm2.block _ (World.block_lt_of_cell? _ _ kx1_1) (fun hc => by have := Z1.out; have := bkb0_0.out; have := bkb1_0.out; have := Z2.out; have := Z3.out; have := ZZp0.out; have := ZZp1.out; have := ZZp2.out; have := ZV.out; have := Z4.out; have := ZMx0_queries.out; have := ZMx0_fields.out; have := Z5.out; have := bkx0_0.out; have := Z6.out; have := bkx1_0.out; have := Z7.out; have := Z8.out; have := Z9.out; have := Z10.out; have := Z11.out; have := Z12.out; have := Z13.out; have := Z14.out; have := Z15.out; have := hc.1; have := hc.2; dsimp only at *; omega))).trans kx1_1
        clear hx2
        have cu2 : 0 ≤ (((((1 : Int) + (sumT cntQuery x0.queries : Int)) + (sumT (sumT cntSpan) x0.fields : Int)) + (sumT cntI x1.vals : Int)) + (sumT cntI x2 : Int)) := by omega
        clear kx0_0
        clear kx0_1
        clear kx1_0
        clear kx1_1
        go_wp2_with fail
        refine (laws_eqIntS_same _ _ (probeL x0 x1 x2).1 _ (rd_pints hg0.out) hw0.out).mono ?_
        rintro e w16 ⟨rfl, g16⟩
        have Z16 : Hid (wm2.heap.size + 0 ≤ w16.heap.size) := Lib.hid (by have := g16.size; simpa using this)
        replace h0_queries : Hid (RQueries w16 u0_queries x0.queries) := Lib.hid (RSlice.mono keeps_query g16 h0_queries.out)
        replace h0_fields : Hid (RSpanss w16 u0_fields x0.fields) := Lib.hid (RSlice.mono (keeps_of keeps_span) g16 h0_fields.out)
        replace h1_vals : Hid (RInts w16 u1_vals x1.vals) := Lib.hid (RSlice.mono keeps_int g16 h1_vals.out)
        replace hv2 : Hid (RInts w16 (.slice a2 x2.length c2) x2) := Lib.hid (RSlice.mono keeps_int g16 hv2.out)
        replace hw0 : Hid (RInts w16 (.slice aw0 nw0 cw0) (probeL x0 x1 x2).1) := Lib.hid (RSlice.mono keeps_int g16 hw0.out)
        replace hg0 : Hid (PInts (In w6.heap.size w7.heap.size) w16 (.slice ag0 ng0 cg0) (probeL x0 x1 x2).1) := Lib.hid (OSl.gr fr_int hg0.out g16)
        replace kb0_0 : w16.cell? ⟨w.heap.size, 0, none⟩ = some (u0_queries) := g16.cellv kb0_0
        replace kb0_1 : w16.cell? ⟨w.heap.size, 1, none⟩ = some (u0_fields) := g16.cellv kb0_1
        replace kb1_0 : w16.cell? ⟨w.heap.size + 1, 0, none⟩ = some (.int .i64 x1.id) := g16.cellv kb1_0
        replace kb1_1 : w16.cell? ⟨w.heap.size + 1, 1, none⟩ = some (u1_vals) := g16.cellv kb1_1
        replace gw : Hid (Gr w w16) := Lib.hid (gw.out.trans g16)
        replace gv : Hid (Gr wpf w16) := Lib.hid (gv.out.trans g16)
        have HBR := Lib.hid (show (1 : Int) + (sumT cntI (probeL x0 x1 x2).1 : Int) ≤ 4611686018427387904 from by have := probeL_small x0 x1 x2; omega)
        have hbr := HBR.out
        go_wp2_with fail
        refine (laws_markIntS (In w6.heap.size w7.heap.size) _ (probeL x0 x1 x2).1 (1 : Int) _ hg0.out (by omega) (by omega)).mono ?_
        rintro e wg0 ⟨rfl, qhg0, dg0⟩
        have Z17 : Hid (w16.heap.size ≤ wg0.heap.size) := Lib.hid dg0.size
        replace gw : Hid (Gr w wg0) := Lib.hid (Gr.trans' gw.out (dg0.below (fun b hb => by have := Z1.out; have := bkb0_0.out; have := bkb1_0.out; have := Z2.out; have := Z3.out; have := ZZp0.out; have := ZZp1.out; have := ZZp2.out; have := ZV.out; have := Z4.out; have := ZMx0_queries.out; have := ZMx0_fields.out; have := Z5.out; have := bkx0_0.out; have := Z6.out; have := bkx1_0.out; have := Z7.out; have := Z8.out; have := Z9.out; have := Z10.out; have := Z11.out; have := Z12.out; have := Z13.out; have := Z14.out; have := Z15.out; have := Z16.out; have := Z17.out; have := hb.1; omega) (gw.out.size)))
        replace gv : Hid (Gr wpf wg0) := Lib.hid (Gr.trans' gv.out (dg0.below (fun b hb => by have := Z1.out; have := bkb0_0.out; have := bkb1_0.out; have := Z2.out; have := Z3.out; have := ZZp0.out; have := ZZp1.out; have := ZZp2.out; have := ZV.out; have := Z4.out; have := ZMx0_queries.out; have := ZMx0_fields.out; have := Z5.out; have := bkx0_0.out; have := Z6.out; have := bkx1_0.out; have := Z7.out; have := Z8.out; have := Z9.out; have := Z10.out; have := Z11.out; have := Z12.out; have := Z13.out; have := Z14.out; have := Z15.out; have := Z16.out; have := Z17.out; have := hb.1; omega) (gv.out.size)))
        replace h0_queries : Hid (RQueries wg0 u0_queries x0.queries) := Lib.hid (RSlice.mono keeps_query gw.out Bh0_queries.out)
        replace h0_fields : Hid (RSpanss wg0 u0_fields x0.fields) := Lib.hid (RSlice.mono (keeps_of keeps_span) gw.out Bh0_fields.out)
        replace h1_vals : Hid (RInts wg0 u1_vals x1.vals) := Lib.hid (RSlice.mono keeps_int gw.out Bh1_vals.out)
        replace hv2 : Hid (RInts wg0 (.slice a2 x2.length c2) x2) := Lib.hid (RSlice.mono keeps_int gw.out Bhv2.out)
        replace hw0 : Hid (RInts wg0 (.slice aw0 nw0 cw0) (probeL x0 x1 x2).1) := Lib.hid (RSlice.mono keeps_int gv.out Bhw0.out)
        replace kb0_0 : wg0.cell? ⟨w.heap.size, 0, none⟩ = some (u0_queries) := (World.cell?_of_block (w := w16) (dg0.block _ (World.block_lt_of_cell? _ _ kb0_0) (fun hc => by have := Z1.out; have := bkb0_0.out; have := bkb1_0.out; have := Z2.out; have := Z3.out; have := ZZp0.out; have := ZZp1.out; have := ZZp2.out; have := ZV.out; have := Z4.out; have := ZMx0_queries.out; have := ZMx0_fields.out; have := Z5.out; have := bkx0_0.out; have := Z6.out; have := bkx1_0.out; have := Z7.out; have := Z8.out; have := Z9.out; have := Z10.out; have := Z11.out; have := Z12.out; have := Z13.out; have := Z14.out; have := Z15.out; have := Z16.out; have := Z17.out; have := hc.1; have := hc.2; dsimp only at *; omega))).trans kb0_0
        replace kb0_1 : wg0.cell? ⟨w.heap.size, 1, none⟩ = some (u0_fields) := (World.cell?_of_block (w := w16) (dg0.block _ (World.block_lt_of_cell? _ _ kb0_1) (fun hc => by have := Z1.out; have := bkb0_0.out; have := bkb1_0.out; have := Z2.out; have := Z3.out; have := ZZp0.out; have := ZZp1.out; have := ZZp2.out; have := ZV.out; have := Z4.out; have := ZMx0_queries.out; have := ZMx0_fields.out; have := Z5.out; have := bkx0_0.out; have := Z6.out; have := bkx1_0.out; have := Z7.out; have := Z8.out; have := Z9.out; have := Z10.out; have := Z11.out; have := Z12.out; have := Z13.out; have := Z14.out; have := Z15.out; have := Z16.out; have := Z17.out; have := hc.1; have := hc.2; dsimp only at *; omega))).trans kb0_1
        replace kb1_0 : wg0.cell? ⟨w.heap.size + 1, 0, none⟩ = some (.int .i64 x1.id) := (World.cell?_of_block (w := w16) (dg0.block _ (World.block_lt_of_cell? _ _ kb1_0) (fun hc => by have := Z1.out; have := bkb0_0.out; have := bkb1_0.out; have := Z2.out; have := Z3.out; have := ZZp0.out; have := ZZp1.out; have := ZZp2.out; have := ZV.out; have := Z4.out; have := ZMx0_queries.out; have := ZMx0_fields.out; have := Z5.out; have := bkx0_0.out; have := Z6.out; have := bkx1_0.out; have := Z7.out; have := Z8.out; have := Z9.out; have := Z10.out; have := Z11.out; have := Z12.out; have := Z13.out; have := Z14.out; have := Z15.out; have := Z16.out; have := Z17.out; have := hc.1; have := hc.2; dsimp only at *; omega))).trans kb1_0
        replace kb1_1 : wg0.cell? ⟨w.heap.size + 1, 1, none⟩ = some (u1_vals) := (World.cell?_of_block (w := w16) (dg0.block _ (World.block_lt_of_cell? _ _ kb1_1) (fun hc => by have := Z1.out; have := bkb0_0.out; have := bkb1_0.out; have := Z2.out; have := Z3.out; have := ZZp0.out; have := ZZp1.out; have := ZZp2.out; have := ZV.out; have := Z4.out; have := ZMx0_queries.out; have := ZMx0_fields.out; have := Z5.out; have := bkx0_0.out; have := Z6.out; have := bkx1_0.out; have := Z7.out; have := Z8.out; have := Z9.out; have := Z10.out; have := Z11.out; have := Z12.out; have := Z13.out; have := Z14.out; have := Z15.out; have := Z16.out; have := Z17.out; have := hc.1; have := hc.2; dsimp only at *; omega))).trans kb1_1
        clear hg0
        have Mhg0 : Hid (RInts wg0 (.slice ag0 ng0 cg0) (marksTo mkI cntI (1 : Int) (probeL x0 x1 x2).1.length (probeL x0 x1 x2).1)) := Lib.hid (rd_pints qhg0)
        clear qhg0
        have hcg0 : 0 ≤ ((1 : Int) + (sumT cntI (probeL x0 x1 x2).1 : Int)) := by omega
        have ef : (((1 : Int) + (sumT cntI (probeL x0 x1 x2).1 : Int)) != ((1 : Int) + (sumT cntI (probeL x0 x1 x2).1 : Int))) = false := by simp
        go_wp2_with fail
        refine (laws_heldIntS _ (probeL x0 x1 x2).1 (1 : Int) _ Mhg0.out (by omega) (by omega)).mono ?_
        rintro e w18 ⟨rfl, g18⟩
        have Z18 : Hid (wg0.heap.size + 0 ≤ w18.heap.size) := Lib.hid (by have := g18.size; simpa using this)
        replace h0_queries : Hid (RQueries w18 u0_queries x0.queries) := Lib.hid (RSlice.mono keeps_query g18 h0_queries.out)
        replace h0_fields : Hid (RSpanss w18 u0_fields x0.fields) := Lib.hid (RSlice.mono (keeps_of keeps_span) g18 h0_fields.out)
        replace h1_vals : Hid (RInts w18 u1_vals x1.vals) := Lib.hid (RSlice.mono keeps_int g18 h1_vals.out)
        replace hv2 : Hid (RInts w18 (.slice a2 x2.length c2) x2) := Lib.hid (RSlice.mono keeps_int g18 hv2.out)
        replace hw0 : Hid (RInts w18 (.slice aw0 nw0 cw0) (probeL x0 x1 x2).1) := Lib.hid (RSlice.mono keeps_int g18 hw0.out)
        replace Mhg0 : Hid (RInts w18 (.slice ag0 ng0 cg0) (marksTo mkI cntI (1 : Int) (probeL x0 x1 x2).1.length (probeL x0 x1 x2).1)) := Lib.hid (RSlice.mono keeps_int g18 Mhg0.out)
        replace kb0_0 : w18.cell? ⟨w.heap.size, 0, none⟩ = some (u0_queries) := g18.cellv kb0_0
        replace kb0_1 : w18.cell? ⟨w.heap.size, 1, none⟩ = some (u0_fields) := g18.cellv kb0_1
        replace kb1_0 : w18.cell? ⟨w.heap.size + 1, 0, none⟩ = some (.int .i64 x1.id) := g18.cellv kb1_0
        replace kb1_1 : w18.cell? ⟨w.heap.size + 1, 1, none⟩ = some (u1_vals) := g18.cellv kb1_1
        replace gw : Hid (Gr w w18) := Lib.hid (gw.out.trans g18)
        replace gv : Hid (Gr wpf w18) := Lib.hid (gv.out.trans g18)
        -- drawn
        go_wp2
        go_region_held3 (fun w' => w'.cell? ⟨w.heap.size, 0, none⟩ = some (u0_queries) ∧ w'.cell? ⟨w.heap.size, 1, none⟩ = some (u0_fields) ∧ w'.cell? ⟨w.heap.size + 1, 0, none⟩ = some (.int .i64 x1.id) ∧ w'.cell? ⟨w.heap.size + 1, 1, none⟩ = some (u1_vals) ∧ RQueries w' u0_queries x0.queries ∧ RSpanss w' u0_fields x0.fields ∧ RInts w' u1_vals x1.vals ∧ RInts w' (.slice a2 x2.length c2) x2 ∧ RInts w' (.slice aw0 nw0 cw0) (probeL x0 x1 x2).1 ∧ RInts w' (.slice ag0 ng0 cg0) (marksTo mkI cntI (1 : Int) (probeL x0 x1 x2).1.length (probeL x0 x1 x2).1) ∧ Gr w18 w')
          (first | exact ⟨kb0_0, kb0_1, kb1_0, kb1_1, h0_queries.out, h0_fields.out, h1_vals.out, hv2.out, hw0.out, Mhg0.out, Gr.refl _⟩ | exact ⟨kb0_0, kb0_1, kb1_0, kb1_1, h0_queries.out, h0_fields.out, h1_vals.out, hv2.out, hw0.out, Mhg0.out, (Gr.refl _).drew⟩ | (go_split_ands; exact ⟨Gr.cellv gzf (by assumption), Gr.cellv gzf (by assumption), Gr.cellv gzf (by assumption), Gr.cellv gzf (by assumption), (RSlice.mono keeps_query gzf (by assumption)), (RSlice.mono (keeps_of keeps_span) gzf (by assumption)), (RSlice.mono keeps_int gzf (by assumption)), (RSlice.mono keeps_int gzf (by assumption)), (RSlice.mono keeps_int gzf (by assumption)), (RSlice.mono keeps_int gzf (by assumption)), Gr.trans (by assumption) gzf⟩) | (go_split_ands; exact ⟨Gr.cellv gz2 (by assumption), Gr.cellv gz2 (by assumption), Gr.cellv gz2 (by assumption), Gr.cellv gz2 (by assumption), (RSlice.mono keeps_query gz2 (by assumption)), (RSlice.mono (keeps_of keeps_span) gz2 (by assumption)), (RSlice.mono keeps_int gz2 (by assumption)), (RSlice.mono keeps_int gz2 (by assumption)), (RSlice.mono keeps_int gz2 (by assumption)), (RSlice.mono keeps_int gz2 (by assumption)), Gr.trans (by assumption) gz2⟩) | (go_split_ands; exact ⟨Gr.cellv gz1 (by assumption), Gr.cellv gz1 (by assumption), Gr.cellv gz1 (by assumption), Gr.cellv gz1 (by assumption), (RSlice.mono keeps_query gz1 (by assumption)), (RSlice.mono (keeps_of keeps_span) gz1 (by assumption)), (RSlice.mono keeps_int gz1 (by assumption)), (RSlice.mono keeps_int gz1 (by assumption)), (RSlice.mono keeps_int gz1 (by assumption)), (RSlice.mono keeps_int gz1 (by assumption)), Gr.trans (by assumption) gz1⟩) | (go_split_ands; exact ⟨Gr.cellv gz0 (by assumption), Gr.cellv gz0 (by assumption), Gr.cellv gz0 (by assumption), Gr.cellv gz0 (by assumption), (RSlice.mono keeps_query gz0 (by assumption)), (RSlice.mono (keeps_of keeps_span) gz0 (by assumption)), (RSlice.mono keeps_int gz0 (by assumption)), (RSlice.mono keeps_int gz0 (by assumption)), (RSlice.mono keeps_int gz0 (by assumption)), (RSlice.mono keeps_int gz0 (by assumption)), Gr.trans (by assumption) gz0⟩))
          (first | (go_at_call 57; go_split_ands; refine (laws_toIndex_own x0 u0_queries u0_fields _ (by assumption) (by assumption) HT0.out).mono ?_; rintro e wz0 ⟨vz0_queries, vz0_fields, rfl, gz0, mz0, hmz0, hnz0, r_hz0_queries, r_hz0_fields⟩) | (go_at_call 24; go_split_ands; refine (laws_toRow_own x1 u1_vals _ (by assumption) HT1.out).mono ?_; rintro e wz1 ⟨vz1_vals, rfl, gz1, r_hz1_vals⟩) | (go_at_call 65; go_split_ands; refine (laws_toIntS_own (.slice a2 x2.length c2) x2 _ (by assumption) HT2.out).mono ?_; rintro e wz2 ⟨_, rfl, ⟨az2, nz2, cz2, rfl⟩, gz2, r_hz2⟩) | (go_at_call 68; refine (impl_ProbeSet x0 _ _ x1 _ _ x2 _ (RSlice.mono keeps_query gz2 (RSlice.mono keeps_query gz1 (rd_pqueries r_hz0_queries))) (RSlice.mono (keeps_of keeps_span) gz2 (RSlice.mono (keeps_of keeps_span) gz1 (rd_pspanss r_hz0_fields))) (RSlice.mono keeps_int gz2 (rd_pints r_hz1_vals)) (rd_pints r_hz2) HT0.out).mono ?_; rintro e wzf ⟨vh0, rfl, gzf, r_hh0⟩))
        have hdr19 : Gr w18 w18.drew := (Gr.refl w18).drew
        have gs19 : Gr w18 wzf := ((((hdr19.trans gz0).trans gz1).trans gz2).trans gzf)
        have Z19 : Hid (w18.heap.size + 0 ≤ wzf.heap.size) := Lib.hid gs19.size
        have ZZz0 : Hid (w18.heap.size ≤ wz0.heap.size) := Lib.hid (by have := gz0.size; simpa using this)
        have ZZz1 : Hid (wz0.heap.size ≤ wz1.heap.size) := Lib.hid (by have := gz1.size; simpa using this)
        have ZZz2 : Hid (wz1.heap.size ≤ wz2.heap.size) := Lib.hid (by have := gz2.size; simpa using this)
        replace h0_queries : Hid (RQueries wzf u0_queries x0.queries) := Lib.hid (RSlice.mono keeps_query gs19 h0_queries.out)
        replace h0_fields : Hid (RSpanss wzf u0_fields x0.fields) := Lib.hid (RSlice.mono (keeps_of keeps_span) gs19 h0_fields.out)
        replace h1_vals : Hid (RInts wzf u1_vals x1.vals) := Lib.hid (RSlice.mono keeps_int gs19 h1_vals.out)
        replace hv2 : Hid (RInts wzf (.slice a2 x2.length c2) x2) := Lib.hid (RSlice.mono keeps_int gs19 hv2.out)
        replace hw0 : Hid (RInts wzf (.slice aw0 nw0 cw0) (probeL x0 x1 x2).1) := Lib.hid (RSlice.mono keeps_int gs19 hw0.out)
        replace Mhg0 : Hid (RInts wzf (.slice ag0 ng0 cg0) (marksTo mkI cntI (1 : Int) (probeL x0 x1 x2).1.length (probeL x0 x1 x2).1)) := Lib.hid (RSlice.mono keeps_int gs19 Mhg0.out)
        replace kb0_0 : wzf.cell? ⟨w.heap.size, 0, none⟩ = some (u0_queries) := gs19.cellv kb0_0
        replace kb0_1 : wzf.cell? ⟨w.heap.size, 1, none⟩ = some (u0_fields) := gs19.cellv kb0_1
        replace kb1_0 : wzf.cell? ⟨w.heap.size + 1, 0, none⟩ = some (.int .i64 x1.id) := gs19.cellv kb1_0
        replace kb1_1 : wzf.cell? ⟨w.heap.size + 1, 1, none⟩ = some (u1_vals) := gs19.cellv kb1_1
        replace gw : Hid (Gr w wzf) := Lib.hid (gw.out.trans gs19)
        replace gv : Hid (Gr wpf wzf) := Lib.hid (gv.out.trans gs19)
        obtain ⟨ah0, nh0, ch0, rfl⟩ := r_hh0.isSl
        have hh0 : Hid (PInts (In wz2.heap.size wzf.heap.size) wzf (.slice ah0 nh0 ch0) (probeL x0 x1 x2).1) := Lib.hid (r_hh0.wide (by simp) (by omega))
        clear r_hh0
        go_wp2_with fail
        refine (laws_eqIntS_same _ _ (probeL x0 x1 x2).1 _ (rd_pints hh0.out) hw0.out).mono ?_
        rintro e w20 ⟨rfl, g20⟩
        have Z20 : Hid (wzf.heap.size + 0 ≤ w20.heap.size) := Lib.hid (by have := g20.size; simpa using this)
        replace h0_queries : Hid (RQueries w20 u0_queries x0.queries) := Lib.hid (RSlice.mono keeps_query g20 h0_queries.out)
        replace h0_fields : Hid (RSpanss w20 u0_fields x0.fields) := Lib.hid (RSlice.mono (keeps_of keeps_span) g20 h0_fields.out)
        replace h1_vals : Hid (RInts w20 u1_vals x1.vals) := Lib.hid (RSlice.mono keeps_int g20 h1_vals.out)
        replace hv2 : Hid (RInts w20 (.slice a2 x2.length c2) x2) := Lib.hid (RSlice.mono keeps_int g20 hv2.out)
        replace hw0 : Hid (RInts w20 (.slice aw0 nw0 cw0) (probeL x0 x1 x2).1) := Lib.hid (RSlice.mono keeps_int g20 hw0.out)
        replace Mhg0 : Hid (RInts w20 (.slice ag0 ng0 cg0) (marksTo mkI cntI (1 : Int) (probeL x0 x1 x2).1.length (probeL x0 x1 x2).1)) := Lib.hid (RSlice.mono keeps_int g20 Mhg0.out)
        replace hh0 : Hid (PInts (In wz2.heap.size wzf.heap.size) w20 (.slice ah0 nh0 ch0) (probeL x0 x1 x2).1) := Lib.hid (OSl.gr fr_int hh0.out g20)
        replace kb0_0 : w20.cell? ⟨w.heap.size, 0, none⟩ = some (u0_queries) := g20.cellv kb0_0
        replace kb0_1 : w20.cell? ⟨w.heap.size, 1, none⟩ = some (u0_fields) := g20.cellv kb0_1
        replace kb1_0 : w20.cell? ⟨w.heap.size + 1, 0, none⟩ = some (.int .i64 x1.id) := g20.cellv kb1_0
        replace kb1_1 : w20.cell? ⟨w.heap.size + 1, 1, none⟩ = some (u1_vals) := g20.cellv kb1_1
        replace gw : Hid (Gr w w20) := Lib.hid (gw.out.trans g20)
        replace gv : Hid (Gr wpf w20) := Lib.hid (gv.out.trans g20)
        go_wp2_with fail
        refine (laws_heldIntS _ (probeL x0 x1 x2).1 (1 : Int) _ Mhg0.out (by omega) (by omega)).mono ?_
        rintro e w21 ⟨rfl, g21⟩
        have Z21 : Hid (w20.heap.size + 0 ≤ w21.heap.size) := Lib.hid (by have := g21.size; simpa using this)
        replace h0_queries : Hid (RQueries w21 u0_queries x0.queries) := Lib.hid (RSlice.mono keeps_query g21 h0_queries.out)
        replace h0_fields : Hid (RSpanss w21 u0_fields x0.fields) := Lib.hid (RSlice.mono (keeps_of keeps_span) g21 h0_fields.out)
        replace h1_vals : Hid (RInts w21 u1_vals x1.vals) := Lib.hid (RSlice.mono keeps_int g21 h1_vals.out)
        replace hv2 : Hid (RInts w21 (.slice a2 x2.length c2) x2) := Lib.hid (RSlice.mono keeps_int g21 hv2.out)
        replace hw0 : Hid (RInts w21 (.slice aw0 nw0 cw0) (probeL x0 x1 x2).1) := Lib.hid (RSlice.mono keeps_int g21 hw0.out)
        replace Mhg0 : Hid (RInts w21 (.slice ag0 ng0 cg0) (marksTo mkI cntI (1 : Int) (probeL x0 x1 x2).1.length (probeL x0 x1 x2).1)) := Lib.hid (RSlice.mono keeps_int g21 Mhg0.out)
        replace hh0 : Hid (PInts (In wz2.heap.size wzf.heap.size) w21 (.slice ah0 nh0 ch0) (probeL x0 x1 x2).1) := Lib.hid (OSl.gr fr_int hh0.out g21)
        replace kb0_0 : w21.cell? ⟨w.heap.size, 0, none⟩ = some (u0_queries) := g21.cellv kb0_0
        replace kb0_1 : w21.cell? ⟨w.heap.size, 1, none⟩ = some (u0_fields) := g21.cellv kb0_1
        replace kb1_0 : w21.cell? ⟨w.heap.size + 1, 0, none⟩ = some (.int .i64 x1.id) := g21.cellv kb1_0
        replace kb1_1 : w21.cell? ⟨w.heap.size + 1, 1, none⟩ = some (u1_vals) := g21.cellv kb1_1
        replace gw : Hid (Gr w w21) := Lib.hid (gw.out.trans g21)
        replace gv : Hid (Gr wpf w21) := Lib.hid (gv.out.trans g21)
        go_wp2_with fail
        go_ret
        exact ⟨rfl, gw.out⟩
      · have HZ0 := Lib.hid (szV_yes (t := (totIndex x0)) (left := (1048576 : Int)) (by omega))
        have HA0 := Lib.hid (show (0 : Int) ≤ (1048576 : Int) ∧ (1048576 : Int) ≤ 1048576 from by omega)
        have HB0 := Lib.hid (show (0 : Int) ≤ (1048576 : Int) - ((totIndex x0) : Int) ∧ (1048576 : Int) - ((totIndex x0) : Int) ≤ 1048576 from by omega)
        have HZ1 := Lib.hid (szV_no (t := (totRow x1)) (left := (1048576 - ((totIndex x0) : Int))) (by omega))
        have HA1 := Lib.hid (show (0 : Int) ≤ (1048576 - ((totIndex x0) : Int)) ∧ (1048576 - ((totIndex x0) : Int)) ≤ 1048576 from by omega)
        clear hs1 hs2
        go_enter Try.func12, Try.ntmps12
        have Bh0_queries := Lib.hid h0_queries
        replace h0_queries := Lib.hid h0_queries
        have Bh0_fields := Lib.hid h0_fields
        replace h0_fields := Lib.hid h0_fields
        have Bh1_vals := Lib.hid h1_vals
        replace h1_vals := Lib.hid h1_vals
        have Bhv2 := Lib.hid hv2
        replace hv2 := Lib.hid hv2
        go_wp2_with fail
        refine (laws_szIndex x0 u0_queries u0_fields _ _ (RSlice.mono keeps_query (((Gr.refl w).alloc _).alloc _) h0_queries.out) (RSlice.mono (keeps_of keeps_span) (((Gr.refl w).alloc _).alloc _) h0_fields.out) HA0.out.1 HA0.out.2).mono ?_
        rintro e w1 ⟨rfl, g1⟩
        have gs1 : Gr w w1 := (((Gr.refl w).alloc _).alloc _).trans g1
        have Z1 : Hid (w.heap.size + 2 ≤ w1.heap.size) := Lib.hid (by have := g1.size; simpa using this)
        replace h0_queries : Hid (RQueries w1 u0_queries x0.queries) := Lib.hid (RSlice.mono keeps_query gs1 h0_queries.out)
        replace h0_fields : Hid (RSpanss w1 u0_fields x0.fields) := Lib.hid (RSlice.mono (keeps_of keeps_span) gs1 h0_fields.out)
        replace h1_vals : Hid (RInts w1 u1_vals x1.vals) := Lib.hid (RSlice.mono keeps_int gs1 h1_vals.out)
        replace hv2 : Hid (RInts w1 (.slice a2 x2.length c2) x2) := Lib.hid (RSlice.mono keeps_int gs1 hv2.out)
        have gw : Hid (Gr w w1) := Lib.hid gs1
        have kb0_0 : w1.cell? ⟨w.heap.size, 0, none⟩ = some (u0_queries) := g1.cellv (by simp [go_sem])
        have kb0_1 : w1.cell? ⟨w.heap.size, 1, none⟩ = some (u0_fields) := g1.cellv (by simp [go_sem])
        have kb1_0 : w1.cell? ⟨w.heap.size + 1, 0, none⟩ = some (.int .i64 x1.id) := g1.cellv (by simp [go_sem])
        have kb1_1 : w1.cell? ⟨w.heap.size + 1, 1, none⟩ = some (u1_vals) := g1.cellv (by simp [go_sem])
        have bkb0_0 : Hid (w.heap.size < w1.heap.size) := Lib.hid (by have := Z1.out; omega)
        have bkb1_0 : Hid (w.heap.size + 1 < w1.heap.size) := Lib.hid (by have := Z1.out; omega)
        rw [HZ0.out]
        have hB0 := HB0.out.1
        have hC0 := HB0.out.2
        go_wp2_with fail
        refine (laws_szRow x1 u1_vals _ _ h1_vals.out HA1.out.1 HA1.out.2).mono ?_
        rintro e w2 ⟨rfl, g2⟩
        have Z2 : Hid (w1.heap.size + 0 ≤ w2.heap.size) := Lib.hid (by have := g2.size; simpa using this)
        replace h0_queries : Hid (RQueries w2 u0_queries x0.queries) := Lib.hid (RSlice.mono keeps_query g2 h0_queries.out)
        replace h0_fields : Hid (RSpanss w2 u0_fields x0.fields) := Lib.hid (RSlice.mono (keeps_of keeps_span) g2 h0_fields.out)
        replace h1_vals : Hid (RInts w2 u1_vals x1.vals) := Lib.hid (RSlice.mono keeps_int g2 h1_vals.out)
        replace hv2 : Hid (RInts w2 (.slice a2 x2.length c2) x2) := Lib.hid (RSlice.mono keeps_int g2 hv2.out)
        replace kb0_0 : w2.cell? ⟨w.heap.size, 0, none⟩ = some (u0_queries) := g2.cellv kb0_0
        replace kb0_1 : w2.cell? ⟨w.heap.size, 1, none⟩ = some (u0_fields) := g2.cellv kb0_1
        replace kb1_0 : w2.cell? ⟨w.heap.size + 1, 0, none⟩ = some (.int .i64 x1.id) := g2.cellv kb1_0
        replace kb1_1 : w2.cell? ⟨w.heap.size + 1, 1, none⟩ = some (u1_vals) := g2.cellv kb1_1
        replace gw : Hid (Gr w w2) := Lib.hid (gw.out.trans g2)
        rw [HZ1.out]
        go_wp2_with fail
        go_ret
        exact ⟨rfl, gw.out⟩
    · have HZ0 := Lib.hid (szV_no (t := (totIndex x0)) (left := (1048576 : Int)) (by omega))
      have HA0 := Lib.hid (show (0 : Int) ≤ (1048576 : Int) ∧ (1048576 : Int) ≤ 1048576 from by omega)
      clear hs1
      go_enter Try.func12, Try.ntmps12
      have Bh0_queries := Lib.hid h0_queries
      replace h0_queries := Lib.hid h0_queries
      have Bh0_fields := Lib.hid h0_fields
      replace h0_fields := Lib.hid h0_fields
      have Bh1_vals := Lib.hid h1_vals
      replace h1_vals := Lib.hid h1_vals
      have Bhv2 := Lib.hid hv2
      replace hv2 := Lib.hid hv2
      go_wp2_with fail
      refine (laws_szIndex x0 u0_queries u0_fields _ _ (RSlice.mono keeps_query (((Gr.refl w).alloc _).alloc _) h0_queries.out) (RSlice.mono (keeps_of keeps_span) (((Gr.refl w).alloc _).alloc _) h0_fields.out) HA0.out.1 HA0.out.2).mono ?_
      rintro e w1 ⟨rfl, g1⟩
      have gs1 : Gr w w1 := (((Gr.refl w).alloc _).alloc _).trans g1
      have Z1 : Hid (w.heap.size + 2 ≤ w1.heap.size) := Lib.hid (by have := g1.size; simpa using this)
      replace h0_queries : Hid (RQueries w1 u0_queries x0.queries) := Lib.hid (RSlice.mono keeps_query gs1 h0_queries.out)
      replace h0_fields : Hid (RSpanss w1 u0_fields x0.fields) := Lib.hid (RSlice.mono (keeps_of keeps_span) gs1 h0_fields.out)
      replace h1_vals : Hid (RInts w1 u1_vals x1.vals) := Lib.hid (RSlice.mono keeps_int gs1 h1_vals.out)
      replace hv2 : Hid (RInts w1 (.slice a2 x2.length c2) x2) := Lib.hid (RSlice.mono keeps_int gs1 hv2.out)
      have gw : Hid (Gr w w1) := Lib.hid gs1
      have kb0_0 : w1.cell? ⟨w.heap.size, 0, none⟩ = some (u0_queries) := g1.cellv (by simp [go_sem])
      have kb0_1 : w1.cell? ⟨w.heap.size, 1, none⟩ = some (u0_fields) := g1.cellv (by simp [go_sem])
      have kb1_0 : w1.cell? ⟨w.heap.size + 1, 0, none⟩ = some (.int .i64 x1.id) := g1.cellv (by simp [go_sem])
      have kb1_1 : w1.cell? ⟨w.heap.size + 1, 1, none⟩ = some (u1_vals) := g1.cellv (by simp [go_sem])
      have bkb0_0 : Hid (w.heap.size < w1.heap.size) := Lib.hid (by have := Z1.out; omega)
      have bkb1_0 : Hid (w.heap.size + 1 < w1.heap.size) := Lib.hid (by have := Z1.out; omega)
      rw [HZ0.out]
      go_wp2_with fail
      go_ret
      exact ⟨rfl, gw.out⟩
  · go_enter Try.func12, Try.ntmps12
    go_wp2_with fail
    go_ret
    exact ⟨rfl, (((Gr.refl _).alloc _).alloc _)⟩
end Go.Proofs.Ytnnapjaggahjgaa
