/- MatchSet: the law. Written by gen_probe3.py. -/
import Derived.Test.YtnnapjaggahjgaaProbe4
import Derived.Test.YtnnapjaggahjgaaMkIndex
import Derived.Test.YtnnapjaggahjgaaMkRow
namespace Go.Proofs.Ytnnapjaggahjgaa
open Go.RowKit
set_option maxRecDepth 100000 in
set_option maxHeartbeats 1500000 in
theorem law_FnExactMatchSet (w : World) (x0 : DIndex) (u0_queries : Value) (u0_fields : Value) (h0_queries : RQueries w u0_queries x0.queries) (h0_fields : RSpanss w u0_fields x0.fields) (x1 : DRow) (u1_vals : Value) (_ : I64 x1.id) (h1_vals : RInts w u1_vals x1.vals) : Calls Try.prog 13 #[.agg #[u0_queries, u0_fields], .agg #[.int .i64 x1.id, u1_vals]] w fun e w' => e = .returned (.bool true) ∧ Gr w w' := by
  by_cases hs0 : ((totIndex x0) : Int) ≤ (1048576 : Int)
  · by_cases hs1 : ((totRow x1) : Int) ≤ (1048576 - ((totIndex x0) : Int))
    · have HZ0 := Lib.hid (szV_yes (t := (totIndex x0)) (left := (1048576 : Int)) (by omega))
      have HA0 := Lib.hid (show (0 : Int) ≤ (1048576 : Int) ∧ (1048576 : Int) ≤ 1048576 from by omega)
      have HB0 := Lib.hid (show (0 : Int) ≤ (1048576 : Int) - ((totIndex x0) : Int) ∧ (1048576 : Int) - ((totIndex x0) : Int) ≤ 1048576 from by omega)
      have HZ1 := Lib.hid (szV_yes (t := (totRow x1)) (left := (1048576 - ((totIndex x0) : Int))) (by omega))
      have HA1 := Lib.hid (show (0 : Int) ≤ (1048576 - ((totIndex x0) : Int)) ∧ (1048576 - ((totIndex x0) : Int)) ≤ 1048576 from by omega)
      have HB1 := Lib.hid (show (0 : Int) ≤ (1048576 - ((totIndex x0) : Int)) - ((totRow x1) : Int) ∧ (1048576 - ((totIndex x0) : Int)) - ((totRow x1) : Int) ≤ 1048576 from by omega)
      have HT0 := Lib.hid (show (totIndex x0) ≤ 4294967296 from by omega)
      have HT1 := Lib.hid (show (totRow x1) ≤ 4294967296 from by omega)
      have HQ0 : Hid ((totIndex x0) ≤ 1048576) := Lib.hid (by omega)
      have HQ1 : Hid ((totRow x1) ≤ 1048576) := Lib.hid (by omega)
      clear hs0 hs1
      go_enter Try.func13, Try.ntmps13
      have Bh0_queries := Lib.hid h0_queries
      replace h0_queries := Lib.hid h0_queries
      have Bh0_fields := Lib.hid h0_fields
      replace h0_fields := Lib.hid h0_fields
      have Bh1_vals := Lib.hid h1_vals
      replace h1_vals := Lib.hid h1_vals
      go_wp2_with fail
      refine (laws_szIndex x0 u0_queries u0_fields _ _ (RSlice.mono keeps_query (((Gr.refl w).alloc _).alloc _) h0_queries.out) (RSlice.mono (keeps_of keeps_span) (((Gr.refl w).alloc _).alloc _) h0_fields.out) HA0.out.1 HA0.out.2).mono ?_
      rintro e w1 ⟨rfl, g1⟩
      have gs1 : Gr w w1 := (((Gr.refl w).alloc _).alloc _).trans g1
      have Z1 : Hid (w.heap.size + 2 ≤ w1.heap.size) := Lib.hid (by have := g1.size; simpa using this)
      replace h0_queries : Hid (RQueries w1 u0_queries x0.queries) := Lib.hid (RSlice.mono keeps_query gs1 h0_queries.out)
      replace h0_fields : Hid (RSpanss w1 u0_fields x0.fields) := Lib.hid (RSlice.mono (keeps_of keeps_span) gs1 h0_fields.out)
      replace h1_vals : Hid (RInts w1 u1_vals x1.vals) := Lib.hid (RSlice.mono keeps_int gs1 h1_vals.out)
      have gw : Hid (Gr w w1) := Lib.hid gs1
      have kb0_0 : w1.cell? ⟨w.heap.size, 0, none⟩ = some (u0_queries) := g1.cellv (by simp [go_sem])
      have kb0_1 : w1.cell? ⟨w.heap.size, 1, none⟩ = some (u0_fields) := g1.cellv (by simp [go_sem])
      have kb1_0 : w1.cell? ⟨w.heap.size + 1, 0, none⟩ = some (.int .i64 x1.id) := g1.cellv (by simp [go_sem])
      have kb1_1 : w1.cell? ⟨w.heap.size + 1, 1, none⟩ = some (u1_vals) := g1.cellv (by simp [go_sem])
      have bkb0_0 : Hid (w.heap.size < w1.heap.size) := Lib.hid (by have := Z1.out; omega)
      have bkb1_0 : Hid (w.heap.size + 1 < w1.heap.size) := Lib.hid (by have := Z1.out; omega)
      rw [HZ0.out]
      have hB0 := HB0.out.1
      have hC0 := HB0.out.2
      go_wp2_with fail
      refine (laws_szRow x1 u1_vals _ _ h1_vals.out HA1.out.1 HA1.out.2).mono ?_
      rintro e w2 ⟨rfl, g2⟩
      have Z2 : Hid (w1.heap.size + 0 ≤ w2.heap.size) := Lib.hid (by have := g2.size; simpa using this)
      replace h0_queries : Hid (RQueries w2 u0_queries x0.queries) := Lib.hid (RSlice.mono keeps_query g2 h0_queries.out)
      replace h0_fields : Hid (RSpanss w2 u0_fields x0.fields) := Lib.hid (RSlice.mono (keeps_of keeps_span) g2 h0_fields.out)
      replace h1_vals : Hid (RInts w2 u1_vals x1.vals) := Lib.hid (RSlice.mono keeps_int g2 h1_vals.out)
      replace kb0_0 : w2.cell? ⟨w.heap.size, 0, none⟩ = some (u0_queries) := g2.cellv kb0_0
      replace kb0_1 : w2.cell? ⟨w.heap.size, 1, none⟩ = some (u0_fields) := g2.cellv kb0_1
      replace kb1_0 : w2.cell? ⟨w.heap.size + 1, 0, none⟩ = some (.int .i64 x1.id) := g2.cellv kb1_0
      replace kb1_1 : w2.cell? ⟨w.heap.size + 1, 1, none⟩ = some (u1_vals) := g2.cellv kb1_1
      replace gw : Hid (Gr w w2) := Lib.hid (gw.out.trans g2)
      rw [HZ1.out]
      have hB1 := HB1.out.1
      have hC1 := HB1.out.2
      -- drawn
      go_wp2
      go_region_held3 (fun w' => w'.cell? ⟨w.heap.size, 0, none⟩ = some (u0_queries) ∧ w'.cell? ⟨w.heap.size, 1, none⟩ = some (u0_fields) ∧ w'.cell? ⟨w.heap.size + 1, 0, none⟩ = some (.int .i64 x1.id) ∧ w'.cell? ⟨w.heap.size + 1, 1, none⟩ = some (u1_vals) ∧ RQueries w' u0_queries x0.queries ∧ RSpanss w' u0_fields x0.fields ∧ RInts w' u1_vals x1.vals ∧ Gr w2 w')
        (first | exact ⟨kb0_0, kb0_1, kb1_0, kb1_1, h0_queries.out, h0_fields.out, h1_vals.out, Gr.refl _⟩ | exact ⟨kb0_0, kb0_1, kb1_0, kb1_1, h0_queries.out, h0_fields.out, h1_vals.out, (Gr.refl _).drew⟩ | (go_split_ands; exact ⟨Gr.cellv gpf (by assumption), Gr.cellv gpf (by assumption), Gr.cellv gpf (by assumption), Gr.cellv gpf (by assumption), (RSlice.mono keeps_query gpf (by assumption)), (RSlice.mono (keeps_of keeps_span) gpf (by assumption)), (RSlice.mono keeps_int gpf (by assumption)), Gr.trans (by assumption) gpf⟩) | (go_split_ands; exact ⟨Gr.cellv gp1 (by assumption), Gr.cellv gp1 (by assumption), Gr.cellv gp1 (by assumption), Gr.cellv gp1 (by assumption), (RSlice.mono keeps_query gp1 (by assumption)), (RSlice.mono (keeps_of keeps_span) gp1 (by assumption)), (RSlice.mono keeps_int gp1 (by assumption)), Gr.trans (by assumption) gp1⟩) | (go_split_ands; exact ⟨Gr.cellv gp0 (by assumption), Gr.cellv gp0 (by assumption), Gr.cellv gp0 (by assumption), Gr.cellv gp0 (by assumption), (RSlice.mono keeps_query gp0 (by assumption)), (RSlice.mono (keeps_of keeps_span) gp0 (by assumption)), (RSlice.mono keeps_int gp0 (by assumption)), Gr.trans (by assumption) gp0⟩))
        (first | (go_at_call 57; go_split_ands; refine (laws_toIndex_own x0 u0_queries u0_fields _ (by assumption) (by assumption) HT0.out).mono ?_; rintro e wp0 ⟨vp0_queries, vp0_fields, rfl, gp0, mp0, hmp0, hnp0, r_hp0_queries, r_hp0_fields⟩) | (go_at_call 24; go_split_ands; refine (laws_toRow_own x1 u1_vals _ (by assumption) HT1.out).mono ?_; rintro e wp1 ⟨vp1_vals, rfl, gp1, r_hp1_vals⟩) | (go_at_call 69; refine (spec_MatchSet x0 _ _ x1 _ _ (RSlice.mono keeps_query gp1 (rd_pqueries r_hp0_queries)) (RSlice.mono (keeps_of keeps_span) gp1 (rd_pspanss r_hp0_fields)) (rd_pints r_hp1_vals) HT0.out).mono ?_; rintro e wpf ⟨vw0, rfl, r_hw0, gpf⟩))
      have hdr3 : Gr w2 w2.drew := (Gr.refl w2).drew
      have gs3 : Gr w2 wpf := (((hdr3.trans gp0).trans gp1).trans gpf)
      have Z3 : Hid (w2.heap.size + 0 ≤ wpf.heap.size) := Lib.hid gs3.size
      have ZZp0 : Hid (w2.heap.size ≤ wp0.heap.size) := Lib.hid (by have := gp0.size; simpa using this)
      have ZZp1 : Hid (wp0.heap.size ≤ wp1.heap.size) := Lib.hid (by have := gp1.size; simpa using this)
      replace h0_queries : Hid (RQueries wpf u0_queries x0.queries) := Lib.hid (RSlice.mono keeps_query gs3 h0_queries.out)
      replace h0_fields : Hid (RSpanss wpf u0_fields x0.fields) := Lib.hid (RSlice.mono (keeps_of keeps_span) gs3 h0_fields.out)
      replace h1_vals : Hid (RInts wpf u1_vals x1.vals) := Lib.hid (RSlice.mono keeps_int gs3 h1_vals.out)
      replace kb0_0 : wpf.cell? ⟨w.heap.size, 0, none⟩ = some (u0_queries) := gs3.cellv kb0_0
      replace kb0_1 : wpf.cell? ⟨w.heap.size, 1, none⟩ = some (u0_fields) := gs3.cellv kb0_1
      replace kb1_0 : wpf.cell? ⟨w.heap.size + 1, 0, none⟩ = some (.int .i64 x1.id) := gs3.cellv kb1_0
      replace kb1_1 : wpf.cell? ⟨w.heap.size + 1, 1, none⟩ = some (u1_vals) := gs3.cellv kb1_1
      replace gw : Hid (Gr w wpf) := Lib.hid (gw.out.trans gs3)
      obtain ⟨aw0, nw0, cw0, rfl⟩ := r_hw0.isSl
      have hw0 : Hid (RInts wpf (.slice aw0 nw0 cw0) (probeL x0 x1 [0, 1, 2]).1) := Lib.hid r_hw0
      have Bhw0 := Lib.hid r_hw0
      clear r_hw0
      have gv : Hid (Gr wpf wpf) := Lib.hid (Gr.refl _)
      have ZV : Hid (w.heap.size ≤ wpf.heap.size) := Lib.hid gw.out.size
      go_wp2_with fail
      refine (laws_toIndex_own x0 u0_queries u0_fields _ h0_queries.out h0_fields.out HT0.out).mono ?_
      rintro e w4 ⟨vx0_queries, vx0_fields, rfl, g4, mx0, hmx0, hnx0, r_hx0_queries, r_hx0_fields⟩
      have Z4 : Hid (wpf.heap.size + 0 ≤ w4.heap.size) := Lib.hid (by have := g4.size; simpa using this)
      replace h0_queries : Hid (RQueries w4 u0_queries x0.queries) := Lib.hid (RSlice.mono keeps_query g4 h0_queries.out)
      replace h0_fields : Hid (RSpanss w4 u0_fields x0.fields) := Lib.hid (RSlice.mono (keeps_of keeps_span) g4 h0_fields.out)
      replace h1_vals : Hid (RInts w4 u1_vals x1.vals) := Lib.hid (RSlice.mono keeps_int g4 h1_vals.out)
      replace hw0 : Hid (RInts w4 (.slice aw0 nw0 cw0) (probeL x0 x1 [0, 1, 2]).1) := Lib.hid (RSlice.mono keeps_int g4 hw0.out)
      replace kb0_0 : w4.cell? ⟨w.heap.size, 0, none⟩ = some (u0_queries) := g4.cellv kb0_0
      replace kb0_1 : w4.cell? ⟨w.heap.size, 1, none⟩ = some (u0_fields) := g4.cellv kb0_1
      replace kb1_0 : w4.cell? ⟨w.heap.size + 1, 0, none⟩ = some (.int .i64 x1.id) := g4.cellv kb1_0
      replace kb1_1 : w4.cell? ⟨w.heap.size + 1, 1, none⟩ = some (u1_vals) := g4.cellv kb1_1
      replace gw : Hid (Gr w w4) := Lib.hid (gw.out.trans g4)
      replace gv : Hid (Gr wpf w4) := Lib.hid (gv.out.trans g4)
      obtain ⟨ax0_queries, nx0_queries, cx0_queries, rfl⟩ := r_hx0_queries.isSl
      have ZMx0_queries : Hid (wpf.heap.size ≤ mx0) := Lib.hid (by have := hmx0; (try simp at this); omega)
      have hx0_queries : Hid (PQueries (In wpf.heap.size mx0) w4 (.slice ax0_queries nx0_queries cx0_queries) x0.queries) := Lib.hid (r_hx0_queries.wide (by simp) (by omega))
      clear r_hx0_queries
      obtain ⟨ax0_fields, nx0_fields, cx0_fields, rfl⟩ := r_hx0_fields.isSl
      have ZMx0_fields : Hid (wpf.heap.size ≤ mx0) := Lib.hid (by have := hmx0; (try simp at this); omega)
      have hx0_fields : Hid (PSpanss (In mx0 w4.heap.size) w4 (.slice ax0_fields nx0_fields cx0_fields) x0.fields) := Lib.hid (r_hx0_fields.wide (Nat.le_refl _) (by omega))
      clear r_hx0_fields
      have Lkb0_0 := ((Gr.refl w4).alloc (.cells #[.slice ax0_queries nx0_queries cx0_queries, .slice ax0_fields nx0_fields cx0_fields] 87)).cellv kb0_0
      have Lkb0_1 := ((Gr.refl w4).alloc (.cells #[.slice ax0_queries nx0_queries cx0_queries, .slice ax0_fields nx0_fields cx0_fields] 87)).cellv kb0_1
      have Lkb1_0 := ((Gr.refl w4).alloc (.cells #[.slice ax0_queries nx0_queries cx0_queries, .slice ax0_fields nx0_fields cx0_fields] 87)).cellv kb1_0
      have Lkb1_1 := ((Gr.refl w4).alloc (.cells #[.slice ax0_queries nx0_queries cx0_queries, .slice ax0_fields nx0_fields cx0_fields] 87)).cellv kb1_1
      go_wp2_with fail
      refine (laws_toRow_own x1 u1_vals _ (RSlice.mono keeps_int ((Gr.refl w4).alloc _) h1_vals.out) HT1.out).mono ?_
      rintro e w5 ⟨vx1_vals, rfl, g5, r_hx1_vals⟩
      have gs5 : Gr w4 w5 := ((Gr.refl w4).alloc _).trans g5
      have Z5 : Hid (w4.heap.size + 1 ≤ w5.heap.size) := Lib.hid (by have := g5.size; simpa using this)
      replace h0_queries : Hid (RQueries w5 u0_queries x0.queries) := Lib.hid (RSlice.mono keeps_query gs5 h0_queries.out)
      replace h0_fields : Hid (RSpanss w5 u0_fields x0.fields) := Lib.hid (RSlice.mono (keeps_of keeps_span) gs5 h0_fields.out)
      replace h1_vals : Hid (RInts w5 u1_vals x1.vals) := Lib.hid (RSlice.mono keeps_int gs5 h1_vals.out)
      replace hw0 : Hid (RInts w5 (.slice aw0 nw0 cw0) (probeL x0 x1 [0, 1, 2]).1) := Lib.hid (RSlice.mono keeps_int gs5 hw0.out)
      replace hx0_queries : Hid (PQueries (In wpf.heap.size mx0) w5 (.slice ax0_queries nx0_queries cx0_queries) x0.queries) := Lib.hid (OSl.gr fr_query hx0_queries.out gs5)
      replace hx0_fields : Hid (PSpanss (In mx0 w4.heap.size) w5 (.slice ax0_fields nx0_fields cx0_fields) x0.fields) := Lib.hid (OSl.gr (fr_of fr_span) hx0_fields.out gs5)
      replace kb0_0 : w5.cell? ⟨w.heap.size, 0, none⟩ = some (u0_queries) := gs5.cellv kb0_0
      replace kb0_1 : w5.cell? ⟨w.heap.size, 1, none⟩ = some (u0_fields) := gs5.cellv kb0_1
      replace kb1_0 : w5.cell? ⟨w.heap.size + 1, 0, none⟩ = some (.int .i64 x1.id) := gs5.cellv kb1_0
      replace kb1_1 : w5.cell? ⟨w.heap.size + 1, 1, none⟩ = some (u1_vals) := gs5.cellv kb1_1
      replace gw : Hid (Gr w w5) := Lib.hid (gw.out.trans gs5)
      replace gv : Hid (Gr wpf w5) := Lib.hid (gv.out.trans gs5)
      have kx0_0 : w5.cell? ⟨w4.heap.size, 0, none⟩ = some (.slice ax0_queries nx0_queries cx0_queries) := g5.cellv (by simp [go_sem])
      have kx0_1 : w5.cell? ⟨w4.heap.size, 1, none⟩ = some (.slice ax0_fields nx0_fields cx0_fields) := g5.cellv (by simp [go_sem])
      have bkx0_0 : Hid (w4.heap.size < w5.heap.size) := Lib.hid (by have := Z5.out; omega)
      clear Lkb0_0 Lkb0_1 Lkb1_0 Lkb1_1
      obtain ⟨ax1_vals, nx1_vals, cx1_vals, rfl⟩ := r_hx1_vals.isSl
      have hx1_vals : Hid (PInts (In (w4.heap.size + 1) w5.heap.size) w5 (.slice ax1_vals nx1_vals cx1_vals) x1.vals) := Lib.hid (r_hx1_vals.wide (by simp) (by omega))
      clear r_hx1_vals
      have Lkb0_0 := ((Gr.refl w5).alloc (.cells #[.int .i64 x1.id, .slice ax1_vals nx1_vals cx1_vals] 46)).cellv kb0_0
      have Lkb0_1 := ((Gr.refl w5).alloc (.cells #[.int .i64 x1.id, .slice ax1_vals nx1_vals cx1_vals] 46)).cellv kb0_1
      have Lkb1_0 := ((Gr.refl w5).alloc (.cells #[.int .i64 x1.id, .slice ax1_vals nx1_vals cx1_vals] 46)).cellv kb1_0
      have Lkb1_1 := ((Gr.refl w5).alloc (.cells #[.int .i64 x1.id, .slice ax1_vals nx1_vals cx1_vals] 46)).cellv kb1_1
      have Lkx0_0 := ((Gr.refl w5).alloc (.cells #[.int .i64 x1.id, .slice ax1_vals nx1_vals cx1_vals] 46)).cellv kx0_0
      have Lkx0_1 := ((Gr.refl w5).alloc (.cells #[.int .i64 x1.id, .slice ax1_vals nx1_vals cx1_vals] 46)).cellv kx0_1
      go_wp2_with fail
      refine (impl_MatchSet x0 _ _ x1 _ _ (RSlice.mono keeps_query ((Gr.refl w5).alloc _) (rd_pqueries hx0_queries.out)) (RSlice.mono (keeps_of keeps_span) ((Gr.refl w5).alloc _) (rd_pspanss hx0_fields.out)) (RSlice.mono keeps_int ((Gr.refl w5).alloc _) (rd_pints hx1_vals.out)) HT0.out).mono ?_
      rintro e w6 ⟨vg0, rfl, g6, r_hg0⟩
      have gs6 : Gr w5 w6 := ((Gr.refl w5).alloc _).trans g6
      have Z6 : Hid (w5.heap.size + 1 ≤ w6.heap.size) := Lib.hid (by have := g6.size; simpa using this)
      replace h0_queries : Hid (RQueries w6 u0_queries x0.queries) := Lib.hid (RSlice.mono keeps_query gs6 h0_queries.out)
      replace h0_fields : Hid (RSpanss w6 u0_fields x0.fields) := Lib.hid (RSlice.mono (keeps_of keeps_span) gs6 h0_fields.out)
      replace h1_vals : Hid (RInts w6 u1_vals x1.vals) := Lib.hid (RSlice.mono keeps_int gs6 h1_vals.out)
      replace hw0 : Hid (RInts w6 (.slice aw0 nw0 cw0) (probeL x0 x1 [0, 1, 2]).1) := Lib.hid (RSlice.mono keeps_int gs6 hw0.out)
      replace hx0_queries : Hid (PQueries (In wpf.heap.size mx0) w6 (.slice ax0_queries nx0_queries cx0_queries) x0.queries) := Lib.hid (OSl.gr fr_query hx0_queries.out gs6)
      replace hx0_fields : Hid (PSpanss (In mx0 w4.heap.size) w6 (.slice ax0_fields nx0_fields cx0_fields) x0.fields) := Lib.hid (OSl.gr (fr_of fr_span) hx0_fields.out gs6)
      replace hx1_vals : Hid (PInts (In (w4.heap.size + 1) w5.heap.size) w6 (.slice ax1_vals nx1_vals cx1_vals) x1.vals) := Lib.hid (OSl.gr fr_int hx1_vals.out gs6)
      replace kb0_0 : w6.cell? ⟨w.heap.size, 0, none⟩ = some (u0_queries) := gs6.cellv kb0_0
      replace kb0_1 : w6.cell? ⟨w.heap.size, 1, none⟩ = some (u0_fields) := gs6.cellv kb0_1
      replace kb1_0 : w6.cell? ⟨w.heap.size + 1, 0, none⟩ = some (.int .i64 x1.id) := gs6.cellv kb1_0
      replace kb1_1 : w6.cell? ⟨w.heap.size + 1, 1, none⟩ = some (u1_vals) := gs6.cellv kb1_1
      replace kx0_0 : w6.cell? ⟨w4.heap.size, 0, none⟩ = some (.slice ax0_queries nx0_queries cx0_queries) := gs6.cellv kx0_0
      replace kx0_1 : w6.cell? ⟨w4.heap.size, 1, none⟩ = some (.slice ax0_fields nx0_fields cx0_fields) := gs6.cellv kx0_1
      replace gw : Hid (Gr w w6) := Lib.hid (gw.out.trans gs6)
      replace gv : Hid (Gr wpf w6) := Lib.hid (gv.out.trans gs6)
      have kx1_0 : w6.cell? ⟨w5.heap.size, 0, none⟩ = some (.int .i64 x1.id) := g6.cellv (by simp [go_sem])
      have kx1_1 : w6.cell? ⟨w5.heap.size, 1, none⟩ = some (.slice ax1_vals nx1_vals cx1_vals) := g6.cellv (by simp [go_sem])
      have bkx1_0 : Hid (w5.heap.size < w6.heap.size) := Lib.hid (by have := Z6.out; omega)
      clear Lkb0_0 Lkb0_1 Lkb1_0 Lkb1_1 Lkx0_0 Lkx0_1
      obtain ⟨ag0, ng0, cg0, rfl⟩ := r_hg0.isSl
      have hg0 : Hid (PInts (In (w5.heap.size + 1) w6.heap.size) w6 (.slice ag0 ng0 cg0) (probeL x0 x1 [0, 1, 2]).1) := Lib.hid (r_hg0.wide (by simp) (by omega))
      clear r_hg0
      go_wp2_with fail
      refine (laws_eqIntS_same _ _ (probeL x0 x1 [0, 1, 2]).1 _ (rd_pints hg0.out) hw0.out).mono ?_
      rintro e w7 ⟨rfl, g7⟩
      have Z7 : Hid (w6.heap.size + 0 ≤ w7.heap.size) := Lib.hid (by have := g7.size; simpa using this)
      replace h0_queries : Hid (RQueries w7 u0_queries x0.queries) := Lib.hid (RSlice.mono keeps_query g7 h0_queries.out)
      replace h0_fields : Hid (RSpanss w7 u0_fields x0.fields) := Lib.hid (RSlice.mono (keeps_of keeps_span) g7 h0_fields.out)
      replace h1_vals : Hid (RInts w7 u1_vals x1.vals) := Lib.hid (RSlice.mono keeps_int g7 h1_vals.out)
      replace hw0 : Hid (RInts w7 (.slice aw0 nw0 cw0) (probeL x0 x1 [0, 1, 2]).1) := Lib.hid (RSlice.mono keeps_int g7 hw0.out)
      replace hx0_queries : Hid (PQueries (In wpf.heap.size mx0) w7 (.slice ax0_queries nx0_queries cx0_queries) x0.queries) := Lib.hid (OSl.gr fr_query hx0_queries.out g7)
      replace hx0_fields : Hid (PSpanss (In mx0 w4.heap.size) w7 (.slice ax0_fields nx0_fields cx0_fields) x0.fields) := Lib.hid (OSl.gr (fr_of fr_span) hx0_fields.out g7)
      replace hx1_vals : Hid (PInts (In (w4.heap.size + 1) w5.heap.size) w7 (.slice ax1_vals nx1_vals cx1_vals) x1.vals) := Lib.hid (OSl.gr fr_int hx1_vals.out g7)
      replace hg0 : Hid (PInts (In (w5.heap.size + 1) w6.heap.size) w7 (.slice ag0 ng0 cg0) (probeL x0 x1 [0, 1, 2]).1) := Lib.hid (OSl.gr fr_int hg0.out g7)
      replace kb0_0 : w7.cell? ⟨w.heap.size, 0, none⟩ = some (u0_queries) := g7.cellv kb0_0
      replace kb0_1 : w7.cell? ⟨w.heap.size, 1, none⟩ = some (u0_fields) := g7.cellv kb0_1
      replace kb1_0 : w7.cell? ⟨w.heap.size + 1, 0, none⟩ = some (.int .i64 x1.id) := g7.cellv kb1_0
      replace kb1_1 : w7.cell? ⟨w.heap.size + 1, 1, none⟩ = some (u1_vals) := g7.cellv kb1_1
      replace kx0_0 : w7.cell? ⟨w4.heap.size, 0, none⟩ = some (.slice ax0_queries nx0_queries cx0_queries) := g7.cellv kx0_0
      replace kx0_1 : w7.cell? ⟨w4.heap.size, 1, none⟩ = some (.slice ax0_fields nx0_fields cx0_fields) := g7.cellv kx0_1
      replace kx1_0 : w7.cell? ⟨w5.heap.size, 0, none⟩ = some (.int .i64 x1.id) := g7.cellv kx1_0
      replace kx1_1 : w7.cell? ⟨w5.heap.size, 1, none⟩ = some (.slice ax1_vals nx1_vals cx1_vals) := g7.cellv kx1_1
      replace gw : Hid (Gr w w7) := Lib.hid (gw.out.trans g7)
      replace gv : Hid (Gr wpf w7) := Lib.hid (gv.out.trans g7)
      go_wp2
      go_region_held3 (fun w' => w'.cell? ⟨w.heap.size, 0, none⟩ = some (u0_queries) ∧ w'.cell? ⟨w.heap.size, 1, none⟩ = some (u0_fields) ∧ w'.cell? ⟨w4.heap.size, 0, none⟩ = some (.slice ax0_queries nx0_queries cx0_queries) ∧ w'.cell? ⟨w4.heap.size, 1, none⟩ = some (.slice ax0_fields nx0_fields cx0_fields) ∧ RQueries w' u0_queries x0.queries ∧ RSpanss w' u0_fields x0.fields ∧ RQueries w' (.slice ax0_queries nx0_queries cx0_queries) x0.queries ∧ RSpanss w' (.slice ax0_fields nx0_fields cx0_fields) x0.fields ∧ Gr w7 w')
        (first | exact ⟨kb0_0, kb0_1, kx0_0, kx0_1, h0_queries.out, h0_fields.out, (rd_pqueries hx0_queries.out), (rd_pspanss hx0_fields.out), Gr.refl _⟩ | exact ⟨kb0_0, kb0_1, kx0_0, kx0_1, h0_queries.out, h0_fields.out, (rd_pqueries hx0_queries.out), (rd_pspanss hx0_fields.out), (Gr.refl _).drew⟩ | (go_split_ands; exact ⟨Gr.cellv gb0 (by assumption), Gr.cellv gb0 (by assumption), Gr.cellv gb0 (by assumption), Gr.cellv gb0 (by assumption), (RSlice.mono keeps_query gb0 (by assumption)), (RSlice.mono (keeps_of keeps_span) gb0 (by assumption)), (RSlice.mono keeps_query gb0 (by assumption)), (RSlice.mono (keeps_of keeps_span) gb0 (by assumption)), Gr.trans (by assumption) gb0⟩) | (go_split_ands; exact ⟨Gr.cellv ga0 (by assumption), Gr.cellv ga0 (by assumption), Gr.cellv ga0 (by assumption), Gr.cellv ga0 (by assumption), (RSlice.mono keeps_query ga0 (by assumption)), (RSlice.mono (keeps_of keeps_span) ga0 (by assumption)), (RSlice.mono keeps_query ga0 (by assumption)), (RSlice.mono (keeps_of keeps_span) ga0 (by assumption)), Gr.trans (by assumption) ga0⟩))
        (first | (go_at_call 57; go_split_ands; refine (laws_toIndex_gr x0 u0_queries u0_fields _ (by assumption) (by assumption) HT0.out).mono ?_; rintro e wa0 ⟨vy0_queries, vy0_fields, rfl, ⟨ay0_queries, ny0_queries, cy0_queries, rfl⟩, ry0_queries, ⟨ay0_fields, ny0_fields, cy0_fields, rfl⟩, ry0_fields, ga0⟩) | (go_at_call 59; go_split_ands; refine (laws_eqIndex x0 _ _ _ _ _ (by assumption) (by assumption) (ry0_queries _ (Loc.refl _ _)) (ry0_fields _ (Loc.refl _ _))).mono ?_; rintro e wb0 ⟨rfl, gb0⟩))
      have gs8 : Gr w7 wb0 := ((Gr.refl w7).drew.trans ga0).trans gb0
      have Z8 : Hid (w7.heap.size ≤ wb0.heap.size) := Lib.hid gs8.size
      replace h0_queries : Hid (RQueries wb0 u0_queries x0.queries) := Lib.hid (RSlice.mono keeps_query gs8 h0_queries.out)
      replace h0_fields : Hid (RSpanss wb0 u0_fields x0.fields) := Lib.hid (RSlice.mono (keeps_of keeps_span) gs8 h0_fields.out)
      replace h1_vals : Hid (RInts wb0 u1_vals x1.vals) := Lib.hid (RSlice.mono keeps_int gs8 h1_vals.out)
      replace hw0 : Hid (RInts wb0 (.slice aw0 nw0 cw0) (probeL x0 x1 [0, 1, 2]).1) := Lib.hid (RSlice.mono keeps_int gs8 hw0.out)
      replace hx0_queries : Hid (PQueries (In wpf.heap.size mx0) wb0 (.slice ax0_queries nx0_queries cx0_queries) x0.queries) := Lib.hid (OSl.gr fr_query hx0_queries.out gs8)
      replace hx0_fields : Hid (PSpanss (In mx0 w4.heap.size) wb0 (.slice ax0_fields nx0_fields cx0_fields) x0.fields) := Lib.hid (OSl.gr (fr_of fr_span) hx0_fields.out gs8)
      replace hx1_vals : Hid (PInts (In (w4.heap.size + 1) w5.heap.size) wb0 (.slice ax1_vals nx1_vals cx1_vals) x1.vals) := Lib.hid (OSl.gr fr_int hx1_vals.out gs8)
      replace hg0 : Hid (PInts (In (w5.heap.size + 1) w6.heap.size) wb0 (.slice ag0 ng0 cg0) (probeL x0 x1 [0, 1, 2]).1) := Lib.hid (OSl.gr fr_int hg0.out gs8)
      replace kb0_0 : wb0.cell? ⟨w.heap.size, 0, none⟩ = some (u0_queries) := gs8.cellv kb0_0
      replace kb0_1 : wb0.cell? ⟨w.heap.size, 1, none⟩ = some (u0_fields) := gs8.cellv kb0_1
      replace kb1_0 : wb0.cell? ⟨w.heap.size + 1, 0, none⟩ = some (.int .i64 x1.id) := gs8.cellv kb1_0
      replace kb1_1 : wb0.cell? ⟨w.heap.size + 1, 1, none⟩ = some (u1_vals) := gs8.cellv kb1_1
      replace kx0_0 : wb0.cell? ⟨w4.heap.size, 0, none⟩ = some (.slice ax0_queries nx0_queries cx0_queries) := gs8.cellv kx0_0
      replace kx0_1 : wb0.cell? ⟨w4.heap.size, 1, none⟩ = some (.slice ax0_fields nx0_fields cx0_fields) := gs8.cellv kx0_1
      replace kx1_0 : wb0.cell? ⟨w5.heap.size, 0, none⟩ = some (.int .i64 x1.id) := gs8.cellv kx1_0
      replace kx1_1 : wb0.cell? ⟨w5.heap.size, 1, none⟩ = some (.slice ax1_vals nx1_vals cx1_vals) := gs8.cellv kx1_1
      replace gw : Hid (Gr w wb0) := Lib.hid (gw.out.trans gs8)
      replace gv : Hid (Gr wpf wb0) := Lib.hid (gv.out.trans gs8)
      go_wp2
      go_region_held3 (fun w' => w'.cell? ⟨w.heap.size + 1, 0, none⟩ = some (.int .i64 x1.id) ∧ w'.cell? ⟨w.heap.size + 1, 1, none⟩ = some (u1_vals) ∧ w'.cell? ⟨w5.heap.size, 0, none⟩ = some (.int .i64 x1.id) ∧ w'.cell? ⟨w5.heap.size, 1, none⟩ = some (.slice ax1_vals nx1_vals cx1_vals) ∧ RInts w' u1_vals x1.vals ∧ RInts w' (.slice ax1_vals nx1_vals cx1_vals) x1.vals ∧ Gr wb0 w')
        (first | exact ⟨kb1_0, kb1_1, kx1_0, kx1_1, h1_vals.out, (rd_pints hx1_vals.out), Gr.refl _⟩ | exact ⟨kb1_0, kb1_1, kx1_0, kx1_1, h1_vals.out, (rd_pints hx1_vals.out), (Gr.refl _).drew⟩ | (go_split_ands; exact ⟨Gr.cellv gb1 (by assumption), Gr.cellv gb1 (by assumption), Gr.cellv gb1 (by assumption), Gr.cellv gb1 (by assumption), (RSlice.mono keeps_int gb1 (by assumption)), (RSlice.mono keeps_int gb1 (by assumption)), Gr.trans (by assumption) gb1⟩) | (go_split_ands; exact ⟨Gr.cellv ga1 (by assumption), Gr.cellv ga1 (by assumption), Gr.cellv ga1 (by assumption), Gr.cellv ga1 (by assumption), (RSlice.mono keeps_int ga1 (by assumption)), (RSlice.mono keeps_int ga1 (by assumption)), Gr.trans (by assumption) ga1⟩))
        (first | (go_at_call 24; go_split_ands; refine (laws_toRow_gr x1 u1_vals _ (by assumption) HT1.out).mono ?_; rintro e wa1 ⟨vy1_vals, rfl, ⟨ay1_vals, ny1_vals, cy1_vals, rfl⟩, ry1_vals, ga1⟩) | (go_at_call 28; go_split_ands; refine (laws_eqRow x1 _ _ _ (by assumption) (ry1_vals _ (Loc.refl _ _))).mono ?_; rintro e wb1 ⟨rfl, gb1⟩))
      have gs9 : Gr wb0 wb1 := ((Gr.refl wb0).drew.trans ga1).trans gb1
      have Z9 : Hid (wb0.heap.size ≤ wb1.heap.size) := Lib.hid gs9.size
      replace h0_queries : Hid (RQueries wb1 u0_queries x0.queries) := Lib.hid (RSlice.mono keeps_query gs9 h0_queries.out)
      replace h0_fields : Hid (RSpanss wb1 u0_fields x0.fields) := Lib.hid (RSlice.mono (keeps_of keeps_span) gs9 h0_fields.out)
      replace h1_vals : Hid (RInts wb1 u1_vals x1.vals) := Lib.hid (RSlice.mono keeps_int gs9 h1_vals.out)
      replace hw0 : Hid (RInts wb1 (.slice aw0 nw0 cw0) (probeL x0 x1 [0, 1, 2]).1) := Lib.hid (RSlice.mono keeps_int gs9 hw0.out)
      replace hx0_queries : Hid (PQueries (In wpf.heap.size mx0) wb1 (.slice ax0_queries nx0_queries cx0_queries) x0.queries) := Lib.hid (OSl.gr fr_query hx0_queries.out gs9)
      replace hx0_fields : Hid (PSpanss (In mx0 w4.heap.size) wb1 (.slice ax0_fields nx0_fields cx0_fields) x0.fields) := Lib.hid (OSl.gr (fr_of fr_span) hx0_fields.out gs9)
      replace hx1_vals : Hid (PInts (In (w4.heap.size + 1) w5.heap.size) wb1 (.slice ax1_vals nx1_vals cx1_vals) x1.vals) := Lib.hid (OSl.gr fr_int hx1_vals.out gs9)
      replace hg0 : Hid (PInts (In (w5.heap.size + 1) w6.heap.size) wb1 (.slice ag0 ng0 cg0) (probeL x0 x1 [0, 1, 2]).1) := Lib.hid (OSl.gr fr_int hg0.out gs9)
      replace kb0_0 : wb1.cell? ⟨w.heap.size, 0, none⟩ = some (u0_queries) := gs9.cellv kb0_0
      replace kb0_1 : wb1.cell? ⟨w.heap.size, 1, none⟩ = some (u0_fields) := gs9.cellv kb0_1
      replace kb1_0 : wb1.cell? ⟨w.heap.size + 1, 0, none⟩ = some (.int .i64 x1.id) := gs9.cellv kb1_0
      replace kb1_1 : wb1.cell? ⟨w.heap.size + 1, 1, none⟩ = some (u1_vals) := gs9.cellv kb1_1
      replace kx0_0 : wb1.cell? ⟨w4.heap.size, 0, none⟩ = some (.slice ax0_queries nx0_queries cx0_queries) := gs9.cellv kx0_0
      replace kx0_1 : wb1.cell? ⟨w4.heap.size, 1, none⟩ = some (.slice ax0_fields nx0_fields cx0_fields) := gs9.cellv kx0_1
      replace kx1_0 : wb1.cell? ⟨w5.heap.size, 0, none⟩ = some (.int .i64 x1.id) := gs9.cellv kx1_0
      replace kx1_1 : wb1.cell? ⟨w5.heap.size, 1, none⟩ = some (.slice ax1_vals nx1_vals cx1_vals) := gs9.cellv kx1_1
      replace gw : Hid (Gr w wb1) := Lib.hid (gw.out.trans gs9)
      replace gv : Hid (Gr wpf wb1) := Lib.hid (gv.out.trans gs9)
      have cb0 := HQ0.out
      have cm0_queries := cnt_QueryS x0.queries
      have cm0_fields := cnt_SpanSS x0.fields
      unfold totIndex at cb0
      go_wp2_with fail
      refine (laws_markIndex (In wpf.heap.size mx0) (In mx0 w4.heap.size) x0 _ _ (1 : Int) _ hx0_queries.out (fun b hb => by have := Z1.out; have := bkb0_0.out; have := bkb1_0.out; have := Z2.out; have := Z3.out; have := ZZp0.out; have := ZZp1.out; have := ZV.out; have := Z4.out; have := ZMx0_queries.out; have := ZMx0_fields.out; have := Z5.out; have := bkx0_0.out; have := Z6.out; have := bkx1_0.out; have := Z7.out; have := Z8.out; have := Z9.out; have := hb.2; omega) hx0_fields.out (fun b hb => by have := Z1.out; have := bkb0_0.out; have := bkb1_0.out; have := Z2.out; have := Z3.out; have := ZZp0.out; have := ZZp1.out; have := ZV.out; have := Z4.out; have := ZMx0_queries.out; have := ZMx0_fields.out; have := Z5.out; have := bkx0_0.out; have := Z6.out; have := bkx1_0.out; have := Z7.out; have := Z8.out; have := Z9.out; have := hb.2; omega) (fun b hb hc => by have := hb.2; have := hc.1; omega) (by omega) (by omega)).mono ?_
      rintro e wm0 ⟨rfl, _, _, dm0⟩
      have Z10 : Hid (wb1.heap.size ≤ wm0.heap.size) := Lib.hid dm0.size
      replace gw : Hid (Gr w wm0) := Lib.hid (Gr.trans' gw.out (dm0.below (fun b hb => by have := Z1.out; have := bkb0_0.out; have := bkb1_0.out; have := Z2.out; have := Z3.out; have := ZZp0.out; have := ZZp1.out; have := ZV.out; have := Z4.out; have := ZMx0_queries.out; have := ZMx0_fields.out; have := Z5.out; have := bkx0_0.out; have := Z6.out; have := bkx1_0.out; have := Z7.out; have := Z8.out; have := Z9.out; have := Z10.out; rcases hb with hb | hb <;> (have := hb.1; omega)) (gw.out.size)))
      replace gv : Hid (Gr wpf wm0) := Lib.hid (Gr.trans' gv.out (dm0.below (fun b hb => by have := Z1.out; have := bkb0_0.out; have := bkb1_0.out; have := Z2.out; have := Z3.out; have := ZZp0.out; have := ZZp1.out; have := ZV.out; have := Z4.out; have := ZMx0_queries.out; have := ZMx0_fields.out; have := Z5.out; have := bkx0_0.out; have := Z6.out; have := bkx1_0.out; have := Z7.out; have := Z8.out; have := Z9.out; have := Z10.out; rcases hb with hb | hb <;> (have := hb.1; omega)) (gv.out.size)))
      replace h0_queries : Hid (RQueries wm0 u0_queries x0.queries) := Lib.hid (RSlice.mono keeps_query gw.out Bh0_queries.out)
      replace h0_fields : Hid (RSpanss wm0 u0_fields x0.fields) := Lib.hid (RSlice.mono (keeps_of keeps_span) gw.out Bh0_fields.out)
      replace h1_vals : Hid (RInts wm0 u1_vals x1.vals) := Lib.hid (RSlice.mono keeps_int gw.out Bh1_vals.out)
      replace hw0 : Hid (RInts wm0 (.slice aw0 nw0 cw0) (probeL x0 x1 [0, 1, 2]).1) := Lib.hid (RSlice.mono keeps_int gv.out Bhw0.out)
      replace hx1_vals : Hid (PInts (In (w4.heap.size + 1) w5.heap.size) wm0 (.slice ax1_vals nx1_vals cx1_vals) x1.vals) := Lib.hid (OSl.frame fr_int hx1_vals.out (dm0.agree fun b hb hc => by have := Z1.out; have := bkb0_0.out; have := bkb1_0.out; have := Z2.out; have := Z3.out; have := ZZp0.out; have := ZZp1.out; have := ZV.out; have := Z4.out; have := ZMx0_queries.out; have := ZMx0_fields.out; have := Z5.out; have := bkx0_0.out; have := Z6.out; have := bkx1_0.out; have := Z7.out; have := Z8.out; have := Z9.out; have := Z10.out; rcases hc with hc | hc <;> (have := hb.1; have := hb.2; have := hc.1; have := hc.2; omega)))
      replace hg0 : Hid (PInts (In (w5.heap.size + 1) w6.heap.size) wm0 (.slice ag0 ng0 cg0) (probeL x0 x1 [0, 1, 2]).1) := Lib.hid (OSl.frame fr_int hg0.out (dm0.agree fun b hb hc => by have := Z1.out; have := bkb0_0.out; have := bkb1_0.out; have := Z2.out; have := Z3.out; have := ZZp0.out; have := ZZp1.out; have := ZV.out; have := Z4.out; have := ZMx0_queries.out; have := ZMx0_fields.out; have := Z5.out; have := bkx0_0.out; have := Z6.out; have := bkx1_0.out; have := Z7.out; have := Z8.out; have := Z9.out; have := Z10.out; rcases hc with hc | hc <;> (have := hb.1; have := hb.2; have := hc.1; have := hc.2; omega)))
      replace kb0_0 : wm0.cell? ⟨w.heap.size, 0, none⟩ = some (u0_queries) := (World.cell?_of_block (w := wb1) (dm0.block _ (World.block_lt_of_cell? _ _ kb0_0) (fun hc => by have := Z1.out; have := bkb0_0.out; have := bkb1_0.out; have := Z2.out; have := Z3.out; have := ZZp0.out; have := ZZp1.out; have := ZV.out; have := Z4.out; have := ZMx0_queries.out; have := ZMx0_fields.out; have := Z5.out; have := bkx0_0.out; have := Z6.out; have := bkx1_0.out; have := Z7.out; have := Z8.out; have := Z9.out; have := Z10.out; rcases hc with hc | hc <;> (have := hc.1; have := hc.2; dsimp only at *; omega)))).trans kb0_0
      replace kb0_1 : wm0.cell? ⟨w.heap.size, 1, none⟩ = some (u0_fields) := (World.cell?_of_block (w := wb1) (dm0.block _ (World.block_lt_of_cell? _ _ kb0_1) (fun hc => by have := Z1.out; have := bkb0_0.out; have := bkb1_0.out; have := Z2.out; have := Z3.out; have := ZZp0.out; have := ZZp1.out; have := ZV.out; have := Z4.out; have := ZMx0_queries.out; have := ZMx0_fields.out; have := Z5.out; have := bkx0_0.out; have := Z6.out; have := bkx1_0.out; have := Z7.out; have := Z8.out; have := Z9.out; have := Z10.out; rcases hc with hc | hc <;> (have := hc.1; have := hc.2; dsimp only at *; omega)))).trans kb0_1
      replace kb1_0 : wm0.cell? ⟨w.heap.size + 1, 0, none⟩ = some (.int .i64 x1.id) := (World.cell?_of_block (w := wb1) (dm0.block _ (World.block_lt_of_cell? _ _ kb1_0) (fun hc => by have := Z1.out; have := bkb0_0.out; have := bkb1_0.out; have := Z2.out; have := Z3.out; have := ZZp0.out; have := ZZp1.out; have := ZV.out; have := Z4.out; have := ZMx0_queries.out; have := ZMx0_fields.out; have := Z5.out; have := bkx0_0.out; have := Z6.out; have := bkx1_0.out; have := Z7.out; have := Z8.out; have := Z9.out; have := Z10.out; rcases hc with hc | hc <;> (have := hc.1; have := hc.2; dsimp only at *; omega)))).trans kb1_0
      replace kb1_1 : wm0.cell? ⟨w.heap.size + 1, 1, none⟩ = some (u1_vals) := (World.cell?_of_block (w := wb1) (dm0.block _ (World.block_lt_of_cell? _ _ kb1_1) (fun hc => by have := Z1.out; have := bkb0_0.out; have := bkb1_0.out; have := Z2.out; have := Z3.out; have := ZZp0.out; have := ZZp1.out; have := ZV.out; have := Z4.out; have := ZMx0_queries.out; have := ZMx0_fields.out; have := Z5.out; have := bkx0_0.out; have := Z6.out; have := bkx1_0.out; have := Z7.out; have := Z8.out; have := Z9.out; have := Z10.out; rcases hc with hc | hc <;> (have := hc.1; have := hc.2; dsimp only at *; omega)))).trans kb1_1
      replace kx0_0 : wm0.cell? ⟨w4.heap.size, 0, none⟩ = some (.slice ax0_queries nx0_queries cx0_queries) := (World.cell?_of_block (w := wb1) (dm0.block _ (World.block_lt_of_cell? _ _ kx0_0) (fun hc => by have := Z1.out; have := bkb0_0.out; have := bkb1_0.out; have := Z2.out; have := Z3.out; have := ZZp0.out; have := ZZp1.out; have := ZV.out; have := Z4.out; have := ZMx0_queries.out; have := ZMx0_fields.out; have := Z5.out; have := bkx0_0.out; have := Z6.out; have := bkx1_0.out; have := Z7.out; have := Z8.out; have := Z9.out; have := Z10.out; rcases hc with hc | hc <;> (have := hc.1; have := hc.2; dsimp only at *; omega)))).trans kx0_0
      replace kx0_1 : wm0.cell? ⟨w4.heap.size, 1, none⟩ = some (.slice ax0_fields nx0_fields cx0_fields) := (World.cell?_of_block (w := wb1) (dm0.block _ (World.block_lt_of_cell? _ _ kx0_1) (fun hc => by have := Z1.out; have := bkb0_0.out; have := bkb1_0.out; have := Z2.out; have := Z3.out; have := ZZp0.out; have := ZZp1.out; have := ZV.out; have := Z4.out; have := ZMx0_queries.out; have := ZMx0_fields.out; have := Z5.out; have := bkx0_0.out; have := Z6.out; have := bkx1_0.out; have := Z7.out; have := Z8.out; have := Z9.out; have := Z10.out; rcases hc with hc | hc <;> (have := hc.1; have := hc.2; dsimp only at *; omega)))).trans kx0_1
      replace kx1_0 : wm0.cell? ⟨w5.heap.size, 0, none⟩ = some (.int .i64 x1.id) := (World.cell?_of_block (w := wb1) (dm0.block _ (World.block_lt_of_cell? _ _ kx1_0) (fun hc => by have := Z1.out; have := bkb0_0.out; have := bkb1_0.out; have := Z2.out; have := Z3.out; have := ZZp0.out; have := ZZp1.out; have := ZV.out; have := Z4.out; have := ZMx0_queries.out; have := ZMx0_fields.out; have := Z5.out; have := bkx0_0.out; have := Z6.out; have := bkx1_0.out; have := Z7.out; have := Z8.out; have := Z9.out; have := Z10.out; rcases hc with hc | hc <;> (have := hc.1; have := hc.2; dsimp only at *; omega)))).trans kx1_0
      replace kx1_1 : wm0.cell? ⟨w5.heap.size, 1, none⟩ = some (.slice ax1_vals nx1_vals cx1_vals) := (World.cell?_of_block (w := wb1) (dm0.block _ (World.block_lt_of_cell? _ _ kx1_1) (fun hc => by have := Z1.out; have := bkb0_0.out; have := bkb1_0.out; have := Z2.out; have := Z3.out; have := ZZp0.out; have := ZZp1.out; have := ZV.out; have := Z4.out; have := ZMx0_queries.out; have := ZMx0_fields.out; have := Z5.out; have := bkx0_0.out; have := Z6.out; have := bkx1_0.out; have := Z7.out; have := Z8.out; have := Z9.out; have := Z10.out; rcases hc with hc | hc <;> (have := hc.1; have := hc.2; dsimp only at *; omega)))).trans kx1_1
      clear hx0_queries
      clear hx0_fields
      have cu0 : 0 ≤ (((1 : Int) + (sumT cntQuery x0.queries : Int)) + (sumT (sumT cntSpan) x0.fields : Int)) := by omega
      have cb1 := HQ1.out
      have cm1_vals := cnt_IntS x1.vals
      unfold totRow at cb1
      go_wp2_with fail
      refine (laws_markRow (In (w4.heap.size + 1) w5.heap.size) x1 _ (((1 : Int) + (sumT cntQuery x0.queries : Int)) + (sumT (sumT cntSpan) x0.fields : Int)) _ hx1_vals.out (fun b hb => by have := Z1.out; have := bkb0_0.out; have := bkb1_0.out; have := Z2.out; have := Z3.out; have := ZZp0.out; have := ZZp1.out; have := ZV.out; have := Z4.out; have := ZMx0_queries.out; have := ZMx0_fields.out; have := Z5.out; have := bkx0_0.out; have := Z6.out; have := bkx1_0.out; have := Z7.out; have := Z8.out; have := Z9.out; have := Z10.out; have := hb.2; omega) (by omega) (by omega)).mono ?_
      rintro e wm1 ⟨rfl, _, dm1⟩
      have Z11 : Hid (wm0.heap.size ≤ wm1.heap.size) := Lib.hid dm1.size
      replace gw : Hid (Gr w wm1) := Lib.hid (Gr.trans' gw.out (dm1.below (fun b hb => by have := Z1.out; have := bkb0_0.out; have := bkb1_0.out; have := Z2.out; have := Z3.out; have := ZZp0.out; have := ZZp1.out; have := ZV.out; have := Z4.out; have := ZMx0_queries.out; have := ZMx0_fields.out; have := Z5.out; have := bkx0_0.out; have := Z6.out; have := bkx1_0.out; have := Z7.out; have := Z8.out; have := Z9.out; have := Z10.out; have := Z11.out; have := hb.1; omega) (gw.out.size)))
      replace gv : Hid (Gr wpf wm1) := Lib.hid (Gr.trans' gv.out (dm1.below (fun b hb => by have := Z1.out; have := bkb0_0.out; have := bkb1_0.out; have := Z2.out; have := Z3.out; have := ZZp0.out; have := ZZp1.out; have := ZV.out; have := Z4.out; have := ZMx0_queries.out; have := ZMx0_fields.out; have := Z5.out; have := bkx0_0.out; have := Z6.out; have := bkx1_0.out; have := Z7.out; have := Z8.out; have := Z9.out; have := Z10.out; have := Z11.out; have := hb.1; omega) (gv.out.size)))
      replace h0_queries : Hid (RQueries wm1 u0_queries x0.queries) := Lib.hid (RSlice.mono keeps_query gw.out Bh0_queries.out)
      replace h0_fields : Hid (RSpanss wm1 u0_fields x0.fields) := Lib.hid (RSlice.mono (keeps_of keeps_span) gw.out Bh0_fields.out)
      replace h1_vals : Hid (RInts wm1 u1_vals x1.vals) := Lib.hid (RSlice.mono keeps_int gw.out Bh1_vals.out)
      replace hw0 : Hid (RInts wm1 (.slice aw0 nw0 cw0) (probeL x0 x1 [0, 1, 2]).1) := Lib.hid (RSlice.mono keeps_int gv.out Bhw0.out)
      replace hg0 : Hid (PInts (In (w5.heap.size + 1) w6.heap.size) wm1 (.slice ag0 ng0 cg0) (probeL x0 x1 [0, 1, 2]).1) := Lib.hid (OSl.frame fr_int hg0.out (dm1.agree fun b hb hc => by have := Z1.out; have := bkb0_0.out; have := bkb1_0.out; have := Z2.out; have := Z3.out; have := ZZp0.out; have := ZZp1.out; have := ZV.out; have := Z4.out; have := ZMx0_queries.out; have := ZMx0_fields.out; have := Z5.out; have := bkx0_0.out; have := Z6.out; have := bkx1_0.out; have := Z7.out; have := Z8.out; have := Z9.out; have := Z10.out; have := Z11.out; have := hb.1; have := hb.2; have := hc.1; have := hc.2; omega))
      replace kb0_0 : wm1.cell? ⟨w.heap.size, 0, none⟩ = some (u0_queries) := (World.cell?_of_block (w := wm0) (dm1.block _ (World.block_lt_of_cell? _ _ kb0_0) (fun hc => by have := Z1.out; have := bkb0_0.out; have := bkb1_0.out; have := Z2.out; have := Z3.out; have := ZZp0.out; have := ZZp1.out; have := ZV.out; have := Z4.out; have := ZMx0_queries.out; have := ZMx0_fields.out; have := Z5.out; have := bkx0_0.out; have := Z6.out; have := bkx1_0.out; have := Z7.out; have := Z8.out; have := Z9.out; have := Z10.out; have := Z11.out; have := hc.1; have := hc.2; dsimp only at *; omega))).trans kb0_0
      replace kb0_1 : wm1.cell? ⟨w.heap.size, 1, none⟩ = some (u0_fields) := (World.cell?_of_block (w := wm0) (dm1.block _ (World.block_lt_of_cell? _ _ kb0_1) (fun hc => by have := Z1.out; have := bkb0_0.out; have := bkb1_0.out; have := Z2.out; have := Z3.out; have := ZZp0.out; have := ZZp1.out; have := ZV.out; have := Z4.out; have := ZMx0_queries.out; have := ZMx0_fields.out; have := Z5.out; have := bkx0_0.out; have := Z6.out; have := bkx1_0.out; have := Z7.out; have := Z8.out; have := Z9.out; have := Z10.out; have := Z11.out; have := hc.1; have := hc.2; dsimp only at *; omega))).trans kb0_1
      replace kb1_0 : wm1.cell? ⟨w.heap.size + 1, 0, none⟩ = some (.int .i64 x1.id) := (World.cell?_of_block (w := wm0) (dm1.block _ (World.block_lt_of_cell? _ _ kb1_0) (fun hc => by have := Z1.out; have := bkb0_0.out; have := bkb1_0.out; have := Z2.out; have := Z3.out; have := ZZp0.out; have := ZZp1.out; have := ZV.out; have := Z4.out; have := ZMx0_queries.out; have := ZMx0_fields.out; have := Z5.out; have := bkx0_0.out; have := Z6.out; have := bkx1_0.out; have := Z7.out; have := Z8.out; have := Z9.out; have := Z10.out; have := Z11.out; have := hc.1; have := hc.2; dsimp only at *; omega))).trans kb1_0
      replace kb1_1 : wm1.cell? ⟨w.heap.size + 1, 1, none⟩ = some (u1_vals) := (World.cell?_of_block (w := wm0) (dm1.block _ (World.block_lt_of_cell? _ _ kb1_1) (fun hc => by have := Z1.out; have := bkb0_0.out; have := bkb1_0.out; have := Z2.out; have := Z3.out; have := ZZp0.out; have := ZZp1.out; have := ZV.out; have := Z4.out; have := ZMx0_queries.out; have := ZMx0_fields.out; have := Z5.out; have := bkx0_0.out; have := Z6.out; have := bkx1_0.out; have := Z7.out; have := Z8.out; have := Z9.out; have := Z10.out; have := Z11.out; have := hc.1; have := hc.2; dsimp only at *; omega))).trans kb1_1
      replace kx0_0 : wm1.cell? ⟨w4.heap.size, 0, none⟩ = some (.slice ax0_queries nx0_queries cx0_queries) := (World.cell?_of_block (w := wm0) (dm1.block _ (World.block_lt_of_cell? _ _ kx0_0) (fun hc => by have := Z1.out; have := bkb0_0.out; have := bkb1_0.out; have := Z2.out; have := Z3.out; have := ZZp0.out; have := ZZp1.out; have := ZV.out; have := Z4.out; have := ZMx0_queries.out; have := ZMx0_fields.out; have := Z5.out; have := bkx0_0.out; have := Z6.out; have := bkx1_0.out; have := Z7.out; have := Z8.out; have := Z9.out; have := Z10.out; have := Z11.out; have := hc.1; have := hc.2; dsimp only at *; omega))).trans kx0_0
      replace kx0_1 : wm1.cell? ⟨w4.heap.size, 1, none⟩ = some (.slice ax0_fields nx0_fields cx0_fields) := (World.cell?_of_block (w := wm0) (dm1.block _ (World.block_lt_of_cell? _ _ kx0_1) (fun hc => by have := Z1.out; have := bkb0_0.out; have := bkb1_0.out; have := Z2.out; have := Z3.out; have := ZZp0.out; have := ZZp1.out; have := ZV.out; have := Z4.out; have := ZMx0_queries.out; have := ZMx0_fields.out; have := Z5.out; have := bkx0_0.out; have := Z6.out; have := bkx1_0.out; have := Z7.out; have := Z8.out; have := Z9.out; have := Z10.out; have := Z11.out; have := hc.1; have := hc.2; dsimp only at *; omega))).trans kx0_1
      replace kx1_0 : wm1.cell? ⟨w5.heap.size, 0, none⟩ = some (.int .i64 x1.id) := (World.cell?_of_block (w := wm0) (dm1.block _ (World.block_lt_of_cell? _ _ kx1_0) (fun hc => by have := Z1.out; have := bkb0_0.out; have := bkb1_0.out; have := Z2.out; have := Z3.out; have := ZZp0.out; have := ZZp1.out; have := ZV.out; have := Z4.out; have := ZMx0_queries.out; have := ZMx0_fields.out; have := Z5.out; have := bkx0_0.out; have := Z6.out; have := bkx1_0.out; have := Z7.out; have := Z8.out; have := Z9.out; have := Z10.out; have := Z11.out; have := hc.1; have := hc.2; dsimp only at *; omega))).trans kx1_0
      replace kx1_1 : wm1.cell? ⟨w5.heap.size, 1, none⟩ = some (.slice ax1_vals nx1_vals cx1_vals) := (World.cell?_of_block (w := wm0) (dm1.block _ (World.block_lt_of_cell? _ _ kx1_1) (fun hc => by have := Z1.out; have := bkb0_0.out; have := bkb1_0.out; have := Z2.out; have := Z3.out; have := ZZp0.out; have := ZZp1.out; have := ZV.out; have := Z4.out; have := ZMx0_queries.out; have := ZMx0_fields.out; have := Z5.out; have := bkx0_0.out; have := Z6.out; have := bkx1_0.out; have := Z7.out; have := Z8.out; have := Z9.out; have := Z10.out; have := Z11.out; have := hc.1; have := hc.2; dsimp only at *; omega))).trans kx1_1
      clear hx1_vals
      have cu1 : 0 ≤ ((((1 : Int) + (sumT cntQuery x0.queries : Int)) + (sumT (sumT cntSpan) x0.fields : Int)) + (sumT cntI x1.vals : Int)) := by omega
      clear kx0_0
      clear kx0_1
      clear kx1_0
      clear kx1_1
      go_wp2_with fail
      refine (laws_eqIntS_same _ _ (probeL x0 x1 [0, 1, 2]).1 _ (rd_pints hg0.out) hw0.out).mono ?_
      rintro e w12 ⟨rfl, g12⟩
      have Z12 : Hid (wm1.heap.size + 0 ≤ w12.heap.size) := Lib.hid (by have := g12.size; simpa using this)
      replace h0_queries : Hid (RQueries w12 u0_queries x0.queries) := Lib.hid (RSlice.mono keeps_query g12 h0_queries.out)
      replace h0_fields : Hid (RSpanss w12 u0_fields x0.fields) := Lib.hid (RSlice.mono (keeps_of keeps_span) g12 h0_fields.out)
      replace h1_vals : Hid (RInts w12 u1_vals x1.vals) := Lib.hid (RSlice.mono keeps_int g12 h1_vals.out)
      replace hw0 : Hid (RInts w12 (.slice aw0 nw0 cw0) (probeL x0 x1 [0, 1, 2]).1) := Lib.hid (RSlice.mono keeps_int g12 hw0.out)
      replace hg0 : Hid (PInts (In (w5.heap.size + 1) w6.heap.size) w12 (.slice ag0 ng0 cg0) (probeL x0 x1 [0, 1, 2]).1) := Lib.hid (OSl.gr fr_int hg0.out g12)
      replace kb0_0 : w12.cell? ⟨w.heap.size, 0, none⟩ = some (u0_queries) := g12.cellv kb0_0
      replace kb0_1 : w12.cell? ⟨w.heap.size, 1, none⟩ = some (u0_fields) := g12.cellv kb0_1
      replace kb1_0 : w12.cell? ⟨w.heap.size + 1, 0, none⟩ = some (.int .i64 x1.id) := g12.cellv kb1_0
      replace kb1_1 : w12.cell? ⟨w.heap.size + 1, 1, none⟩ = some (u1_vals) := g12.cellv kb1_1
      replace gw : Hid (Gr w w12) := Lib.hid (gw.out.trans g12)
      replace gv : Hid (Gr wpf w12) := Lib.hid (gv.out.trans g12)
      have HBR := Lib.hid (show (1 : Int) + (sumT cntI (probeL x0 x1 [0, 1, 2]).1 : Int) ≤ 4611686018427387904 from by have := probeL_small x0 x1 [0, 1, 2]; omega)
      have hbr := HBR.out
      go_wp2_with fail
      refine (laws_markIntS (In (w5.heap.size + 1) w6.heap.size) _ (probeL x0 x1 [0, 1, 2]).1 (1 : Int) _ hg0.out (by omega) (by omega)).mono ?_
      rintro e wg0 ⟨rfl, qhg0, dg0⟩
      have Z13 : Hid (w12.heap.size ≤ wg0.heap.size) := Lib.hid dg0.size
      replace gw : Hid (Gr w wg0) := Lib.hid (Gr.trans' gw.out (dg0.below (fun b hb => by have := Z1.out; have := bkb0_0.out; have := bkb1_0.out; have := Z2.out; have := Z3.out; have := ZZp0.out; have := ZZp1.out; have := ZV.out; have := Z4.out; have := ZMx0_queries.out; have := ZMx0_fields.out; have := Z5.out; have := bkx0_0.out; have := Z6.out; have := bkx1_0.out; have := Z7.out; have := Z8.out; have := Z9.out; have := Z10.out; have := Z11.out; have := Z12.out; have := Z13.out; have := hb.1; omega) (gw.out.size)))
      replace gv : Hid (Gr wpf wg0) := Lib.hid (Gr.trans' gv.out (dg0.below (fun b hb => by have := Z1.out; have := bkb0_0.out; have := bkb1_0.out; have := Z2.out; have := Z3.out; have := ZZp0.out; have := ZZp1.out; have := ZV.out; have := Z4.out; have := ZMx0_queries.out; have := ZMx0_fields.out; have := Z5.out; have := bkx0_0.out; have := Z6.out; have := bkx1_0.out; have := Z7.out; have := Z8.out; have := Z9.out; have := Z10.out; have := Z11.out; have := Z12.out; have := Z13.out; have := hb.1; omega) (gv.out.size)))
      replace h0_queries : Hid (RQueries wg0 u0_queries x0.queries) := Lib.hid (RSlice.mono keeps_query gw.out Bh0_queries.out)
      replace h0_fields : Hid (RSpanss wg0 u0_fields x0.fields) := Lib.hid (RSlice.mono (keeps_of keeps_span) gw.out Bh0_fields.out)
      replace h1_vals : Hid (RInts wg0 u1_vals x1.vals) := Lib.hid (RSlice.mono keeps_int gw.out Bh1_vals.out)
      replace hw0 : Hid (RInts wg0 (.slice aw0 nw0 cw0) (probeL x0 x1 [0, 1, 2]).1) := Lib.hid (RSlice.mono keeps_int gv.out Bhw0.out)
      replace kb0_0 : wg0.cell? ⟨w.heap.size, 0, none⟩ = some (u0_queries) := (World.cell?_of_block (w := w12) (dg0.block _ (World.block_lt_of_cell? _ _ kb0_0) (fun hc => by have := Z1.out; have := bkb0_0.out; have := bkb1_0.out; have := Z2.out; have := Z3.out; have := ZZp0.out; have := ZZp1.out; have := ZV.out; have := Z4.out; have := ZMx0_queries.out; have := ZMx0_fields.out; have := Z5.out; have := bkx0_0.out; have := Z6.out; have := bkx1_0.out; have := Z7.out; have := Z8.out; have := Z9.out; have := Z10.out; have := Z11.out; have := Z12.out; have := Z13.out; have := hc.1; have := hc.2; dsimp only at *; omega))).trans kb0_0
      replace kb0_1 : wg0.cell? ⟨w.heap.size, 1, none⟩ = some (u0_fields) := (World.cell?_of_block (w := w12) (dg0.block _ (World.block_lt_of_cell? _ _ kb0_1) (fun hc => by have := Z1.out; have := bkb0_0.out; have := bkb1_0.out; have := Z2.out; have := Z3.out; have := ZZp0.out; have := ZZp1.out; have := ZV.out; have := Z4.out; have := ZMx0_queries.out; have := ZMx0_fields.out; have := Z5.out; have := bkx0_0.out; have := Z6.out; have := bkx1_0.out; have := Z7.out; have := Z8.out; have := Z9.out; have := Z10.out; have := Z11.out; have := Z12.out; have := Z13.out; have := hc.1; have := hc.2; dsimp only at *; omega))).trans kb0_1
      replace kb1_0 : wg0.cell? ⟨w.heap.size + 1, 0, none⟩ = some (.int .i64 x1.id) := (World.cell?_of_block (w := w12) (dg0.block _ (World.block_lt_of_cell? _ _ kb1_0) (fun hc => by have := Z1.out; have := bkb0_0.out; have := bkb1_0.out; have := Z2.out; have := Z3.out; have := ZZp0.out; have := ZZp1.out; have := ZV.out; have := Z4.out; have := ZMx0_queries.out; have := ZMx0_fields.out; have := Z5.out; have := bkx0_0.out; have := Z6.out; have := bkx1_0.out; have := Z7.out; have := Z8.out; have := Z9.out; have := Z10.out; have := Z11.out; have := Z12.out; have := Z13.out; have := hc.1; have := hc.2; dsimp only at *; omega))).trans kb1_0
      replace kb1_1 : wg0.cell? ⟨w.heap.size + 1, 1, none⟩ = some (u1_vals) := (World.cell?_of_block (w := w12) (dg0.block _ (World.block_lt_of_cell? _ _ kb1_1) (fun hc => by have := Z1.out; have := bkb0_0.out; have := bkb1_0.out; have := Z2.out; have := Z3.out; have := ZZp0.out; have := ZZp1.out; have := ZV.out; have := Z4.out; have := ZMx0_queries.out; have := ZMx0_fields.out; have := Z5.out; have := bkx0_0.out; have := Z6.out; have := bkx1_0.out; have := Z7.out; have := Z8.out; have := Z9.out; have := Z10.out; have := Z11.out; have := Z12.out; have := Z13.out; have := hc.1; have := hc.2; dsimp only at *; omega))).trans kb1_1
      clear hg0
      have Mhg0 : Hid (RInts wg0 (.slice ag0 ng0 cg0) (marksTo mkI cntI (1 : Int) (probeL x0 x1 [0, 1, 2]).1.length (probeL x0 x1 [0, 1, 2]).1)) := Lib.hid (rd_pints qhg0)
      clear qhg0
      have hcg0 : 0 ≤ ((1 : Int) + (sumT cntI (probeL x0 x1 [0, 1, 2]).1 : Int)) := by omega
      have ef : (((1 : Int) + (sumT cntI (probeL x0 x1 [0, 1, 2]).1 : Int)) != ((1 : Int) + (sumT cntI (probeL x0 x1 [0, 1, 2]).1 : Int))) = false := by simp
      go_wp2_with fail
      refine (laws_heldIntS _ (probeL x0 x1 [0, 1, 2]).1 (1 : Int) _ Mhg0.out (by omega) (by omega)).mono ?_
      rintro e w14 ⟨rfl, g14⟩
      have Z14 : Hid (wg0.heap.size + 0 ≤ w14.heap.size) := Lib.hid (by have := g14.size; simpa using this)
      replace h0_queries : Hid (RQueries w14 u0_queries x0.queries) := Lib.hid (RSlice.mono keeps_query g14 h0_queries.out)
      replace h0_fields : Hid (RSpanss w14 u0_fields x0.fields) := Lib.hid (RSlice.mono (keeps_of keeps_span) g14 h0_fields.out)
      replace h1_vals : Hid (RInts w14 u1_vals x1.vals) := Lib.hid (RSlice.mono keeps_int g14 h1_vals.out)
      replace hw0 : Hid (RInts w14 (.slice aw0 nw0 cw0) (probeL x0 x1 [0, 1, 2]).1) := Lib.hid (RSlice.mono keeps_int g14 hw0.out)
      replace Mhg0 : Hid (RInts w14 (.slice ag0 ng0 cg0) (marksTo mkI cntI (1 : Int) (probeL x0 x1 [0, 1, 2]).1.length (probeL x0 x1 [0, 1, 2]).1)) := Lib.hid (RSlice.mono keeps_int g14 Mhg0.out)
      replace kb0_0 : w14.cell? ⟨w.heap.size, 0, none⟩ = some (u0_queries) := g14.cellv kb0_0
      replace kb0_1 : w14.cell? ⟨w.heap.size, 1, none⟩ = some (u0_fields) := g14.cellv kb0_1
      replace kb1_0 : w14.cell? ⟨w.heap.size + 1, 0, none⟩ = some (.int .i64 x1.id) := g14.cellv kb1_0
      replace kb1_1 : w14.cell? ⟨w.heap.size + 1, 1, none⟩ = some (u1_vals) := g14.cellv kb1_1
      replace gw : Hid (Gr w w14) := Lib.hid (gw.out.trans g14)
      replace gv : Hid (Gr wpf w14) := Lib.hid (gv.out.trans g14)
      -- drawn
      go_wp2
      go_region_held3 (fun w' => w'.cell? ⟨w.heap.size, 0, none⟩ = some (u0_queries) ∧ w'.cell? ⟨w.heap.size, 1, none⟩ = some (u0_fields) ∧ w'.cell? ⟨w.heap.size + 1, 0, none⟩ = some (.int .i64 x1.id) ∧ w'.cell? ⟨w.heap.size + 1, 1, none⟩ = some (u1_vals) ∧ RQueries w' u0_queries x0.queries ∧ RSpanss w' u0_fields x0.fields ∧ RInts w' u1_vals x1.vals ∧ RInts w' (.slice aw0 nw0 cw0) (probeL x0 x1 [0, 1, 2]).1 ∧ RInts w' (.slice ag0 ng0 cg0) (marksTo mkI cntI (1 : Int) (probeL x0 x1 [0, 1, 2]).1.length (probeL x0 x1 [0, 1, 2]).1) ∧ Gr w14 w')
        (first | exact ⟨kb0_0, kb0_1, kb1_0, kb1_1, h0_queries.out, h0_fields.out, h1_vals.out, hw0.out, Mhg0.out, Gr.refl _⟩ | exact ⟨kb0_0, kb0_1, kb1_0, kb1_1, h0_queries.out, h0_fields.out, h1_vals.out, hw0.out, Mhg0.out, (Gr.refl _).drew⟩ | (go_split_ands; exact ⟨Gr.cellv gzf (by assumption), Gr.cellv gzf (by assumption), Gr.cellv gzf (by assumption), Gr.cellv gzf (by assumption), (RSlice.mono keeps_query gzf (by assumption)), (RSlice.mono (keeps_of keeps_span) gzf (by assumption)), (RSlice.mono keeps_int gzf (by assumption)), (RSlice.mono keeps_int gzf (by assumption)), (RSlice.mono keeps_int gzf (by assumption)), Gr.trans (by assumption) gzf⟩) | (go_split_ands; exact ⟨Gr.cellv gz1 (by assumption), Gr.cellv gz1 (by assumption), Gr.cellv gz1 (by assumption), Gr.cellv gz1 (by assumption), (RSlice.mono keeps_query gz1 (by assumption)), (RSlice.mono (keeps_of keeps_span) gz1 (by assumption)), (RSlice.mono keeps_int gz1 (by assumption)), (RSlice.mono keeps_int gz1 (by assumption)), (RSlice.mono keeps_int gz1 (by assumption)), Gr.trans (by assumption) gz1⟩) | (go_split_ands; exact ⟨Gr.cellv gz0 (by assumption), Gr.cellv gz0 (by assumption), Gr.cellv gz0 (by assumption), Gr.cellv gz0 (by assumption), (RSlice.mono keeps_query gz0 (by assumption)), (RSlice.mono (keeps_of keeps_span) gz0 (by assumption)), (RSlice.mono keeps_int gz0 (by assumption)), (RSlice.mono keeps_int gz0 (by assumption)), (RSlice.mono keeps_int gz0 (by assumption)), Gr.trans (by assumption) gz0⟩))
        (first | (go_at_call 57; go_split_ands; refine (laws_toIndex_own x0 u0_queries u0_fields _ (by assumption) (by assumption) HT0.out).mono ?_; rintro e wz0 ⟨vz0_queries, vz0_fields, rfl, gz0, mz0, hmz0, hnz0, r_hz0_queries, r_hz0_fields⟩) | (go_at_call 24; go_split_ands; refine (laws_toRow_own x1 u1_vals _ (by assumption) HT1.out).mono ?_; rintro e wz1 ⟨vz1_vals, rfl, gz1, r_hz1_vals⟩) | (go_at_call 70; refine (impl_MatchSet x0 _ _ x1 _ _ (RSlice.mono keeps_query gz1 (rd_pqueries r_hz0_queries)) (RSlice.mono (keeps_of keeps_span) gz1 (rd_pspanss r_hz0_fields)) (rd_pints r_hz1_vals) HT0.out).mono ?_; rintro e wzf ⟨vh0, rfl, gzf, r_hh0⟩))
      have hdr15 : Gr w14 w14.drew := (Gr.refl w14).drew
      have gs15 : Gr w14 wzf := (((hdr15.trans gz0).trans gz1).trans gzf)
      have Z15 : Hid (w14.heap.size + 0 ≤ wzf.heap.size) := Lib.hid gs15.size
      have ZZz0 : Hid (w14.heap.size ≤ wz0.heap.size) := Lib.hid (by have := gz0.size; simpa using this)
      have ZZz1 : Hid (wz0.heap.size ≤ wz1.heap.size) := Lib.hid (by have := gz1.size; simpa using this)
      replace h0_queries : Hid (RQueries wzf u0_queries x0.queries) := Lib.hid (RSlice.mono keeps_query gs15 h0_queries.out)
      replace h0_fields : Hid (RSpanss wzf u0_fields x0.fields) := Lib.hid (RSlice.mono (keeps_of keeps_span) gs15 h0_fields.out)
      replace h1_vals : Hid (RInts wzf u1_vals x1.vals) := Lib.hid (RSlice.mono keeps_int gs15 h1_vals.out)
      replace hw0 : Hid (RInts wzf (.slice aw0 nw0 cw0) (probeL x0 x1 [0, 1, 2]).1) := Lib.hid (RSlice.mono keeps_int gs15 hw0.out)
      replace Mhg0 : Hid (RInts wzf (.slice ag0 ng0 cg0) (marksTo mkI cntI (1 : Int) (probeL x0 x1 [0, 1, 2]).1.length (probeL x0 x1 [0, 1, 2]).1)) := Lib.hid (RSlice.mono keeps_int gs15 Mhg0.out)
      replace kb0_0 : wzf.cell? ⟨w.heap.size, 0, none⟩ = some (u0_queries) := gs15.cellv kb0_0
      replace kb0_1 : wzf.cell? ⟨w.heap.size, 1, none⟩ = some (u0_fields) := gs15.cellv kb0_1
      replace kb1_0 : wzf.cell? ⟨w.heap.size + 1, 0, none⟩ = some (.int .i64 x1.id) := gs15.cellv kb1_0
      replace kb1_1 : wzf.cell? ⟨w.heap.size + 1, 1, none⟩ = some (u1_vals) := gs15.cellv kb1_1
      replace gw : Hid (Gr w wzf) := Lib.hid (gw.out.trans gs15)
      replace gv : Hid (Gr wpf wzf) := Lib.hid (gv.out.trans gs15)
      obtain ⟨ah0, nh0, ch0, rfl⟩ := r_hh0.isSl
      have hh0 : Hid (PInts (In wz1.heap.size wzf.heap.size) wzf (.slice ah0 nh0 ch0) (probeL x0 x1 [0, 1, 2]).1) := Lib.hid (r_hh0.wide (by simp) (by omega))
      clear r_hh0
      go_wp2_with fail
      refine (laws_eqIntS_same _ _ (probeL x0 x1 [0, 1, 2]).1 _ (rd_pints hh0.out) hw0.out).mono ?_
      rintro e w16 ⟨rfl, g16⟩
      have Z16 : Hid (wzf.heap.size + 0 ≤ w16.heap.size) := Lib.hid (by have := g16.size; simpa using this)
      replace h0_queries : Hid (RQueries w16 u0_queries x0.queries) := Lib.hid (RSlice.mono keeps_query g16 h0_queries.out)
      replace h0_fields : Hid (RSpanss w16 u0_fields x0.fields) := Lib.hid (RSlice.mono (keeps_of keeps_span) g16 h0_fields.out)
      replace h1_vals : Hid (RInts w16 u1_vals x1.vals) := Lib.hid (RSlice.mono keeps_int g16 h1_vals.out)
      replace hw0 : Hid (RInts w16 (.slice aw0 nw0 cw0) (probeL x0 x1 [0, 1, 2]).1) := Lib.hid (RSlice.mono keeps_int g16 hw0.out)
      replace Mhg0 : Hid (RInts w16 (.slice ag0 ng0 cg0) (marksTo mkI cntI (1 : Int) (probeL x0 x1 [0, 1, 2]).1.length (probeL x0 x1 [0, 1, 2]).1)) := Lib.hid (RSlice.mono keeps_int g16 Mhg0.out)
      replace hh0 : Hid (PInts (In wz1.heap.size wzf.heap.size) w16 (.slice ah0 nh0 ch0) (probeL x0 x1 [0, 1, 2]).1) := Lib.hid (OSl.gr fr_int hh0.out g16)
      replace kb0_0 : w16.cell? ⟨w.heap.size, 0, none⟩ = some (u0_queries) := g16.cellv kb0_0
      replace kb0_1 : w16.cell? ⟨w.heap.size, 1, none⟩ = some (u0_fields) := g16.cellv kb0_1
      replace kb1_0 : w16.cell? ⟨w.heap.size + 1, 0, none⟩ = some (.int .i64 x1.id) := g16.cellv kb1_0
      replace kb1_1 : w16.cell? ⟨w.heap.size + 1, 1, none⟩ = some (u1_vals) := g16.cellv kb1_1
      replace gw : Hid (Gr w w16) := Lib.hid (gw.out.trans g16)
      replace gv : Hid (Gr wpf w16) := Lib.hid (gv.out.trans g16)
      go_wp2_with fail
      refine (laws_heldIntS _ (probeL x0 x1 [0, 1, 2]).1 (1 : Int) _ Mhg0.out (by omega) (by omega)).mono ?_
      rintro e w17 ⟨rfl, g17⟩
      have Z17 : Hid (w16.heap.size + 0 ≤ w17.heap.size) := Lib.hid (by have := g17.size; simpa using this)
      replace h0_queries : Hid (RQueries w17 u0_queries x0.queries) := Lib.hid (RSlice.mono keeps_query g17 h0_queries.out)
      replace h0_fields : Hid (RSpanss w17 u0_fields x0.fields) := Lib.hid (RSlice.mono (keeps_of keeps_span) g17 h0_fields.out)
      replace h1_vals : Hid (RInts w17 u1_vals x1.vals) := Lib.hid (RSlice.mono keeps_int g17 h1_vals.out)
      replace hw0 : Hid (RInts w17 (.slice aw0 nw0 cw0) (probeL x0 x1 [0, 1, 2]).1) := Lib.hid (RSlice.mono keeps_int g17 hw0.out)
      replace Mhg0 : Hid (RInts w17 (.slice ag0 ng0 cg0) (marksTo mkI cntI (1 : Int) (probeL x0 x1 [0, 1, 2]).1.length (probeL x0 x1 [0, 1, 2]).1)) := Lib.hid (RSlice.mono keeps_int g17 Mhg0.out)
      replace hh0 : Hid (PInts (In wz1.heap.size wzf.heap.size) w17 (.slice ah0 nh0 ch0) (probeL x0 x1 [0, 1, 2]).1) := Lib.hid (OSl.gr fr_int hh0.out g17)
      replace kb0_0 : w17.cell? ⟨w.heap.size, 0, none⟩ = some (u0_queries) := g17.cellv kb0_0
      replace kb0_1 : w17.cell? ⟨w.heap.size, 1, none⟩ = some (u0_fields) := g17.cellv kb0_1
      replace kb1_0 : w17.cell? ⟨w.heap.size + 1, 0, none⟩ = some (.int .i64 x1.id) := g17.cellv kb1_0
      replace kb1_1 : w17.cell? ⟨w.heap.size + 1, 1, none⟩ = some (u1_vals) := g17.cellv kb1_1
      replace gw : Hid (Gr w w17) := Lib.hid (gw.out.trans g17)
      replace gv : Hid (Gr wpf w17) := Lib.hid (gv.out.trans g17)
      go_wp2_with fail
      go_ret
      exact ⟨rfl, gw.out⟩
    · have HZ0 := Lib.hid (szV_yes (t := (totIndex x0)) (left := (1048576 : Int)) (by omega))
      have HA0 := Lib.hid (show (0 : Int) ≤ (1048576 : Int) ∧ (1048576 : Int) ≤ 1048576 from by omega)
      have HB0 := Lib.hid (show (0 : Int) ≤ (1048576 : Int) - ((totIndex x0) : Int) ∧ (1048576 : Int) - ((totIndex x0) : Int) ≤ 1048576 from by omega)
      have HZ1 := Lib.hid (szV_no (t := (totRow x1)) (left := (1048576 - ((totIndex x0) : Int))) (by omega))
      have HA1 := Lib.hid (show (0 : Int) ≤ (1048576 - ((totIndex x0) : Int)) ∧ (1048576 - ((totIndex x0) : Int)) ≤ 1048576 from by omega)
      clear hs0 hs1
      go_enter Try.func13, Try.ntmps13
      have Bh0_queries := Lib.hid h0_queries
      replace h0_queries := Lib.hid h0_queries
      have Bh0_fields := Lib.hid h0_fields
      replace h0_fields := Lib.hid h0_fields
      have Bh1_vals := Lib.hid h1_vals
      replace h1_vals := Lib.hid h1_vals
      go_wp2_with fail
      refine (laws_szIndex x0 u0_queries u0_fields _ _ (RSlice.mono keeps_query (((Gr.refl w).alloc _).alloc _) h0_queries.out) (RSlice.mono (keeps_of keeps_span) (((Gr.refl w).alloc _).alloc _) h0_fields.out) HA0.out.1 HA0.out.2).mono ?_
      rintro e w1 ⟨rfl, g1⟩
      have gs1 : Gr w w1 := (((Gr.refl w).alloc _).alloc _).trans g1
      have Z1 : Hid (w.heap.size + 2 ≤ w1.heap.size) := Lib.hid (by have := g1.size; simpa using this)
      replace h0_queries : Hid (RQueries w1 u0_queries x0.queries) := Lib.hid (RSlice.mono keeps_query gs1 h0_queries.out)
      replace h0_fields : Hid (RSpanss w1 u0_fields x0.fields) := Lib.hid (RSlice.mono (keeps_of keeps_span) gs1 h0_fields.out)
      replace h1_vals : Hid (RInts w1 u1_vals x1.vals) := Lib.hid (RSlice.mono keeps_int gs1 h1_vals.out)
      have gw : Hid (Gr w w1) := Lib.hid gs1
      have kb0_0 : w1.cell? ⟨w.heap.size, 0, none⟩ = some (u0_queries) := g1.cellv (by simp [go_sem])
      have kb0_1 : w1.cell? ⟨w.heap.size, 1, none⟩ = some (u0_fields) := g1.cellv (by simp [go_sem])
      have kb1_0 : w1.cell? ⟨w.heap.size + 1, 0, none⟩ = some (.int .i64 x1.id) := g1.cellv (by simp [go_sem])
      have kb1_1 : w1.cell? ⟨w.heap.size + 1, 1, none⟩ = some (u1_vals) := g1.cellv (by simp [go_sem])
      have bkb0_0 : Hid (w.heap.size < w1.heap.size) := Lib.hid (by have := Z1.out; omega)
      have bkb1_0 : Hid (w.heap.size + 1 < w1.heap.size) := Lib.hid (by have := Z1.out; omega)
      rw [HZ0.out]
      have hB0 := HB0.out.1
      have hC0 := HB0.out.2
      go_wp2_with fail
      refine (laws_szRow x1 u1_vals _ _ h1_vals.out HA1.out.1 HA1.out.2).mono ?_
      rintro e w2 ⟨rfl, g2⟩
      have Z2 : Hid (w1.heap.size + 0 ≤ w2.heap.size) := Lib.hid (by have := g2.size; simpa using this)
      replace h0_queries : Hid (RQueries w2 u0_queries x0.queries) := Lib.hid (RSlice.mono keeps_query g2 h0_queries.out)
      replace h0_fields : Hid (RSpanss w2 u0_fields x0.fields) := Lib.hid (RSlice.mono (keeps_of keeps_span) g2 h0_fields.out)
      replace h1_vals : Hid (RInts w2 u1_vals x1.vals) := Lib.hid (RSlice.mono keeps_int g2 h1_vals.out)
      replace kb0_0 : w2.cell? ⟨w.heap.size, 0, none⟩ = some (u0_queries) := g2.cellv kb0_0
      replace kb0_1 : w2.cell? ⟨w.heap.size, 1, none⟩ = some (u0_fields) := g2.cellv kb0_1
      replace kb1_0 : w2.cell? ⟨w.heap.size + 1, 0, none⟩ = some (.int .i64 x1.id) := g2.cellv kb1_0
      replace kb1_1 : w2.cell? ⟨w.heap.size + 1, 1, none⟩ = some (u1_vals) := g2.cellv kb1_1
      replace gw : Hid (Gr w w2) := Lib.hid (gw.out.trans g2)
      rw [HZ1.out]
      go_wp2_with fail
      go_ret
      exact ⟨rfl, gw.out⟩
  · have HZ0 := Lib.hid (szV_no (t := (totIndex x0)) (left := (1048576 : Int)) (by omega))
    have HA0 := Lib.hid (show (0 : Int) ≤ (1048576 : Int) ∧ (1048576 : Int) ≤ 1048576 from by omega)
    clear hs0
    go_enter Try.func13, Try.ntmps13
    have Bh0_queries := Lib.hid h0_queries
    replace h0_queries := Lib.hid h0_queries
    have Bh0_fields := Lib.hid h0_fields
    replace h0_fields := Lib.hid h0_fields
    have Bh1_vals := Lib.hid h1_vals
    replace h1_vals := Lib.hid h1_vals
    go_wp2_with fail
    refine (laws_szIndex x0 u0_queries u0_fields _ _ (RSlice.mono keeps_query (((Gr.refl w).alloc _).alloc _) h0_queries.out) (RSlice.mono (keeps_of keeps_span) (((Gr.refl w).alloc _).alloc _) h0_fields.out) HA0.out.1 HA0.out.2).mono ?_
    rintro e w1 ⟨rfl, g1⟩
    have gs1 : Gr w w1 := (((Gr.refl w).alloc _).alloc _).trans g1
    have Z1 : Hid (w.heap.size + 2 ≤ w1.heap.size) := Lib.hid (by have := g1.size; simpa using this)
    replace h0_queries : Hid (RQueries w1 u0_queries x0.queries) := Lib.hid (RSlice.mono keeps_query gs1 h0_queries.out)
    replace h0_fields : Hid (RSpanss w1 u0_fields x0.fields) := Lib.hid (RSlice.mono (keeps_of keeps_span) gs1 h0_fields.out)
    replace h1_vals : Hid (RInts w1 u1_vals x1.vals) := Lib.hid (RSlice.mono keeps_int gs1 h1_vals.out)
    have gw : Hid (Gr w w1) := Lib.hid gs1
    have kb0_0 : w1.cell? ⟨w.heap.size, 0, none⟩ = some (u0_queries) := g1.cellv (by simp [go_sem])
    have kb0_1 : w1.cell? ⟨w.heap.size, 1, none⟩ = some (u0_fields) := g1.cellv (by simp [go_sem])
    have kb1_0 : w1.cell? ⟨w.heap.size + 1, 0, none⟩ = some (.int .i64 x1.id) := g1.cellv (by simp [go_sem])
    have kb1_1 : w1.cell? ⟨w.heap.size + 1, 1, none⟩ = some (u1_vals) := g1.cellv (by simp [go_sem])
    have bkb0_0 : Hid (w.heap.size < w1.heap.size) := Lib.hid (by have := Z1.out; omega)
    have bkb1_0 : Hid (w.heap.size + 1 < w1.heap.size) := Lib.hid (by have := Z1.out; omega)
    rw [HZ0.out]
    go_wp2_with fail
    go_ret
    exact ⟨rfl, gw.out⟩
end Go.Proofs.Ytnnapjaggahjgaa
