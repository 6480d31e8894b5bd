/- BestOrder: the law. -/
import Derived.Test.YtnnapjaggahjgaaBest
import Derived.Test.YtnnapjaggahjgaaMkIndex
import Derived.Test.YtnnapjaggahjgaaMkRow
import Derived.Test.YtnnapjaggahjgaaMkInt
namespace Go.Proofs.Ytnnapjaggahjgaa
open Go.RowKit
-- mgen FnExactBestOrder BestOrder+HT0+HT1 IntS "(bestL x0 x1)" "by have := bestL_small x0 x1; omega" Index RowS
set_option maxRecDepth 100000 in
set_option maxHeartbeats 1500000 in
theorem law_FnExactBestOrder (w : World) (x0 : DIndex) (u0_queries : Value) (u0_fields : Value) (h0_queries : RQueries w u0_queries x0.queries) (h0_fields : RSpanss w u0_fields x0.fields) (v1 : Value) (x1 : List DRow) (hv1 : RRows w v1 x1) : Calls Try.prog 14 #[.agg #[u0_queries, u0_fields], v1] w fun e w' => e = .returned (.bool true) ∧ Gr w w' := by
  obtain ⟨a1, c1, hve1⟩ := hv1.form
  subst hve1
  by_cases hs0 : ((totIndex x0) : Int) ≤ (1048576 : Int)
  · by_cases hs1 : ((totL totRow x1) : Int) ≤ (1048576 - ((totIndex x0) : Int))
    · have HZ0 := Lib.hid (szV_yes (t := (totIndex x0)) (left := (1048576 : Int)) (by omega))
      have HA0 := Lib.hid (show (0 : Int) ≤ (1048576 : Int) ∧ (1048576 : Int) ≤ 1048576 from by omega)
      have HB0 := Lib.hid (show (0 : Int) ≤ (1048576 : Int) - ((totIndex x0) : Int) ∧ (1048576 : Int) - ((totIndex x0) : Int) ≤ 1048576 from by omega)
      have HZ1 := Lib.hid (szV_yes (t := (totL totRow x1)) (left := (1048576 - ((totIndex x0) : Int))) (by omega))
      have HA1 := Lib.hid (show (0 : Int) ≤ (1048576 - ((totIndex x0) : Int)) ∧ (1048576 - ((totIndex x0) : Int)) ≤ 1048576 from by omega)
      have HB1 := Lib.hid (show (0 : Int) ≤ (1048576 - ((totIndex x0) : Int)) - ((totL totRow x1) : Int) ∧ (1048576 - ((totIndex x0) : Int)) - ((totL totRow x1) : Int) ≤ 1048576 from by omega)
      have HT0 := Lib.hid (show (totIndex x0) ≤ 4294967296 from by omega)
      have HT1 := Lib.hid (show (totL totRow x1) ≤ 4294967296 from by omega)
      have HQ0 : Hid ((totIndex x0) ≤ 1048576) := Lib.hid (by omega)
      have HQ1 : Hid ((totL totRow x1) ≤ 1048576) := Lib.hid (by omega)
      clear hs0 hs1
      go_enter Try.func14, Try.ntmps14
      have Bh0_queries := Lib.hid h0_queries
      replace h0_queries := Lib.hid h0_queries
      have Bh0_fields := Lib.hid h0_fields
      replace h0_fields := Lib.hid h0_fields
      have Bhv1 := Lib.hid hv1
      replace hv1 := Lib.hid hv1
      go_wp2_with fail
      refine (laws_szIndex x0 u0_queries u0_fields _ _ (RSlice.mono keeps_query ((Gr.refl w).alloc _) h0_queries.out) (RSlice.mono (keeps_of keeps_span) ((Gr.refl w).alloc _) h0_fields.out) HA0.out.1 HA0.out.2).mono ?_
      rintro e w1 ⟨rfl, g1⟩
      have gs1 : Gr w w1 := ((Gr.refl w).alloc _).trans g1
      have Z1 : Hid (w.heap.size + 1 ≤ w1.heap.size) := Lib.hid (by have := g1.size; simpa using this)
      replace h0_queries : Hid (RQueries w1 u0_queries x0.queries) := Lib.hid (RSlice.mono keeps_query gs1 h0_queries.out)
      replace h0_fields : Hid (RSpanss w1 u0_fields x0.fields) := Lib.hid (RSlice.mono (keeps_of keeps_span) gs1 h0_fields.out)
      replace hv1 : Hid (RRows w1 (.slice a1 x1.length c1) x1) := Lib.hid (RSlice.mono keeps_row gs1 hv1.out)
      have gw : Hid (Gr w w1) := Lib.hid gs1
      have kb0_0 : w1.cell? ⟨w.heap.size, 0, none⟩ = some (u0_queries) := g1.cellv (by simp [go_sem])
      have kb0_1 : w1.cell? ⟨w.heap.size, 1, none⟩ = some (u0_fields) := g1.cellv (by simp [go_sem])
      have bkb0_0 : Hid (w.heap.size < w1.heap.size) := Lib.hid (by have := Z1.out; omega)
      rw [HZ0.out]
      have hB0 := HB0.out.1
      have hC0 := HB0.out.2
      go_wp2_with fail
      refine (laws_szRowS _ _ x1 _ hv1.out HA1.out.1 HA1.out.2).mono ?_
      rintro e w2 ⟨rfl, g2⟩
      have Z2 : Hid (w1.heap.size + 0 ≤ w2.heap.size) := Lib.hid (by have := g2.size; simpa using this)
      replace h0_queries : Hid (RQueries w2 u0_queries x0.queries) := Lib.hid (RSlice.mono keeps_query g2 h0_queries.out)
      replace h0_fields : Hid (RSpanss w2 u0_fields x0.fields) := Lib.hid (RSlice.mono (keeps_of keeps_span) g2 h0_fields.out)
      replace hv1 : Hid (RRows w2 (.slice a1 x1.length c1) x1) := Lib.hid (RSlice.mono keeps_row g2 hv1.out)
      replace kb0_0 : w2.cell? ⟨w.heap.size, 0, none⟩ = some (u0_queries) := g2.cellv kb0_0
      replace kb0_1 : w2.cell? ⟨w.heap.size, 1, none⟩ = some (u0_fields) := g2.cellv kb0_1
      replace gw : Hid (Gr w w2) := Lib.hid (gw.out.trans g2)
      rw [HZ1.out]
      have hB1 := HB1.out.1
      have hC1 := HB1.out.2
      go_wp2_with fail
      refine (laws_toIndex_own x0 u0_queries u0_fields _ h0_queries.out h0_fields.out HT0.out).mono ?_
      rintro e w3 ⟨vp0_queries, vp0_fields, rfl, g3, mp0, hmp0, hnp0, r_hp0_queries, r_hp0_fields⟩
      have Z3 : Hid (w2.heap.size + 0 ≤ w3.heap.size) := Lib.hid (by have := g3.size; simpa using this)
      replace h0_queries : Hid (RQueries w3 u0_queries x0.queries) := Lib.hid (RSlice.mono keeps_query g3 h0_queries.out)
      replace h0_fields : Hid (RSpanss w3 u0_fields x0.fields) := Lib.hid (RSlice.mono (keeps_of keeps_span) g3 h0_fields.out)
      replace hv1 : Hid (RRows w3 (.slice a1 x1.length c1) x1) := Lib.hid (RSlice.mono keeps_row g3 hv1.out)
      replace kb0_0 : w3.cell? ⟨w.heap.size, 0, none⟩ = some (u0_queries) := g3.cellv kb0_0
      replace kb0_1 : w3.cell? ⟨w.heap.size, 1, none⟩ = some (u0_fields) := g3.cellv kb0_1
      replace gw : Hid (Gr w w3) := Lib.hid (gw.out.trans g3)
      obtain ⟨ap0_queries, np0_queries, cp0_queries, rfl⟩ := r_hp0_queries.isSl
      have ZMp0_queries : Hid (w2.heap.size ≤ mp0) := Lib.hid (by have := hmp0; (try simp at this); omega)
      have hp0_queries : Hid (PQueries (In w2.heap.size mp0) w3 (.slice ap0_queries np0_queries cp0_queries) x0.queries) := Lib.hid (r_hp0_queries.wide (by simp) (by omega))
      clear r_hp0_queries
      obtain ⟨ap0_fields, np0_fields, cp0_fields, rfl⟩ := r_hp0_fields.isSl
      have ZMp0_fields : Hid (w2.heap.size ≤ mp0) := Lib.hid (by have := hmp0; (try simp at this); omega)
      have hp0_fields : Hid (PSpanss (In mp0 w3.heap.size) w3 (.slice ap0_fields np0_fields cp0_fields) x0.fields) := Lib.hid (r_hp0_fields.wide (Nat.le_refl _) (by omega))
      clear r_hp0_fields
      go_wp2_with fail
      refine (laws_toRowS_own _ x1 _ hv1.out HT1.out).mono ?_
      rintro e w4 ⟨_, rfl, ⟨ap1, np1, cp1, rfl⟩, g4, r_hp1⟩
      have Z4 : Hid (w3.heap.size + 0 ≤ w4.heap.size) := Lib.hid (by have := g4.size; simpa using this)
      replace h0_queries : Hid (RQueries w4 u0_queries x0.queries) := Lib.hid (RSlice.mono keeps_query g4 h0_queries.out)
      replace h0_fields : Hid (RSpanss w4 u0_fields x0.fields) := Lib.hid (RSlice.mono (keeps_of keeps_span) g4 h0_fields.out)
      replace hv1 : Hid (RRows w4 (.slice a1 x1.length c1) x1) := Lib.hid (RSlice.mono keeps_row g4 hv1.out)
      replace hp0_queries : Hid (PQueries (In w2.heap.size mp0) w4 (.slice ap0_queries np0_queries cp0_queries) x0.queries) := Lib.hid (OSl.gr fr_query hp0_queries.out g4)
      replace hp0_fields : Hid (PSpanss (In mp0 w3.heap.size) w4 (.slice ap0_fields np0_fields cp0_fields) x0.fields) := Lib.hid (OSl.gr (fr_of fr_span) hp0_fields.out g4)
      replace kb0_0 : w4.cell? ⟨w.heap.size, 0, none⟩ = some (u0_queries) := g4.cellv kb0_0
      replace kb0_1 : w4.cell? ⟨w.heap.size, 1, none⟩ = some (u0_fields) := g4.cellv kb0_1
      replace gw : Hid (Gr w w4) := Lib.hid (gw.out.trans g4)
      have hp1 : Hid (PRows (In w3.heap.size w4.heap.size) w4 (.slice ap1 np1 cp1) x1) := Lib.hid (r_hp1.wide (by simp) (by omega))
      clear r_hp1
      go_wp2_with fail
      refine (spec_BestOrder x0 _ _ _ x1 _ (rd_pqueries hp0_queries.out) (rd_pspanss hp0_fields.out) (rd_prows hp1.out) HT0.out HT1.out).mono ?_
      rintro e w5 ⟨vw0, rfl, r_hw0, g5⟩
      have Z5 : Hid (w4.heap.size + 0 ≤ w5.heap.size) := Lib.hid (by have := g5.size; simpa using this)
      replace h0_queries : Hid (RQueries w5 u0_queries x0.queries) := Lib.hid (RSlice.mono keeps_query g5 h0_queries.out)
      replace h0_fields : Hid (RSpanss w5 u0_fields x0.fields) := Lib.hid (RSlice.mono (keeps_of keeps_span) g5 h0_fields.out)
      replace hv1 : Hid (RRows w5 (.slice a1 x1.length c1) x1) := Lib.hid (RSlice.mono keeps_row g5 hv1.out)
      replace hp0_queries : Hid (PQueries (In w2.heap.size mp0) w5 (.slice ap0_queries np0_queries cp0_queries) x0.queries) := Lib.hid (OSl.gr fr_query hp0_queries.out g5)
      replace hp0_fields : Hid (PSpanss (In mp0 w3.heap.size) w5 (.slice ap0_fields np0_fields cp0_fields) x0.fields) := Lib.hid (OSl.gr (fr_of fr_span) hp0_fields.out g5)
      replace hp1 : Hid (PRows (In w3.heap.size w4.heap.size) w5 (.slice ap1 np1 cp1) x1) := Lib.hid (OSl.gr fr_row hp1.out g5)
      replace kb0_0 : w5.cell? ⟨w.heap.size, 0, none⟩ = some (u0_queries) := g5.cellv kb0_0
      replace kb0_1 : w5.cell? ⟨w.heap.size, 1, none⟩ = some (u0_fields) := g5.cellv kb0_1
      replace gw : Hid (Gr w w5) := Lib.hid (gw.out.trans g5)
      clear hp0_queries
      clear hp0_fields
      clear hp1
      obtain ⟨aw0, nw0, cw0, rfl⟩ := r_hw0.isSl
      have hw0 : Hid (RInts w5 (.slice aw0 nw0 cw0) (bestL x0 x1)) := Lib.hid r_hw0
      have Bhw0 := Lib.hid r_hw0
      clear r_hw0
      have gv : Hid (Gr w5 w5) := Lib.hid (Gr.refl _)
      have ZV : Hid (w.heap.size ≤ w5.heap.size) := Lib.hid gw.out.size
      go_wp2_with fail
      refine (laws_toIndex_own x0 u0_queries u0_fields _ h0_queries.out h0_fields.out HT0.out).mono ?_
      rintro e w6 ⟨vx0_queries, vx0_fields, rfl, g6, mx0, hmx0, hnx0, r_hx0_queries, r_hx0_fields⟩
      have Z6 : Hid (w5.heap.size + 0 ≤ w6.heap.size) := Lib.hid (by have := g6.size; simpa using this)
      replace h0_queries : Hid (RQueries w6 u0_queries x0.queries) := Lib.hid (RSlice.mono keeps_query g6 h0_queries.out)
      replace h0_fields : Hid (RSpanss w6 u0_fields x0.fields) := Lib.hid (RSlice.mono (keeps_of keeps_span) g6 h0_fields.out)
      replace hv1 : Hid (RRows w6 (.slice a1 x1.length c1) x1) := Lib.hid (RSlice.mono keeps_row g6 hv1.out)
      replace hw0 : Hid (RInts w6 (.slice aw0 nw0 cw0) (bestL x0 x1)) := Lib.hid (RSlice.mono keeps_int g6 hw0.out)
      replace kb0_0 : w6.cell? ⟨w.heap.size, 0, none⟩ = some (u0_queries) := g6.cellv kb0_0
      replace kb0_1 : w6.cell? ⟨w.heap.size, 1, none⟩ = some (u0_fields) := g6.cellv kb0_1
      replace gw : Hid (Gr w w6) := Lib.hid (gw.out.trans g6)
      replace gv : Hid (Gr w5 w6) := Lib.hid (gv.out.trans g6)
      obtain ⟨ax0_queries, nx0_queries, cx0_queries, rfl⟩ := r_hx0_queries.isSl
      have ZMx0_queries : Hid (w5.heap.size ≤ mx0) := Lib.hid (by have := hmx0; (try simp at this); omega)
      have hx0_queries : Hid (PQueries (In w5.heap.size mx0) w6 (.slice ax0_queries nx0_queries cx0_queries) x0.queries) := Lib.hid (r_hx0_queries.wide (by simp) (by omega))
      clear r_hx0_queries
      obtain ⟨ax0_fields, nx0_fields, cx0_fields, rfl⟩ := r_hx0_fields.isSl
      have ZMx0_fields : Hid (w5.heap.size ≤ mx0) := Lib.hid (by have := hmx0; (try simp at this); omega)
      have hx0_fields : Hid (PSpanss (In mx0 w6.heap.size) w6 (.slice ax0_fields nx0_fields cx0_fields) x0.fields) := Lib.hid (r_hx0_fields.wide (Nat.le_refl _) (by omega))
      clear r_hx0_fields
      have Lkb0_0 := ((Gr.refl w6).alloc (.cells #[.slice ax0_queries nx0_queries cx0_queries, .slice ax0_fields nx0_fields cx0_fields] 87)).cellv kb0_0
      have Lkb0_1 := ((Gr.refl w6).alloc (.cells #[.slice ax0_queries nx0_queries cx0_queries, .slice ax0_fields nx0_fields cx0_fields] 87)).cellv kb0_1
      go_wp2_with fail
      refine (laws_toRowS_own _ x1 _ (RSlice.mono keeps_row ((Gr.refl w6).alloc _) hv1.out) HT1.out).mono ?_
      rintro e w7 ⟨_, rfl, ⟨ax1, nx1, cx1, rfl⟩, g7, r_hx1⟩
      have gs7 : Gr w6 w7 := ((Gr.refl w6).alloc _).trans g7
      have Z7 : Hid (w6.heap.size + 1 ≤ w7.heap.size) := Lib.hid (by have := g7.size; simpa using this)
      replace h0_queries : Hid (RQueries w7 u0_queries x0.queries) := Lib.hid (RSlice.mono keeps_query gs7 h0_queries.out)
      replace h0_fields : Hid (RSpanss w7 u0_fields x0.fields) := Lib.hid (RSlice.mono (keeps_of keeps_span) gs7 h0_fields.out)
      replace hv1 : Hid (RRows w7 (.slice a1 x1.length c1) x1) := Lib.hid (RSlice.mono keeps_row gs7 hv1.out)
      replace hw0 : Hid (RInts w7 (.slice aw0 nw0 cw0) (bestL x0 x1)) := Lib.hid (RSlice.mono keeps_int gs7 hw0.out)
      replace hx0_queries : Hid (PQueries (In w5.heap.size mx0) w7 (.slice ax0_queries nx0_queries cx0_queries) x0.queries) := Lib.hid (OSl.gr fr_query hx0_queries.out gs7)
      replace hx0_fields : Hid (PSpanss (In mx0 w6.heap.size) w7 (.slice ax0_fields nx0_fields cx0_fields) x0.fields) := Lib.hid (OSl.gr (fr_of fr_span) hx0_fields.out gs7)
      replace kb0_0 : w7.cell? ⟨w.heap.size, 0, none⟩ = some (u0_queries) := gs7.cellv kb0_0
      replace kb0_1 : w7.cell? ⟨w.heap.size, 1, none⟩ = some (u0_fields) := gs7.cellv kb0_1
      replace gw : Hid (Gr w w7) := Lib.hid (gw.out.trans gs7)
      replace gv : Hid (Gr w5 w7) := Lib.hid (gv.out.trans gs7)
      have kx0_0 : w7.cell? ⟨w6.heap.size, 0, none⟩ = some (.slice ax0_queries nx0_queries cx0_queries) := g7.cellv (by simp [go_sem])
      have kx0_1 : w7.cell? ⟨w6.heap.size, 1, none⟩ = some (.slice ax0_fields nx0_fields cx0_fields) := g7.cellv (by simp [go_sem])
      have bkx0_0 : Hid (w6.heap.size < w7.heap.size) := Lib.hid (by have := Z7.out; omega)
      clear Lkb0_0 Lkb0_1
      have hx1 : Hid (PRows (In (w6.heap.size + 1) w7.heap.size) w7 (.slice ax1 nx1 cx1) x1) := Lib.hid (r_hx1.wide (by simp) (by omega))
      clear r_hx1
      go_wp2_with fail
      refine (impl_BestOrder x0 _ _ _ x1 _ (rd_pqueries hx0_queries.out) (rd_pspanss hx0_fields.out) (rd_prows hx1.out) HT0.out HT1.out).mono ?_
      rintro e w8 ⟨vg0, rfl, g8, r_hg0⟩
      have Z8 : Hid (w7.heap.size + 0 ≤ w8.heap.size) := Lib.hid (by have := g8.size; simpa using this)
      replace h0_queries : Hid (RQueries w8 u0_queries x0.queries) := Lib.hid (RSlice.mono keeps_query g8 h0_queries.out)
      replace h0_fields : Hid (RSpanss w8 u0_fields x0.fields) := Lib.hid (RSlice.mono (keeps_of keeps_span) g8 h0_fields.out)
      replace hv1 : Hid (RRows w8 (.slice a1 x1.length c1) x1) := Lib.hid (RSlice.mono keeps_row g8 hv1.out)
      replace hw0 : Hid (RInts w8 (.slice aw0 nw0 cw0) (bestL x0 x1)) := Lib.hid (RSlice.mono keeps_int g8 hw0.out)
      replace hx0_queries : Hid (PQueries (In w5.heap.size mx0) w8 (.slice ax0_queries nx0_queries cx0_queries) x0.queries) := Lib.hid (OSl.gr fr_query hx0_queries.out g8)
      replace hx0_fields : Hid (PSpanss (In mx0 w6.heap.size) w8 (.slice ax0_fields nx0_fields cx0_fields) x0.fields) := Lib.hid (OSl.gr (fr_of fr_span) hx0_fields.out g8)
      replace hx1 : Hid (PRows (In (w6.heap.size + 1) w7.heap.size) w8 (.slice ax1 nx1 cx1) x1) := Lib.hid (OSl.gr fr_row hx1.out g8)
      replace kb0_0 : w8.cell? ⟨w.heap.size, 0, none⟩ = some (u0_queries) := g8.cellv kb0_0
      replace kb0_1 : w8.cell? ⟨w.heap.size, 1, none⟩ = some (u0_fields) := g8.cellv kb0_1
      replace kx0_0 : w8.cell? ⟨w6.heap.size, 0, none⟩ = some (.slice ax0_queries nx0_queries cx0_queries) := g8.cellv kx0_0
      replace kx0_1 : w8.cell? ⟨w6.heap.size, 1, none⟩ = some (.slice ax0_fields nx0_fields cx0_fields) := g8.cellv kx0_1
      replace gw : Hid (Gr w w8) := Lib.hid (gw.out.trans g8)
      replace gv : Hid (Gr w5 w8) := Lib.hid (gv.out.trans g8)
      obtain ⟨ag0, ng0, cg0, rfl⟩ := r_hg0.isSl
      have hg0 : Hid (PInts (In w7.heap.size w8.heap.size) w8 (.slice ag0 ng0 cg0) (bestL x0 x1)) := Lib.hid (r_hg0.wide (by simp) (by omega))
      clear r_hg0
      go_wp2_with fail
      refine (laws_eqIntS_same _ _ (bestL x0 x1) _ (rd_pints hg0.out) hw0.out).mono ?_
      rintro e w9 ⟨rfl, g9⟩
      have Z9 : Hid (w8.heap.size + 0 ≤ w9.heap.size) := Lib.hid (by have := g9.size; simpa using this)
      replace h0_queries : Hid (RQueries w9 u0_queries x0.queries) := Lib.hid (RSlice.mono keeps_query g9 h0_queries.out)
      replace h0_fields : Hid (RSpanss w9 u0_fields x0.fields) := Lib.hid (RSlice.mono (keeps_of keeps_span) g9 h0_fields.out)
      replace hv1 : Hid (RRows w9 (.slice a1 x1.length c1) x1) := Lib.hid (RSlice.mono keeps_row g9 hv1.out)
      replace hw0 : Hid (RInts w9 (.slice aw0 nw0 cw0) (bestL x0 x1)) := Lib.hid (RSlice.mono keeps_int g9 hw0.out)
      replace hx0_queries : Hid (PQueries (In w5.heap.size mx0) w9 (.slice ax0_queries nx0_queries cx0_queries) x0.queries) := Lib.hid (OSl.gr fr_query hx0_queries.out g9)
      replace hx0_fields : Hid (PSpanss (In mx0 w6.heap.size) w9 (.slice ax0_fields nx0_fields cx0_fields) x0.fields) := Lib.hid (OSl.gr (fr_of fr_span) hx0_fields.out g9)
      replace hx1 : Hid (PRows (In (w6.heap.size + 1) w7.heap.size) w9 (.slice ax1 nx1 cx1) x1) := Lib.hid (OSl.gr fr_row hx1.out g9)
      replace hg0 : Hid (PInts (In w7.heap.size w8.heap.size) w9 (.slice ag0 ng0 cg0) (bestL x0 x1)) := Lib.hid (OSl.gr fr_int hg0.out g9)
      replace kb0_0 : w9.cell? ⟨w.heap.size, 0, none⟩ = some (u0_queries) := g9.cellv kb0_0
      replace kb0_1 : w9.cell? ⟨w.heap.size, 1, none⟩ = some (u0_fields) := g9.cellv kb0_1
      replace kx0_0 : w9.cell? ⟨w6.heap.size, 0, none⟩ = some (.slice ax0_queries nx0_queries cx0_queries) := g9.cellv kx0_0
      replace kx0_1 : w9.cell? ⟨w6.heap.size, 1, none⟩ = some (.slice ax0_fields nx0_fields cx0_fields) := g9.cellv kx0_1
      replace gw : Hid (Gr w w9) := Lib.hid (gw.out.trans g9)
      replace gv : Hid (Gr w5 w9) := Lib.hid (gv.out.trans g9)
      go_wp2
      go_region_held3 (fun w' => w'.cell? ⟨w.heap.size, 0, none⟩ = some (u0_queries) ∧ w'.cell? ⟨w.heap.size, 1, none⟩ = some (u0_fields) ∧ w'.cell? ⟨w6.heap.size, 0, none⟩ = some (.slice ax0_queries nx0_queries cx0_queries) ∧ w'.cell? ⟨w6.heap.size, 1, none⟩ = some (.slice ax0_fields nx0_fields cx0_fields) ∧ RQueries w' u0_queries x0.queries ∧ RSpanss w' u0_fields x0.fields ∧ RQueries w' (.slice ax0_queries nx0_queries cx0_queries) x0.queries ∧ RSpanss w' (.slice ax0_fields nx0_fields cx0_fields) x0.fields ∧ Gr w9 w')
        (first | exact ⟨kb0_0, kb0_1, kx0_0, kx0_1, h0_queries.out, h0_fields.out, (rd_pqueries hx0_queries.out), (rd_pspanss hx0_fields.out), Gr.refl _⟩ | exact ⟨kb0_0, kb0_1, kx0_0, kx0_1, h0_queries.out, h0_fields.out, (rd_pqueries hx0_queries.out), (rd_pspanss hx0_fields.out), (Gr.refl _).drew⟩ | (go_split_ands; exact ⟨Gr.cellv gb0 (by assumption), Gr.cellv gb0 (by assumption), Gr.cellv gb0 (by assumption), Gr.cellv gb0 (by assumption), (RSlice.mono keeps_query gb0 (by assumption)), (RSlice.mono (keeps_of keeps_span) gb0 (by assumption)), (RSlice.mono keeps_query gb0 (by assumption)), (RSlice.mono (keeps_of keeps_span) gb0 (by assumption)), Gr.trans (by assumption) gb0⟩) | (go_split_ands; exact ⟨Gr.cellv ga0 (by assumption), Gr.cellv ga0 (by assumption), Gr.cellv ga0 (by assumption), Gr.cellv ga0 (by assumption), (RSlice.mono keeps_query ga0 (by assumption)), (RSlice.mono (keeps_of keeps_span) ga0 (by assumption)), (RSlice.mono keeps_query ga0 (by assumption)), (RSlice.mono (keeps_of keeps_span) ga0 (by assumption)), Gr.trans (by assumption) ga0⟩))
        (first | (go_at_call 57; go_split_ands; refine (laws_toIndex_gr x0 u0_queries u0_fields _ (by assumption) (by assumption) HT0.out).mono ?_; rintro e wa0 ⟨vy0_queries, vy0_fields, rfl, ⟨ay0_queries, ny0_queries, cy0_queries, rfl⟩, ry0_queries, ⟨ay0_fields, ny0_fields, cy0_fields, rfl⟩, ry0_fields, ga0⟩) | (go_at_call 59; go_split_ands; refine (laws_eqIndex x0 _ _ _ _ _ (by assumption) (by assumption) (ry0_queries _ (Loc.refl _ _)) (ry0_fields _ (Loc.refl _ _))).mono ?_; rintro e wb0 ⟨rfl, gb0⟩))
      have gs10 : Gr w9 wb0 := ((Gr.refl w9).drew.trans ga0).trans gb0
      have Z10 : Hid (w9.heap.size ≤ wb0.heap.size) := Lib.hid gs10.size
      replace h0_queries : Hid (RQueries wb0 u0_queries x0.queries) := Lib.hid (RSlice.mono keeps_query gs10 h0_queries.out)
      replace h0_fields : Hid (RSpanss wb0 u0_fields x0.fields) := Lib.hid (RSlice.mono (keeps_of keeps_span) gs10 h0_fields.out)
      replace hv1 : Hid (RRows wb0 (.slice a1 x1.length c1) x1) := Lib.hid (RSlice.mono keeps_row gs10 hv1.out)
      replace hw0 : Hid (RInts wb0 (.slice aw0 nw0 cw0) (bestL x0 x1)) := Lib.hid (RSlice.mono keeps_int gs10 hw0.out)
      replace hx0_queries : Hid (PQueries (In w5.heap.size mx0) wb0 (.slice ax0_queries nx0_queries cx0_queries) x0.queries) := Lib.hid (OSl.gr fr_query hx0_queries.out gs10)
      replace hx0_fields : Hid (PSpanss (In mx0 w6.heap.size) wb0 (.slice ax0_fields nx0_fields cx0_fields) x0.fields) := Lib.hid (OSl.gr (fr_of fr_span) hx0_fields.out gs10)
      replace hx1 : Hid (PRows (In (w6.heap.size + 1) w7.heap.size) wb0 (.slice ax1 nx1 cx1) x1) := Lib.hid (OSl.gr fr_row hx1.out gs10)
      replace hg0 : Hid (PInts (In w7.heap.size w8.heap.size) wb0 (.slice ag0 ng0 cg0) (bestL x0 x1)) := Lib.hid (OSl.gr fr_int hg0.out gs10)
      replace kb0_0 : wb0.cell? ⟨w.heap.size, 0, none⟩ = some (u0_queries) := gs10.cellv kb0_0
      replace kb0_1 : wb0.cell? ⟨w.heap.size, 1, none⟩ = some (u0_fields) := gs10.cellv kb0_1
      replace kx0_0 : wb0.cell? ⟨w6.heap.size, 0, none⟩ = some (.slice ax0_queries nx0_queries cx0_queries) := gs10.cellv kx0_0
      replace kx0_1 : wb0.cell? ⟨w6.heap.size, 1, none⟩ = some (.slice ax0_fields nx0_fields cx0_fields) := gs10.cellv kx0_1
      replace gw : Hid (Gr w wb0) := Lib.hid (gw.out.trans gs10)
      replace gv : Hid (Gr w5 wb0) := Lib.hid (gv.out.trans gs10)
      go_wp2_with fail
      refine (laws_toRowS_own _ x1 _ hv1.out HT1.out).mono ?_
      rintro e w11 ⟨_, rfl, ⟨ay1, ny1, cy1, rfl⟩, g11, r_hy1⟩
      have Z11 : Hid (wb0.heap.size + 0 ≤ w11.heap.size) := Lib.hid (by have := g11.size; simpa using this)
      replace h0_queries : Hid (RQueries w11 u0_queries x0.queries) := Lib.hid (RSlice.mono keeps_query g11 h0_queries.out)
      replace h0_fields : Hid (RSpanss w11 u0_fields x0.fields) := Lib.hid (RSlice.mono (keeps_of keeps_span) g11 h0_fields.out)
      replace hv1 : Hid (RRows w11 (.slice a1 x1.length c1) x1) := Lib.hid (RSlice.mono keeps_row g11 hv1.out)
      replace hw0 : Hid (RInts w11 (.slice aw0 nw0 cw0) (bestL x0 x1)) := Lib.hid (RSlice.mono keeps_int g11 hw0.out)
      replace hx0_queries : Hid (PQueries (In w5.heap.size mx0) w11 (.slice ax0_queries nx0_queries cx0_queries) x0.queries) := Lib.hid (OSl.gr fr_query hx0_queries.out g11)
      replace hx0_fields : Hid (PSpanss (In mx0 w6.heap.size) w11 (.slice ax0_fields nx0_fields cx0_fields) x0.fields) := Lib.hid (OSl.gr (fr_of fr_span) hx0_fields.out g11)
      replace hx1 : Hid (PRows (In (w6.heap.size + 1) w7.heap.size) w11 (.slice ax1 nx1 cx1) x1) := Lib.hid (OSl.gr fr_row hx1.out g11)
      replace hg0 : Hid (PInts (In w7.heap.size w8.heap.size) w11 (.slice ag0 ng0 cg0) (bestL x0 x1)) := Lib.hid (OSl.gr fr_int hg0.out g11)
      replace kb0_0 : w11.cell? ⟨w.heap.size, 0, none⟩ = some (u0_queries) := g11.cellv kb0_0
      replace kb0_1 : w11.cell? ⟨w.heap.size, 1, none⟩ = some (u0_fields) := g11.cellv kb0_1
      replace kx0_0 : w11.cell? ⟨w6.heap.size, 0, none⟩ = some (.slice ax0_queries nx0_queries cx0_queries) := g11.cellv kx0_0
      replace kx0_1 : w11.cell? ⟨w6.heap.size, 1, none⟩ = some (.slice ax0_fields nx0_fields cx0_fields) := g11.cellv kx0_1
      replace gw : Hid (Gr w w11) := Lib.hid (gw.out.trans g11)
      replace gv : Hid (Gr w5 w11) := Lib.hid (gv.out.trans g11)
      have hy1 : Hid (PRows (In wb0.heap.size w11.heap.size) w11 (.slice ay1 ny1 cy1) x1) := Lib.hid (r_hy1.wide (by simp) (by omega))
      clear r_hy1
      go_wp2_with fail
      refine (laws_eqRowS_same _ _ x1 _ (rd_prows hx1.out) (rd_prows hy1.out)).mono ?_
      rintro e w12 ⟨rfl, g12⟩
      have Z12 : Hid (w11.heap.size + 0 ≤ w12.heap.size) := Lib.hid (by have := g12.size; simpa using this)
      replace h0_queries : Hid (RQueries w12 u0_queries x0.queries) := Lib.hid (RSlice.mono keeps_query g12 h0_queries.out)
      replace h0_fields : Hid (RSpanss w12 u0_fields x0.fields) := Lib.hid (RSlice.mono (keeps_of keeps_span) g12 h0_fields.out)
      replace hv1 : Hid (RRows w12 (.slice a1 x1.length c1) x1) := Lib.hid (RSlice.mono keeps_row g12 hv1.out)
      replace hw0 : Hid (RInts w12 (.slice aw0 nw0 cw0) (bestL x0 x1)) := Lib.hid (RSlice.mono keeps_int g12 hw0.out)
      replace hx0_queries : Hid (PQueries (In w5.heap.size mx0) w12 (.slice ax0_queries nx0_queries cx0_queries) x0.queries) := Lib.hid (OSl.gr fr_query hx0_queries.out g12)
      replace hx0_fields : Hid (PSpanss (In mx0 w6.heap.size) w12 (.slice ax0_fields nx0_fields cx0_fields) x0.fields) := Lib.hid (OSl.gr (fr_of fr_span) hx0_fields.out g12)
      replace hx1 : Hid (PRows (In (w6.heap.size + 1) w7.heap.size) w12 (.slice ax1 nx1 cx1) x1) := Lib.hid (OSl.gr fr_row hx1.out g12)
      replace hg0 : Hid (PInts (In w7.heap.size w8.heap.size) w12 (.slice ag0 ng0 cg0) (bestL x0 x1)) := Lib.hid (OSl.gr fr_int hg0.out g12)
      replace hy1 : Hid (PRows (In wb0.heap.size w11.heap.size) w12 (.slice ay1 ny1 cy1) x1) := Lib.hid (OSl.gr fr_row hy1.out g12)
      replace kb0_0 : w12.cell? ⟨w.heap.size, 0, none⟩ = some (u0_queries) := g12.cellv kb0_0
      replace kb0_1 : w12.cell? ⟨w.heap.size, 1, none⟩ = some (u0_fields) := g12.cellv kb0_1
      replace kx0_0 : w12.cell? ⟨w6.heap.size, 0, none⟩ = some (.slice ax0_queries nx0_queries cx0_queries) := g12.cellv kx0_0
      replace kx0_1 : w12.cell? ⟨w6.heap.size, 1, none⟩ = some (.slice ax0_fields nx0_fields cx0_fields) := g12.cellv kx0_1
      replace gw : Hid (Gr w w12) := Lib.hid (gw.out.trans g12)
      replace gv : Hid (Gr w5 w12) := Lib.hid (gv.out.trans g12)
      clear hy1
      have cb0 := HQ0.out
      have cm0_queries := cnt_QueryS x0.queries
      have cm0_fields := cnt_SpanSS x0.fields
      unfold totIndex at cb0
      go_wp2_with fail
      refine (laws_markIndex (In w5.heap.size mx0) (In mx0 w6.heap.size) x0 _ _ (1 : Int) _ hx0_queries.out (fun b hb => by have := Z1.out; have := bkb0_0.out; have := Z2.out; have := Z3.out; have := ZMp0_queries.out; have := ZMp0_fields.out; have := Z4.out; have := Z5.out; have := ZV.out; have := Z6.out; have := ZMx0_queries.out; have := ZMx0_fields.out; have := Z7.out; have := bkx0_0.out; have := Z8.out; have := Z9.out; have := Z10.out; have := Z11.out; have := Z12.out; have := hb.2; omega) hx0_fields.out (fun b hb => by have := Z1.out; have := bkb0_0.out; have := Z2.out; have := Z3.out; have := ZMp0_queries.out; have := ZMp0_fields.out; have := Z4.out; have := Z5.out; have := ZV.out; have := Z6.out; have := ZMx0_queries.out; have := ZMx0_fields.out; have := Z7.out; have := bkx0_0.out; have := Z8.out; have := Z9.out; have := Z10.out; have := Z11.out; have := Z12.out; have := hb.2; omega) (fun b hb hc => by have := hb.2; have := hc.1; omega) (by omega) (by omega)).mono ?_
      rintro e wm0 ⟨rfl, _, _, dm0⟩
      have Z13 : Hid (w12.heap.size ≤ wm0.heap.size) := Lib.hid dm0.size
      replace gw : Hid (Gr w wm0) := Lib.hid (Gr.trans' gw.out (dm0.below (fun b hb => by have := Z1.out; have := bkb0_0.out; have := Z2.out; have := Z3.out; have := ZMp0_queries.out; have := ZMp0_fields.out; have := Z4.out; have := Z5.out; have := ZV.out; have := Z6.out; have := ZMx0_queries.out; have := ZMx0_fields.out; have := Z7.out; have := bkx0_0.out; have := Z8.out; have := Z9.out; have := Z10.out; have := Z11.out; have := Z12.out; have := Z13.out; rcases hb with hb | hb <;> (have := hb.1; omega)) (gw.out.size)))
      replace gv : Hid (Gr w5 wm0) := Lib.hid (Gr.trans' gv.out (dm0.below (fun b hb => by have := Z1.out; have := bkb0_0.out; have := Z2.out; have := Z3.out; have := ZMp0_queries.out; have := ZMp0_fields.out; have := Z4.out; have := Z5.out; have := ZV.out; have := Z6.out; have := ZMx0_queries.out; have := ZMx0_fields.out; have := Z7.out; have := bkx0_0.out; have := Z8.out; have := Z9.out; have := Z10.out; have := Z11.out; have := Z12.out; have := Z13.out; rcases hb with hb | hb <;> (have := hb.1; omega)) (gv.out.size)))
      replace h0_queries : Hid (RQueries wm0 u0_queries x0.queries) := Lib.hid (RSlice.mono keeps_query gw.out Bh0_queries.out)
      replace h0_fields : Hid (RSpanss wm0 u0_fields x0.fields) := Lib.hid (RSlice.mono (keeps_of keeps_span) gw.out Bh0_fields.out)
      replace hv1 : Hid (RRows wm0 (.slice a1 x1.length c1) x1) := Lib.hid (RSlice.mono keeps_row gw.out Bhv1.out)
      replace hw0 : Hid (RInts wm0 (.slice aw0 nw0 cw0) (bestL x0 x1)) := Lib.hid (RSlice.mono keeps_int gv.out Bhw0.out)
      replace hx1 : Hid (PRows (In (w6.heap.size + 1) w7.heap.size) wm0 (.slice ax1 nx1 cx1) x1) := Lib.hid (OSl.frame fr_row hx1.out (dm0.agree fun b hb hc => by have := Z1.out; have := bkb0_0.out; have := Z2.out; have := Z3.out; have := ZMp0_queries.out; have := ZMp0_fields.out; have := Z4.out; have := Z5.out; have := ZV.out; have := Z6.out; have := ZMx0_queries.out; have := ZMx0_fields.out; have := Z7.out; have := bkx0_0.out; have := Z8.out; have := Z9.out; have := Z10.out; have := Z11.out; have := Z12.out; have := Z13.out; rcases hc with hc | hc <;> (have := hb.1; have := hb.2; have := hc.1; have := hc.2; omega)))
      replace hg0 : Hid (PInts (In w7.heap.size w8.heap.size) wm0 (.slice ag0 ng0 cg0) (bestL x0 x1)) := Lib.hid (OSl.frame fr_int hg0.out (dm0.agree fun b hb hc => by have := Z1.out; have := bkb0_0.out; have := Z2.out; have := Z3.out; have := ZMp0_queries.out; have := ZMp0_fields.out; have := Z4.out; have := Z5.out; have := ZV.out; have := Z6.out; have := ZMx0_queries.out; have := ZMx0_fields.out; have := Z7.out; have := bkx0_0.out; have := Z8.out; have := Z9.out; have := Z10.out; have := Z11.out; have := Z12.out; have := Z13.out; rcases hc with hc | hc <;> (have := hb.1; have := hb.2; have := hc.1; have := hc.2; omega)))
      replace kb0_0 : wm0.cell? ⟨w.heap.size, 0, none⟩ = some (u0_queries) := (World.cell?_of_block (w := w12) (dm0.block _ (World.block_lt_of_cell? _ _ kb0_0) (fun hc => by have := Z1.out; have := bkb0_0.out; have := Z2.out; have := Z3.out; have := ZMp0_queries.out; have := ZMp0_fields.out; have := Z4.out; have := Z5.out; have := ZV.out; have := Z6.out; have := ZMx0_queries.out; have := ZMx0_fields.out; have := Z7.out; have := bkx0_0.out; have := Z8.out; have := Z9.out; have := Z10.out; have := Z11.out; have := Z12.out; have := Z13.out; rcases hc with hc | hc <;> (have := hc.1; have := hc.2; dsimp only at *; omega)))).trans kb0_0
      replace kb0_1 : wm0.cell? ⟨w.heap.size, 1, none⟩ = some (u0_fields) := (World.cell?_of_block (w := w12) (dm0.block _ (World.block_lt_of_cell? _ _ kb0_1) (fun hc => by have := Z1.out; have := bkb0_0.out; have := Z2.out; have := Z3.out; have := ZMp0_queries.out; have := ZMp0_fields.out; have := Z4.out; have := Z5.out; have := ZV.out; have := Z6.out; have := ZMx0_queries.out; have := ZMx0_fields.out; have := Z7.out; have := bkx0_0.out; have := Z8.out; have := Z9.out; have := Z10.out; have := Z11.out; have := Z12.out; have := Z13.out; rcases hc with hc | hc <;> (have := hc.1; have := hc.2; dsimp only at *; omega)))).trans kb0_1
      replace kx0_0 : wm0.cell? ⟨w6.heap.size, 0, none⟩ = some (.slice ax0_queries nx0_queries cx0_queries) := (World.cell?_of_block (w := w12) (dm0.block _ (World.block_lt_of_cell? _ _ kx0_0) (fun hc => by have := Z1.out; have := bkb0_0.out; have := Z2.out; have := Z3.out; have := ZMp0_queries.out; have := ZMp0_fields.out; have := Z4.out; have := Z5.out; have := ZV.out; have := Z6.out; have := ZMx0_queries.out; have := ZMx0_fields.out; have := Z7.out; have := bkx0_0.out; have := Z8.out; have := Z9.out; have := Z10.out; have := Z11.out; have := Z12.out; have := Z13.out; rcases hc with hc | hc <;> (have := hc.1; have := hc.2; dsimp only at *; omega)))).trans kx0_0
      replace kx0_1 : wm0.cell? ⟨w6.heap.size, 1, none⟩ = some (.slice ax0_fields nx0_fields cx0_fields) := (World.cell?_of_block (w := w12) (dm0.block _ (World.block_lt_of_cell? _ _ kx0_1) (fun hc => by have := Z1.out; have := bkb0_0.out; have := Z2.out; have := Z3.out; have := ZMp0_queries.out; have := ZMp0_fields.out; have := Z4.out; have := Z5.out; have := ZV.out; have := Z6.out; have := ZMx0_queries.out; have := ZMx0_fields.out; have := Z7.out; have := bkx0_0.out; have := Z8.out; have := Z9.out; have := Z10.out; have := Z11.out; have := Z12.out; have := Z13.out; rcases hc with hc | hc <;> (have := hc.1; have := hc.2; dsimp only at *; omega)))).trans kx0_1
      clear hx0_queries
      clear hx0_fields
      have cu0 : 0 ≤ (((1 : Int) + (sumT cntQuery x0.queries : Int)) + (sumT (sumT cntSpan) x0.fields : Int)) := by omega
      have cb1 := HQ1.out
      have cm1 := cnt_RowS x1
      go_wp2_with fail
      refine (laws_markRowS (In (w6.heap.size + 1) w7.heap.size) _ x1 (((1 : Int) + (sumT cntQuery x0.queries : Int)) + (sumT (sumT cntSpan) x0.fields : Int)) _ hx1.out (by omega) (by omega)).mono ?_
      rintro e wm1 ⟨rfl, _, dm1⟩
      have Z14 : Hid (wm0.heap.size ≤ wm1.heap.size) := Lib.hid dm1.size
      replace gw : Hid (Gr w wm1) := Lib.hid (Gr.trans' gw.out (dm1.below (fun b hb => by have := Z1.out; have := bkb0_0.out; have := Z2.out; have := Z3.out; have := ZMp0_queries.out; have := ZMp0_fields.out; have := Z4.out; have := Z5.out; have := ZV.out; have := Z6.out; have := ZMx0_queries.out; have := ZMx0_fields.out; have := Z7.out; have := bkx0_0.out; have := Z8.out; have := Z9.out; have := Z10.out; have := Z11.out; have := Z12.out; have := Z13.out; have := Z14.out; have := hb.1; omega) (gw.out.size)))
      replace gv : Hid (Gr w5 wm1) := Lib.hid (Gr.trans' gv.out (dm1.below (fun b hb => by have := Z1.out; have := bkb0_0.out; have := Z2.out; have := Z3.out; have := ZMp0_queries.out; have := ZMp0_fields.out; have := Z4.out; have := Z5.out; have := ZV.out; have := Z6.out; have := ZMx0_queries.out; have := ZMx0_fields.out; have := Z7.out; have := bkx0_0.out; have := Z8.out; have := Z9.out; have := Z10.out; have := Z11.out; have := Z12.out; have := Z13.out; have := Z14.out; have := hb.1; omega) (gv.out.size)))
      replace h0_queries : Hid (RQueries wm1 u0_queries x0.queries) := Lib.hid (RSlice.mono keeps_query gw.out Bh0_queries.out)
      replace h0_fields : Hid (RSpanss wm1 u0_fields x0.fields) := Lib.hid (RSlice.mono (keeps_of keeps_span) gw.out Bh0_fields.out)
      replace hv1 : Hid (RRows wm1 (.slice a1 x1.length c1) x1) := Lib.hid (RSlice.mono keeps_row gw.out Bhv1.out)
      replace hw0 : Hid (RInts wm1 (.slice aw0 nw0 cw0) (bestL x0 x1)) := Lib.hid (RSlice.mono keeps_int gv.out Bhw0.out)
      replace hg0 : Hid (PInts (In w7.heap.size w8.heap.size) wm1 (.slice ag0 ng0 cg0) (bestL x0 x1)) := Lib.hid (OSl.frame fr_int hg0.out (dm1.agree fun b hb hc => by have := Z1.out; have := bkb0_0.out; have := Z2.out; have := Z3.out; have := ZMp0_queries.out; have := ZMp0_fields.out; have := Z4.out; have := Z5.out; have := ZV.out; have := Z6.out; have := ZMx0_queries.out; have := ZMx0_fields.out; have := Z7.out; have := bkx0_0.out; have := Z8.out; have := Z9.out; have := Z10.out; have := Z11.out; have := Z12.out; have := Z13.out; have := Z14.out; have := hb.1; have := hb.2; have := hc.1; have := hc.2; omega))
      replace kb0_0 : wm1.cell? ⟨w.heap.size, 0, none⟩ = some (u0_queries) := (World.cell?_of_block (w := wm0) (dm1.block _ (World.block_lt_of_cell? _ _ kb0_0) (fun hc => by have := Z1.out; have := bkb0_0.out; have := Z2.out; have := Z3.out; have := ZMp0_queries.out; have := ZMp0_fields.out; have := Z4.out; have := Z5.out; have := ZV.out; have := Z6.out; have := ZMx0_queries.out; have := ZMx0_fields.out; have := Z7.out; have := bkx0_0.out; have := Z8.out; have := Z9.out; have := Z10.out; have := Z11.out; have := Z12.out; have := Z13.out; have := Z14.out; have := hc.1; have := hc.2; dsimp only at *; omega))).trans kb0_0
      replace kb0_1 : wm1.cell? ⟨w.heap.size, 1, none⟩ = some (u0_fields) := (World.cell?_of_block (w := wm0) (dm1.block _ (World.block_lt_of_cell? _ _ kb0_1) (fun hc => by have := Z1.out; have := bkb0_0.out; have := Z2.out; have := Z3.out; have := ZMp0_queries.out; have := ZMp0_fields.out; have := Z4.out; have := Z5.out; have := ZV.out; have := Z6.out; have := ZMx0_queries.out; have := ZMx0_fields.out; have := Z7.out; have := bkx0_0.out; have := Z8.out; have := Z9.out; have := Z10.out; have := Z11.out; have := Z12.out; have := Z13.out; have := Z14.out; have := hc.1; have := hc.2; dsimp only at *; omega))).trans kb0_1
      replace kx0_0 : wm1.cell? ⟨w6.heap.size, 0, none⟩ = some (.slice ax0_queries nx0_queries cx0_queries) := (World.cell?_of_block (w := wm0) (dm1.block _ (World.block_lt_of_cell? _ _ kx0_0) (fun hc => by have := Z1.out; have := bkb0_0.out; have := Z2.out; have := Z3.out; have := ZMp0_queries.out; have := ZMp0_fields.out; have := Z4.out; have := Z5.out; have := ZV.out; have := Z6.out; have := ZMx0_queries.out; have := ZMx0_fields.out; have := Z7.out; have := bkx0_0.out; have := Z8.out; have := Z9.out; have := Z10.out; have := Z11.out; have := Z12.out; have := Z13.out; have := Z14.out; have := hc.1; have := hc.2; dsimp only at *; omega))).trans kx0_0
      replace kx0_1 : wm1.cell? ⟨w6.heap.size, 1, none⟩ = some (.slice ax0_fields nx0_fields cx0_fields) := (World.cell?_of_block (w := wm0) (dm1.block _ (World.block_lt_of_cell? _ _ kx0_1) (fun hc => by have := Z1.out; have := bkb0_0.out; have := Z2.out; have := Z3.out; have := ZMp0_queries.out; have := ZMp0_fields.out; have := Z4.out; have := Z5.out; have := ZV.out; have := Z6.out; have := ZMx0_queries.out; have := ZMx0_fields.out; have := Z7.out; have := bkx0_0.out; have := Z8.out; have := Z9.out; have := Z10.out; have := Z11.out; have := Z12.out; have := Z13.out; have := Z14.out; have := hc.1; have := hc.2; dsimp only at *; omega))).trans kx0_1
      clear hx1
      have cu1 : 0 ≤ ((((1 : Int) + (sumT cntQuery x0.queries : Int)) + (sumT (sumT cntSpan) x0.fields : Int)) + (sumT cntRow x1 : Int)) := by omega
      clear kx0_0
      clear kx0_1
      go_wp2_with fail
      refine (laws_eqIntS_same _ _ (bestL x0 x1) _ (rd_pints hg0.out) hw0.out).mono ?_
      rintro e w15 ⟨rfl, g15⟩
      have Z15 : Hid (wm1.heap.size + 0 ≤ w15.heap.size) := Lib.hid (by have := g15.size; simpa using this)
      replace h0_queries : Hid (RQueries w15 u0_queries x0.queries) := Lib.hid (RSlice.mono keeps_query g15 h0_queries.out)
      replace h0_fields : Hid (RSpanss w15 u0_fields x0.fields) := Lib.hid (RSlice.mono (keeps_of keeps_span) g15 h0_fields.out)
      replace hv1 : Hid (RRows w15 (.slice a1 x1.length c1) x1) := Lib.hid (RSlice.mono keeps_row g15 hv1.out)
      replace hw0 : Hid (RInts w15 (.slice aw0 nw0 cw0) (bestL x0 x1)) := Lib.hid (RSlice.mono keeps_int g15 hw0.out)
      replace hg0 : Hid (PInts (In w7.heap.size w8.heap.size) w15 (.slice ag0 ng0 cg0) (bestL x0 x1)) := Lib.hid (OSl.gr fr_int hg0.out g15)
      replace kb0_0 : w15.cell? ⟨w.heap.size, 0, none⟩ = some (u0_queries) := g15.cellv kb0_0
      replace kb0_1 : w15.cell? ⟨w.heap.size, 1, none⟩ = some (u0_fields) := g15.cellv kb0_1
      replace gw : Hid (Gr w w15) := Lib.hid (gw.out.trans g15)
      replace gv : Hid (Gr w5 w15) := Lib.hid (gv.out.trans g15)
      have HBR := Lib.hid (show (1 : Int) + (sumT cntI (bestL x0 x1) : Int) ≤ 4611686018427387904 from by have := bestL_small x0 x1; omega)
      have hbr := HBR.out
      go_wp2_with fail
      refine (laws_markIntS (In w7.heap.size w8.heap.size) _ (bestL x0 x1) (1 : Int) _ hg0.out (by omega) (by omega)).mono ?_
      rintro e wg0 ⟨rfl, qhg0, dg0⟩
      have Z16 : Hid (w15.heap.size ≤ wg0.heap.size) := Lib.hid dg0.size
      replace gw : Hid (Gr w wg0) := Lib.hid (Gr.trans' gw.out (dg0.below (fun b hb => by have := Z1.out; have := bkb0_0.out; have := Z2.out; have := Z3.out; have := ZMp0_queries.out; have := ZMp0_fields.out; have := Z4.out; have := Z5.out; have := ZV.out; have := Z6.out; have := ZMx0_queries.out; have := ZMx0_fields.out; have := Z7.out; have := bkx0_0.out; have := Z8.out; have := Z9.out; have := Z10.out; have := Z11.out; have := Z12.out; have := Z13.out; have := Z14.out; have := Z15.out; have := Z16.out; have := hb.1; omega) (gw.out.size)))
      replace gv : Hid (Gr w5 wg0) := Lib.hid (Gr.trans' gv.out (dg0.below (fun b hb => by have := Z1.out; have := bkb0_0.out; have := Z2.out; have := Z3.out; have := ZMp0_queries.out; have := ZMp0_fields.out; have := Z4.out; have := Z5.out; have := ZV.out; have := Z6.out; have := ZMx0_queries.out; have := ZMx0_fields.out; have := Z7.out; have := bkx0_0.out; have := Z8.out; have := Z9.out; have := Z10.out; have := Z11.out; have := Z12.out; have := Z13.out; have := Z14.out; have := Z15.out; have := Z16.out; have := hb.1; omega) (gv.out.size)))
      replace h0_queries : Hid (RQueries wg0 u0_queries x0.queries) := Lib.hid (RSlice.mono keeps_query gw.out Bh0_queries.out)
      replace h0_fields : Hid (RSpanss wg0 u0_fields x0.fields) := Lib.hid (RSlice.mono (keeps_of keeps_span) gw.out Bh0_fields.out)
      replace hv1 : Hid (RRows wg0 (.slice a1 x1.length c1) x1) := Lib.hid (RSlice.mono keeps_row gw.out Bhv1.out)
      replace hw0 : Hid (RInts wg0 (.slice aw0 nw0 cw0) (bestL x0 x1)) := Lib.hid (RSlice.mono keeps_int gv.out Bhw0.out)
      replace kb0_0 : wg0.cell? ⟨w.heap.size, 0, none⟩ = some (u0_queries) := (World.cell?_of_block (w := w15) (dg0.block _ (World.block_lt_of_cell? _ _ kb0_0) (fun hc => by have := Z1.out; have := bkb0_0.out; have := Z2.out; have := Z3.out; have := ZMp0_queries.out; have := ZMp0_fields.out; have := Z4.out; have := Z5.out; have := ZV.out; have := Z6.out; have := ZMx0_queries.out; have := ZMx0_fields.out; have := Z7.out; have := bkx0_0.out; have := Z8.out; have := Z9.out; have := Z10.out; have := Z11.out; have := Z12.out; have := Z13.out; have := Z14.out; have := Z15.out; have := Z16.out; have := hc.1; have := hc.2; dsimp only at *; omega))).trans kb0_0
      replace kb0_1 : wg0.cell? ⟨w.heap.size, 1, none⟩ = some (u0_fields) := (World.cell?_of_block (w := w15) (dg0.block _ (World.block_lt_of_cell? _ _ kb0_1) (fun hc => by have := Z1.out; have := bkb0_0.out; have := Z2.out; have := Z3.out; have := ZMp0_queries.out; have := ZMp0_fields.out; have := Z4.out; have := Z5.out; have := ZV.out; have := Z6.out; have := ZMx0_queries.out; have := ZMx0_fields.out; have := Z7.out; have := bkx0_0.out; have := Z8.out; have := Z9.out; have := Z10.out; have := Z11.out; have := Z12.out; have := Z13.out; have := Z14.out; have := Z15.out; have := Z16.out; have := hc.1; have := hc.2; dsimp only at *; omega))).trans kb0_1
      clear hg0
      have Mhg0 : Hid (RInts wg0 (.slice ag0 ng0 cg0) (marksTo mkI cntI (1 : Int) (bestL x0 x1).length (bestL x0 x1))) := Lib.hid (rd_pints qhg0)
      clear qhg0
      have hcg0 : 0 ≤ ((1 : Int) + (sumT cntI (bestL x0 x1) : Int)) := by omega
      have ef : (((1 : Int) + (sumT cntI (bestL x0 x1) : Int)) != ((1 : Int) + (sumT cntI (bestL x0 x1) : Int))) = false := by simp
      go_wp2_with fail
      refine (laws_heldIntS _ (bestL x0 x1) (1 : Int) _ Mhg0.out (by omega) (by omega)).mono ?_
      rintro e w17 ⟨rfl, g17⟩
      have Z17 : Hid (wg0.heap.size + 0 ≤ w17.heap.size) := Lib.hid (by have := g17.size; simpa using this)
      replace h0_queries : Hid (RQueries w17 u0_queries x0.queries) := Lib.hid (RSlice.mono keeps_query g17 h0_queries.out)
      replace h0_fields : Hid (RSpanss w17 u0_fields x0.fields) := Lib.hid (RSlice.mono (keeps_of keeps_span) g17 h0_fields.out)
      replace hv1 : Hid (RRows w17 (.slice a1 x1.length c1) x1) := Lib.hid (RSlice.mono keeps_row g17 hv1.out)
      replace hw0 : Hid (RInts w17 (.slice aw0 nw0 cw0) (bestL x0 x1)) := Lib.hid (RSlice.mono keeps_int g17 hw0.out)
      replace Mhg0 : Hid (RInts w17 (.slice ag0 ng0 cg0) (marksTo mkI cntI (1 : Int) (bestL x0 x1).length (bestL x0 x1))) := Lib.hid (RSlice.mono keeps_int g17 Mhg0.out)
      replace kb0_0 : w17.cell? ⟨w.heap.size, 0, none⟩ = some (u0_queries) := g17.cellv kb0_0
      replace kb0_1 : w17.cell? ⟨w.heap.size, 1, none⟩ = some (u0_fields) := g17.cellv kb0_1
      replace gw : Hid (Gr w w17) := Lib.hid (gw.out.trans g17)
      replace gv : Hid (Gr w5 w17) := Lib.hid (gv.out.trans g17)
      go_wp2_with fail
      refine (laws_toIndex_own x0 u0_queries u0_fields _ h0_queries.out h0_fields.out HT0.out).mono ?_
      rintro e w18 ⟨vz0_queries, vz0_fields, rfl, g18, mz0, hmz0, hnz0, r_hz0_queries, r_hz0_fields⟩
      have Z18 : Hid (w17.heap.size + 0 ≤ w18.heap.size) := Lib.hid (by have := g18.size; simpa using this)
      replace h0_queries : Hid (RQueries w18 u0_queries x0.queries) := Lib.hid (RSlice.mono keeps_query g18 h0_queries.out)
      replace h0_fields : Hid (RSpanss w18 u0_fields x0.fields) := Lib.hid (RSlice.mono (keeps_of keeps_span) g18 h0_fields.out)
      replace hv1 : Hid (RRows w18 (.slice a1 x1.length c1) x1) := Lib.hid (RSlice.mono keeps_row g18 hv1.out)
      replace hw0 : Hid (RInts w18 (.slice aw0 nw0 cw0) (bestL x0 x1)) := Lib.hid (RSlice.mono keeps_int g18 hw0.out)
      replace Mhg0 : Hid (RInts w18 (.slice ag0 ng0 cg0) (marksTo mkI cntI (1 : Int) (bestL x0 x1).length (bestL x0 x1))) := Lib.hid (RSlice.mono keeps_int g18 Mhg0.out)
      replace kb0_0 : w18.cell? ⟨w.heap.size, 0, none⟩ = some (u0_queries) := g18.cellv kb0_0
      replace kb0_1 : w18.cell? ⟨w.heap.size, 1, none⟩ = some (u0_fields) := g18.cellv kb0_1
      replace gw : Hid (Gr w w18) := Lib.hid (gw.out.trans g18)
      replace gv : Hid (Gr w5 w18) := Lib.hid (gv.out.trans g18)
      obtain ⟨az0_queries, nz0_queries, cz0_queries, rfl⟩ := r_hz0_queries.isSl
      have ZMz0_queries : Hid (w17.heap.size ≤ mz0) := Lib.hid (by have := hmz0; (try simp at this); omega)
      have hz0_queries : Hid (PQueries (In w17.heap.size mz0) w18 (.slice az0_queries nz0_queries cz0_queries) x0.queries) := Lib.hid (r_hz0_queries.wide (by simp) (by omega))
      clear r_hz0_queries
      obtain ⟨az0_fields, nz0_fields, cz0_fields, rfl⟩ := r_hz0_fields.isSl
      have ZMz0_fields : Hid (w17.heap.size ≤ mz0) := Lib.hid (by have := hmz0; (try simp at this); omega)
      have hz0_fields : Hid (PSpanss (In mz0 w18.heap.size) w18 (.slice az0_fields nz0_fields cz0_fields) x0.fields) := Lib.hid (r_hz0_fields.wide (Nat.le_refl _) (by omega))
      clear r_hz0_fields
      go_wp2_with fail
      refine (laws_toRowS_own _ x1 _ hv1.out HT1.out).mono ?_
      rintro e w19 ⟨_, rfl, ⟨az1, nz1, cz1, rfl⟩, g19, r_hz1⟩
      have Z19 : Hid (w18.heap.size + 0 ≤ w19.heap.size) := Lib.hid (by have := g19.size; simpa using this)
      replace h0_queries : Hid (RQueries w19 u0_queries x0.queries) := Lib.hid (RSlice.mono keeps_query g19 h0_queries.out)
      replace h0_fields : Hid (RSpanss w19 u0_fields x0.fields) := Lib.hid (RSlice.mono (keeps_of keeps_span) g19 h0_fields.out)
      replace hv1 : Hid (RRows w19 (.slice a1 x1.length c1) x1) := Lib.hid (RSlice.mono keeps_row g19 hv1.out)
      replace hw0 : Hid (RInts w19 (.slice aw0 nw0 cw0) (bestL x0 x1)) := Lib.hid (RSlice.mono keeps_int g19 hw0.out)
      replace Mhg0 : Hid (RInts w19 (.slice ag0 ng0 cg0) (marksTo mkI cntI (1 : Int) (bestL x0 x1).length (bestL x0 x1))) := Lib.hid (RSlice.mono keeps_int g19 Mhg0.out)
      replace hz0_queries : Hid (PQueries (In w17.heap.size mz0) w19 (.slice az0_queries nz0_queries cz0_queries) x0.queries) := Lib.hid (OSl.gr fr_query hz0_queries.out g19)
      replace hz0_fields : Hid (PSpanss (In mz0 w18.heap.size) w19 (.slice az0_fields nz0_fields cz0_fields) x0.fields) := Lib.hid (OSl.gr (fr_of fr_span) hz0_fields.out g19)
      replace kb0_0 : w19.cell? ⟨w.heap.size, 0, none⟩ = some (u0_queries) := g19.cellv kb0_0
      replace kb0_1 : w19.cell? ⟨w.heap.size, 1, none⟩ = some (u0_fields) := g19.cellv kb0_1
      replace gw : Hid (Gr w w19) := Lib.hid (gw.out.trans g19)
      replace gv : Hid (Gr w5 w19) := Lib.hid (gv.out.trans g19)
      have hz1 : Hid (PRows (In w18.heap.size w19.heap.size) w19 (.slice az1 nz1 cz1) x1) := Lib.hid (r_hz1.wide (by simp) (by omega))
      clear r_hz1
      go_wp2_with fail
      refine (impl_BestOrder x0 _ _ _ x1 _ (rd_pqueries hz0_queries.out) (rd_pspanss hz0_fields.out) (rd_prows hz1.out) HT0.out HT1.out).mono ?_
      rintro e w20 ⟨vh0, rfl, g20, r_hh0⟩
      have Z20 : Hid (w19.heap.size + 0 ≤ w20.heap.size) := Lib.hid (by have := g20.size; simpa using this)
      replace h0_queries : Hid (RQueries w20 u0_queries x0.queries) := Lib.hid (RSlice.mono keeps_query g20 h0_queries.out)
      replace h0_fields : Hid (RSpanss w20 u0_fields x0.fields) := Lib.hid (RSlice.mono (keeps_of keeps_span) g20 h0_fields.out)
      replace hv1 : Hid (RRows w20 (.slice a1 x1.length c1) x1) := Lib.hid (RSlice.mono keeps_row g20 hv1.out)
      replace hw0 : Hid (RInts w20 (.slice aw0 nw0 cw0) (bestL x0 x1)) := Lib.hid (RSlice.mono keeps_int g20 hw0.out)
      replace Mhg0 : Hid (RInts w20 (.slice ag0 ng0 cg0) (marksTo mkI cntI (1 : Int) (bestL x0 x1).length (bestL x0 x1))) := Lib.hid (RSlice.mono keeps_int g20 Mhg0.out)
      replace hz0_queries : Hid (PQueries (In w17.heap.size mz0) w20 (.slice az0_queries nz0_queries cz0_queries) x0.queries) := Lib.hid (OSl.gr fr_query hz0_queries.out g20)
      replace hz0_fields : Hid (PSpanss (In mz0 w18.heap.size) w20 (.slice az0_fields nz0_fields cz0_fields) x0.fields) := Lib.hid (OSl.gr (fr_of fr_span) hz0_fields.out g20)
      replace hz1 : Hid (PRows (In w18.heap.size w19.heap.size) w20 (.slice az1 nz1 cz1) x1) := Lib.hid (OSl.gr fr_row hz1.out g20)
      replace kb0_0 : w20.cell? ⟨w.heap.size, 0, none⟩ = some (u0_queries) := g20.cellv kb0_0
      replace kb0_1 : w20.cell? ⟨w.heap.size, 1, none⟩ = some (u0_fields) := g20.cellv kb0_1
      replace gw : Hid (Gr w w20) := Lib.hid (gw.out.trans g20)
      replace gv : Hid (Gr w5 w20) := Lib.hid (gv.out.trans g20)
      clear hz0_queries
      clear hz0_fields
      clear hz1
      obtain ⟨ah0, nh0, ch0, rfl⟩ := r_hh0.isSl
      have hh0 : Hid (PInts (In w19.heap.size w20.heap.size) w20 (.slice ah0 nh0 ch0) (bestL x0 x1)) := Lib.hid (r_hh0.wide (by simp) (by omega))
      clear r_hh0
      go_wp2_with fail
      refine (laws_eqIntS_same _ _ (bestL x0 x1) _ (rd_pints hh0.out) hw0.out).mono ?_
      rintro e w21 ⟨rfl, g21⟩
      have Z21 : Hid (w20.heap.size + 0 ≤ w21.heap.size) := Lib.hid (by have := g21.size; simpa using this)
      replace h0_queries : Hid (RQueries w21 u0_queries x0.queries) := Lib.hid (RSlice.mono keeps_query g21 h0_queries.out)
      replace h0_fields : Hid (RSpanss w21 u0_fields x0.fields) := Lib.hid (RSlice.mono (keeps_of keeps_span) g21 h0_fields.out)
      replace hv1 : Hid (RRows w21 (.slice a1 x1.length c1) x1) := Lib.hid (RSlice.mono keeps_row g21 hv1.out)
      replace hw0 : Hid (RInts w21 (.slice aw0 nw0 cw0) (bestL x0 x1)) := Lib.hid (RSlice.mono keeps_int g21 hw0.out)
      replace Mhg0 : Hid (RInts w21 (.slice ag0 ng0 cg0) (marksTo mkI cntI (1 : Int) (bestL x0 x1).length (bestL x0 x1))) := Lib.hid (RSlice.mono keeps_int g21 Mhg0.out)
      replace hh0 : Hid (PInts (In w19.heap.size w20.heap.size) w21 (.slice ah0 nh0 ch0) (bestL x0 x1)) := Lib.hid (OSl.gr fr_int hh0.out g21)
      replace kb0_0 : w21.cell? ⟨w.heap.size, 0, none⟩ = some (u0_queries) := g21.cellv kb0_0
      replace kb0_1 : w21.cell? ⟨w.heap.size, 1, none⟩ = some (u0_fields) := g21.cellv kb0_1
      replace gw : Hid (Gr w w21) := Lib.hid (gw.out.trans g21)
      replace gv : Hid (Gr w5 w21) := Lib.hid (gv.out.trans g21)
      go_wp2_with fail
      refine (laws_heldIntS _ (bestL x0 x1) (1 : Int) _ Mhg0.out (by omega) (by omega)).mono ?_
      rintro e w22 ⟨rfl, g22⟩
      have Z22 : Hid (w21.heap.size + 0 ≤ w22.heap.size) := Lib.hid (by have := g22.size; simpa using this)
      replace h0_queries : Hid (RQueries w22 u0_queries x0.queries) := Lib.hid (RSlice.mono keeps_query g22 h0_queries.out)
      replace h0_fields : Hid (RSpanss w22 u0_fields x0.fields) := Lib.hid (RSlice.mono (keeps_of keeps_span) g22 h0_fields.out)
      replace hv1 : Hid (RRows w22 (.slice a1 x1.length c1) x1) := Lib.hid (RSlice.mono keeps_row g22 hv1.out)
      replace hw0 : Hid (RInts w22 (.slice aw0 nw0 cw0) (bestL x0 x1)) := Lib.hid (RSlice.mono keeps_int g22 hw0.out)
      replace Mhg0 : Hid (RInts w22 (.slice ag0 ng0 cg0) (marksTo mkI cntI (1 : Int) (bestL x0 x1).length (bestL x0 x1))) := Lib.hid (RSlice.mono keeps_int g22 Mhg0.out)
      replace hh0 : Hid (PInts (In w19.heap.size w20.heap.size) w22 (.slice ah0 nh0 ch0) (bestL x0 x1)) := Lib.hid (OSl.gr fr_int hh0.out g22)
      replace kb0_0 : w22.cell? ⟨w.heap.size, 0, none⟩ = some (u0_queries) := g22.cellv kb0_0
      replace kb0_1 : w22.cell? ⟨w.heap.size, 1, none⟩ = some (u0_fields) := g22.cellv kb0_1
      replace gw : Hid (Gr w w22) := Lib.hid (gw.out.trans g22)
      replace gv : Hid (Gr w5 w22) := Lib.hid (gv.out.trans g22)
      go_wp2_with fail
      go_ret
      exact ⟨rfl, gw.out⟩
    · have HZ0 := Lib.hid (szV_yes (t := (totIndex x0)) (left := (1048576 : Int)) (by omega))
      have HA0 := Lib.hid (show (0 : Int) ≤ (1048576 : Int) ∧ (1048576 : Int) ≤ 1048576 from by omega)
      have HB0 := Lib.hid (show (0 : Int) ≤ (1048576 : Int) - ((totIndex x0) : Int) ∧ (1048576 : Int) - ((totIndex x0) : Int) ≤ 1048576 from by omega)
      have HZ1 := Lib.hid (szV_no (t := (totL totRow x1)) (left := (1048576 - ((totIndex x0) : Int))) (by omega))
      have HA1 := Lib.hid (show (0 : Int) ≤ (1048576 - ((totIndex x0) : Int)) ∧ (1048576 - ((totIndex x0) : Int)) ≤ 1048576 from by omega)
      clear hs0 hs1
      go_enter Try.func14, Try.ntmps14
      have Bh0_queries := Lib.hid h0_queries
      replace h0_queries := Lib.hid h0_queries
      have Bh0_fields := Lib.hid h0_fields
      replace h0_fields := Lib.hid h0_fields
      have Bhv1 := Lib.hid hv1
      replace hv1 := Lib.hid hv1
      go_wp2_with fail
      refine (laws_szIndex x0 u0_queries u0_fields _ _ (RSlice.mono keeps_query ((Gr.refl w).alloc _) h0_queries.out) (RSlice.mono (keeps_of keeps_span) ((Gr.refl w).alloc _) h0_fields.out) HA0.out.1 HA0.out.2).mono ?_
      rintro e w1 ⟨rfl, g1⟩
      have gs1 : Gr w w1 := ((Gr.refl w).alloc _).trans g1
      have Z1 : Hid (w.heap.size + 1 ≤ w1.heap.size) := Lib.hid (by have := g1.size; simpa using this)
      replace h0_queries : Hid (RQueries w1 u0_queries x0.queries) := Lib.hid (RSlice.mono keeps_query gs1 h0_queries.out)
      replace h0_fields : Hid (RSpanss w1 u0_fields x0.fields) := Lib.hid (RSlice.mono (keeps_of keeps_span) gs1 h0_fields.out)
      replace hv1 : Hid (RRows w1 (.slice a1 x1.length c1) x1) := Lib.hid (RSlice.mono keeps_row gs1 hv1.out)
      have gw : Hid (Gr w w1) := Lib.hid gs1
      have kb0_0 : w1.cell? ⟨w.heap.size, 0, none⟩ = some (u0_queries) := g1.cellv (by simp [go_sem])
      have kb0_1 : w1.cell? ⟨w.heap.size, 1, none⟩ = some (u0_fields) := g1.cellv (by simp [go_sem])
      have bkb0_0 : Hid (w.heap.size < w1.heap.size) := Lib.hid (by have := Z1.out; omega)
      rw [HZ0.out]
      have hB0 := HB0.out.1
      have hC0 := HB0.out.2
      go_wp2_with fail
      refine (laws_szRowS _ _ x1 _ hv1.out HA1.out.1 HA1.out.2).mono ?_
      rintro e w2 ⟨rfl, g2⟩
      have Z2 : Hid (w1.heap.size + 0 ≤ w2.heap.size) := Lib.hid (by have := g2.size; simpa using this)
      replace h0_queries : Hid (RQueries w2 u0_queries x0.queries) := Lib.hid (RSlice.mono keeps_query g2 h0_queries.out)
      replace h0_fields : Hid (RSpanss w2 u0_fields x0.fields) := Lib.hid (RSlice.mono (keeps_of keeps_span) g2 h0_fields.out)
      replace hv1 : Hid (RRows w2 (.slice a1 x1.length c1) x1) := Lib.hid (RSlice.mono keeps_row g2 hv1.out)
      replace kb0_0 : w2.cell? ⟨w.heap.size, 0, none⟩ = some (u0_queries) := g2.cellv kb0_0
      replace kb0_1 : w2.cell? ⟨w.heap.size, 1, none⟩ = some (u0_fields) := g2.cellv kb0_1
      replace gw : Hid (Gr w w2) := Lib.hid (gw.out.trans g2)
      rw [HZ1.out]
      go_wp2_with fail
      go_ret
      exact ⟨rfl, gw.out⟩
  · have HZ0 := Lib.hid (szV_no (t := (totIndex x0)) (left := (1048576 : Int)) (by omega))
    have HA0 := Lib.hid (show (0 : Int) ≤ (1048576 : Int) ∧ (1048576 : Int) ≤ 1048576 from by omega)
    clear hs0
    go_enter Try.func14, Try.ntmps14
    have Bh0_queries := Lib.hid h0_queries
    replace h0_queries := Lib.hid h0_queries
    have Bh0_fields := Lib.hid h0_fields
    replace h0_fields := Lib.hid h0_fields
    have Bhv1 := Lib.hid hv1
    replace hv1 := Lib.hid hv1
    go_wp2_with fail
    refine (laws_szIndex x0 u0_queries u0_fields _ _ (RSlice.mono keeps_query ((Gr.refl w).alloc _) h0_queries.out) (RSlice.mono (keeps_of keeps_span) ((Gr.refl w).alloc _) h0_fields.out) HA0.out.1 HA0.out.2).mono ?_
    rintro e w1 ⟨rfl, g1⟩
    have gs1 : Gr w w1 := ((Gr.refl w).alloc _).trans g1
    have Z1 : Hid (w.heap.size + 1 ≤ w1.heap.size) := Lib.hid (by have := g1.size; simpa using this)
    replace h0_queries : Hid (RQueries w1 u0_queries x0.queries) := Lib.hid (RSlice.mono keeps_query gs1 h0_queries.out)
    replace h0_fields : Hid (RSpanss w1 u0_fields x0.fields) := Lib.hid (RSlice.mono (keeps_of keeps_span) gs1 h0_fields.out)
    replace hv1 : Hid (RRows w1 (.slice a1 x1.length c1) x1) := Lib.hid (RSlice.mono keeps_row gs1 hv1.out)
    have gw : Hid (Gr w w1) := Lib.hid gs1
    have kb0_0 : w1.cell? ⟨w.heap.size, 0, none⟩ = some (u0_queries) := g1.cellv (by simp [go_sem])
    have kb0_1 : w1.cell? ⟨w.heap.size, 1, none⟩ = some (u0_fields) := g1.cellv (by simp [go_sem])
    have bkb0_0 : Hid (w.heap.size < w1.heap.size) := Lib.hid (by have := Z1.out; omega)
    rw [HZ0.out]
    go_wp2_with fail
    go_ret
    exact ⟨rfl, gw.out⟩

-- endgen
end Go.Proofs.Ytnnapjaggahjgaa
