/- WorkOf: the law. -/
import Derived.Test.YtnnapjaggahjgaaWork2
import Derived.Test.YtnnapjaggahjgaaMkIndex
import Derived.Test.YtnnapjaggahjgaaMkRow
namespace Go.Proofs.Ytnnapjaggahjgaa
open Go.RowKit
-- mgen FnExactWorkOf WorkOf+HT0+HT1 int "(workL x0 x1 x2)" - Index RowS IntS
set_option maxRecDepth 100000 in
set_option maxHeartbeats 1500000 in
theorem law_FnExactWorkOf (w : World) (x0 : DIndex) (u0_queries : Value) (u0_fields : Value) (h0_queries : RQueries w u0_queries x0.queries) (h0_fields : RSpanss w u0_fields x0.fields) (v1 : Value) (x1 : List DRow) (hv1 : RRows w v1 x1) (v2 : Value) (x2 : List Int) (hv2 : RInts w v2 x2) : Calls Try.prog 11 #[.agg #[u0_queries, u0_fields], v1, v2] w fun e w' => e = .returned (.bool true) ∧ Gr w w' := by
  obtain ⟨a1, c1, hve1⟩ := hv1.form
  subst hve1
  obtain ⟨a2, c2, hve2⟩ := hv2.form
  subst hve2
  by_cases hs0 : (x2.length : Int) ≤ 1048576
  · by_cases hs1 : ((totIndex x0) : Int) ≤ (1048576 : Int)
    · by_cases hs2 : ((totL totRow x1) : Int) ≤ (1048576 - ((totIndex x0) : Int))
      · have HZ0 := Lib.hid (szV_yes (t := (totIndex x0)) (left := (1048576 : Int)) (by omega))
        have HA0 := Lib.hid (show (0 : Int) ≤ (1048576 : Int) ∧ (1048576 : Int) ≤ 1048576 from by omega)
        have HB0 := Lib.hid (show (0 : Int) ≤ (1048576 : Int) - ((totIndex x0) : Int) ∧ (1048576 : Int) - ((totIndex x0) : Int) ≤ 1048576 from by omega)
        have HZ1 := Lib.hid (szV_yes (t := (totL totRow x1)) (left := (1048576 - ((totIndex x0) : Int))) (by omega))
        have HA1 := Lib.hid (show (0 : Int) ≤ (1048576 - ((totIndex x0) : Int)) ∧ (1048576 - ((totIndex x0) : Int)) ≤ 1048576 from by omega)
        have HB1 := Lib.hid (show (0 : Int) ≤ (1048576 - ((totIndex x0) : Int)) - ((totL totRow x1) : Int) ∧ (1048576 - ((totIndex x0) : Int)) - ((totL totRow x1) : Int) ≤ 1048576 from by omega)
        have HT0 := Lib.hid (show (totIndex x0) ≤ 4294967296 from by omega)
        have HT1 := Lib.hid (show (totL totRow x1) ≤ 4294967296 from by omega)
        have HT2 := Lib.hid (show x2.length ≤ 4294967296 from by omega)
        have HQ0 : Hid ((totIndex x0) ≤ 1048576) := Lib.hid (by omega)
        have HQ1 : Hid ((totL totRow x1) ≤ 1048576) := Lib.hid (by omega)
        have HQ2 : Hid (x2.length ≤ 1048576) := Lib.hid (by omega)
        clear hs1 hs2
        go_enter Try.func11, Try.ntmps11
        have Bh0_queries := Lib.hid h0_queries
        replace h0_queries := Lib.hid h0_queries
        have Bh0_fields := Lib.hid h0_fields
        replace h0_fields := Lib.hid h0_fields
        have Bhv1 := Lib.hid hv1
        replace hv1 := Lib.hid hv1
        have Bhv2 := Lib.hid hv2
        replace hv2 := Lib.hid hv2
        go_wp2_with fail
        refine (laws_szIndex x0 u0_queries u0_fields _ _ (RSlice.mono keeps_query ((Gr.refl w).alloc _) h0_queries.out) (RSlice.mono (keeps_of keeps_span) ((Gr.refl w).alloc _) h0_fields.out) HA0.out.1 HA0.out.2).mono ?_
        rintro e w1 ⟨rfl, g1⟩
        have gs1 : Gr w w1 := ((Gr.refl w).alloc _).trans g1
        have Z1 : Hid (w.heap.size + 1 ≤ w1.heap.size) := Lib.hid (by have := g1.size; simpa using this)
        replace h0_queries : Hid (RQueries w1 u0_queries x0.queries) := Lib.hid (RSlice.mono keeps_query gs1 h0_queries.out)
        replace h0_fields : Hid (RSpanss w1 u0_fields x0.fields) := Lib.hid (RSlice.mono (keeps_of keeps_span) gs1 h0_fields.out)
        replace hv1 : Hid (RRows w1 (.slice a1 x1.length c1) x1) := Lib.hid (RSlice.mono keeps_row gs1 hv1.out)
        replace hv2 : Hid (RInts w1 (.slice a2 x2.length c2) x2) := Lib.hid (RSlice.mono keeps_int gs1 hv2.out)
        have gw : Hid (Gr w w1) := Lib.hid gs1
        have kb0_0 : w1.cell? ⟨w.heap.size, 0, none⟩ = some (u0_queries) := g1.cellv (by simp [go_sem])
        have kb0_1 : w1.cell? ⟨w.heap.size, 1, none⟩ = some (u0_fields) := g1.cellv (by simp [go_sem])
        have bkb0_0 : Hid (w.heap.size < w1.heap.size) := Lib.hid (by have := Z1.out; omega)
        rw [HZ0.out]
        have hB0 := HB0.out.1
        have hC0 := HB0.out.2
        go_wp2_with fail
        refine (laws_szRowS _ _ x1 _ hv1.out HA1.out.1 HA1.out.2).mono ?_
        rintro e w2 ⟨rfl, g2⟩
        have Z2 : Hid (w1.heap.size + 0 ≤ w2.heap.size) := Lib.hid (by have := g2.size; simpa using this)
        replace h0_queries : Hid (RQueries w2 u0_queries x0.queries) := Lib.hid (RSlice.mono keeps_query g2 h0_queries.out)
        replace h0_fields : Hid (RSpanss w2 u0_fields x0.fields) := Lib.hid (RSlice.mono (keeps_of keeps_span) g2 h0_fields.out)
        replace hv1 : Hid (RRows w2 (.slice a1 x1.length c1) x1) := Lib.hid (RSlice.mono keeps_row g2 hv1.out)
        replace hv2 : Hid (RInts w2 (.slice a2 x2.length c2) x2) := Lib.hid (RSlice.mono keeps_int g2 hv2.out)
        replace kb0_0 : w2.cell? ⟨w.heap.size, 0, none⟩ = some (u0_queries) := g2.cellv kb0_0
        replace kb0_1 : w2.cell? ⟨w.heap.size, 1, none⟩ = some (u0_fields) := g2.cellv kb0_1
        replace gw : Hid (Gr w w2) := Lib.hid (gw.out.trans g2)
        rw [HZ1.out]
        have hB1 := HB1.out.1
        have hC1 := HB1.out.2
        go_wp2_with fail
        refine (laws_toIndex_own x0 u0_queries u0_fields _ h0_queries.out h0_fields.out HT0.out).mono ?_
        rintro e w3 ⟨vp0_queries, vp0_fields, rfl, g3, mp0, hmp0, hnp0, r_hp0_queries, r_hp0_fields⟩
        have Z3 : Hid (w2.heap.size + 0 ≤ w3.heap.size) := Lib.hid (by have := g3.size; simpa using this)
        replace h0_queries : Hid (RQueries w3 u0_queries x0.queries) := Lib.hid (RSlice.mono keeps_query g3 h0_queries.out)
        replace h0_fields : Hid (RSpanss w3 u0_fields x0.fields) := Lib.hid (RSlice.mono (keeps_of keeps_span) g3 h0_fields.out)
        replace hv1 : Hid (RRows w3 (.slice a1 x1.length c1) x1) := Lib.hid (RSlice.mono keeps_row g3 hv1.out)
        replace hv2 : Hid (RInts w3 (.slice a2 x2.length c2) x2) := Lib.hid (RSlice.mono keeps_int g3 hv2.out)
        replace kb0_0 : w3.cell? ⟨w.heap.size, 0, none⟩ = some (u0_queries) := g3.cellv kb0_0
        replace kb0_1 : w3.cell? ⟨w.heap.size, 1, none⟩ = some (u0_fields) := g3.cellv kb0_1
        replace gw : Hid (Gr w w3) := Lib.hid (gw.out.trans g3)
        obtain ⟨ap0_queries, np0_queries, cp0_queries, rfl⟩ := r_hp0_queries.isSl
        have ZMp0_queries : Hid (w2.heap.size ≤ mp0) := Lib.hid (by have := hmp0; (try simp at this); omega)
        have hp0_queries : Hid (PQueries (In w2.heap.size mp0) w3 (.slice ap0_queries np0_queries cp0_queries) x0.queries) := Lib.hid (r_hp0_queries.wide (by simp) (by omega))
        clear r_hp0_queries
        obtain ⟨ap0_fields, np0_fields, cp0_fields, rfl⟩ := r_hp0_fields.isSl
        have ZMp0_fields : Hid (w2.heap.size ≤ mp0) := Lib.hid (by have := hmp0; (try simp at this); omega)
        have hp0_fields : Hid (PSpanss (In mp0 w3.heap.size) w3 (.slice ap0_fields np0_fields cp0_fields) x0.fields) := Lib.hid (r_hp0_fields.wide (Nat.le_refl _) (by omega))
        clear r_hp0_fields
        go_wp2_with fail
        refine (laws_toRowS_own _ x1 _ hv1.out HT1.out).mono ?_
        rintro e w4 ⟨_, rfl, ⟨ap1, np1, cp1, rfl⟩, g4, r_hp1⟩
        have Z4 : Hid (w3.heap.size + 0 ≤ w4.heap.size) := Lib.hid (by have := g4.size; simpa using this)
        replace h0_queries : Hid (RQueries w4 u0_queries x0.queries) := Lib.hid (RSlice.mono keeps_query g4 h0_queries.out)
        replace h0_fields : Hid (RSpanss w4 u0_fields x0.fields) := Lib.hid (RSlice.mono (keeps_of keeps_span) g4 h0_fields.out)
        replace hv1 : Hid (RRows w4 (.slice a1 x1.length c1) x1) := Lib.hid (RSlice.mono keeps_row g4 hv1.out)
        replace hv2 : Hid (RInts w4 (.slice a2 x2.length c2) x2) := Lib.hid (RSlice.mono keeps_int g4 hv2.out)
        replace hp0_queries : Hid (PQueries (In w2.heap.size mp0) w4 (.slice ap0_queries np0_queries cp0_queries) x0.queries) := Lib.hid (OSl.gr fr_query hp0_queries.out g4)
        replace hp0_fields : Hid (PSpanss (In mp0 w3.heap.size) w4 (.slice ap0_fields np0_fields cp0_fields) x0.fields) := Lib.hid (OSl.gr (fr_of fr_span) hp0_fields.out g4)
        replace kb0_0 : w4.cell? ⟨w.heap.size, 0, none⟩ = some (u0_queries) := g4.cellv kb0_0
        replace kb0_1 : w4.cell? ⟨w.heap.size, 1, none⟩ = some (u0_fields) := g4.cellv kb0_1
        replace gw : Hid (Gr w w4) := Lib.hid (gw.out.trans g4)
        have hp1 : Hid (PRows (In w3.heap.size w4.heap.size) w4 (.slice ap1 np1 cp1) x1) := Lib.hid (r_hp1.wide (by simp) (by omega))
        clear r_hp1
        go_wp2_with fail
        refine (laws_toIntS_own _ x2 _ hv2.out HT2.out).mono ?_
        rintro e w5 ⟨_, rfl, ⟨ap2, np2, cp2, rfl⟩, g5, r_hp2⟩
        have Z5 : Hid (w4.heap.size + 0 ≤ w5.heap.size) := Lib.hid (by have := g5.size; simpa using this)
        replace h0_queries : Hid (RQueries w5 u0_queries x0.queries) := Lib.hid (RSlice.mono keeps_query g5 h0_queries.out)
        replace h0_fields : Hid (RSpanss w5 u0_fields x0.fields) := Lib.hid (RSlice.mono (keeps_of keeps_span) g5 h0_fields.out)
        replace hv1 : Hid (RRows w5 (.slice a1 x1.length c1) x1) := Lib.hid (RSlice.mono keeps_row g5 hv1.out)
        replace hv2 : Hid (RInts w5 (.slice a2 x2.length c2) x2) := Lib.hid (RSlice.mono keeps_int g5 hv2.out)
        replace hp0_queries : Hid (PQueries (In w2.heap.size mp0) w5 (.slice ap0_queries np0_queries cp0_queries) x0.queries) := Lib.hid (OSl.gr fr_query hp0_queries.out g5)
        replace hp0_fields : Hid (PSpanss (In mp0 w3.heap.size) w5 (.slice ap0_fields np0_fields cp0_fields) x0.fields) := Lib.hid (OSl.gr (fr_of fr_span) hp0_fields.out g5)
        replace hp1 : Hid (PRows (In w3.heap.size w4.heap.size) w5 (.slice ap1 np1 cp1) x1) := Lib.hid (OSl.gr fr_row hp1.out g5)
        replace kb0_0 : w5.cell? ⟨w.heap.size, 0, none⟩ = some (u0_queries) := g5.cellv kb0_0
        replace kb0_1 : w5.cell? ⟨w.heap.size, 1, none⟩ = some (u0_fields) := g5.cellv kb0_1
        replace gw : Hid (Gr w w5) := Lib.hid (gw.out.trans g5)
        have hp2 : Hid (PInts (In w4.heap.size w5.heap.size) w5 (.slice ap2 np2 cp2) x2) := Lib.hid (r_hp2.wide (by simp) (by omega))
        clear r_hp2
        go_wp2_with fail
        refine (spec_WorkOf x0 _ _ _ x1 _ x2 _ (rd_pqueries hp0_queries.out) (rd_pspanss hp0_fields.out) (rd_prows hp1.out) (rd_pints hp2.out) HT0.out HT1.out).mono ?_
        rintro e w6 ⟨rfl, g6⟩
        have Z6 : Hid (w5.heap.size + 0 ≤ w6.heap.size) := Lib.hid (by have := g6.size; simpa using this)
        replace h0_queries : Hid (RQueries w6 u0_queries x0.queries) := Lib.hid (RSlice.mono keeps_query g6 h0_queries.out)
        replace h0_fields : Hid (RSpanss w6 u0_fields x0.fields) := Lib.hid (RSlice.mono (keeps_of keeps_span) g6 h0_fields.out)
        replace hv1 : Hid (RRows w6 (.slice a1 x1.length c1) x1) := Lib.hid (RSlice.mono keeps_row g6 hv1.out)
        replace hv2 : Hid (RInts w6 (.slice a2 x2.length c2) x2) := Lib.hid (RSlice.mono keeps_int g6 hv2.out)
        replace hp0_queries : Hid (PQueries (In w2.heap.size mp0) w6 (.slice ap0_queries np0_queries cp0_queries) x0.queries) := Lib.hid (OSl.gr fr_query hp0_queries.out g6)
        replace hp0_fields : Hid (PSpanss (In mp0 w3.heap.size) w6 (.slice ap0_fields np0_fields cp0_fields) x0.fields) := Lib.hid (OSl.gr (fr_of fr_span) hp0_fields.out g6)
        replace hp1 : Hid (PRows (In w3.heap.size w4.heap.size) w6 (.slice ap1 np1 cp1) x1) := Lib.hid (OSl.gr fr_row hp1.out g6)
        replace hp2 : Hid (PInts (In w4.heap.size w5.heap.size) w6 (.slice ap2 np2 cp2) x2) := Lib.hid (OSl.gr fr_int hp2.out g6)
        replace kb0_0 : w6.cell? ⟨w.heap.size, 0, none⟩ = some (u0_queries) := g6.cellv kb0_0
        replace kb0_1 : w6.cell? ⟨w.heap.size, 1, none⟩ = some (u0_fields) := g6.cellv kb0_1
        replace gw : Hid (Gr w w6) := Lib.hid (gw.out.trans g6)
        clear hp0_queries
        clear hp0_fields
        clear hp1
        clear hp2
        have gv : Hid (Gr w6 w6) := Lib.hid (Gr.refl _)
        have ZV : Hid (w.heap.size ≤ w6.heap.size) := Lib.hid gw.out.size
        go_wp2_with fail
        refine (laws_toIndex_own x0 u0_queries u0_fields _ h0_queries.out h0_fields.out HT0.out).mono ?_
        rintro e w7 ⟨vx0_queries, vx0_fields, rfl, g7, mx0, hmx0, hnx0, r_hx0_queries, r_hx0_fields⟩
        have Z7 : Hid (w6.heap.size + 0 ≤ w7.heap.size) := Lib.hid (by have := g7.size; simpa using this)
        replace h0_queries : Hid (RQueries w7 u0_queries x0.queries) := Lib.hid (RSlice.mono keeps_query g7 h0_queries.out)
        replace h0_fields : Hid (RSpanss w7 u0_fields x0.fields) := Lib.hid (RSlice.mono (keeps_of keeps_span) g7 h0_fields.out)
        replace hv1 : Hid (RRows w7 (.slice a1 x1.length c1) x1) := Lib.hid (RSlice.mono keeps_row g7 hv1.out)
        replace hv2 : Hid (RInts w7 (.slice a2 x2.length c2) x2) := Lib.hid (RSlice.mono keeps_int g7 hv2.out)
        replace kb0_0 : w7.cell? ⟨w.heap.size, 0, none⟩ = some (u0_queries) := g7.cellv kb0_0
        replace kb0_1 : w7.cell? ⟨w.heap.size, 1, none⟩ = some (u0_fields) := g7.cellv kb0_1
        replace gw : Hid (Gr w w7) := Lib.hid (gw.out.trans g7)
        replace gv : Hid (Gr w6 w7) := Lib.hid (gv.out.trans g7)
        obtain ⟨ax0_queries, nx0_queries, cx0_queries, rfl⟩ := r_hx0_queries.isSl
        have ZMx0_queries : Hid (w6.heap.size ≤ mx0) := Lib.hid (by have := hmx0; (try simp at this); omega)
        have hx0_queries : Hid (PQueries (In w6.heap.size mx0) w7 (.slice ax0_queries nx0_queries cx0_queries) x0.queries) := Lib.hid (r_hx0_queries.wide (by simp) (by omega))
        clear r_hx0_queries
        obtain ⟨ax0_fields, nx0_fields, cx0_fields, rfl⟩ := r_hx0_fields.isSl
        have ZMx0_fields : Hid (w6.heap.size ≤ mx0) := Lib.hid (by have := hmx0; (try simp at this); omega)
        have hx0_fields : Hid (PSpanss (In mx0 w7.heap.size) w7 (.slice ax0_fields nx0_fields cx0_fields) x0.fields) := Lib.hid (r_hx0_fields.wide (Nat.le_refl _) (by omega))
        clear r_hx0_fields
        have Lkb0_0 := ((Gr.refl w7).alloc (.cells #[.slice ax0_queries nx0_queries cx0_queries, .slice ax0_fields nx0_fields cx0_fields] 87)).cellv kb0_0
        have Lkb0_1 := ((Gr.refl w7).alloc (.cells #[.slice ax0_queries nx0_queries cx0_queries, .slice ax0_fields nx0_fields cx0_fields] 87)).cellv kb0_1
        go_wp2_with fail
        refine (laws_toRowS_own _ x1 _ (RSlice.mono keeps_row ((Gr.refl w7).alloc _) hv1.out) HT1.out).mono ?_
        rintro e w8 ⟨_, rfl, ⟨ax1, nx1, cx1, rfl⟩, g8, r_hx1⟩
        have gs8 : Gr w7 w8 := ((Gr.refl w7).alloc _).trans g8
        have Z8 : Hid (w7.heap.size + 1 ≤ w8.heap.size) := Lib.hid (by have := g8.size; simpa using this)
        replace h0_queries : Hid (RQueries w8 u0_queries x0.queries) := Lib.hid (RSlice.mono keeps_query gs8 h0_queries.out)
        replace h0_fields : Hid (RSpanss w8 u0_fields x0.fields) := Lib.hid (RSlice.mono (keeps_of keeps_span) gs8 h0_fields.out)
        replace hv1 : Hid (RRows w8 (.slice a1 x1.length c1) x1) := Lib.hid (RSlice.mono keeps_row gs8 hv1.out)
        replace hv2 : Hid (RInts w8 (.slice a2 x2.length c2) x2) := Lib.hid (RSlice.mono keeps_int gs8 hv2.out)
        replace hx0_queries : Hid (PQueries (In w6.heap.size mx0) w8 (.slice ax0_queries nx0_queries cx0_queries) x0.queries) := Lib.hid (OSl.gr fr_query hx0_queries.out gs8)
        replace hx0_fields : Hid (PSpanss (In mx0 w7.heap.size) w8 (.slice ax0_fields nx0_fields cx0_fields) x0.fields) := Lib.hid (OSl.gr (fr_of fr_span) hx0_fields.out gs8)
        replace kb0_0 : w8.cell? ⟨w.heap.size, 0, none⟩ = some (u0_queries) := gs8.cellv kb0_0
        replace kb0_1 : w8.cell? ⟨w.heap.size, 1, none⟩ = some (u0_fields) := gs8.cellv kb0_1
        replace gw : Hid (Gr w w8) := Lib.hid (gw.out.trans gs8)
        replace gv : Hid (Gr w6 w8) := Lib.hid (gv.out.trans gs8)
        have kx0_0 : w8.cell? ⟨w7.heap.size, 0, none⟩ = some (.slice ax0_queries nx0_queries cx0_queries) := g8.cellv (by simp [go_sem])
        have kx0_1 : w8.cell? ⟨w7.heap.size, 1, none⟩ = some (.slice ax0_fields nx0_fields cx0_fields) := g8.cellv (by simp [go_sem])
        have bkx0_0 : Hid (w7.heap.size < w8.heap.size) := Lib.hid (by have := Z8.out; omega)
        clear Lkb0_0 Lkb0_1
        have hx1 : Hid (PRows (In (w7.heap.size + 1) w8.heap.size) w8 (.slice ax1 nx1 cx1) x1) := Lib.hid (r_hx1.wide (by simp) (by omega))
        clear r_hx1
        go_wp2_with fail
        refine (laws_toIntS_own _ x2 _ hv2.out HT2.out).mono ?_
        rintro e w9 ⟨_, rfl, ⟨ax2, nx2, cx2, rfl⟩, g9, r_hx2⟩
        have Z9 : Hid (w8.heap.size + 0 ≤ w9.heap.size) := Lib.hid (by have := g9.size; simpa using this)
        replace h0_queries : Hid (RQueries w9 u0_queries x0.queries) := Lib.hid (RSlice.mono keeps_query g9 h0_queries.out)
        replace h0_fields : Hid (RSpanss w9 u0_fields x0.fields) := Lib.hid (RSlice.mono (keeps_of keeps_span) g9 h0_fields.out)
        replace hv1 : Hid (RRows w9 (.slice a1 x1.length c1) x1) := Lib.hid (RSlice.mono keeps_row g9 hv1.out)
        replace hv2 : Hid (RInts w9 (.slice a2 x2.length c2) x2) := Lib.hid (RSlice.mono keeps_int g9 hv2.out)
        replace hx0_queries : Hid (PQueries (In w6.heap.size mx0) w9 (.slice ax0_queries nx0_queries cx0_queries) x0.queries) := Lib.hid (OSl.gr fr_query hx0_queries.out g9)
        replace hx0_fields : Hid (PSpanss (In mx0 w7.heap.size) w9 (.slice ax0_fields nx0_fields cx0_fields) x0.fields) := Lib.hid (OSl.gr (fr_of fr_span) hx0_fields.out g9)
        replace hx1 : Hid (PRows (In (w7.heap.size + 1) w8.heap.size) w9 (.slice ax1 nx1 cx1) x1) := Lib.hid (OSl.gr fr_row hx1.out g9)
        replace kb0_0 : w9.cell? ⟨w.heap.size, 0, none⟩ = some (u0_queries) := g9.cellv kb0_0
        replace kb0_1 : w9.cell? ⟨w.heap.size, 1, none⟩ = some (u0_fields) := g9.cellv kb0_1
        replace kx0_0 : w9.cell? ⟨w7.heap.size, 0, none⟩ = some (.slice ax0_queries nx0_queries cx0_queries) := g9.cellv kx0_0
        replace kx0_1 : w9.cell? ⟨w7.heap.size, 1, none⟩ = some (.slice ax0_fields nx0_fields cx0_fields) := g9.cellv kx0_1
        replace gw : Hid (Gr w w9) := Lib.hid (gw.out.trans g9)
        replace gv : Hid (Gr w6 w9) := Lib.hid (gv.out.trans g9)
        have hx2 : Hid (PInts (In w8.heap.size w9.heap.size) w9 (.slice ax2 nx2 cx2) x2) := Lib.hid (r_hx2.wide (by simp) (by omega))
        clear r_hx2
        go_wp2_with fail
        refine (impl_WorkOf x0 _ _ _ x1 _ x2 _ (rd_pqueries hx0_queries.out) (rd_pspanss hx0_fields.out) (rd_prows hx1.out) (rd_pints hx2.out) HT0.out HT1.out).mono ?_
        rintro e w10 ⟨rfl, g10⟩
        have Z10 : Hid (w9.heap.size + 0 ≤ w10.heap.size) := Lib.hid (by have := g10.size; simpa using this)
        replace h0_queries : Hid (RQueries w10 u0_queries x0.queries) := Lib.hid (RSlice.mono keeps_query g10 h0_queries.out)
        replace h0_fields : Hid (RSpanss w10 u0_fields x0.fields) := Lib.hid (RSlice.mono (keeps_of keeps_span) g10 h0_fields.out)
        replace hv1 : Hid (RRows w10 (.slice a1 x1.length c1) x1) := Lib.hid (RSlice.mono keeps_row g10 hv1.out)
        replace hv2 : Hid (RInts w10 (.slice a2 x2.length c2) x2) := Lib.hid (RSlice.mono keeps_int g10 hv2.out)
        replace hx0_queries : Hid (PQueries (In w6.heap.size mx0) w10 (.slice ax0_queries nx0_queries cx0_queries) x0.queries) := Lib.hid (OSl.gr fr_query hx0_queries.out g10)
        replace hx0_fields : Hid (PSpanss (In mx0 w7.heap.size) w10 (.slice ax0_fields nx0_fields cx0_fields) x0.fields) := Lib.hid (OSl.gr (fr_of fr_span) hx0_fields.out g10)
        replace hx1 : Hid (PRows (In (w7.heap.size + 1) w8.heap.size) w10 (.slice ax1 nx1 cx1) x1) := Lib.hid (OSl.gr fr_row hx1.out g10)
        replace hx2 : Hid (PInts (In w8.heap.size w9.heap.size) w10 (.slice ax2 nx2 cx2) x2) := Lib.hid (OSl.gr fr_int hx2.out g10)
        replace kb0_0 : w10.cell? ⟨w.heap.size, 0, none⟩ = some (u0_queries) := g10.cellv kb0_0
        replace kb0_1 : w10.cell? ⟨w.heap.size, 1, none⟩ = some (u0_fields) := g10.cellv kb0_1
        replace kx0_0 : w10.cell? ⟨w7.heap.size, 0, none⟩ = some (.slice ax0_queries nx0_queries cx0_queries) := g10.cellv kx0_0
        replace kx0_1 : w10.cell? ⟨w7.heap.size, 1, none⟩ = some (.slice ax0_fields nx0_fields cx0_fields) := g10.cellv kx0_1
        replace gw : Hid (Gr w w10) := Lib.hid (gw.out.trans g10)
        replace gv : Hid (Gr w6 w10) := Lib.hid (gv.out.trans g10)
        have ei0 : (((workL x0 x1 x2) : Int) != (workL x0 x1 x2)) = false := by simp
        go_wp2
        go_region_held3 (fun w' => w'.cell? ⟨w.heap.size, 0, none⟩ = some (u0_queries) ∧ w'.cell? ⟨w.heap.size, 1, none⟩ = some (u0_fields) ∧ w'.cell? ⟨w7.heap.size, 0, none⟩ = some (.slice ax0_queries nx0_queries cx0_queries) ∧ w'.cell? ⟨w7.heap.size, 1, none⟩ = some (.slice ax0_fields nx0_fields cx0_fields) ∧ RQueries w' u0_queries x0.queries ∧ RSpanss w' u0_fields x0.fields ∧ RQueries w' (.slice ax0_queries nx0_queries cx0_queries) x0.queries ∧ RSpanss w' (.slice ax0_fields nx0_fields cx0_fields) x0.fields ∧ Gr w10 w')
          (first | exact ⟨kb0_0, kb0_1, kx0_0, kx0_1, h0_queries.out, h0_fields.out, (rd_pqueries hx0_queries.out), (rd_pspanss hx0_fields.out), Gr.refl _⟩ | exact ⟨kb0_0, kb0_1, kx0_0, kx0_1, h0_queries.out, h0_fields.out, (rd_pqueries hx0_queries.out), (rd_pspanss hx0_fields.out), (Gr.refl _).drew⟩ | (go_split_ands; exact ⟨Gr.cellv gb0 (by assumption), Gr.cellv gb0 (by assumption), Gr.cellv gb0 (by assumption), Gr.cellv gb0 (by assumption), (RSlice.mono keeps_query gb0 (by assumption)), (RSlice.mono (keeps_of keeps_span) gb0 (by assumption)), (RSlice.mono keeps_query gb0 (by assumption)), (RSlice.mono (keeps_of keeps_span) gb0 (by assumption)), Gr.trans (by assumption) gb0⟩) | (go_split_ands; exact ⟨Gr.cellv ga0 (by assumption), Gr.cellv ga0 (by assumption), Gr.cellv ga0 (by assumption), Gr.cellv ga0 (by assumption), (RSlice.mono keeps_query ga0 (by assumption)), (RSlice.mono (keeps_of keeps_span) ga0 (by assumption)), (RSlice.mono keeps_query ga0 (by assumption)), (RSlice.mono (keeps_of keeps_span) ga0 (by assumption)), Gr.trans (by assumption) ga0⟩))
          (first | (go_at_call 57; go_split_ands; refine (laws_toIndex_gr x0 u0_queries u0_fields _ (by assumption) (by assumption) HT0.out).mono ?_; rintro e wa0 ⟨vy0_queries, vy0_fields, rfl, ⟨ay0_queries, ny0_queries, cy0_queries, rfl⟩, ry0_queries, ⟨ay0_fields, ny0_fields, cy0_fields, rfl⟩, ry0_fields, ga0⟩) | (go_at_call 59; go_split_ands; refine (laws_eqIndex x0 _ _ _ _ _ (by assumption) (by assumption) (ry0_queries _ (Loc.refl _ _)) (ry0_fields _ (Loc.refl _ _))).mono ?_; rintro e wb0 ⟨rfl, gb0⟩))
        have gs11 : Gr w10 wb0 := ((Gr.refl w10).drew.trans ga0).trans gb0
        have Z11 : Hid (w10.heap.size ≤ wb0.heap.size) := Lib.hid gs11.size
        replace h0_queries : Hid (RQueries wb0 u0_queries x0.queries) := Lib.hid (RSlice.mono keeps_query gs11 h0_queries.out)
        replace h0_fields : Hid (RSpanss wb0 u0_fields x0.fields) := Lib.hid (RSlice.mono (keeps_of keeps_span) gs11 h0_fields.out)
        replace hv1 : Hid (RRows wb0 (.slice a1 x1.length c1) x1) := Lib.hid (RSlice.mono keeps_row gs11 hv1.out)
        replace hv2 : Hid (RInts wb0 (.slice a2 x2.length c2) x2) := Lib.hid (RSlice.mono keeps_int gs11 hv2.out)
        replace hx0_queries : Hid (PQueries (In w6.heap.size mx0) wb0 (.slice ax0_queries nx0_queries cx0_queries) x0.queries) := Lib.hid (OSl.gr fr_query hx0_queries.out gs11)
        replace hx0_fields : Hid (PSpanss (In mx0 w7.heap.size) wb0 (.slice ax0_fields nx0_fields cx0_fields) x0.fields) := Lib.hid (OSl.gr (fr_of fr_span) hx0_fields.out gs11)
        replace hx1 : Hid (PRows (In (w7.heap.size + 1) w8.heap.size) wb0 (.slice ax1 nx1 cx1) x1) := Lib.hid (OSl.gr fr_row hx1.out gs11)
        replace hx2 : Hid (PInts (In w8.heap.size w9.heap.size) wb0 (.slice ax2 nx2 cx2) x2) := Lib.hid (OSl.gr fr_int hx2.out gs11)
        replace kb0_0 : wb0.cell? ⟨w.heap.size, 0, none⟩ = some (u0_queries) := gs11.cellv kb0_0
        replace kb0_1 : wb0.cell? ⟨w.heap.size, 1, none⟩ = some (u0_fields) := gs11.cellv kb0_1
        replace kx0_0 : wb0.cell? ⟨w7.heap.size, 0, none⟩ = some (.slice ax0_queries nx0_queries cx0_queries) := gs11.cellv kx0_0
        replace kx0_1 : wb0.cell? ⟨w7.heap.size, 1, none⟩ = some (.slice ax0_fields nx0_fields cx0_fields) := gs11.cellv kx0_1
        replace gw : Hid (Gr w wb0) := Lib.hid (gw.out.trans gs11)
        replace gv : Hid (Gr w6 wb0) := Lib.hid (gv.out.trans gs11)
        go_wp2_with fail
        refine (laws_toRowS_own _ x1 _ hv1.out HT1.out).mono ?_
        rintro e w12 ⟨_, rfl, ⟨ay1, ny1, cy1, rfl⟩, g12, r_hy1⟩
        have Z12 : Hid (wb0.heap.size + 0 ≤ w12.heap.size) := Lib.hid (by have := g12.size; simpa using this)
        replace h0_queries : Hid (RQueries w12 u0_queries x0.queries) := Lib.hid (RSlice.mono keeps_query g12 h0_queries.out)
        replace h0_fields : Hid (RSpanss w12 u0_fields x0.fields) := Lib.hid (RSlice.mono (keeps_of keeps_span) g12 h0_fields.out)
        replace hv1 : Hid (RRows w12 (.slice a1 x1.length c1) x1) := Lib.hid (RSlice.mono keeps_row g12 hv1.out)
        replace hv2 : Hid (RInts w12 (.slice a2 x2.length c2) x2) := Lib.hid (RSlice.mono keeps_int g12 hv2.out)
        replace hx0_queries : Hid (PQueries (In w6.heap.size mx0) w12 (.slice ax0_queries nx0_queries cx0_queries) x0.queries) := Lib.hid (OSl.gr fr_query hx0_queries.out g12)
        replace hx0_fields : Hid (PSpanss (In mx0 w7.heap.size) w12 (.slice ax0_fields nx0_fields cx0_fields) x0.fields) := Lib.hid (OSl.gr (fr_of fr_span) hx0_fields.out g12)
        replace hx1 : Hid (PRows (In (w7.heap.size + 1) w8.heap.size) w12 (.slice ax1 nx1 cx1) x1) := Lib.hid (OSl.gr fr_row hx1.out g12)
        replace hx2 : Hid (PInts (In w8.heap.size w9.heap.size) w12 (.slice ax2 nx2 cx2) x2) := Lib.hid (OSl.gr fr_int hx2.out g12)
        replace kb0_0 : w12.cell? ⟨w.heap.size, 0, none⟩ = some (u0_queries) := g12.cellv kb0_0
        replace kb0_1 : w12.cell? ⟨w.heap.size, 1, none⟩ = some (u0_fields) := g12.cellv kb0_1
        replace kx0_0 : w12.cell? ⟨w7.heap.size, 0, none⟩ = some (.slice ax0_queries nx0_queries cx0_queries) := g12.cellv kx0_0
        replace kx0_1 : w12.cell? ⟨w7.heap.size, 1, none⟩ = some (.slice ax0_fields nx0_fields cx0_fields) := g12.cellv kx0_1
        replace gw : Hid (Gr w w12) := Lib.hid (gw.out.trans g12)
        replace gv : Hid (Gr w6 w12) := Lib.hid (gv.out.trans g12)
        have hy1 : Hid (PRows (In wb0.heap.size w12.heap.size) w12 (.slice ay1 ny1 cy1) x1) := Lib.hid (r_hy1.wide (by simp) (by omega))
        clear r_hy1
        go_wp2_with fail
        refine (laws_eqRowS_same _ _ x1 _ (rd_prows hx1.out) (rd_prows hy1.out)).mono ?_
        rintro e w13 ⟨rfl, g13⟩
        have Z13 : Hid (w12.heap.size + 0 ≤ w13.heap.size) := Lib.hid (by have := g13.size; simpa using this)
        replace h0_queries : Hid (RQueries w13 u0_queries x0.queries) := Lib.hid (RSlice.mono keeps_query g13 h0_queries.out)
        replace h0_fields : Hid (RSpanss w13 u0_fields x0.fields) := Lib.hid (RSlice.mono (keeps_of keeps_span) g13 h0_fields.out)
        replace hv1 : Hid (RRows w13 (.slice a1 x1.length c1) x1) := Lib.hid (RSlice.mono keeps_row g13 hv1.out)
        replace hv2 : Hid (RInts w13 (.slice a2 x2.length c2) x2) := Lib.hid (RSlice.mono keeps_int g13 hv2.out)
        replace hx0_queries : Hid (PQueries (In w6.heap.size mx0) w13 (.slice ax0_queries nx0_queries cx0_queries) x0.queries) := Lib.hid (OSl.gr fr_query hx0_queries.out g13)
        replace hx0_fields : Hid (PSpanss (In mx0 w7.heap.size) w13 (.slice ax0_fields nx0_fields cx0_fields) x0.fields) := Lib.hid (OSl.gr (fr_of fr_span) hx0_fields.out g13)
        replace hx1 : Hid (PRows (In (w7.heap.size + 1) w8.heap.size) w13 (.slice ax1 nx1 cx1) x1) := Lib.hid (OSl.gr fr_row hx1.out g13)
        replace hx2 : Hid (PInts (In w8.heap.size w9.heap.size) w13 (.slice ax2 nx2 cx2) x2) := Lib.hid (OSl.gr fr_int hx2.out g13)
        replace hy1 : Hid (PRows (In wb0.heap.size w12.heap.size) w13 (.slice ay1 ny1 cy1) x1) := Lib.hid (OSl.gr fr_row hy1.out g13)
        replace kb0_0 : w13.cell? ⟨w.heap.size, 0, none⟩ = some (u0_queries) := g13.cellv kb0_0
        replace kb0_1 : w13.cell? ⟨w.heap.size, 1, none⟩ = some (u0_fields) := g13.cellv kb0_1
        replace kx0_0 : w13.cell? ⟨w7.heap.size, 0, none⟩ = some (.slice ax0_queries nx0_queries cx0_queries) := g13.cellv kx0_0
        replace kx0_1 : w13.cell? ⟨w7.heap.size, 1, none⟩ = some (.slice ax0_fields nx0_fields cx0_fields) := g13.cellv kx0_1
        replace gw : Hid (Gr w w13) := Lib.hid (gw.out.trans g13)
        replace gv : Hid (Gr w6 w13) := Lib.hid (gv.out.trans g13)
        clear hy1
        go_wp2_with fail
        refine (laws_toIntS_own _ x2 _ hv2.out HT2.out).mono ?_
        rintro e w14 ⟨_, rfl, ⟨ay2, ny2, cy2, rfl⟩, g14, r_hy2⟩
        have Z14 : Hid (w13.heap.size + 0 ≤ w14.heap.size) := Lib.hid (by have := g14.size; simpa using this)
        replace h0_queries : Hid (RQueries w14 u0_queries x0.queries) := Lib.hid (RSlice.mono keeps_query g14 h0_queries.out)
        replace h0_fields : Hid (RSpanss w14 u0_fields x0.fields) := Lib.hid (RSlice.mono (keeps_of keeps_span) g14 h0_fields.out)
        replace hv1 : Hid (RRows w14 (.slice a1 x1.length c1) x1) := Lib.hid (RSlice.mono keeps_row g14 hv1.out)
        replace hv2 : Hid (RInts w14 (.slice a2 x2.length c2) x2) := Lib.hid (RSlice.mono keeps_int g14 hv2.out)
        replace hx0_queries : Hid (PQueries (In w6.heap.size mx0) w14 (.slice ax0_queries nx0_queries cx0_queries) x0.queries) := Lib.hid (OSl.gr fr_query hx0_queries.out g14)
        replace hx0_fields : Hid (PSpanss (In mx0 w7.heap.size) w14 (.slice ax0_fields nx0_fields cx0_fields) x0.fields) := Lib.hid (OSl.gr (fr_of fr_span) hx0_fields.out g14)
        replace hx1 : Hid (PRows (In (w7.heap.size + 1) w8.heap.size) w14 (.slice ax1 nx1 cx1) x1) := Lib.hid (OSl.gr fr_row hx1.out g14)
        replace hx2 : Hid (PInts (In w8.heap.size w9.heap.size) w14 (.slice ax2 nx2 cx2) x2) := Lib.hid (OSl.gr fr_int hx2.out g14)
        replace kb0_0 : w14.cell? ⟨w.heap.size, 0, none⟩ = some (u0_queries) := g14.cellv kb0_0
        replace kb0_1 : w14.cell? ⟨w.heap.size, 1, none⟩ = some (u0_fields) := g14.cellv kb0_1
        replace kx0_0 : w14.cell? ⟨w7.heap.size, 0, none⟩ = some (.slice ax0_queries nx0_queries cx0_queries) := g14.cellv kx0_0
        replace kx0_1 : w14.cell? ⟨w7.heap.size, 1, none⟩ = some (.slice ax0_fields nx0_fields cx0_fields) := g14.cellv kx0_1
        replace gw : Hid (Gr w w14) := Lib.hid (gw.out.trans g14)
        replace gv : Hid (Gr w6 w14) := Lib.hid (gv.out.trans g14)
        have hy2 : Hid (PInts (In w13.heap.size w14.heap.size) w14 (.slice ay2 ny2 cy2) x2) := Lib.hid (r_hy2.wide (by simp) (by omega))
        clear r_hy2
        go_wp2_with fail
        refine (laws_eqIntS_same _ _ x2 _ (rd_pints hx2.out) (rd_pints hy2.out)).mono ?_
        rintro e w15 ⟨rfl, g15⟩
        have Z15 : Hid (w14.heap.size + 0 ≤ w15.heap.size) := Lib.hid (by have := g15.size; simpa using this)
        replace h0_queries : Hid (RQueries w15 u0_queries x0.queries) := Lib.hid (RSlice.mono keeps_query g15 h0_queries.out)
        replace h0_fields : Hid (RSpanss w15 u0_fields x0.fields) := Lib.hid (RSlice.mono (keeps_of keeps_span) g15 h0_fields.out)
        replace hv1 : Hid (RRows w15 (.slice a1 x1.length c1) x1) := Lib.hid (RSlice.mono keeps_row g15 hv1.out)
        replace hv2 : Hid (RInts w15 (.slice a2 x2.length c2) x2) := Lib.hid (RSlice.mono keeps_int g15 hv2.out)
        replace hx0_queries : Hid (PQueries (In w6.heap.size mx0) w15 (.slice ax0_queries nx0_queries cx0_queries) x0.queries) := Lib.hid (OSl.gr fr_query hx0_queries.out g15)
        replace hx0_fields : Hid (PSpanss (In mx0 w7.heap.size) w15 (.slice ax0_fields nx0_fields cx0_fields) x0.fields) := Lib.hid (OSl.gr (fr_of fr_span) hx0_fields.out g15)
        replace hx1 : Hid (PRows (In (w7.heap.size + 1) w8.heap.size) w15 (.slice ax1 nx1 cx1) x1) := Lib.hid (OSl.gr fr_row hx1.out g15)
        replace hx2 : Hid (PInts (In w8.heap.size w9.heap.size) w15 (.slice ax2 nx2 cx2) x2) := Lib.hid (OSl.gr fr_int hx2.out g15)
        replace hy2 : Hid (PInts (In w13.heap.size w14.heap.size) w15 (.slice ay2 ny2 cy2) x2) := Lib.hid (OSl.gr fr_int hy2.out g15)
        replace kb0_0 : w15.cell? ⟨w.heap.size, 0, none⟩ = some (u0_queries) := g15.cellv kb0_0
        replace kb0_1 : w15.cell? ⟨w.heap.size, 1, none⟩ = some (u0_fields) := g15.cellv kb0_1
        replace kx0_0 : w15.cell? ⟨w7.heap.size, 0, none⟩ = some (.slice ax0_queries nx0_queries cx0_queries) := g15.cellv kx0_0
        replace kx0_1 : w15.cell? ⟨w7.heap.size, 1, none⟩ = some (.slice ax0_fields nx0_fields cx0_fields) := g15.cellv kx0_1
        replace gw : Hid (Gr w w15) := Lib.hid (gw.out.trans g15)
        replace gv : Hid (Gr w6 w15) := Lib.hid (gv.out.trans g15)
        clear hy2
        go_wp2_with fail
        go_ret
        exact ⟨rfl, gw.out⟩
      · have HZ0 := Lib.hid (szV_yes (t := (totIndex x0)) (left := (1048576 : Int)) (by omega))
        have HA0 := Lib.hid (show (0 : Int) ≤ (1048576 : Int) ∧ (1048576 : Int) ≤ 1048576 from by omega)
        have HB0 := Lib.hid (show (0 : Int) ≤ (1048576 : Int) - ((totIndex x0) : Int) ∧ (1048576 : Int) - ((totIndex x0) : Int) ≤ 1048576 from by omega)
        have HZ1 := Lib.hid (szV_no (t := (totL totRow x1)) (left := (1048576 - ((totIndex x0) : Int))) (by omega))
        have HA1 := Lib.hid (show (0 : Int) ≤ (1048576 - ((totIndex x0) : Int)) ∧ (1048576 - ((totIndex x0) : Int)) ≤ 1048576 from by omega)
        clear hs1 hs2
        go_enter Try.func11, Try.ntmps11
        have Bh0_queries := Lib.hid h0_queries
        replace h0_queries := Lib.hid h0_queries
        have Bh0_fields := Lib.hid h0_fields
        replace h0_fields := Lib.hid h0_fields
        have Bhv1 := Lib.hid hv1
        replace hv1 := Lib.hid hv1
        have Bhv2 := Lib.hid hv2
        replace hv2 := Lib.hid hv2
        go_wp2_with fail
        refine (laws_szIndex x0 u0_queries u0_fields _ _ (RSlice.mono keeps_query ((Gr.refl w).alloc _) h0_queries.out) (RSlice.mono (keeps_of keeps_span) ((Gr.refl w).alloc _) h0_fields.out) HA0.out.1 HA0.out.2).mono ?_
        rintro e w1 ⟨rfl, g1⟩
        have gs1 : Gr w w1 := ((Gr.refl w).alloc _).trans g1
        have Z1 : Hid (w.heap.size + 1 ≤ w1.heap.size) := Lib.hid (by have := g1.size; simpa using this)
        replace h0_queries : Hid (RQueries w1 u0_queries x0.queries) := Lib.hid (RSlice.mono keeps_query gs1 h0_queries.out)
        replace h0_fields : Hid (RSpanss w1 u0_fields x0.fields) := Lib.hid (RSlice.mono (keeps_of keeps_span) gs1 h0_fields.out)
        replace hv1 : Hid (RRows w1 (.slice a1 x1.length c1) x1) := Lib.hid (RSlice.mono keeps_row gs1 hv1.out)
        replace hv2 : Hid (RInts w1 (.slice a2 x2.length c2) x2) := Lib.hid (RSlice.mono keeps_int gs1 hv2.out)
        have gw : Hid (Gr w w1) := Lib.hid gs1
        have kb0_0 : w1.cell? ⟨w.heap.size, 0, none⟩ = some (u0_queries) := g1.cellv (by simp [go_sem])
        have kb0_1 : w1.cell? ⟨w.heap.size, 1, none⟩ = some (u0_fields) := g1.cellv (by simp [go_sem])
        have bkb0_0 : Hid (w.heap.size < w1.heap.size) := Lib.hid (by have := Z1.out; omega)
        rw [HZ0.out]
        have hB0 := HB0.out.1
        have hC0 := HB0.out.2
        go_wp2_with fail
        refine (laws_szRowS _ _ x1 _ hv1.out HA1.out.1 HA1.out.2).mono ?_
        rintro e w2 ⟨rfl, g2⟩
        have Z2 : Hid (w1.heap.size + 0 ≤ w2.heap.size) := Lib.hid (by have := g2.size; simpa using this)
        replace h0_queries : Hid (RQueries w2 u0_queries x0.queries) := Lib.hid (RSlice.mono keeps_query g2 h0_queries.out)
        replace h0_fields : Hid (RSpanss w2 u0_fields x0.fields) := Lib.hid (RSlice.mono (keeps_of keeps_span) g2 h0_fields.out)
        replace hv1 : Hid (RRows w2 (.slice a1 x1.length c1) x1) := Lib.hid (RSlice.mono keeps_row g2 hv1.out)
        replace hv2 : Hid (RInts w2 (.slice a2 x2.length c2) x2) := Lib.hid (RSlice.mono keeps_int g2 hv2.out)
        replace kb0_0 : w2.cell? ⟨w.heap.size, 0, none⟩ = some (u0_queries) := g2.cellv kb0_0
        replace kb0_1 : w2.cell? ⟨w.heap.size, 1, none⟩ = some (u0_fields) := g2.cellv kb0_1
        replace gw : Hid (Gr w w2) := Lib.hid (gw.out.trans g2)
        rw [HZ1.out]
        go_wp2_with fail
        go_ret
        exact ⟨rfl, gw.out⟩
    · have HZ0 := Lib.hid (szV_no (t := (totIndex x0)) (left := (1048576 : Int)) (by omega))
      have HA0 := Lib.hid (show (0 : Int) ≤ (1048576 : Int) ∧ (1048576 : Int) ≤ 1048576 from by omega)
      clear hs1
      go_enter Try.func11, Try.ntmps11
      have Bh0_queries := Lib.hid h0_queries
      replace h0_queries := Lib.hid h0_queries
      have Bh0_fields := Lib.hid h0_fields
      replace h0_fields := Lib.hid h0_fields
      have Bhv1 := Lib.hid hv1
      replace hv1 := Lib.hid hv1
      have Bhv2 := Lib.hid hv2
      replace hv2 := Lib.hid hv2
      go_wp2_with fail
      refine (laws_szIndex x0 u0_queries u0_fields _ _ (RSlice.mono keeps_query ((Gr.refl w).alloc _) h0_queries.out) (RSlice.mono (keeps_of keeps_span) ((Gr.refl w).alloc _) h0_fields.out) HA0.out.1 HA0.out.2).mono ?_
      rintro e w1 ⟨rfl, g1⟩
      have gs1 : Gr w w1 := ((Gr.refl w).alloc _).trans g1
      have Z1 : Hid (w.heap.size + 1 ≤ w1.heap.size) := Lib.hid (by have := g1.size; simpa using this)
      replace h0_queries : Hid (RQueries w1 u0_queries x0.queries) := Lib.hid (RSlice.mono keeps_query gs1 h0_queries.out)
      replace h0_fields : Hid (RSpanss w1 u0_fields x0.fields) := Lib.hid (RSlice.mono (keeps_of keeps_span) gs1 h0_fields.out)
      replace hv1 : Hid (RRows w1 (.slice a1 x1.length c1) x1) := Lib.hid (RSlice.mono keeps_row gs1 hv1.out)
      replace hv2 : Hid (RInts w1 (.slice a2 x2.length c2) x2) := Lib.hid (RSlice.mono keeps_int gs1 hv2.out)
      have gw : Hid (Gr w w1) := Lib.hid gs1
      have kb0_0 : w1.cell? ⟨w.heap.size, 0, none⟩ = some (u0_queries) := g1.cellv (by simp [go_sem])
      have kb0_1 : w1.cell? ⟨w.heap.size, 1, none⟩ = some (u0_fields) := g1.cellv (by simp [go_sem])
      have bkb0_0 : Hid (w.heap.size < w1.heap.size) := Lib.hid (by have := Z1.out; omega)
      rw [HZ0.out]
      go_wp2_with fail
      go_ret
      exact ⟨rfl, gw.out⟩
  · go_enter Try.func11, Try.ntmps11
    go_wp2_with fail
    go_ret
    exact ⟨rfl, ((Gr.refl _).alloc _)⟩

-- endgen
end Go.Proofs.Ytnnapjaggahjgaa
