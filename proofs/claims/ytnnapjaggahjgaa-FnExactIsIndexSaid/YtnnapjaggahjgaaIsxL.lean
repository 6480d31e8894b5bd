/- IsIndex: the law. -/
import Derived.Test.YtnnapjaggahjgaaIsx
import Derived.Test.YtnnapjaggahjgaaMkIndex
namespace Go.Proofs.Ytnnapjaggahjgaa
open Go.RowKit
-- mgen FnExactIsIndex IsIndex bool "(isIndexB x0)" - Index
set_option maxRecDepth 100000 in
set_option maxHeartbeats 1500000 in
theorem law_FnExactIsIndex (w : World) (x0 : DIndex) (u0_queries : Value) (u0_fields : Value) (h0_queries : RQueries w u0_queries x0.queries) (h0_fields : RSpanss w u0_fields x0.fields) : Calls Try.prog 9 #[.agg #[u0_queries, u0_fields]] w fun e w' => e = .returned (.bool true) ∧ Gr w w' := by
  by_cases hs0 : ((totIndex x0) : Int) ≤ (1048576 : Int)
  · have HZ0 := Lib.hid (szV_yes (t := (totIndex x0)) (left := (1048576 : Int)) (by omega))
    have HA0 := Lib.hid (show (0 : Int) ≤ (1048576 : Int) ∧ (1048576 : Int) ≤ 1048576 from by omega)
    have HB0 := Lib.hid (show (0 : Int) ≤ (1048576 : Int) - ((totIndex x0) : Int) ∧ (1048576 : Int) - ((totIndex x0) : Int) ≤ 1048576 from by omega)
    have HT0 := Lib.hid (show (totIndex x0) ≤ 4294967296 from by omega)
    have HQ0 : Hid ((totIndex x0) ≤ 1048576) := Lib.hid (by omega)
    clear hs0
    go_enter Try.func9, Try.ntmps9
    have Bh0_queries := Lib.hid h0_queries
    replace h0_queries := Lib.hid h0_queries
    have Bh0_fields := Lib.hid h0_fields
    replace h0_fields := Lib.hid h0_fields
    go_wp2_with fail
    refine (laws_szIndex x0 u0_queries u0_fields _ _ (RSlice.mono keeps_query ((Gr.refl w).alloc _) h0_queries.out) (RSlice.mono (keeps_of keeps_span) ((Gr.refl w).alloc _) h0_fields.out) HA0.out.1 HA0.out.2).mono ?_
    rintro e w1 ⟨rfl, g1⟩
    have gs1 : Gr w w1 := ((Gr.refl w).alloc _).trans g1
    have Z1 : Hid (w.heap.size + 1 ≤ w1.heap.size) := Lib.hid (by have := g1.size; simpa using this)
    replace h0_queries : Hid (RQueries w1 u0_queries x0.queries) := Lib.hid (RSlice.mono keeps_query gs1 h0_queries.out)
    replace h0_fields : Hid (RSpanss w1 u0_fields x0.fields) := Lib.hid (RSlice.mono (keeps_of keeps_span) gs1 h0_fields.out)
    have gw : Hid (Gr w w1) := Lib.hid gs1
    have kb0_0 : w1.cell? ⟨w.heap.size, 0, none⟩ = some (u0_queries) := g1.cellv (by simp [go_sem])
    have kb0_1 : w1.cell? ⟨w.heap.size, 1, none⟩ = some (u0_fields) := g1.cellv (by simp [go_sem])
    have bkb0_0 : Hid (w.heap.size < w1.heap.size) := Lib.hid (by have := Z1.out; omega)
    rw [HZ0.out]
    have hB0 := HB0.out.1
    have hC0 := HB0.out.2
    go_wp2_with fail
    refine (laws_toIndex_own x0 u0_queries u0_fields _ h0_queries.out h0_fields.out HT0.out).mono ?_
    rintro e w2 ⟨vp0_queries, vp0_fields, rfl, g2, mp0, hmp0, hnp0, r_hp0_queries, r_hp0_fields⟩
    have Z2 : Hid (w1.heap.size + 0 ≤ w2.heap.size) := Lib.hid (by have := g2.size; simpa using this)
    replace h0_queries : Hid (RQueries w2 u0_queries x0.queries) := Lib.hid (RSlice.mono keeps_query g2 h0_queries.out)
    replace h0_fields : Hid (RSpanss w2 u0_fields x0.fields) := Lib.hid (RSlice.mono (keeps_of keeps_span) g2 h0_fields.out)
    replace kb0_0 : w2.cell? ⟨w.heap.size, 0, none⟩ = some (u0_queries) := g2.cellv kb0_0
    replace kb0_1 : w2.cell? ⟨w.heap.size, 1, none⟩ = some (u0_fields) := g2.cellv kb0_1
    replace gw : Hid (Gr w w2) := Lib.hid (gw.out.trans g2)
    obtain ⟨ap0_queries, np0_queries, cp0_queries, rfl⟩ := r_hp0_queries.isSl
    have ZMp0_queries : Hid (w1.heap.size ≤ mp0) := Lib.hid (by have := hmp0; (try simp at this); omega)
    have hp0_queries : Hid (PQueries (In w1.heap.size mp0) w2 (.slice ap0_queries np0_queries cp0_queries) x0.queries) := Lib.hid (r_hp0_queries.wide (by simp) (by omega))
    clear r_hp0_queries
    obtain ⟨ap0_fields, np0_fields, cp0_fields, rfl⟩ := r_hp0_fields.isSl
    have ZMp0_fields : Hid (w1.heap.size ≤ mp0) := Lib.hid (by have := hmp0; (try simp at this); omega)
    have hp0_fields : Hid (PSpanss (In mp0 w2.heap.size) w2 (.slice ap0_fields np0_fields cp0_fields) x0.fields) := Lib.hid (r_hp0_fields.wide (Nat.le_refl _) (by omega))
    clear r_hp0_fields
    go_wp2_with fail
    refine (spec_IsIndex x0 _ _ _ (rd_pqueries hp0_queries.out) (rd_pspanss hp0_fields.out)).mono ?_
    rintro e w3 ⟨rfl, g3⟩
    have Z3 : Hid (w2.heap.size + 0 ≤ w3.heap.size) := Lib.hid (by have := g3.size; simpa using this)
    replace h0_queries : Hid (RQueries w3 u0_queries x0.queries) := Lib.hid (RSlice.mono keeps_query g3 h0_queries.out)
    replace h0_fields : Hid (RSpanss w3 u0_fields x0.fields) := Lib.hid (RSlice.mono (keeps_of keeps_span) g3 h0_fields.out)
    replace hp0_queries : Hid (PQueries (In w1.heap.size mp0) w3 (.slice ap0_queries np0_queries cp0_queries) x0.queries) := Lib.hid (OSl.gr fr_query hp0_queries.out g3)
    replace hp0_fields : Hid (PSpanss (In mp0 w2.heap.size) w3 (.slice ap0_fields np0_fields cp0_fields) x0.fields) := Lib.hid (OSl.gr (fr_of fr_span) hp0_fields.out g3)
    replace kb0_0 : w3.cell? ⟨w.heap.size, 0, none⟩ = some (u0_queries) := g3.cellv kb0_0
    replace kb0_1 : w3.cell? ⟨w.heap.size, 1, none⟩ = some (u0_fields) := g3.cellv kb0_1
    replace gw : Hid (Gr w w3) := Lib.hid (gw.out.trans g3)
    clear hp0_queries
    clear hp0_fields
    have gv : Hid (Gr w3 w3) := Lib.hid (Gr.refl _)
    have ZV : Hid (w.heap.size ≤ w3.heap.size) := Lib.hid gw.out.size
    go_wp2_with fail
    refine (laws_toIndex_own x0 u0_queries u0_fields _ h0_queries.out h0_fields.out HT0.out).mono ?_
    rintro e w4 ⟨vx0_queries, vx0_fields, rfl, g4, mx0, hmx0, hnx0, r_hx0_queries, r_hx0_fields⟩
    have Z4 : Hid (w3.heap.size + 0 ≤ w4.heap.size) := Lib.hid (by have := g4.size; simpa using this)
    replace h0_queries : Hid (RQueries w4 u0_queries x0.queries) := Lib.hid (RSlice.mono keeps_query g4 h0_queries.out)
    replace h0_fields : Hid (RSpanss w4 u0_fields x0.fields) := Lib.hid (RSlice.mono (keeps_of keeps_span) g4 h0_fields.out)
    replace kb0_0 : w4.cell? ⟨w.heap.size, 0, none⟩ = some (u0_queries) := g4.cellv kb0_0
    replace kb0_1 : w4.cell? ⟨w.heap.size, 1, none⟩ = some (u0_fields) := g4.cellv kb0_1
    replace gw : Hid (Gr w w4) := Lib.hid (gw.out.trans g4)
    replace gv : Hid (Gr w3 w4) := Lib.hid (gv.out.trans g4)
    obtain ⟨ax0_queries, nx0_queries, cx0_queries, rfl⟩ := r_hx0_queries.isSl
    have ZMx0_queries : Hid (w3.heap.size ≤ mx0) := Lib.hid (by have := hmx0; (try simp at this); omega)
    have hx0_queries : Hid (PQueries (In w3.heap.size mx0) w4 (.slice ax0_queries nx0_queries cx0_queries) x0.queries) := Lib.hid (r_hx0_queries.wide (by simp) (by omega))
    clear r_hx0_queries
    obtain ⟨ax0_fields, nx0_fields, cx0_fields, rfl⟩ := r_hx0_fields.isSl
    have ZMx0_fields : Hid (w3.heap.size ≤ mx0) := Lib.hid (by have := hmx0; (try simp at this); omega)
    have hx0_fields : Hid (PSpanss (In mx0 w4.heap.size) w4 (.slice ax0_fields nx0_fields cx0_fields) x0.fields) := Lib.hid (r_hx0_fields.wide (Nat.le_refl _) (by omega))
    clear r_hx0_fields
    have Lkb0_0 := ((Gr.refl w4).alloc (.cells #[.slice ax0_queries nx0_queries cx0_queries, .slice ax0_fields nx0_fields cx0_fields] 87)).cellv kb0_0
    have Lkb0_1 := ((Gr.refl w4).alloc (.cells #[.slice ax0_queries nx0_queries cx0_queries, .slice ax0_fields nx0_fields cx0_fields] 87)).cellv kb0_1
    go_wp2_with fail
    refine (impl_IsIndex x0 _ _ _ (RSlice.mono keeps_query ((Gr.refl w4).alloc _) (rd_pqueries hx0_queries.out)) (RSlice.mono (keeps_of keeps_span) ((Gr.refl w4).alloc _) (rd_pspanss hx0_fields.out))).mono ?_
    rintro e w5 ⟨rfl, g5⟩
    have gs5 : Gr w4 w5 := ((Gr.refl w4).alloc _).trans g5
    have Z5 : Hid (w4.heap.size + 1 ≤ w5.heap.size) := Lib.hid (by have := g5.size; simpa using this)
    replace h0_queries : Hid (RQueries w5 u0_queries x0.queries) := Lib.hid (RSlice.mono keeps_query gs5 h0_queries.out)
    replace h0_fields : Hid (RSpanss w5 u0_fields x0.fields) := Lib.hid (RSlice.mono (keeps_of keeps_span) gs5 h0_fields.out)
    replace hx0_queries : Hid (PQueries (In w3.heap.size mx0) w5 (.slice ax0_queries nx0_queries cx0_queries) x0.queries) := Lib.hid (OSl.gr fr_query hx0_queries.out gs5)
    replace hx0_fields : Hid (PSpanss (In mx0 w4.heap.size) w5 (.slice ax0_fields nx0_fields cx0_fields) x0.fields) := Lib.hid (OSl.gr (fr_of fr_span) hx0_fields.out gs5)
    replace kb0_0 : w5.cell? ⟨w.heap.size, 0, none⟩ = some (u0_queries) := gs5.cellv kb0_0
    replace kb0_1 : w5.cell? ⟨w.heap.size, 1, none⟩ = some (u0_fields) := gs5.cellv kb0_1
    replace gw : Hid (Gr w w5) := Lib.hid (gw.out.trans gs5)
    replace gv : Hid (Gr w3 w5) := Lib.hid (gv.out.trans gs5)
    have kx0_0 : w5.cell? ⟨w4.heap.size, 0, none⟩ = some (.slice ax0_queries nx0_queries cx0_queries) := g5.cellv (by simp [go_sem])
    have kx0_1 : w5.cell? ⟨w4.heap.size, 1, none⟩ = some (.slice ax0_fields nx0_fields cx0_fields) := g5.cellv (by simp [go_sem])
    have bkx0_0 : Hid (w4.heap.size < w5.heap.size) := Lib.hid (by have := Z5.out; omega)
    clear Lkb0_0 Lkb0_1
    have ei0 : (((isIndexB x0) : Bool) != (isIndexB x0)) = false := by simp
    go_wp2
    go_region_held3 (fun w' => w'.cell? ⟨w.heap.size, 0, none⟩ = some (u0_queries) ∧ w'.cell? ⟨w.heap.size, 1, none⟩ = some (u0_fields) ∧ w'.cell? ⟨w4.heap.size, 0, none⟩ = some (.slice ax0_queries nx0_queries cx0_queries) ∧ w'.cell? ⟨w4.heap.size, 1, none⟩ = some (.slice ax0_fields nx0_fields cx0_fields) ∧ RQueries w' u0_queries x0.queries ∧ RSpanss w' u0_fields x0.fields ∧ RQueries w' (.slice ax0_queries nx0_queries cx0_queries) x0.queries ∧ RSpanss w' (.slice ax0_fields nx0_fields cx0_fields) x0.fields ∧ Gr w5 w')
      (first | exact ⟨kb0_0, kb0_1, kx0_0, kx0_1, h0_queries.out, h0_fields.out, (rd_pqueries hx0_queries.out), (rd_pspanss hx0_fields.out), Gr.refl _⟩ | exact ⟨kb0_0, kb0_1, kx0_0, kx0_1, h0_queries.out, h0_fields.out, (rd_pqueries hx0_queries.out), (rd_pspanss hx0_fields.out), (Gr.refl _).drew⟩ | (go_split_ands; exact ⟨Gr.cellv gb0 (by assumption), Gr.cellv gb0 (by assumption), Gr.cellv gb0 (by assumption), Gr.cellv gb0 (by assumption), (RSlice.mono keeps_query gb0 (by assumption)), (RSlice.mono (keeps_of keeps_span) gb0 (by assumption)), (RSlice.mono keeps_query gb0 (by assumption)), (RSlice.mono (keeps_of keeps_span) gb0 (by assumption)), Gr.trans (by assumption) gb0⟩) | (go_split_ands; exact ⟨Gr.cellv ga0 (by assumption), Gr.cellv ga0 (by assumption), Gr.cellv ga0 (by assumption), Gr.cellv ga0 (by assumption), (RSlice.mono keeps_query ga0 (by assumption)), (RSlice.mono (keeps_of keeps_span) ga0 (by assumption)), (RSlice.mono keeps_query ga0 (by assumption)), (RSlice.mono (keeps_of keeps_span) ga0 (by assumption)), Gr.trans (by assumption) ga0⟩))
      (first | (go_at_call 57; go_split_ands; refine (laws_toIndex_gr x0 u0_queries u0_fields _ (by assumption) (by assumption) HT0.out).mono ?_; rintro e wa0 ⟨vy0_queries, vy0_fields, rfl, ⟨ay0_queries, ny0_queries, cy0_queries, rfl⟩, ry0_queries, ⟨ay0_fields, ny0_fields, cy0_fields, rfl⟩, ry0_fields, ga0⟩) | (go_at_call 59; go_split_ands; refine (laws_eqIndex x0 _ _ _ _ _ (by assumption) (by assumption) (ry0_queries _ (Loc.refl _ _)) (ry0_fields _ (Loc.refl _ _))).mono ?_; rintro e wb0 ⟨rfl, gb0⟩))
    have gs6 : Gr w5 wb0 := ((Gr.refl w5).drew.trans ga0).trans gb0
    have Z6 : Hid (w5.heap.size ≤ wb0.heap.size) := Lib.hid gs6.size
    replace h0_queries : Hid (RQueries wb0 u0_queries x0.queries) := Lib.hid (RSlice.mono keeps_query gs6 h0_queries.out)
    replace h0_fields : Hid (RSpanss wb0 u0_fields x0.fields) := Lib.hid (RSlice.mono (keeps_of keeps_span) gs6 h0_fields.out)
    replace hx0_queries : Hid (PQueries (In w3.heap.size mx0) wb0 (.slice ax0_queries nx0_queries cx0_queries) x0.queries) := Lib.hid (OSl.gr fr_query hx0_queries.out gs6)
    replace hx0_fields : Hid (PSpanss (In mx0 w4.heap.size) wb0 (.slice ax0_fields nx0_fields cx0_fields) x0.fields) := Lib.hid (OSl.gr (fr_of fr_span) hx0_fields.out gs6)
    replace kb0_0 : wb0.cell? ⟨w.heap.size, 0, none⟩ = some (u0_queries) := gs6.cellv kb0_0
    replace kb0_1 : wb0.cell? ⟨w.heap.size, 1, none⟩ = some (u0_fields) := gs6.cellv kb0_1
    replace kx0_0 : wb0.cell? ⟨w4.heap.size, 0, none⟩ = some (.slice ax0_queries nx0_queries cx0_queries) := gs6.cellv kx0_0
    replace kx0_1 : wb0.cell? ⟨w4.heap.size, 1, none⟩ = some (.slice ax0_fields nx0_fields cx0_fields) := gs6.cellv kx0_1
    replace gw : Hid (Gr w wb0) := Lib.hid (gw.out.trans gs6)
    replace gv : Hid (Gr w3 wb0) := Lib.hid (gv.out.trans gs6)
    go_wp2_with fail
    go_ret
    exact ⟨rfl, gw.out⟩
  · have HZ0 := Lib.hid (szV_no (t := (totIndex x0)) (left := (1048576 : Int)) (by omega))
    have HA0 := Lib.hid (show (0 : Int) ≤ (1048576 : Int) ∧ (1048576 : Int) ≤ 1048576 from by omega)
    clear hs0
    go_enter Try.func9, Try.ntmps9
    have Bh0_queries := Lib.hid h0_queries
    replace h0_queries := Lib.hid h0_queries
    have Bh0_fields := Lib.hid h0_fields
    replace h0_fields := Lib.hid h0_fields
    go_wp2_with fail
    refine (laws_szIndex x0 u0_queries u0_fields _ _ (RSlice.mono keeps_query ((Gr.refl w).alloc _) h0_queries.out) (RSlice.mono (keeps_of keeps_span) ((Gr.refl w).alloc _) h0_fields.out) HA0.out.1 HA0.out.2).mono ?_
    rintro e w1 ⟨rfl, g1⟩
    have gs1 : Gr w w1 := ((Gr.refl w).alloc _).trans g1
    have Z1 : Hid (w.heap.size + 1 ≤ w1.heap.size) := Lib.hid (by have := g1.size; simpa using this)
    replace h0_queries : Hid (RQueries w1 u0_queries x0.queries) := Lib.hid (RSlice.mono keeps_query gs1 h0_queries.out)
    replace h0_fields : Hid (RSpanss w1 u0_fields x0.fields) := Lib.hid (RSlice.mono (keeps_of keeps_span) gs1 h0_fields.out)
    have gw : Hid (Gr w w1) := Lib.hid gs1
    have kb0_0 : w1.cell? ⟨w.heap.size, 0, none⟩ = some (u0_queries) := g1.cellv (by simp [go_sem])
    have kb0_1 : w1.cell? ⟨w.heap.size, 1, none⟩ = some (u0_fields) := g1.cellv (by simp [go_sem])
    have bkb0_0 : Hid (w.heap.size < w1.heap.size) := Lib.hid (by have := Z1.out; omega)
    rw [HZ0.out]
    go_wp2_with fail
    go_ret
    exact ⟨rfl, gw.out⟩

-- endgen
end Go.Proofs.Ytnnapjaggahjgaa
