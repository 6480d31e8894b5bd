/- FormatQuery: the law. -/
import Derived.Test.YtjeffagejbdjkaaDoorQryI
import Derived.Test.YtjeffagejbdjkaaDoorMkQuery
namespace Go.Proofs.YtjeffagejbdjkaaDoor
open Go.RowKit
-- mgen FnExactFormatQuery FormatQuery+HQ0+HI0!tens!i64 str "⟨(queryText x0).toArray⟩" - Query
set_option maxRecDepth 100000 in
set_option maxHeartbeats 1500000 in
theorem law_FnExactFormatQuery (w : World) (hT : Tens Tryd.prog w) (x0 : DQuery) (u0_conds : Value) (u0_out : Value) (_ : I64 x0.id) (_ : I64 x0.tenant) (h0_conds : RConds w u0_conds x0.conds) (h0_out : RInts w u0_out x0.out) : Calls Tryd.prog 7 #[.agg #[.int .i64 x0.id, .int .i64 x0.tenant, u0_conds, u0_out]] w fun e w' => e = .returned (.bool true) ∧ Gr w w' := by
  have HI0 : Hid (I64 x0.id ∧ I64 x0.tenant) := Lib.hid ⟨by assumption, by assumption⟩
  have HTens := Lib.hid hT
  clear hT
  by_cases hs0 : ((totQuery x0) : Int) ≤ (1048576 : Int)
  · have HZ0 := Lib.hid (szV_yes (t := (totQuery x0)) (left := (1048576 : Int)) (by omega))
    have HA0 := Lib.hid (show (0 : Int) ≤ (1048576 : Int) ∧ (1048576 : Int) ≤ 1048576 from by omega)
    have HB0 := Lib.hid (show (0 : Int) ≤ (1048576 : Int) - ((totQuery x0) : Int) ∧ (1048576 : Int) - ((totQuery x0) : Int) ≤ 1048576 from by omega)
    have HT0 := Lib.hid (show (totQuery x0) ≤ 4294967296 from by omega)
    have HQ0 : Hid ((totQuery x0) ≤ 1048576) := Lib.hid (by omega)
    clear hs0
    go_enter Tryd.func7, Tryd.ntmps7
    have Bh0_conds := Lib.hid h0_conds
    replace h0_conds := Lib.hid h0_conds
    have Bh0_out := Lib.hid h0_out
    replace h0_out := Lib.hid h0_out
    go_wp2_with fail
    refine (laws_szQuery x0 u0_conds u0_out _ _ (RSlice.mono keeps_cond ((Gr.refl w).alloc _) h0_conds.out) (RSlice.mono keeps_int ((Gr.refl w).alloc _) h0_out.out) HA0.out.1 HA0.out.2).mono ?_
    rintro e w1 ⟨rfl, g1⟩
    have gs1 : Gr w w1 := ((Gr.refl w).alloc _).trans g1
    have Z1 : Hid (w.heap.size + 1 ≤ w1.heap.size) := Lib.hid (by have := g1.size; simpa using this)
    replace h0_conds : Hid (RConds w1 u0_conds x0.conds) := Lib.hid (RSlice.mono keeps_cond gs1 h0_conds.out)
    replace h0_out : Hid (RInts w1 u0_out x0.out) := Lib.hid (RSlice.mono keeps_int gs1 h0_out.out)
    have gw : Hid (Gr w w1) := Lib.hid gs1
    have kb0_0 : w1.cell? ⟨w.heap.size, 0, none⟩ = some (.int .i64 x0.id) := g1.cellv (by simp [go_sem])
    have kb0_1 : w1.cell? ⟨w.heap.size, 1, none⟩ = some (.int .i64 x0.tenant) := g1.cellv (by simp [go_sem])
    have kb0_2 : w1.cell? ⟨w.heap.size, 2, none⟩ = some (u0_conds) := g1.cellv (by simp [go_sem])
    have kb0_3 : w1.cell? ⟨w.heap.size, 3, none⟩ = some (u0_out) := g1.cellv (by simp [go_sem])
    have bkb0_0 : Hid (w.heap.size < w1.heap.size) := Lib.hid (by have := Z1.out; omega)
    rw [HZ0.out]
    have hB0 := HB0.out.1
    have hC0 := HB0.out.2
    go_wp2_with fail
    refine (laws_toQuery_own x0 u0_conds u0_out _ h0_conds.out h0_out.out HT0.out).mono ?_
    rintro e w2 ⟨vp0_conds, vp0_out, rfl, g2, mp0, hmp0, hnp0, r_hp0_conds, r_hp0_out⟩
    have Z2 : Hid (w1.heap.size + 0 ≤ w2.heap.size) := Lib.hid (by have := g2.size; simpa using this)
    replace h0_conds : Hid (RConds w2 u0_conds x0.conds) := Lib.hid (RSlice.mono keeps_cond g2 h0_conds.out)
    replace h0_out : Hid (RInts w2 u0_out x0.out) := Lib.hid (RSlice.mono keeps_int g2 h0_out.out)
    replace kb0_0 : w2.cell? ⟨w.heap.size, 0, none⟩ = some (.int .i64 x0.id) := g2.cellv kb0_0
    replace kb0_1 : w2.cell? ⟨w.heap.size, 1, none⟩ = some (.int .i64 x0.tenant) := g2.cellv kb0_1
    replace kb0_2 : w2.cell? ⟨w.heap.size, 2, none⟩ = some (u0_conds) := g2.cellv kb0_2
    replace kb0_3 : w2.cell? ⟨w.heap.size, 3, none⟩ = some (u0_out) := g2.cellv kb0_3
    replace gw : Hid (Gr w w2) := Lib.hid (gw.out.trans g2)
    obtain ⟨ap0_conds, np0_conds, cp0_conds, rfl⟩ := r_hp0_conds.isSl
    have ZMp0_conds : Hid (w1.heap.size ≤ mp0) := Lib.hid (by have := hmp0; (try simp at this); omega)
    have hp0_conds : Hid (PConds (In w1.heap.size mp0) w2 (.slice ap0_conds np0_conds cp0_conds) x0.conds) := Lib.hid (r_hp0_conds.wide (by simp) (by omega))
    clear r_hp0_conds
    obtain ⟨ap0_out, np0_out, cp0_out, rfl⟩ := r_hp0_out.isSl
    have ZMp0_out : Hid (w1.heap.size ≤ mp0) := Lib.hid (by have := hmp0; (try simp at this); omega)
    have hp0_out : Hid (PInts (In mp0 w2.heap.size) w2 (.slice ap0_out np0_out cp0_out) x0.out) := Lib.hid (r_hp0_out.wide (Nat.le_refl _) (by omega))
    clear r_hp0_out
    go_wp2_with fail
    refine (spec_FormatQuery x0 _ _ _ (rd_pconds hp0_conds.out) (rd_pints hp0_out.out) HQ0.out HI0.out).mono ?_
    rintro e w3 ⟨rfl, g3⟩
    have Z3 : Hid (w2.heap.size + 0 ≤ w3.heap.size) := Lib.hid (by have := g3.size; simpa using this)
    replace h0_conds : Hid (RConds w3 u0_conds x0.conds) := Lib.hid (RSlice.mono keeps_cond g3 h0_conds.out)
    replace h0_out : Hid (RInts w3 u0_out x0.out) := Lib.hid (RSlice.mono keeps_int g3 h0_out.out)
    replace hp0_conds : Hid (PConds (In w1.heap.size mp0) w3 (.slice ap0_conds np0_conds cp0_conds) x0.conds) := Lib.hid (OSl.gr fr_cond hp0_conds.out g3)
    replace hp0_out : Hid (PInts (In mp0 w2.heap.size) w3 (.slice ap0_out np0_out cp0_out) x0.out) := Lib.hid (OSl.gr fr_int hp0_out.out g3)
    replace kb0_0 : w3.cell? ⟨w.heap.size, 0, none⟩ = some (.int .i64 x0.id) := g3.cellv kb0_0
    replace kb0_1 : w3.cell? ⟨w.heap.size, 1, none⟩ = some (.int .i64 x0.tenant) := g3.cellv kb0_1
    replace kb0_2 : w3.cell? ⟨w.heap.size, 2, none⟩ = some (u0_conds) := g3.cellv kb0_2
    replace kb0_3 : w3.cell? ⟨w.heap.size, 3, none⟩ = some (u0_out) := g3.cellv kb0_3
    replace gw : Hid (Gr w w3) := Lib.hid (gw.out.trans g3)
    clear hp0_conds
    clear hp0_out
    have gv : Hid (Gr w3 w3) := Lib.hid (Gr.refl _)
    have ZV : Hid (w.heap.size ≤ w3.heap.size) := Lib.hid gw.out.size
    go_wp2_with fail
    refine (laws_toQuery_own x0 u0_conds u0_out _ h0_conds.out h0_out.out HT0.out).mono ?_
    rintro e w4 ⟨vx0_conds, vx0_out, rfl, g4, mx0, hmx0, hnx0, r_hx0_conds, r_hx0_out⟩
    have Z4 : Hid (w3.heap.size + 0 ≤ w4.heap.size) := Lib.hid (by have := g4.size; simpa using this)
    replace h0_conds : Hid (RConds w4 u0_conds x0.conds) := Lib.hid (RSlice.mono keeps_cond g4 h0_conds.out)
    replace h0_out : Hid (RInts w4 u0_out x0.out) := Lib.hid (RSlice.mono keeps_int g4 h0_out.out)
    replace kb0_0 : w4.cell? ⟨w.heap.size, 0, none⟩ = some (.int .i64 x0.id) := g4.cellv kb0_0
    replace kb0_1 : w4.cell? ⟨w.heap.size, 1, none⟩ = some (.int .i64 x0.tenant) := g4.cellv kb0_1
    replace kb0_2 : w4.cell? ⟨w.heap.size, 2, none⟩ = some (u0_conds) := g4.cellv kb0_2
    replace kb0_3 : w4.cell? ⟨w.heap.size, 3, none⟩ = some (u0_out) := g4.cellv kb0_3
    replace gw : Hid (Gr w w4) := Lib.hid (gw.out.trans g4)
    replace gv : Hid (Gr w3 w4) := Lib.hid (gv.out.trans g4)
    obtain ⟨ax0_conds, nx0_conds, cx0_conds, rfl⟩ := r_hx0_conds.isSl
    have ZMx0_conds : Hid (w3.heap.size ≤ mx0) := Lib.hid (by have := hmx0; (try simp at this); omega)
    have hx0_conds : Hid (PConds (In w3.heap.size mx0) w4 (.slice ax0_conds nx0_conds cx0_conds) x0.conds) := Lib.hid (r_hx0_conds.wide (by simp) (by omega))
    clear r_hx0_conds
    obtain ⟨ax0_out, nx0_out, cx0_out, rfl⟩ := r_hx0_out.isSl
    have ZMx0_out : Hid (w3.heap.size ≤ mx0) := Lib.hid (by have := hmx0; (try simp at this); omega)
    have hx0_out : Hid (PInts (In mx0 w4.heap.size) w4 (.slice ax0_out nx0_out cx0_out) x0.out) := Lib.hid (r_hx0_out.wide (Nat.le_refl _) (by omega))
    clear r_hx0_out
    have Lkb0_0 := ((Gr.refl w4).alloc (.cells #[.int .i64 x0.id, .int .i64 x0.tenant, .slice ax0_conds nx0_conds cx0_conds, .slice ax0_out nx0_out cx0_out] 51)).cellv kb0_0
    have Lkb0_1 := ((Gr.refl w4).alloc (.cells #[.int .i64 x0.id, .int .i64 x0.tenant, .slice ax0_conds nx0_conds cx0_conds, .slice ax0_out nx0_out cx0_out] 51)).cellv kb0_1
    have Lkb0_2 := ((Gr.refl w4).alloc (.cells #[.int .i64 x0.id, .int .i64 x0.tenant, .slice ax0_conds nx0_conds cx0_conds, .slice ax0_out nx0_out cx0_out] 51)).cellv kb0_2
    have Lkb0_3 := ((Gr.refl w4).alloc (.cells #[.int .i64 x0.id, .int .i64 x0.tenant, .slice ax0_conds nx0_conds cx0_conds, .slice ax0_out nx0_out cx0_out] 51)).cellv kb0_3
    go_wp2_with fail
    refine (impl_FormatQuery x0 _ _ _ (RSlice.mono keeps_cond ((Gr.refl w4).alloc _) (rd_pconds hx0_conds.out)) (RSlice.mono keeps_int ((Gr.refl w4).alloc _) (rd_pints hx0_out.out)) HQ0.out HI0.out (tab_gr HTens.out (gw.out.trans ((Gr.refl w4).alloc _)))).mono ?_
    rintro e w5 ⟨rfl, g5⟩
    have gs5 : Gr w4 w5 := ((Gr.refl w4).alloc _).trans g5
    have Z5 : Hid (w4.heap.size + 1 ≤ w5.heap.size) := Lib.hid (by have := g5.size; simpa using this)
    replace h0_conds : Hid (RConds w5 u0_conds x0.conds) := Lib.hid (RSlice.mono keeps_cond gs5 h0_conds.out)
    replace h0_out : Hid (RInts w5 u0_out x0.out) := Lib.hid (RSlice.mono keeps_int gs5 h0_out.out)
    replace hx0_conds : Hid (PConds (In w3.heap.size mx0) w5 (.slice ax0_conds nx0_conds cx0_conds) x0.conds) := Lib.hid (OSl.gr fr_cond hx0_conds.out gs5)
    replace hx0_out : Hid (PInts (In mx0 w4.heap.size) w5 (.slice ax0_out nx0_out cx0_out) x0.out) := Lib.hid (OSl.gr fr_int hx0_out.out gs5)
    replace kb0_0 : w5.cell? ⟨w.heap.size, 0, none⟩ = some (.int .i64 x0.id) := gs5.cellv kb0_0
    replace kb0_1 : w5.cell? ⟨w.heap.size, 1, none⟩ = some (.int .i64 x0.tenant) := gs5.cellv kb0_1
    replace kb0_2 : w5.cell? ⟨w.heap.size, 2, none⟩ = some (u0_conds) := gs5.cellv kb0_2
    replace kb0_3 : w5.cell? ⟨w.heap.size, 3, none⟩ = some (u0_out) := gs5.cellv kb0_3
    replace gw : Hid (Gr w w5) := Lib.hid (gw.out.trans gs5)
    replace gv : Hid (Gr w3 w5) := Lib.hid (gv.out.trans gs5)
    have kx0_0 : w5.cell? ⟨w4.heap.size, 0, none⟩ = some (.int .i64 x0.id) := g5.cellv (by simp [go_sem])
    have kx0_1 : w5.cell? ⟨w4.heap.size, 1, none⟩ = some (.int .i64 x0.tenant) := g5.cellv (by simp [go_sem])
    have kx0_2 : w5.cell? ⟨w4.heap.size, 2, none⟩ = some (.slice ax0_conds nx0_conds cx0_conds) := g5.cellv (by simp [go_sem])
    have kx0_3 : w5.cell? ⟨w4.heap.size, 3, none⟩ = some (.slice ax0_out nx0_out cx0_out) := g5.cellv (by simp [go_sem])
    have bkx0_0 : Hid (w4.heap.size < w5.heap.size) := Lib.hid (by have := Z5.out; omega)
    clear Lkb0_0 Lkb0_1 Lkb0_2 Lkb0_3
    go_wp2
    go_region_held3 (fun w' => w'.cell? ⟨w.heap.size, 0, none⟩ = some (.int .i64 x0.id) ∧ w'.cell? ⟨w.heap.size, 1, none⟩ = some (.int .i64 x0.tenant) ∧ w'.cell? ⟨w.heap.size, 2, none⟩ = some (u0_conds) ∧ w'.cell? ⟨w.heap.size, 3, none⟩ = some (u0_out) ∧ w'.cell? ⟨w4.heap.size, 0, none⟩ = some (.int .i64 x0.id) ∧ w'.cell? ⟨w4.heap.size, 1, none⟩ = some (.int .i64 x0.tenant) ∧ w'.cell? ⟨w4.heap.size, 2, none⟩ = some (.slice ax0_conds nx0_conds cx0_conds) ∧ w'.cell? ⟨w4.heap.size, 3, none⟩ = some (.slice ax0_out nx0_out cx0_out) ∧ RConds w' u0_conds x0.conds ∧ RInts w' u0_out x0.out ∧ RConds w' (.slice ax0_conds nx0_conds cx0_conds) x0.conds ∧ RInts w' (.slice ax0_out nx0_out cx0_out) x0.out ∧ Gr w5 w')
      (first | exact ⟨kb0_0, kb0_1, kb0_2, kb0_3, kx0_0, kx0_1, kx0_2, kx0_3, h0_conds.out, h0_out.out, (rd_pconds hx0_conds.out), (rd_pints hx0_out.out), Gr.refl _⟩ | exact ⟨kb0_0, kb0_1, kb0_2, kb0_3, kx0_0, kx0_1, kx0_2, kx0_3, h0_conds.out, h0_out.out, (rd_pconds hx0_conds.out), (rd_pints hx0_out.out), (Gr.refl _).drew⟩ | (go_split_ands; exact ⟨Gr.cellv gb0 (by assumption), Gr.cellv gb0 (by assumption), Gr.cellv gb0 (by assumption), Gr.cellv gb0 (by assumption), Gr.cellv gb0 (by assumption), Gr.cellv gb0 (by assumption), Gr.cellv gb0 (by assumption), Gr.cellv gb0 (by assumption), (RSlice.mono keeps_cond gb0 (by assumption)), (RSlice.mono keeps_int gb0 (by assumption)), (RSlice.mono keeps_cond gb0 (by assumption)), (RSlice.mono keeps_int gb0 (by assumption)), Gr.trans (by assumption) gb0⟩) | (go_split_ands; exact ⟨Gr.cellv ga0 (by assumption), Gr.cellv ga0 (by assumption), Gr.cellv ga0 (by assumption), Gr.cellv ga0 (by assumption), Gr.cellv ga0 (by assumption), Gr.cellv ga0 (by assumption), Gr.cellv ga0 (by assumption), Gr.cellv ga0 (by assumption), (RSlice.mono keeps_cond ga0 (by assumption)), (RSlice.mono keeps_int ga0 (by assumption)), (RSlice.mono keeps_cond ga0 (by assumption)), (RSlice.mono keeps_int ga0 (by assumption)), Gr.trans (by assumption) ga0⟩))
      (first | (go_at_call 30; go_split_ands; refine (laws_toQuery_gr x0 u0_conds u0_out _ (by assumption) (by assumption) HT0.out).mono ?_; rintro e wa0 ⟨vy0_conds, vy0_out, rfl, ⟨ay0_conds, ny0_conds, cy0_conds, rfl⟩, ry0_conds, ⟨ay0_out, ny0_out, cy0_out, rfl⟩, ry0_out, ga0⟩) | (go_at_call 32; go_split_ands; refine (laws_eqQuery x0 _ _ _ _ _ (by assumption) (by assumption) (ry0_conds _ (Loc.refl _ _)) (ry0_out _ (Loc.refl _ _))).mono ?_; rintro e wb0 ⟨rfl, gb0⟩))
    have gs6 : Gr w5 wb0 := ((Gr.refl w5).drew.trans ga0).trans gb0
    have Z6 : Hid (w5.heap.size ≤ wb0.heap.size) := Lib.hid gs6.size
    replace h0_conds : Hid (RConds wb0 u0_conds x0.conds) := Lib.hid (RSlice.mono keeps_cond gs6 h0_conds.out)
    replace h0_out : Hid (RInts wb0 u0_out x0.out) := Lib.hid (RSlice.mono keeps_int gs6 h0_out.out)
    replace hx0_conds : Hid (PConds (In w3.heap.size mx0) wb0 (.slice ax0_conds nx0_conds cx0_conds) x0.conds) := Lib.hid (OSl.gr fr_cond hx0_conds.out gs6)
    replace hx0_out : Hid (PInts (In mx0 w4.heap.size) wb0 (.slice ax0_out nx0_out cx0_out) x0.out) := Lib.hid (OSl.gr fr_int hx0_out.out gs6)
    replace kb0_0 : wb0.cell? ⟨w.heap.size, 0, none⟩ = some (.int .i64 x0.id) := gs6.cellv kb0_0
    replace kb0_1 : wb0.cell? ⟨w.heap.size, 1, none⟩ = some (.int .i64 x0.tenant) := gs6.cellv kb0_1
    replace kb0_2 : wb0.cell? ⟨w.heap.size, 2, none⟩ = some (u0_conds) := gs6.cellv kb0_2
    replace kb0_3 : wb0.cell? ⟨w.heap.size, 3, none⟩ = some (u0_out) := gs6.cellv kb0_3
    replace kx0_0 : wb0.cell? ⟨w4.heap.size, 0, none⟩ = some (.int .i64 x0.id) := gs6.cellv kx0_0
    replace kx0_1 : wb0.cell? ⟨w4.heap.size, 1, none⟩ = some (.int .i64 x0.tenant) := gs6.cellv kx0_1
    replace kx0_2 : wb0.cell? ⟨w4.heap.size, 2, none⟩ = some (.slice ax0_conds nx0_conds cx0_conds) := gs6.cellv kx0_2
    replace kx0_3 : wb0.cell? ⟨w4.heap.size, 3, none⟩ = some (.slice ax0_out nx0_out cx0_out) := gs6.cellv kx0_3
    replace gw : Hid (Gr w wb0) := Lib.hid (gw.out.trans gs6)
    replace gv : Hid (Gr w3 wb0) := Lib.hid (gv.out.trans gs6)
    go_wp2_with fail
    go_ret
    exact ⟨rfl, gw.out⟩
  · have HZ0 := Lib.hid (szV_no (t := (totQuery x0)) (left := (1048576 : Int)) (by omega))
    have HA0 := Lib.hid (show (0 : Int) ≤ (1048576 : Int) ∧ (1048576 : Int) ≤ 1048576 from by omega)
    clear hs0
    go_enter Tryd.func7, Tryd.ntmps7
    have Bh0_conds := Lib.hid h0_conds
    replace h0_conds := Lib.hid h0_conds
    have Bh0_out := Lib.hid h0_out
    replace h0_out := Lib.hid h0_out
    go_wp2_with fail
    refine (laws_szQuery x0 u0_conds u0_out _ _ (RSlice.mono keeps_cond ((Gr.refl w).alloc _) h0_conds.out) (RSlice.mono keeps_int ((Gr.refl w).alloc _) h0_out.out) HA0.out.1 HA0.out.2).mono ?_
    rintro e w1 ⟨rfl, g1⟩
    have gs1 : Gr w w1 := ((Gr.refl w).alloc _).trans g1
    have Z1 : Hid (w.heap.size + 1 ≤ w1.heap.size) := Lib.hid (by have := g1.size; simpa using this)
    replace h0_conds : Hid (RConds w1 u0_conds x0.conds) := Lib.hid (RSlice.mono keeps_cond gs1 h0_conds.out)
    replace h0_out : Hid (RInts w1 u0_out x0.out) := Lib.hid (RSlice.mono keeps_int gs1 h0_out.out)
    have gw : Hid (Gr w w1) := Lib.hid gs1
    have kb0_0 : w1.cell? ⟨w.heap.size, 0, none⟩ = some (.int .i64 x0.id) := g1.cellv (by simp [go_sem])
    have kb0_1 : w1.cell? ⟨w.heap.size, 1, none⟩ = some (.int .i64 x0.tenant) := g1.cellv (by simp [go_sem])
    have kb0_2 : w1.cell? ⟨w.heap.size, 2, none⟩ = some (u0_conds) := g1.cellv (by simp [go_sem])
    have kb0_3 : w1.cell? ⟨w.heap.size, 3, none⟩ = some (u0_out) := g1.cellv (by simp [go_sem])
    have bkb0_0 : Hid (w.heap.size < w1.heap.size) := Lib.hid (by have := Z1.out; omega)
    rw [HZ0.out]
    go_wp2_with fail
    go_ret
    exact ⟨rfl, gw.out⟩

-- endgen
end Go.Proofs.YtjeffagejbdjkaaDoor
