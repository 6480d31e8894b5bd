/- AnswerAlone: the walk of the law. -/
import Derived.Test.YtjeffagejbdjkaaAns
import Derived.Test.YtjeffagejbdjkaaMkRow
import Derived.Test.YtjeffagejbdjkaaMkQuery
namespace Go.Proofs.Ytjeffagejbdjkaa
open Go.RowKit
-- mgen FnExactAnswerAlone AnswerAlone+HQ1 RowS "(answerL x0 x1)" "by have := answerL_small x0 x1; have := HT1.out; omega" Query RowS
set_option maxRecDepth 100000 in
set_option maxHeartbeats 1500000 in
theorem law_FnExactAnswerAlone (w : World) (x0 : DQuery) (u0_conds : Value) (u0_out : Value) (_ : I64 x0.id) (_ : I64 x0.tenant) (h0_conds : RConds w u0_conds x0.conds) (h0_out : RInts w u0_out x0.out) (v1 : Value) (x1 : List DRow) (hv1 : RRows w v1 x1) : Calls Try.prog 4 #[.agg #[.int .i64 x0.id, .int .i64 x0.tenant, u0_conds, u0_out], v1] w fun e w' => e = .returned (.bool true) ∧ Gr w w' := by
  obtain ⟨a1, c1, hve1⟩ := hv1.form
  subst hve1
  by_cases hs0 : ((totQuery x0) : Int) ≤ (1048576 : Int)
  · by_cases hs1 : ((totL totRow x1) : Int) ≤ (1048576 - ((totQuery x0) : Int))
    · have HZ0 := Lib.hid (szV_yes (t := (totQuery x0)) (left := (1048576 : Int)) (by omega))
      have HA0 := Lib.hid (show (0 : Int) ≤ (1048576 : Int) ∧ (1048576 : Int) ≤ 1048576 from by omega)
      have HB0 := Lib.hid (show (0 : Int) ≤ (1048576 : Int) - ((totQuery x0) : Int) ∧ (1048576 : Int) - ((totQuery x0) : Int) ≤ 1048576 from by omega)
      have HZ1 := Lib.hid (szV_yes (t := (totL totRow x1)) (left := (1048576 - ((totQuery x0) : Int))) (by omega))
      have HA1 := Lib.hid (show (0 : Int) ≤ (1048576 - ((totQuery x0) : Int)) ∧ (1048576 - ((totQuery x0) : Int)) ≤ 1048576 from by omega)
      have HB1 := Lib.hid (show (0 : Int) ≤ (1048576 - ((totQuery x0) : Int)) - ((totL totRow x1) : Int) ∧ (1048576 - ((totQuery x0) : Int)) - ((totL totRow x1) : Int) ≤ 1048576 from by omega)
      have HT0 := Lib.hid (show (totQuery x0) ≤ 4294967296 from by omega)
      have HT1 := Lib.hid (show (totL totRow x1) ≤ 4294967296 from by omega)
      have HQ0 : Hid ((totQuery x0) ≤ 1048576) := Lib.hid (by omega)
      have HQ1 : Hid ((totL totRow x1) ≤ 1048576) := Lib.hid (by omega)
      clear hs0 hs1
      go_enter Try.func4, Try.ntmps4
      have Bh0_conds := Lib.hid h0_conds
      replace h0_conds := Lib.hid h0_conds
      have Bh0_out := Lib.hid h0_out
      replace h0_out := Lib.hid h0_out
      have Bhv1 := Lib.hid hv1
      replace hv1 := Lib.hid hv1
      go_wp2_with fail
      refine (laws_szQuery x0 u0_conds u0_out _ _ (RSlice.mono keeps_cond ((Gr.refl w).alloc _) h0_conds.out) (RSlice.mono keeps_int ((Gr.refl w).alloc _) h0_out.out) HA0.out.1 HA0.out.2).mono ?_
      rintro e w1 ⟨rfl, g1⟩
      have gs1 : Gr w w1 := ((Gr.refl w).alloc _).trans g1
      have Z1 : Hid (w.heap.size + 1 ≤ w1.heap.size) := Lib.hid (by have := g1.size; simpa using this)
      replace h0_conds : Hid (RConds w1 u0_conds x0.conds) := Lib.hid (RSlice.mono keeps_cond gs1 h0_conds.out)
      replace h0_out : Hid (RInts w1 u0_out x0.out) := Lib.hid (RSlice.mono keeps_int gs1 h0_out.out)
      replace hv1 : Hid (RRows w1 (.slice a1 x1.length c1) x1) := Lib.hid (RSlice.mono keeps_row gs1 hv1.out)
      have gw : Hid (Gr w w1) := Lib.hid gs1
      have kb0_0 : w1.cell? ⟨w.heap.size, 0, none⟩ = some (.int .i64 x0.id) := g1.cellv (by simp [go_sem])
      have kb0_1 : w1.cell? ⟨w.heap.size, 1, none⟩ = some (.int .i64 x0.tenant) := g1.cellv (by simp [go_sem])
      have kb0_2 : w1.cell? ⟨w.heap.size, 2, none⟩ = some (u0_conds) := g1.cellv (by simp [go_sem])
      have kb0_3 : w1.cell? ⟨w.heap.size, 3, none⟩ = some (u0_out) := g1.cellv (by simp [go_sem])
      have bkb0_0 : Hid (w.heap.size < w1.heap.size) := Lib.hid (by have := Z1.out; omega)
      rw [HZ0.out]
      have hB0 := HB0.out.1
      have hC0 := HB0.out.2
      go_wp2_with fail
      refine (laws_szRowS _ _ x1 _ hv1.out HA1.out.1 HA1.out.2).mono ?_
      rintro e w2 ⟨rfl, g2⟩
      have Z2 : Hid (w1.heap.size + 0 ≤ w2.heap.size) := Lib.hid (by have := g2.size; simpa using this)
      replace h0_conds : Hid (RConds w2 u0_conds x0.conds) := Lib.hid (RSlice.mono keeps_cond g2 h0_conds.out)
      replace h0_out : Hid (RInts w2 u0_out x0.out) := Lib.hid (RSlice.mono keeps_int g2 h0_out.out)
      replace hv1 : Hid (RRows w2 (.slice a1 x1.length c1) x1) := Lib.hid (RSlice.mono keeps_row g2 hv1.out)
      replace kb0_0 : w2.cell? ⟨w.heap.size, 0, none⟩ = some (.int .i64 x0.id) := g2.cellv kb0_0
      replace kb0_1 : w2.cell? ⟨w.heap.size, 1, none⟩ = some (.int .i64 x0.tenant) := g2.cellv kb0_1
      replace kb0_2 : w2.cell? ⟨w.heap.size, 2, none⟩ = some (u0_conds) := g2.cellv kb0_2
      replace kb0_3 : w2.cell? ⟨w.heap.size, 3, none⟩ = some (u0_out) := g2.cellv kb0_3
      replace gw : Hid (Gr w w2) := Lib.hid (gw.out.trans g2)
      rw [HZ1.out]
      have hB1 := HB1.out.1
      have hC1 := HB1.out.2
      go_wp2_with fail
      refine (laws_toQuery_own x0 u0_conds u0_out _ h0_conds.out h0_out.out HT0.out).mono ?_
      rintro e w3 ⟨vp0_conds, vp0_out, rfl, g3, mp0, hmp0, hnp0, r_hp0_conds, r_hp0_out⟩
      have Z3 : Hid (w2.heap.size + 0 ≤ w3.heap.size) := Lib.hid (by have := g3.size; simpa using this)
      replace h0_conds : Hid (RConds w3 u0_conds x0.conds) := Lib.hid (RSlice.mono keeps_cond g3 h0_conds.out)
      replace h0_out : Hid (RInts w3 u0_out x0.out) := Lib.hid (RSlice.mono keeps_int g3 h0_out.out)
      replace hv1 : Hid (RRows w3 (.slice a1 x1.length c1) x1) := Lib.hid (RSlice.mono keeps_row g3 hv1.out)
      replace kb0_0 : w3.cell? ⟨w.heap.size, 0, none⟩ = some (.int .i64 x0.id) := g3.cellv kb0_0
      replace kb0_1 : w3.cell? ⟨w.heap.size, 1, none⟩ = some (.int .i64 x0.tenant) := g3.cellv kb0_1
      replace kb0_2 : w3.cell? ⟨w.heap.size, 2, none⟩ = some (u0_conds) := g3.cellv kb0_2
      replace kb0_3 : w3.cell? ⟨w.heap.size, 3, none⟩ = some (u0_out) := g3.cellv kb0_3
      replace gw : Hid (Gr w w3) := Lib.hid (gw.out.trans g3)
      obtain ⟨ap0_conds, np0_conds, cp0_conds, rfl⟩ := r_hp0_conds.isSl
      have ZMp0_conds : Hid (w2.heap.size ≤ mp0) := Lib.hid (by have := hmp0; (try simp at this); omega)
      have hp0_conds : Hid (PConds (In w2.heap.size mp0) w3 (.slice ap0_conds np0_conds cp0_conds) x0.conds) := Lib.hid (r_hp0_conds.wide (by simp) (by omega))
      clear r_hp0_conds
      obtain ⟨ap0_out, np0_out, cp0_out, rfl⟩ := r_hp0_out.isSl
      have ZMp0_out : Hid (w2.heap.size ≤ mp0) := Lib.hid (by have := hmp0; (try simp at this); omega)
      have hp0_out : Hid (PInts (In mp0 w3.heap.size) w3 (.slice ap0_out np0_out cp0_out) x0.out) := Lib.hid (r_hp0_out.wide (Nat.le_refl _) (by omega))
      clear r_hp0_out
      go_wp2_with fail
      refine (laws_toRowS_own _ x1 _ hv1.out HT1.out).mono ?_
      rintro e w4 ⟨_, rfl, ⟨ap1, np1, cp1, rfl⟩, g4, r_hp1⟩
      have Z4 : Hid (w3.heap.size + 0 ≤ w4.heap.size) := Lib.hid (by have := g4.size; simpa using this)
      replace h0_conds : Hid (RConds w4 u0_conds x0.conds) := Lib.hid (RSlice.mono keeps_cond g4 h0_conds.out)
      replace h0_out : Hid (RInts w4 u0_out x0.out) := Lib.hid (RSlice.mono keeps_int g4 h0_out.out)
      replace hv1 : Hid (RRows w4 (.slice a1 x1.length c1) x1) := Lib.hid (RSlice.mono keeps_row g4 hv1.out)
      replace hp0_conds : Hid (PConds (In w2.heap.size mp0) w4 (.slice ap0_conds np0_conds cp0_conds) x0.conds) := Lib.hid (OSl.gr fr_cond hp0_conds.out g4)
      replace hp0_out : Hid (PInts (In mp0 w3.heap.size) w4 (.slice ap0_out np0_out cp0_out) x0.out) := Lib.hid (OSl.gr fr_int hp0_out.out g4)
      replace kb0_0 : w4.cell? ⟨w.heap.size, 0, none⟩ = some (.int .i64 x0.id) := g4.cellv kb0_0
      replace kb0_1 : w4.cell? ⟨w.heap.size, 1, none⟩ = some (.int .i64 x0.tenant) := g4.cellv kb0_1
      replace kb0_2 : w4.cell? ⟨w.heap.size, 2, none⟩ = some (u0_conds) := g4.cellv kb0_2
      replace kb0_3 : w4.cell? ⟨w.heap.size, 3, none⟩ = some (u0_out) := g4.cellv kb0_3
      replace gw : Hid (Gr w w4) := Lib.hid (gw.out.trans g4)
      have hp1 : Hid (PRows (In w3.heap.size w4.heap.size) w4 (.slice ap1 np1 cp1) x1) := Lib.hid (r_hp1.wide (by simp) (by omega))
      clear r_hp1
      go_wp2_with fail
      refine (spec_AnswerAlone x0 _ _ _ x1 _ (rd_pconds hp0_conds.out) (rd_pints hp0_out.out) (rd_prows hp1.out) HQ1.out).mono ?_
      rintro e w5 ⟨vw0, rfl, r_hw0, g5⟩
      have Z5 : Hid (w4.heap.size + 0 ≤ w5.heap.size) := Lib.hid (by have := g5.size; simpa using this)
      replace h0_conds : Hid (RConds w5 u0_conds x0.conds) := Lib.hid (RSlice.mono keeps_cond g5 h0_conds.out)
      replace h0_out : Hid (RInts w5 u0_out x0.out) := Lib.hid (RSlice.mono keeps_int g5 h0_out.out)
      replace hv1 : Hid (RRows w5 (.slice a1 x1.length c1) x1) := Lib.hid (RSlice.mono keeps_row g5 hv1.out)
      replace hp0_conds : Hid (PConds (In w2.heap.size mp0) w5 (.slice ap0_conds np0_conds cp0_conds) x0.conds) := Lib.hid (OSl.gr fr_cond hp0_conds.out g5)
      replace hp0_out : Hid (PInts (In mp0 w3.heap.size) w5 (.slice ap0_out np0_out cp0_out) x0.out) := Lib.hid (OSl.gr fr_int hp0_out.out g5)
      replace hp1 : Hid (PRows (In w3.heap.size w4.heap.size) w5 (.slice ap1 np1 cp1) x1) := Lib.hid (OSl.gr fr_row hp1.out g5)
      replace kb0_0 : w5.cell? ⟨w.heap.size, 0, none⟩ = some (.int .i64 x0.id) := g5.cellv kb0_0
      replace kb0_1 : w5.cell? ⟨w.heap.size, 1, none⟩ = some (.int .i64 x0.tenant) := g5.cellv kb0_1
      replace kb0_2 : w5.cell? ⟨w.heap.size, 2, none⟩ = some (u0_conds) := g5.cellv kb0_2
      replace kb0_3 : w5.cell? ⟨w.heap.size, 3, none⟩ = some (u0_out) := g5.cellv kb0_3
      replace gw : Hid (Gr w w5) := Lib.hid (gw.out.trans g5)
      clear hp0_conds
      clear hp0_out
      clear hp1
      obtain ⟨aw0, nw0, cw0, rfl⟩ := r_hw0.isSl
      have hw0 : Hid (RRows w5 (.slice aw0 nw0 cw0) (answerL x0 x1)) := Lib.hid r_hw0
      have Bhw0 := Lib.hid r_hw0
      clear r_hw0
      have gv : Hid (Gr w5 w5) := Lib.hid (Gr.refl _)
      have ZV : Hid (w.heap.size ≤ w5.heap.size) := Lib.hid gw.out.size
      go_wp2_with fail
      refine (laws_toQuery_own x0 u0_conds u0_out _ h0_conds.out h0_out.out HT0.out).mono ?_
      rintro e w6 ⟨vx0_conds, vx0_out, rfl, g6, mx0, hmx0, hnx0, r_hx0_conds, r_hx0_out⟩
      have Z6 : Hid (w5.heap.size + 0 ≤ w6.heap.size) := Lib.hid (by have := g6.size; simpa using this)
      replace h0_conds : Hid (RConds w6 u0_conds x0.conds) := Lib.hid (RSlice.mono keeps_cond g6 h0_conds.out)
      replace h0_out : Hid (RInts w6 u0_out x0.out) := Lib.hid (RSlice.mono keeps_int g6 h0_out.out)
      replace hv1 : Hid (RRows w6 (.slice a1 x1.length c1) x1) := Lib.hid (RSlice.mono keeps_row g6 hv1.out)
      replace hw0 : Hid (RRows w6 (.slice aw0 nw0 cw0) (answerL x0 x1)) := Lib.hid (RSlice.mono keeps_row g6 hw0.out)
      replace kb0_0 : w6.cell? ⟨w.heap.size, 0, none⟩ = some (.int .i64 x0.id) := g6.cellv kb0_0
      replace kb0_1 : w6.cell? ⟨w.heap.size, 1, none⟩ = some (.int .i64 x0.tenant) := g6.cellv kb0_1
      replace kb0_2 : w6.cell? ⟨w.heap.size, 2, none⟩ = some (u0_conds) := g6.cellv kb0_2
      replace kb0_3 : w6.cell? ⟨w.heap.size, 3, none⟩ = some (u0_out) := g6.cellv kb0_3
      replace gw : Hid (Gr w w6) := Lib.hid (gw.out.trans g6)
      replace gv : Hid (Gr w5 w6) := Lib.hid (gv.out.trans g6)
      obtain ⟨ax0_conds, nx0_conds, cx0_conds, rfl⟩ := r_hx0_conds.isSl
      have ZMx0_conds : Hid (w5.heap.size ≤ mx0) := Lib.hid (by have := hmx0; (try simp at this); omega)
      have hx0_conds : Hid (PConds (In w5.heap.size mx0) w6 (.slice ax0_conds nx0_conds cx0_conds) x0.conds) := Lib.hid (r_hx0_conds.wide (by simp) (by omega))
      clear r_hx0_conds
      obtain ⟨ax0_out, nx0_out, cx0_out, rfl⟩ := r_hx0_out.isSl
      have ZMx0_out : Hid (w5.heap.size ≤ mx0) := Lib.hid (by have := hmx0; (try simp at this); omega)
      have hx0_out : Hid (PInts (In mx0 w6.heap.size) w6 (.slice ax0_out nx0_out cx0_out) x0.out) := Lib.hid (r_hx0_out.wide (Nat.le_refl _) (by omega))
      clear r_hx0_out
      have Lkb0_0 := ((Gr.refl w6).alloc (.cells #[.int .i64 x0.id, .int .i64 x0.tenant, .slice ax0_conds nx0_conds cx0_conds, .slice ax0_out nx0_out cx0_out] 38)).cellv kb0_0
      have Lkb0_1 := ((Gr.refl w6).alloc (.cells #[.int .i64 x0.id, .int .i64 x0.tenant, .slice ax0_conds nx0_conds cx0_conds, .slice ax0_out nx0_out cx0_out] 38)).cellv kb0_1
      have Lkb0_2 := ((Gr.refl w6).alloc (.cells #[.int .i64 x0.id, .int .i64 x0.tenant, .slice ax0_conds nx0_conds cx0_conds, .slice ax0_out nx0_out cx0_out] 38)).cellv kb0_2
      have Lkb0_3 := ((Gr.refl w6).alloc (.cells #[.int .i64 x0.id, .int .i64 x0.tenant, .slice ax0_conds nx0_conds cx0_conds, .slice ax0_out nx0_out cx0_out] 38)).cellv kb0_3
      go_wp2_with fail
      refine (laws_toRowS_own _ x1 _ (RSlice.mono keeps_row ((Gr.refl w6).alloc _) hv1.out) HT1.out).mono ?_
      rintro e w7 ⟨_, rfl, ⟨ax1, nx1, cx1, rfl⟩, g7, r_hx1⟩
      have gs7 : Gr w6 w7 := ((Gr.refl w6).alloc _).trans g7
      have Z7 : Hid (w6.heap.size + 1 ≤ w7.heap.size) := Lib.hid (by have := g7.size; simpa using this)
      replace h0_conds : Hid (RConds w7 u0_conds x0.conds) := Lib.hid (RSlice.mono keeps_cond gs7 h0_conds.out)
      replace h0_out : Hid (RInts w7 u0_out x0.out) := Lib.hid (RSlice.mono keeps_int gs7 h0_out.out)
      replace hv1 : Hid (RRows w7 (.slice a1 x1.length c1) x1) := Lib.hid (RSlice.mono keeps_row gs7 hv1.out)
      replace hw0 : Hid (RRows w7 (.slice aw0 nw0 cw0) (answerL x0 x1)) := Lib.hid (RSlice.mono keeps_row gs7 hw0.out)
      replace hx0_conds : Hid (PConds (In w5.heap.size mx0) w7 (.slice ax0_conds nx0_conds cx0_conds) x0.conds) := Lib.hid (OSl.gr fr_cond hx0_conds.out gs7)
      replace hx0_out : Hid (PInts (In mx0 w6.heap.size) w7 (.slice ax0_out nx0_out cx0_out) x0.out) := Lib.hid (OSl.gr fr_int hx0_out.out gs7)
      replace kb0_0 : w7.cell? ⟨w.heap.size, 0, none⟩ = some (.int .i64 x0.id) := gs7.cellv kb0_0
      replace kb0_1 : w7.cell? ⟨w.heap.size, 1, none⟩ = some (.int .i64 x0.tenant) := gs7.cellv kb0_1
      replace kb0_2 : w7.cell? ⟨w.heap.size, 2, none⟩ = some (u0_conds) := gs7.cellv kb0_2
      replace kb0_3 : w7.cell? ⟨w.heap.size, 3, none⟩ = some (u0_out) := gs7.cellv kb0_3
      replace gw : Hid (Gr w w7) := Lib.hid (gw.out.trans gs7)
      replace gv : Hid (Gr w5 w7) := Lib.hid (gv.out.trans gs7)
      have kx0_0 : w7.cell? ⟨w6.heap.size, 0, none⟩ = some (.int .i64 x0.id) := g7.cellv (by simp [go_sem])
      have kx0_1 : w7.cell? ⟨w6.heap.size, 1, none⟩ = some (.int .i64 x0.tenant) := g7.cellv (by simp [go_sem])
      have kx0_2 : w7.cell? ⟨w6.heap.size, 2, none⟩ = some (.slice ax0_conds nx0_conds cx0_conds) := g7.cellv (by simp [go_sem])
      have kx0_3 : w7.cell? ⟨w6.heap.size, 3, none⟩ = some (.slice ax0_out nx0_out cx0_out) := g7.cellv (by simp [go_sem])
      have bkx0_0 : Hid (w6.heap.size < w7.heap.size) := Lib.hid (by have := Z7.out; omega)
      clear Lkb0_0 Lkb0_1 Lkb0_2 Lkb0_3
      have hx1 : Hid (PRows (In (w6.heap.size + 1) w7.heap.size) w7 (.slice ax1 nx1 cx1) x1) := Lib.hid (r_hx1.wide (by simp) (by omega))
      clear r_hx1
      go_wp2_with fail
      refine (impl_AnswerAlone x0 _ _ _ x1 _ (rd_pconds hx0_conds.out) (rd_pints hx0_out.out) (rd_prows hx1.out) HQ1.out).mono ?_
      rintro e w8 ⟨vg0, rfl, g8, r_hg0⟩
      have Z8 : Hid (w7.heap.size + 0 ≤ w8.heap.size) := Lib.hid (by have := g8.size; simpa using this)
      replace h0_conds : Hid (RConds w8 u0_conds x0.conds) := Lib.hid (RSlice.mono keeps_cond g8 h0_conds.out)
      replace h0_out : Hid (RInts w8 u0_out x0.out) := Lib.hid (RSlice.mono keeps_int g8 h0_out.out)
      replace hv1 : Hid (RRows w8 (.slice a1 x1.length c1) x1) := Lib.hid (RSlice.mono keeps_row g8 hv1.out)
      replace hw0 : Hid (RRows w8 (.slice aw0 nw0 cw0) (answerL x0 x1)) := Lib.hid (RSlice.mono keeps_row g8 hw0.out)
      replace hx0_conds : Hid (PConds (In w5.heap.size mx0) w8 (.slice ax0_conds nx0_conds cx0_conds) x0.conds) := Lib.hid (OSl.gr fr_cond hx0_conds.out g8)
      replace hx0_out : Hid (PInts (In mx0 w6.heap.size) w8 (.slice ax0_out nx0_out cx0_out) x0.out) := Lib.hid (OSl.gr fr_int hx0_out.out g8)
      replace hx1 : Hid (PRows (In (w6.heap.size + 1) w7.heap.size) w8 (.slice ax1 nx1 cx1) x1) := Lib.hid (OSl.gr fr_row hx1.out g8)
      replace kb0_0 : w8.cell? ⟨w.heap.size, 0, none⟩ = some (.int .i64 x0.id) := g8.cellv kb0_0
      replace kb0_1 : w8.cell? ⟨w.heap.size, 1, none⟩ = some (.int .i64 x0.tenant) := g8.cellv kb0_1
      replace kb0_2 : w8.cell? ⟨w.heap.size, 2, none⟩ = some (u0_conds) := g8.cellv kb0_2
      replace kb0_3 : w8.cell? ⟨w.heap.size, 3, none⟩ = some (u0_out) := g8.cellv kb0_3
      replace kx0_0 : w8.cell? ⟨w6.heap.size, 0, none⟩ = some (.int .i64 x0.id) := g8.cellv kx0_0
      replace kx0_1 : w8.cell? ⟨w6.heap.size, 1, none⟩ = some (.int .i64 x0.tenant) := g8.cellv kx0_1
      replace kx0_2 : w8.cell? ⟨w6.heap.size, 2, none⟩ = some (.slice ax0_conds nx0_conds cx0_conds) := g8.cellv kx0_2
      replace kx0_3 : w8.cell? ⟨w6.heap.size, 3, none⟩ = some (.slice ax0_out nx0_out cx0_out) := g8.cellv kx0_3
      replace gw : Hid (Gr w w8) := Lib.hid (gw.out.trans g8)
      replace gv : Hid (Gr w5 w8) := Lib.hid (gv.out.trans g8)
      obtain ⟨ag0, ng0, cg0, rfl⟩ := r_hg0.isSl
      have hg0 : Hid (PRows (In w7.heap.size w8.heap.size) w8 (.slice ag0 ng0 cg0) (answerL x0 x1)) := Lib.hid (r_hg0.wide (by simp) (by omega))
      clear r_hg0
      go_wp2_with fail
      refine (laws_eqRowS_same _ _ (answerL x0 x1) _ (rd_prows hg0.out) hw0.out).mono ?_
      rintro e w9 ⟨rfl, g9⟩
      have Z9 : Hid (w8.heap.size + 0 ≤ w9.heap.size) := Lib.hid (by have := g9.size; simpa using this)
      replace h0_conds : Hid (RConds w9 u0_conds x0.conds) := Lib.hid (RSlice.mono keeps_cond g9 h0_conds.out)
      replace h0_out : Hid (RInts w9 u0_out x0.out) := Lib.hid (RSlice.mono keeps_int g9 h0_out.out)
      replace hv1 : Hid (RRows w9 (.slice a1 x1.length c1) x1) := Lib.hid (RSlice.mono keeps_row g9 hv1.out)
      replace hw0 : Hid (RRows w9 (.slice aw0 nw0 cw0) (answerL x0 x1)) := Lib.hid (RSlice.mono keeps_row g9 hw0.out)
      replace hx0_conds : Hid (PConds (In w5.heap.size mx0) w9 (.slice ax0_conds nx0_conds cx0_conds) x0.conds) := Lib.hid (OSl.gr fr_cond hx0_conds.out g9)
      replace hx0_out : Hid (PInts (In mx0 w6.heap.size) w9 (.slice ax0_out nx0_out cx0_out) x0.out) := Lib.hid (OSl.gr fr_int hx0_out.out g9)
      replace hx1 : Hid (PRows (In (w6.heap.size + 1) w7.heap.size) w9 (.slice ax1 nx1 cx1) x1) := Lib.hid (OSl.gr fr_row hx1.out g9)
      replace hg0 : Hid (PRows (In w7.heap.size w8.heap.size) w9 (.slice ag0 ng0 cg0) (answerL x0 x1)) := Lib.hid (OSl.gr fr_row hg0.out g9)
      replace kb0_0 : w9.cell? ⟨w.heap.size, 0, none⟩ = some (.int .i64 x0.id) := g9.cellv kb0_0
      replace kb0_1 : w9.cell? ⟨w.heap.size, 1, none⟩ = some (.int .i64 x0.tenant) := g9.cellv kb0_1
      replace kb0_2 : w9.cell? ⟨w.heap.size, 2, none⟩ = some (u0_conds) := g9.cellv kb0_2
      replace kb0_3 : w9.cell? ⟨w.heap.size, 3, none⟩ = some (u0_out) := g9.cellv kb0_3
      replace kx0_0 : w9.cell? ⟨w6.heap.size, 0, none⟩ = some (.int .i64 x0.id) := g9.cellv kx0_0
      replace kx0_1 : w9.cell? ⟨w6.heap.size, 1, none⟩ = some (.int .i64 x0.tenant) := g9.cellv kx0_1
      replace kx0_2 : w9.cell? ⟨w6.heap.size, 2, none⟩ = some (.slice ax0_conds nx0_conds cx0_conds) := g9.cellv kx0_2
      replace kx0_3 : w9.cell? ⟨w6.heap.size, 3, none⟩ = some (.slice ax0_out nx0_out cx0_out) := g9.cellv kx0_3
      replace gw : Hid (Gr w w9) := Lib.hid (gw.out.trans g9)
      replace gv : Hid (Gr w5 w9) := Lib.hid (gv.out.trans g9)
      go_wp2
      go_region_held3 (fun w' => w'.cell? ⟨w.heap.size, 0, none⟩ = some (.int .i64 x0.id) ∧ w'.cell? ⟨w.heap.size, 1, none⟩ = some (.int .i64 x0.tenant) ∧ w'.cell? ⟨w.heap.size, 2, none⟩ = some (u0_conds) ∧ w'.cell? ⟨w.heap.size, 3, none⟩ = some (u0_out) ∧ w'.cell? ⟨w6.heap.size, 0, none⟩ = some (.int .i64 x0.id) ∧ w'.cell? ⟨w6.heap.size, 1, none⟩ = some (.int .i64 x0.tenant) ∧ w'.cell? ⟨w6.heap.size, 2, none⟩ = some (.slice ax0_conds nx0_conds cx0_conds) ∧ w'.cell? ⟨w6.heap.size, 3, none⟩ = some (.slice ax0_out nx0_out cx0_out) ∧ RConds w' u0_conds x0.conds ∧ RInts w' u0_out x0.out ∧ RConds w' (.slice ax0_conds nx0_conds cx0_conds) x0.conds ∧ RInts w' (.slice ax0_out nx0_out cx0_out) x0.out ∧ Gr w9 w')
        (first | exact ⟨kb0_0, kb0_1, kb0_2, kb0_3, kx0_0, kx0_1, kx0_2, kx0_3, h0_conds.out, h0_out.out, (rd_pconds hx0_conds.out), (rd_pints hx0_out.out), Gr.refl _⟩ | exact ⟨kb0_0, kb0_1, kb0_2, kb0_3, kx0_0, kx0_1, kx0_2, kx0_3, h0_conds.out, h0_out.out, (rd_pconds hx0_conds.out), (rd_pints hx0_out.out), (Gr.refl _).drew⟩ | (go_split_ands; exact ⟨Gr.cellv gb0 (by assumption), Gr.cellv gb0 (by assumption), Gr.cellv gb0 (by assumption), Gr.cellv gb0 (by assumption), Gr.cellv gb0 (by assumption), Gr.cellv gb0 (by assumption), Gr.cellv gb0 (by assumption), Gr.cellv gb0 (by assumption), (RSlice.mono keeps_cond gb0 (by assumption)), (RSlice.mono keeps_int gb0 (by assumption)), (RSlice.mono keeps_cond gb0 (by assumption)), (RSlice.mono keeps_int gb0 (by assumption)), Gr.trans (by assumption) gb0⟩) | (go_split_ands; exact ⟨Gr.cellv ga0 (by assumption), Gr.cellv ga0 (by assumption), Gr.cellv ga0 (by assumption), Gr.cellv ga0 (by assumption), Gr.cellv ga0 (by assumption), Gr.cellv ga0 (by assumption), Gr.cellv ga0 (by assumption), Gr.cellv ga0 (by assumption), (RSlice.mono keeps_cond ga0 (by assumption)), (RSlice.mono keeps_int ga0 (by assumption)), (RSlice.mono keeps_cond ga0 (by assumption)), (RSlice.mono keeps_int ga0 (by assumption)), Gr.trans (by assumption) ga0⟩))
        (first | (go_at_call 14; go_split_ands; refine (laws_toQuery_gr x0 u0_conds u0_out _ (by assumption) (by assumption) HT0.out).mono ?_; rintro e wa0 ⟨vy0_conds, vy0_out, rfl, ⟨ay0_conds, ny0_conds, cy0_conds, rfl⟩, ry0_conds, ⟨ay0_out, ny0_out, cy0_out, rfl⟩, ry0_out, ga0⟩) | (go_at_call 16; go_split_ands; refine (laws_eqQuery x0 _ _ _ _ _ (by assumption) (by assumption) (ry0_conds _ (Loc.refl _ _)) (ry0_out _ (Loc.refl _ _))).mono ?_; rintro e wb0 ⟨rfl, gb0⟩))
      have gs10 : Gr w9 wb0 := ((Gr.refl w9).drew.trans ga0).trans gb0
      have Z10 : Hid (w9.heap.size ≤ wb0.heap.size) := Lib.hid gs10.size
      replace h0_conds : Hid (RConds wb0 u0_conds x0.conds) := Lib.hid (RSlice.mono keeps_cond gs10 h0_conds.out)
      replace h0_out : Hid (RInts wb0 u0_out x0.out) := Lib.hid (RSlice.mono keeps_int gs10 h0_out.out)
      replace hv1 : Hid (RRows wb0 (.slice a1 x1.length c1) x1) := Lib.hid (RSlice.mono keeps_row gs10 hv1.out)
      replace hw0 : Hid (RRows wb0 (.slice aw0 nw0 cw0) (answerL x0 x1)) := Lib.hid (RSlice.mono keeps_row gs10 hw0.out)
      replace hx0_conds : Hid (PConds (In w5.heap.size mx0) wb0 (.slice ax0_conds nx0_conds cx0_conds) x0.conds) := Lib.hid (OSl.gr fr_cond hx0_conds.out gs10)
      replace hx0_out : Hid (PInts (In mx0 w6.heap.size) wb0 (.slice ax0_out nx0_out cx0_out) x0.out) := Lib.hid (OSl.gr fr_int hx0_out.out gs10)
      replace hx1 : Hid (PRows (In (w6.heap.size + 1) w7.heap.size) wb0 (.slice ax1 nx1 cx1) x1) := Lib.hid (OSl.gr fr_row hx1.out gs10)
      replace hg0 : Hid (PRows (In w7.heap.size w8.heap.size) wb0 (.slice ag0 ng0 cg0) (answerL x0 x1)) := Lib.hid (OSl.gr fr_row hg0.out gs10)
      replace kb0_0 : wb0.cell? ⟨w.heap.size, 0, none⟩ = some (.int .i64 x0.id) := gs10.cellv kb0_0
      replace kb0_1 : wb0.cell? ⟨w.heap.size, 1, none⟩ = some (.int .i64 x0.tenant) := gs10.cellv kb0_1
      replace kb0_2 : wb0.cell? ⟨w.heap.size, 2, none⟩ = some (u0_conds) := gs10.cellv kb0_2
      replace kb0_3 : wb0.cell? ⟨w.heap.size, 3, none⟩ = some (u0_out) := gs10.cellv kb0_3
      replace kx0_0 : wb0.cell? ⟨w6.heap.size, 0, none⟩ = some (.int .i64 x0.id) := gs10.cellv kx0_0
      replace kx0_1 : wb0.cell? ⟨w6.heap.size, 1, none⟩ = some (.int .i64 x0.tenant) := gs10.cellv kx0_1
      replace kx0_2 : wb0.cell? ⟨w6.heap.size, 2, none⟩ = some (.slice ax0_conds nx0_conds cx0_conds) := gs10.cellv kx0_2
      replace kx0_3 : wb0.cell? ⟨w6.heap.size, 3, none⟩ = some (.slice ax0_out nx0_out cx0_out) := gs10.cellv kx0_3
      replace gw : Hid (Gr w wb0) := Lib.hid (gw.out.trans gs10)
      replace gv : Hid (Gr w5 wb0) := Lib.hid (gv.out.trans gs10)
      go_wp2_with fail
      refine (laws_toRowS_own _ x1 _ hv1.out HT1.out).mono ?_
      rintro e w11 ⟨_, rfl, ⟨ay1, ny1, cy1, rfl⟩, g11, r_hy1⟩
      have Z11 : Hid (wb0.heap.size + 0 ≤ w11.heap.size) := Lib.hid (by have := g11.size; simpa using this)
      replace h0_conds : Hid (RConds w11 u0_conds x0.conds) := Lib.hid (RSlice.mono keeps_cond g11 h0_conds.out)
      replace h0_out : Hid (RInts w11 u0_out x0.out) := Lib.hid (RSlice.mono keeps_int g11 h0_out.out)
      replace hv1 : Hid (RRows w11 (.slice a1 x1.length c1) x1) := Lib.hid (RSlice.mono keeps_row g11 hv1.out)
      replace hw0 : Hid (RRows w11 (.slice aw0 nw0 cw0) (answerL x0 x1)) := Lib.hid (RSlice.mono keeps_row g11 hw0.out)
      replace hx0_conds : Hid (PConds (In w5.heap.size mx0) w11 (.slice ax0_conds nx0_conds cx0_conds) x0.conds) := Lib.hid (OSl.gr fr_cond hx0_conds.out g11)
      replace hx0_out : Hid (PInts (In mx0 w6.heap.size) w11 (.slice ax0_out nx0_out cx0_out) x0.out) := Lib.hid (OSl.gr fr_int hx0_out.out g11)
      replace hx1 : Hid (PRows (In (w6.heap.size + 1) w7.heap.size) w11 (.slice ax1 nx1 cx1) x1) := Lib.hid (OSl.gr fr_row hx1.out g11)
      replace hg0 : Hid (PRows (In w7.heap.size w8.heap.size) w11 (.slice ag0 ng0 cg0) (answerL x0 x1)) := Lib.hid (OSl.gr fr_row hg0.out g11)
      replace kb0_0 : w11.cell? ⟨w.heap.size, 0, none⟩ = some (.int .i64 x0.id) := g11.cellv kb0_0
      replace kb0_1 : w11.cell? ⟨w.heap.size, 1, none⟩ = some (.int .i64 x0.tenant) := g11.cellv kb0_1
      replace kb0_2 : w11.cell? ⟨w.heap.size, 2, none⟩ = some (u0_conds) := g11.cellv kb0_2
      replace kb0_3 : w11.cell? ⟨w.heap.size, 3, none⟩ = some (u0_out) := g11.cellv kb0_3
      replace kx0_0 : w11.cell? ⟨w6.heap.size, 0, none⟩ = some (.int .i64 x0.id) := g11.cellv kx0_0
      replace kx0_1 : w11.cell? ⟨w6.heap.size, 1, none⟩ = some (.int .i64 x0.tenant) := g11.cellv kx0_1
      replace kx0_2 : w11.cell? ⟨w6.heap.size, 2, none⟩ = some (.slice ax0_conds nx0_conds cx0_conds) := g11.cellv kx0_2
      replace kx0_3 : w11.cell? ⟨w6.heap.size, 3, none⟩ = some (.slice ax0_out nx0_out cx0_out) := g11.cellv kx0_3
      replace gw : Hid (Gr w w11) := Lib.hid (gw.out.trans g11)
      replace gv : Hid (Gr w5 w11) := Lib.hid (gv.out.trans g11)
      have hy1 : Hid (PRows (In wb0.heap.size w11.heap.size) w11 (.slice ay1 ny1 cy1) x1) := Lib.hid (r_hy1.wide (by simp) (by omega))
      clear r_hy1
      go_wp2_with fail
      refine (laws_eqRowS_same _ _ x1 _ (rd_prows hx1.out) (rd_prows hy1.out)).mono ?_
      rintro e w12 ⟨rfl, g12⟩
      have Z12 : Hid (w11.heap.size + 0 ≤ w12.heap.size) := Lib.hid (by have := g12.size; simpa using this)
      replace h0_conds : Hid (RConds w12 u0_conds x0.conds) := Lib.hid (RSlice.mono keeps_cond g12 h0_conds.out)
      replace h0_out : Hid (RInts w12 u0_out x0.out) := Lib.hid (RSlice.mono keeps_int g12 h0_out.out)
      replace hv1 : Hid (RRows w12 (.slice a1 x1.length c1) x1) := Lib.hid (RSlice.mono keeps_row g12 hv1.out)
      replace hw0 : Hid (RRows w12 (.slice aw0 nw0 cw0) (answerL x0 x1)) := Lib.hid (RSlice.mono keeps_row g12 hw0.out)
      replace hx0_conds : Hid (PConds (In w5.heap.size mx0) w12 (.slice ax0_conds nx0_conds cx0_conds) x0.conds) := Lib.hid (OSl.gr fr_cond hx0_conds.out g12)
      replace hx0_out : Hid (PInts (In mx0 w6.heap.size) w12 (.slice ax0_out nx0_out cx0_out) x0.out) := Lib.hid (OSl.gr fr_int hx0_out.out g12)
      replace hx1 : Hid (PRows (In (w6.heap.size + 1) w7.heap.size) w12 (.slice ax1 nx1 cx1) x1) := Lib.hid (OSl.gr fr_row hx1.out g12)
      replace hg0 : Hid (PRows (In w7.heap.size w8.heap.size) w12 (.slice ag0 ng0 cg0) (answerL x0 x1)) := Lib.hid (OSl.gr fr_row hg0.out g12)
      replace hy1 : Hid (PRows (In wb0.heap.size w11.heap.size) w12 (.slice ay1 ny1 cy1) x1) := Lib.hid (OSl.gr fr_row hy1.out g12)
      replace kb0_0 : w12.cell? ⟨w.heap.size, 0, none⟩ = some (.int .i64 x0.id) := g12.cellv kb0_0
      replace kb0_1 : w12.cell? ⟨w.heap.size, 1, none⟩ = some (.int .i64 x0.tenant) := g12.cellv kb0_1
      replace kb0_2 : w12.cell? ⟨w.heap.size, 2, none⟩ = some (u0_conds) := g12.cellv kb0_2
      replace kb0_3 : w12.cell? ⟨w.heap.size, 3, none⟩ = some (u0_out) := g12.cellv kb0_3
      replace kx0_0 : w12.cell? ⟨w6.heap.size, 0, none⟩ = some (.int .i64 x0.id) := g12.cellv kx0_0
      replace kx0_1 : w12.cell? ⟨w6.heap.size, 1, none⟩ = some (.int .i64 x0.tenant) := g12.cellv kx0_1
      replace kx0_2 : w12.cell? ⟨w6.heap.size, 2, none⟩ = some (.slice ax0_conds nx0_conds cx0_conds) := g12.cellv kx0_2
      replace kx0_3 : w12.cell? ⟨w6.heap.size, 3, none⟩ = some (.slice ax0_out nx0_out cx0_out) := g12.cellv kx0_3
      replace gw : Hid (Gr w w12) := Lib.hid (gw.out.trans g12)
      replace gv : Hid (Gr w5 w12) := Lib.hid (gv.out.trans g12)
      clear hy1
      have cb0 := HQ0.out
      have cm0_conds := cnt_CondS x0.conds
      have cm0_out := cnt_IntS x0.out
      unfold totQuery at cb0
      go_wp2_with fail
      refine (laws_markQuery (In w5.heap.size mx0) (In mx0 w6.heap.size) x0 _ _ (1 : Int) _ hx0_conds.out (fun b hb => by have := Z1.out; have := bkb0_0.out; have := Z2.out; have := Z3.out; have := ZMp0_conds.out; have := ZMp0_out.out; have := Z4.out; have := Z5.out; have := ZV.out; have := Z6.out; have := ZMx0_conds.out; have := ZMx0_out.out; have := Z7.out; have := bkx0_0.out; have := Z8.out; have := Z9.out; have := Z10.out; have := Z11.out; have := Z12.out; have := hb.2; omega) hx0_out.out (fun b hb => by have := Z1.out; have := bkb0_0.out; have := Z2.out; have := Z3.out; have := ZMp0_conds.out; have := ZMp0_out.out; have := Z4.out; have := Z5.out; have := ZV.out; have := Z6.out; have := ZMx0_conds.out; have := ZMx0_out.out; have := Z7.out; have := bkx0_0.out; have := Z8.out; have := Z9.out; have := Z10.out; have := Z11.out; have := Z12.out; have := hb.2; omega) (fun b hb hc => by have := hb.1; have := hb.2; have := hc.1; have := hc.2; omega) (by omega) (by omega)).mono ?_
      rintro e wm0 ⟨rfl, _, _, dm0⟩
      have Z13 : Hid (w12.heap.size ≤ wm0.heap.size) := Lib.hid dm0.size
      replace gw : Hid (Gr w wm0) := Lib.hid (Gr.trans' gw.out (dm0.below (fun b hb => by have := Z1.out; have := bkb0_0.out; have := Z2.out; have := Z3.out; have := ZMp0_conds.out; have := ZMp0_out.out; have := Z4.out; have := Z5.out; have := ZV.out; have := Z6.out; have := ZMx0_conds.out; have := ZMx0_out.out; have := Z7.out; have := bkx0_0.out; have := Z8.out; have := Z9.out; have := Z10.out; have := Z11.out; have := Z12.out; have := Z13.out; rcases hb with hb | hb <;> (have := hb.1; omega)) (gw.out.size)))
      replace gv : Hid (Gr w5 wm0) := Lib.hid (Gr.trans' gv.out (dm0.below (fun b hb => by have := Z1.out; have := bkb0_0.out; have := Z2.out; have := Z3.out; have := ZMp0_conds.out; have := ZMp0_out.out; have := Z4.out; have := Z5.out; have := ZV.out; have := Z6.out; have := ZMx0_conds.out; have := ZMx0_out.out; have := Z7.out; have := bkx0_0.out; have := Z8.out; have := Z9.out; have := Z10.out; have := Z11.out; have := Z12.out; have := Z13.out; rcases hb with hb | hb <;> (have := hb.1; omega)) (gv.out.size)))
      replace h0_conds : Hid (RConds wm0 u0_conds x0.conds) := Lib.hid (RSlice.mono keeps_cond gw.out Bh0_conds.out)
      replace h0_out : Hid (RInts wm0 u0_out x0.out) := Lib.hid (RSlice.mono keeps_int gw.out Bh0_out.out)
      replace hv1 : Hid (RRows wm0 (.slice a1 x1.length c1) x1) := Lib.hid (RSlice.mono keeps_row gw.out Bhv1.out)
      replace hw0 : Hid (RRows wm0 (.slice aw0 nw0 cw0) (answerL x0 x1)) := Lib.hid (RSlice.mono keeps_row gv.out Bhw0.out)
      replace hx1 : Hid (PRows (In (w6.heap.size + 1) w7.heap.size) wm0 (.slice ax1 nx1 cx1) x1) := Lib.hid (OSl.frame fr_row hx1.out (dm0.agree fun b hb hc => by have := Z1.out; have := bkb0_0.out; have := Z2.out; have := Z3.out; have := ZMp0_conds.out; have := ZMp0_out.out; have := Z4.out; have := Z5.out; have := ZV.out; have := Z6.out; have := ZMx0_conds.out; have := ZMx0_out.out; have := Z7.out; have := bkx0_0.out; have := Z8.out; have := Z9.out; have := Z10.out; have := Z11.out; have := Z12.out; have := Z13.out; rcases hc with hc | hc <;> (have := hb.1; have := hb.2; have := hc.1; have := hc.2; omega)))
      replace hg0 : Hid (PRows (In w7.heap.size w8.heap.size) wm0 (.slice ag0 ng0 cg0) (answerL x0 x1)) := Lib.hid (OSl.frame fr_row hg0.out (dm0.agree fun b hb hc => by have := Z1.out; have := bkb0_0.out; have := Z2.out; have := Z3.out; have := ZMp0_conds.out; have := ZMp0_out.out; have := Z4.out; have := Z5.out; have := ZV.out; have := Z6.out; have := ZMx0_conds.out; have := ZMx0_out.out; have := Z7.out; have := bkx0_0.out; have := Z8.out; have := Z9.out; have := Z10.out; have := Z11.out; have := Z12.out; have := Z13.out; rcases hc with hc | hc <;> (have := hb.1; have := hb.2; have := hc.1; have := hc.2; omega)))
      replace kb0_0 : wm0.cell? ⟨w.heap.size, 0, none⟩ = some (.int .i64 x0.id) := (World.cell?_of_block (w := w12) (dm0.block _ (World.block_lt_of_cell? _ _ kb0_0) (fun hc => by have := Z1.out; have := bkb0_0.out; have := Z2.out; have := Z3.out; have := ZMp0_conds.out; have := ZMp0_out.out; have := Z4.out; have := Z5.out; have := ZV.out; have := Z6.out; have := ZMx0_conds.out; have := ZMx0_out.out; have := Z7.out; have := bkx0_0.out; have := Z8.out; have := Z9.out; have := Z10.out; have := Z11.out; have := Z12.out; have := Z13.out; rcases hc with hc | hc <;> (have := hc.1; have := hc.2; dsimp only at *; omega)))).trans kb0_0
      replace kb0_1 : wm0.cell? ⟨w.heap.size, 1, none⟩ = some (.int .i64 x0.tenant) := (World.cell?_of_block (w := w12) (dm0.block _ (World.block_lt_of_cell? _ _ kb0_1) (fun hc => by have := Z1.out; have := bkb0_0.out; have := Z2.out; have := Z3.out; have := ZMp0_conds.out; have := ZMp0_out.out; have := Z4.out; have := Z5.out; have := ZV.out; have := Z6.out; have := ZMx0_conds.out; have := ZMx0_out.out; have := Z7.out; have := bkx0_0.out; have := Z8.out; have := Z9.out; have := Z10.out; have := Z11.out; have := Z12.out; have := Z13.out; rcases hc with hc | hc <;> (have := hc.1; have := hc.2; dsimp only at *; omega)))).trans kb0_1
      replace kb0_2 : wm0.cell? ⟨w.heap.size, 2, none⟩ = some (u0_conds) := (World.cell?_of_block (w := w12) (dm0.block _ (World.block_lt_of_cell? _ _ kb0_2) (fun hc => by have := Z1.out; have := bkb0_0.out; have := Z2.out; have := Z3.out; have := ZMp0_conds.out; have := ZMp0_out.out; have := Z4.out; have := Z5.out; have := ZV.out; have := Z6.out; have := ZMx0_conds.out; have := ZMx0_out.out; have := Z7.out; have := bkx0_0.out; have := Z8.out; have := Z9.out; have := Z10.out; have := Z11.out; have := Z12.out; have := Z13.out; rcases hc with hc | hc <;> (have := hc.1; have := hc.2; dsimp only at *; omega)))).trans kb0_2
      replace kb0_3 : wm0.cell? ⟨w.heap.size, 3, none⟩ = some (u0_out) := (World.cell?_of_block (w := w12) (dm0.block _ (World.block_lt_of_cell? _ _ kb0_3) (fun hc => by have := Z1.out; have := bkb0_0.out; have := Z2.out; have := Z3.out; have := ZMp0_conds.out; have := ZMp0_out.out; have := Z4.out; have := Z5.out; have := ZV.out; have := Z6.out; have := ZMx0_conds.out; have := ZMx0_out.out; have := Z7.out; have := bkx0_0.out; have := Z8.out; have := Z9.out; have := Z10.out; have := Z11.out; have := Z12.out; have := Z13.out; rcases hc with hc | hc <;> (have := hc.1; have := hc.2; dsimp only at *; omega)))).trans kb0_3
      replace kx0_0 : wm0.cell? ⟨w6.heap.size, 0, none⟩ = some (.int .i64 x0.id) := (World.cell?_of_block (w := w12) (dm0.block _ (World.block_lt_of_cell? _ _ kx0_0) (fun hc => by have := Z1.out; have := bkb0_0.out; have := Z2.out; have := Z3.out; have := ZMp0_conds.out; have := ZMp0_out.out; have := Z4.out; have := Z5.out; have := ZV.out; have := Z6.out; have := ZMx0_conds.out; have := ZMx0_out.out; have := Z7.out; have := bkx0_0.out; have := Z8.out; have := Z9.out; have := Z10.out; have := Z11.out; have := Z12.out; have := Z13.out; rcases hc with hc | hc <;> (have := hc.1; have := hc.2; dsimp only at *; omega)))).trans kx0_0
      replace kx0_1 : wm0.cell? ⟨w6.heap.size, 1, none⟩ = some (.int .i64 x0.tenant) := (World.cell?_of_block (w := w12) (dm0.block _ (World.block_lt_of_cell? _ _ kx0_1) (fun hc => by have := Z1.out; have := bkb0_0.out; have := Z2.out; have := Z3.out; have := ZMp0_conds.out; have := ZMp0_out.out; have := Z4.out; have := Z5.out; have := ZV.out; have := Z6.out; have := ZMx0_conds.out; have := ZMx0_out.out; have := Z7.out; have := bkx0_0.out; have := Z8.out; have := Z9.out; have := Z10.out; have := Z11.out; have := Z12.out; have := Z13.out; rcases hc with hc | hc <;> (have := hc.1; have := hc.2; dsimp only at *; omega)))).trans kx0_1
      replace kx0_2 : wm0.cell? ⟨w6.heap.size, 2, none⟩ = some (.slice ax0_conds nx0_conds cx0_conds) := (World.cell?_of_block (w := w12) (dm0.block _ (World.block_lt_of_cell? _ _ kx0_2) (fun hc => by have := Z1.out; have := bkb0_0.out; have := Z2.out; have := Z3.out; have := ZMp0_conds.out; have := ZMp0_out.out; have := Z4.out; have := Z5.out; have := ZV.out; have := Z6.out; have := ZMx0_conds.out; have := ZMx0_out.out; have := Z7.out; have := bkx0_0.out; have := Z8.out; have := Z9.out; have := Z10.out; have := Z11.out; have := Z12.out; have := Z13.out; rcases hc with hc | hc <;> (have := hc.1; have := hc.2; dsimp only at *; omega)))).trans kx0_2
      replace kx0_3 : wm0.cell? ⟨w6.heap.size, 3, none⟩ = some (.slice ax0_out nx0_out cx0_out) := (World.cell?_of_block (w := w12) (dm0.block _ (World.block_lt_of_cell? _ _ kx0_3) (fun hc => by have := Z1.out; have := bkb0_0.out; have := Z2.out; have := Z3.out; have := ZMp0_conds.out; have := ZMp0_out.out; have := Z4.out; have := Z5.out; have := ZV.out; have := Z6.out; have := ZMx0_conds.out; have := ZMx0_out.out; have := Z7.out; have := bkx0_0.out; have := Z8.out; have := Z9.out; have := Z10.out; have := Z11.out; have := Z12.out; have := Z13.out; rcases hc with hc | hc <;> (have := hc.1; have := hc.2; dsimp only at *; omega)))).trans kx0_3
      clear hx0_conds
      clear hx0_out
      have cu0 : 0 ≤ (((1 : Int) + (sumT cntCond x0.conds : Int)) + (sumT cntI x0.out : Int)) := by omega
      have cb1 := HQ1.out
      have cm1 := cnt_RowS x1
      go_wp2_with fail
      refine (laws_markRowS (In (w6.heap.size + 1) w7.heap.size) _ x1 (((1 : Int) + (sumT cntCond x0.conds : Int)) + (sumT cntI x0.out : Int)) _ hx1.out (by omega) (by omega)).mono ?_
      rintro e wm1 ⟨rfl, _, dm1⟩
      have Z14 : Hid (wm0.heap.size ≤ wm1.heap.size) := Lib.hid dm1.size
      replace gw : Hid (Gr w wm1) := Lib.hid (Gr.trans' gw.out (dm1.below (fun b hb => by have := Z1.out; have := bkb0_0.out; have := Z2.out; have := Z3.out; have := ZMp0_conds.out; have := ZMp0_out.out; have := Z4.out; have := Z5.out; have := ZV.out; have := Z6.out; have := ZMx0_conds.out; have := ZMx0_out.out; have := Z7.out; have := bkx0_0.out; have := Z8.out; have := Z9.out; have := Z10.out; have := Z11.out; have := Z12.out; have := Z13.out; have := Z14.out; have := hb.1; omega) (gw.out.size)))
      replace gv : Hid (Gr w5 wm1) := Lib.hid (Gr.trans' gv.out (dm1.below (fun b hb => by have := Z1.out; have := bkb0_0.out; have := Z2.out; have := Z3.out; have := ZMp0_conds.out; have := ZMp0_out.out; have := Z4.out; have := Z5.out; have := ZV.out; have := Z6.out; have := ZMx0_conds.out; have := ZMx0_out.out; have := Z7.out; have := bkx0_0.out; have := Z8.out; have := Z9.out; have := Z10.out; have := Z11.out; have := Z12.out; have := Z13.out; have := Z14.out; have := hb.1; omega) (gv.out.size)))
      replace h0_conds : Hid (RConds wm1 u0_conds x0.conds) := Lib.hid (RSlice.mono keeps_cond gw.out Bh0_conds.out)
      replace h0_out : Hid (RInts wm1 u0_out x0.out) := Lib.hid (RSlice.mono keeps_int gw.out Bh0_out.out)
      replace hv1 : Hid (RRows wm1 (.slice a1 x1.length c1) x1) := Lib.hid (RSlice.mono keeps_row gw.out Bhv1.out)
      replace hw0 : Hid (RRows wm1 (.slice aw0 nw0 cw0) (answerL x0 x1)) := Lib.hid (RSlice.mono keeps_row gv.out Bhw0.out)
      replace hg0 : Hid (PRows (In w7.heap.size w8.heap.size) wm1 (.slice ag0 ng0 cg0) (answerL x0 x1)) := Lib.hid (OSl.frame fr_row hg0.out (dm1.agree fun b hb hc => by have := Z1.out; have := bkb0_0.out; have := Z2.out; have := Z3.out; have := ZMp0_conds.out; have := ZMp0_out.out; have := Z4.out; have := Z5.out; have := ZV.out; have := Z6.out; have := ZMx0_conds.out; have := ZMx0_out.out; have := Z7.out; have := bkx0_0.out; have := Z8.out; have := Z9.out; have := Z10.out; have := Z11.out; have := Z12.out; have := Z13.out; have := Z14.out; have := hb.1; have := hb.2; have := hc.1; have := hc.2; omega))
      replace kb0_0 : wm1.cell? ⟨w.heap.size, 0, none⟩ = some (.int .i64 x0.id) := (World.cell?_of_block (w := wm0) (dm1.block _ (World.block_lt_of_cell? _ _ kb0_0) (fun hc => by have := Z1.out; have := bkb0_0.out; have := Z2.out; have := Z3.out; have := ZMp0_conds.out; have := ZMp0_out.out; have := Z4.out; have := Z5.out; have := ZV.out; have := Z6.out; have := ZMx0_conds.out; have := ZMx0_out.out; have := Z7.out; have := bkx0_0.out; have := Z8.out; have := Z9.out; have := Z10.out; have := Z11.out; have := Z12.out; have := Z13.out; have := Z14.out; have := hc.1; have := hc.2; dsimp only at *; omega))).trans kb0_0
      replace kb0_1 : wm1.cell? ⟨w.heap.size, 1, none⟩ = some (.int .i64 x0.tenant) := (World.cell?_of_block (w := wm0) (dm1.block _ (World.block_lt_of_cell? _ _ kb0_1) (fun hc => by have := Z1.out; have := bkb0_0.out; have := Z2.out; have := Z3.out; have := ZMp0_conds.out; have := ZMp0_out.out; have := Z4.out; have := Z5.out; have := ZV.out; have := Z6.out; have := ZMx0_conds.out; have := ZMx0_out.out; have := Z7.out; have := bkx0_0.out; have := Z8.out; have := Z9.out; have := Z10.out; have := Z11.out; have := Z12.out; have := Z13.out; have := Z14.out; have := hc.1; have := hc.2; dsimp only at *; omega))).trans kb0_1
      replace kb0_2 : wm1.cell? ⟨w.heap.size, 2, none⟩ = some (u0_conds) := (World.cell?_of_block (w := wm0) (dm1.block _ (World.block_lt_of_cell? _ _ kb0_2) (fun hc => by have := Z1.out; have := bkb0_0.out; have := Z2.out; have := Z3.out; have := ZMp0_conds.out; have := ZMp0_out.out; have := Z4.out; have := Z5.out; have := ZV.out; have := Z6.out; have := ZMx0_conds.out; have := ZMx0_out.out; have := Z7.out; have := bkx0_0.out; have := Z8.out; have := Z9.out; have := Z10.out; have := Z11.out; have := Z12.out; have := Z13.out; have := Z14.out; have := hc.1; have := hc.2; dsimp only at *; omega))).trans kb0_2
      replace kb0_3 : wm1.cell? ⟨w.heap.size, 3, none⟩ = some (u0_out) := (World.cell?_of_block (w := wm0) (dm1.block _ (World.block_lt_of_cell? _ _ kb0_3) (fun hc => by have := Z1.out; have := bkb0_0.out; have := Z2.out; have := Z3.out; have := ZMp0_conds.out; have := ZMp0_out.out; have := Z4.out; have := Z5.out; have := ZV.out; have := Z6.out; have := ZMx0_conds.out; have := ZMx0_out.out; have := Z7.out; have := bkx0_0.out; have := Z8.out; have := Z9.out; have := Z10.out; have := Z11.out; have := Z12.out; have := Z13.out; have := Z14.out; have := hc.1; have := hc.2; dsimp only at *; omega))).trans kb0_3
      replace kx0_0 : wm1.cell? ⟨w6.heap.size, 0, none⟩ = some (.int .i64 x0.id) := (World.cell?_of_block (w := wm0) (dm1.block _ (World.block_lt_of_cell? _ _ kx0_0) (fun hc => by have := Z1.out; have := bkb0_0.out; have := Z2.out; have := Z3.out; have := ZMp0_conds.out; have := ZMp0_out.out; have := Z4.out; have := Z5.out; have := ZV.out; have := Z6.out; have := ZMx0_conds.out; have := ZMx0_out.out; have := Z7.out; have := bkx0_0.out; have := Z8.out; have := Z9.out; have := Z10.out; have := Z11.out; have := Z12.out; have := Z13.out; have := Z14.out; have := hc.1; have := hc.2; dsimp only at *; omega))).trans kx0_0
      replace kx0_1 : wm1.cell? ⟨w6.heap.size, 1, none⟩ = some (.int .i64 x0.tenant) := (World.cell?_of_block (w := wm0) (dm1.block _ (World.block_lt_of_cell? _ _ kx0_1) (fun hc => by have := Z1.out; have := bkb0_0.out; have := Z2.out; have := Z3.out; have := ZMp0_conds.out; have := ZMp0_out.out; have := Z4.out; have := Z5.out; have := ZV.out; have := Z6.out; have := ZMx0_conds.out; have := ZMx0_out.out; have := Z7.out; have := bkx0_0.out; have := Z8.out; have := Z9.out; have := Z10.out; have := Z11.out; have := Z12.out; have := Z13.out; have := Z14.out; have := hc.1; have := hc.2; dsimp only at *; omega))).trans kx0_1
      replace kx0_2 : wm1.cell? ⟨w6.heap.size, 2, none⟩ = some (.slice ax0_conds nx0_conds cx0_conds) := (World.cell?_of_block (w := wm0) (dm1.block _ (World.block_lt_of_cell? _ _ kx0_2) (fun hc => by have := Z1.out; have := bkb0_0.out; have := Z2.out; have := Z3.out; have := ZMp0_conds.out; have := ZMp0_out.out; have := Z4.out; have := Z5.out; have := ZV.out; have := Z6.out; have := ZMx0_conds.out; have := ZMx0_out.out; have := Z7.out; have := bkx0_0.out; have := Z8.out; have := Z9.out; have := Z10.out; have := Z11.out; have := Z12.out; have := Z13.out; have := Z14.out; have := hc.1; have := hc.2; dsimp only at *; omega))).trans kx0_2
      replace kx0_3 : wm1.cell? ⟨w6.heap.size, 3, none⟩ = some (.slice ax0_out nx0_out cx0_out) := (World.cell?_of_block (w := wm0) (dm1.block _ (World.block_lt_of_cell? _ _ kx0_3) (fun hc => by have := Z1.out; have := bkb0_0.out; have := Z2.out; have := Z3.out; have := ZMp0_conds.out; have := ZMp0_out.out; have := Z4.out; have := Z5.out; have := ZV.out; have := Z6.out; have := ZMx0_conds.out; have := ZMx0_out.out; have := Z7.out; have := bkx0_0.out; have := Z8.out; have := Z9.out; have := Z10.out; have := Z11.out; have := Z12.out; have := Z13.out; have := Z14.out; have := hc.1; have := hc.2; dsimp only at *; omega))).trans kx0_3
      clear hx1
      have cu1 : 0 ≤ ((((1 : Int) + (sumT cntCond x0.conds : Int)) + (sumT cntI x0.out : Int)) + (sumT cntRow x1 : Int)) := by omega
      clear kx0_0
      clear kx0_1
      clear kx0_2
      clear kx0_3
      go_wp2_with fail
      refine (laws_eqRowS_same _ _ (answerL x0 x1) _ (rd_prows hg0.out) hw0.out).mono ?_
      rintro e w15 ⟨rfl, g15⟩
      have Z15 : Hid (wm1.heap.size + 0 ≤ w15.heap.size) := Lib.hid (by have := g15.size; simpa using this)
      replace h0_conds : Hid (RConds w15 u0_conds x0.conds) := Lib.hid (RSlice.mono keeps_cond g15 h0_conds.out)
      replace h0_out : Hid (RInts w15 u0_out x0.out) := Lib.hid (RSlice.mono keeps_int g15 h0_out.out)
      replace hv1 : Hid (RRows w15 (.slice a1 x1.length c1) x1) := Lib.hid (RSlice.mono keeps_row g15 hv1.out)
      replace hw0 : Hid (RRows w15 (.slice aw0 nw0 cw0) (answerL x0 x1)) := Lib.hid (RSlice.mono keeps_row g15 hw0.out)
      replace hg0 : Hid (PRows (In w7.heap.size w8.heap.size) w15 (.slice ag0 ng0 cg0) (answerL x0 x1)) := Lib.hid (OSl.gr fr_row hg0.out g15)
      replace kb0_0 : w15.cell? ⟨w.heap.size, 0, none⟩ = some (.int .i64 x0.id) := g15.cellv kb0_0
      replace kb0_1 : w15.cell? ⟨w.heap.size, 1, none⟩ = some (.int .i64 x0.tenant) := g15.cellv kb0_1
      replace kb0_2 : w15.cell? ⟨w.heap.size, 2, none⟩ = some (u0_conds) := g15.cellv kb0_2
      replace kb0_3 : w15.cell? ⟨w.heap.size, 3, none⟩ = some (u0_out) := g15.cellv kb0_3
      replace gw : Hid (Gr w w15) := Lib.hid (gw.out.trans g15)
      replace gv : Hid (Gr w5 w15) := Lib.hid (gv.out.trans g15)
      have HBR := Lib.hid (show (1 : Int) + (sumT cntRow (answerL x0 x1) : Int) ≤ 4611686018427387904 from by have := answerL_small x0 x1; have := HT1.out; omega)
      have hbr := HBR.out
      go_wp2_with fail
      refine (laws_markRowS (In w7.heap.size w8.heap.size) _ (answerL x0 x1) (1 : Int) _ hg0.out (by omega) (by omega)).mono ?_
      rintro e wg0 ⟨rfl, qhg0, dg0⟩
      have Z16 : Hid (w15.heap.size ≤ wg0.heap.size) := Lib.hid dg0.size
      replace gw : Hid (Gr w wg0) := Lib.hid (Gr.trans' gw.out (dg0.below (fun b hb => by have := Z1.out; have := bkb0_0.out; have := Z2.out; have := Z3.out; have := ZMp0_conds.out; have := ZMp0_out.out; have := Z4.out; have := Z5.out; have := ZV.out; have := Z6.out; have := ZMx0_conds.out; have := ZMx0_out.out; have := Z7.out; have := bkx0_0.out; have := Z8.out; have := Z9.out; have := Z10.out; have := Z11.out; have := Z12.out; have := Z13.out; have := Z14.out; have := Z15.out; have := Z16.out; have := hb.1; omega) (gw.out.size)))
      replace gv : Hid (Gr w5 wg0) := Lib.hid (Gr.trans' gv.out (dg0.below (fun b hb => by have := Z1.out; have := bkb0_0.out; have := Z2.out; have := Z3.out; have := ZMp0_conds.out; have := ZMp0_out.out; have := Z4.out; have := Z5.out; have := ZV.out; have := Z6.out; have := ZMx0_conds.out; have := ZMx0_out.out; have := Z7.out; have := bkx0_0.out; have := Z8.out; have := Z9.out; have := Z10.out; have := Z11.out; have := Z12.out; have := Z13.out; have := Z14.out; have := Z15.out; have := Z16.out; have := hb.1; omega) (gv.out.size)))
      replace h0_conds : Hid (RConds wg0 u0_conds x0.conds) := Lib.hid (RSlice.mono keeps_cond gw.out Bh0_conds.out)
      replace h0_out : Hid (RInts wg0 u0_out x0.out) := Lib.hid (RSlice.mono keeps_int gw.out Bh0_out.out)
      replace hv1 : Hid (RRows wg0 (.slice a1 x1.length c1) x1) := Lib.hid (RSlice.mono keeps_row gw.out Bhv1.out)
      replace hw0 : Hid (RRows wg0 (.slice aw0 nw0 cw0) (answerL x0 x1)) := Lib.hid (RSlice.mono keeps_row gv.out Bhw0.out)
      replace kb0_0 : wg0.cell? ⟨w.heap.size, 0, none⟩ = some (.int .i64 x0.id) := (World.cell?_of_block (w := w15) (dg0.block _ (World.block_lt_of_cell? _ _ kb0_0) (fun hc => by have := Z1.out; have := bkb0_0.out; have := Z2.out; have := Z3.out; have := ZMp0_conds.out; have := ZMp0_out.out; have := Z4.out; have := Z5.out; have := ZV.out; have := Z6.out; have := ZMx0_conds.out; have := ZMx0_out.out; have := Z7.out; have := bkx0_0.out; have := Z8.out; have := Z9.out; have := Z10.out; have := Z11.out; have := Z12.out; have := Z13.out; have := Z14.out; have := Z15.out; have := Z16.out; have := hc.1; have := hc.2; dsimp only at *; omega))).trans kb0_0
      replace kb0_1 : wg0.cell? ⟨w.heap.size, 1, none⟩ = some (.int .i64 x0.tenant) := (World.cell?_of_block (w := w15) (dg0.block _ (World.block_lt_of_cell? _ _ kb0_1) (fun hc => by have := Z1.out; have := bkb0_0.out; have := Z2.out; have := Z3.out; have := ZMp0_conds.out; have := ZMp0_out.out; have := Z4.out; have := Z5.out; have := ZV.out; have := Z6.out; have := ZMx0_conds.out; have := ZMx0_out.out; have := Z7.out; have := bkx0_0.out; have := Z8.out; have := Z9.out; have := Z10.out; have := Z11.out; have := Z12.out; have := Z13.out; have := Z14.out; have := Z15.out; have := Z16.out; have := hc.1; have := hc.2; dsimp only at *; omega))).trans kb0_1
      replace kb0_2 : wg0.cell? ⟨w.heap.size, 2, none⟩ = some (u0_conds) := (World.cell?_of_block (w := w15) (dg0.block _ (World.block_lt_of_cell? _ _ kb0_2) (fun hc => by have := Z1.out; have := bkb0_0.out; have := Z2.out; have := Z3.out; have := ZMp0_conds.out; have := ZMp0_out.out; have := Z4.out; have := Z5.out; have := ZV.out; have := Z6.out; have := ZMx0_conds.out; have := ZMx0_out.out; have := Z7.out; have := bkx0_0.out; have := Z8.out; have := Z9.out; have := Z10.out; have := Z11.out; have := Z12.out; have := Z13.out; have := Z14.out; have := Z15.out; have := Z16.out; have := hc.1; have := hc.2; dsimp only at *; omega))).trans kb0_2
      replace kb0_3 : wg0.cell? ⟨w.heap.size, 3, none⟩ = some (u0_out) := (World.cell?_of_block (w := w15) (dg0.block _ (World.block_lt_of_cell? _ _ kb0_3) (fun hc => by have := Z1.out; have := bkb0_0.out; have := Z2.out; have := Z3.out; have := ZMp0_conds.out; have := ZMp0_out.out; have := Z4.out; have := Z5.out; have := ZV.out; have := Z6.out; have := ZMx0_conds.out; have := ZMx0_out.out; have := Z7.out; have := bkx0_0.out; have := Z8.out; have := Z9.out; have := Z10.out; have := Z11.out; have := Z12.out; have := Z13.out; have := Z14.out; have := Z15.out; have := Z16.out; have := hc.1; have := hc.2; dsimp only at *; omega))).trans kb0_3
      clear hg0
      have Mhg0 : Hid (RRows wg0 (.slice ag0 ng0 cg0) (marksTo mkRow cntRow (1 : Int) (answerL x0 x1).length (answerL x0 x1))) := Lib.hid (rd_prows qhg0)
      clear qhg0
      have hcg0 : 0 ≤ ((1 : Int) + (sumT cntRow (answerL x0 x1) : Int)) := by omega
      have ef : (((1 : Int) + (sumT cntRow (answerL x0 x1) : Int)) != ((1 : Int) + (sumT cntRow (answerL x0 x1) : Int))) = false := by simp
      go_wp2_with fail
      refine (laws_heldRowS _ (answerL x0 x1) (1 : Int) _ Mhg0.out (by omega) (by omega)).mono ?_
      rintro e w17 ⟨rfl, g17⟩
      have Z17 : Hid (wg0.heap.size + 0 ≤ w17.heap.size) := Lib.hid (by have := g17.size; simpa using this)
      replace h0_conds : Hid (RConds w17 u0_conds x0.conds) := Lib.hid (RSlice.mono keeps_cond g17 h0_conds.out)
      replace h0_out : Hid (RInts w17 u0_out x0.out) := Lib.hid (RSlice.mono keeps_int g17 h0_out.out)
      replace hv1 : Hid (RRows w17 (.slice a1 x1.length c1) x1) := Lib.hid (RSlice.mono keeps_row g17 hv1.out)
      replace hw0 : Hid (RRows w17 (.slice aw0 nw0 cw0) (answerL x0 x1)) := Lib.hid (RSlice.mono keeps_row g17 hw0.out)
      replace Mhg0 : Hid (RRows w17 (.slice ag0 ng0 cg0) (marksTo mkRow cntRow (1 : Int) (answerL x0 x1).length (answerL x0 x1))) := Lib.hid (RSlice.mono keeps_row g17 Mhg0.out)
      replace kb0_0 : w17.cell? ⟨w.heap.size, 0, none⟩ = some (.int .i64 x0.id) := g17.cellv kb0_0
      replace kb0_1 : w17.cell? ⟨w.heap.size, 1, none⟩ = some (.int .i64 x0.tenant) := g17.cellv kb0_1
      replace kb0_2 : w17.cell? ⟨w.heap.size, 2, none⟩ = some (u0_conds) := g17.cellv kb0_2
      replace kb0_3 : w17.cell? ⟨w.heap.size, 3, none⟩ = some (u0_out) := g17.cellv kb0_3
      replace gw : Hid (Gr w w17) := Lib.hid (gw.out.trans g17)
      replace gv : Hid (Gr w5 w17) := Lib.hid (gv.out.trans g17)
      go_wp2_with fail
      refine (laws_toQuery_own x0 u0_conds u0_out _ h0_conds.out h0_out.out HT0.out).mono ?_
      rintro e w18 ⟨vz0_conds, vz0_out, rfl, g18, mz0, hmz0, hnz0, r_hz0_conds, r_hz0_out⟩
      have Z18 : Hid (w17.heap.size + 0 ≤ w18.heap.size) := Lib.hid (by have := g18.size; simpa using this)
      replace h0_conds : Hid (RConds w18 u0_conds x0.conds) := Lib.hid (RSlice.mono keeps_cond g18 h0_conds.out)
      replace h0_out : Hid (RInts w18 u0_out x0.out) := Lib.hid (RSlice.mono keeps_int g18 h0_out.out)
      replace hv1 : Hid (RRows w18 (.slice a1 x1.length c1) x1) := Lib.hid (RSlice.mono keeps_row g18 hv1.out)
      replace hw0 : Hid (RRows w18 (.slice aw0 nw0 cw0) (answerL x0 x1)) := Lib.hid (RSlice.mono keeps_row g18 hw0.out)
      replace Mhg0 : Hid (RRows w18 (.slice ag0 ng0 cg0) (marksTo mkRow cntRow (1 : Int) (answerL x0 x1).length (answerL x0 x1))) := Lib.hid (RSlice.mono keeps_row g18 Mhg0.out)
      replace kb0_0 : w18.cell? ⟨w.heap.size, 0, none⟩ = some (.int .i64 x0.id) := g18.cellv kb0_0
      replace kb0_1 : w18.cell? ⟨w.heap.size, 1, none⟩ = some (.int .i64 x0.tenant) := g18.cellv kb0_1
      replace kb0_2 : w18.cell? ⟨w.heap.size, 2, none⟩ = some (u0_conds) := g18.cellv kb0_2
      replace kb0_3 : w18.cell? ⟨w.heap.size, 3, none⟩ = some (u0_out) := g18.cellv kb0_3
      replace gw : Hid (Gr w w18) := Lib.hid (gw.out.trans g18)
      replace gv : Hid (Gr w5 w18) := Lib.hid (gv.out.trans g18)
      obtain ⟨az0_conds, nz0_conds, cz0_conds, rfl⟩ := r_hz0_conds.isSl
      have ZMz0_conds : Hid (w17.heap.size ≤ mz0) := Lib.hid (by have := hmz0; (try simp at this); omega)
      have hz0_conds : Hid (PConds (In w17.heap.size mz0) w18 (.slice az0_conds nz0_conds cz0_conds) x0.conds) := Lib.hid (r_hz0_conds.wide (by simp) (by omega))
      clear r_hz0_conds
      obtain ⟨az0_out, nz0_out, cz0_out, rfl⟩ := r_hz0_out.isSl
      have ZMz0_out : Hid (w17.heap.size ≤ mz0) := Lib.hid (by have := hmz0; (try simp at this); omega)
      have hz0_out : Hid (PInts (In mz0 w18.heap.size) w18 (.slice az0_out nz0_out cz0_out) x0.out) := Lib.hid (r_hz0_out.wide (Nat.le_refl _) (by omega))
      clear r_hz0_out
      go_wp2_with fail
      refine (laws_toRowS_own _ x1 _ hv1.out HT1.out).mono ?_
      rintro e w19 ⟨_, rfl, ⟨az1, nz1, cz1, rfl⟩, g19, r_hz1⟩
      have Z19 : Hid (w18.heap.size + 0 ≤ w19.heap.size) := Lib.hid (by have := g19.size; simpa using this)
      replace h0_conds : Hid (RConds w19 u0_conds x0.conds) := Lib.hid (RSlice.mono keeps_cond g19 h0_conds.out)
      replace h0_out : Hid (RInts w19 u0_out x0.out) := Lib.hid (RSlice.mono keeps_int g19 h0_out.out)
      replace hv1 : Hid (RRows w19 (.slice a1 x1.length c1) x1) := Lib.hid (RSlice.mono keeps_row g19 hv1.out)
      replace hw0 : Hid (RRows w19 (.slice aw0 nw0 cw0) (answerL x0 x1)) := Lib.hid (RSlice.mono keeps_row g19 hw0.out)
      replace Mhg0 : Hid (RRows w19 (.slice ag0 ng0 cg0) (marksTo mkRow cntRow (1 : Int) (answerL x0 x1).length (answerL x0 x1))) := Lib.hid (RSlice.mono keeps_row g19 Mhg0.out)
      replace hz0_conds : Hid (PConds (In w17.heap.size mz0) w19 (.slice az0_conds nz0_conds cz0_conds) x0.conds) := Lib.hid (OSl.gr fr_cond hz0_conds.out g19)
      replace hz0_out : Hid (PInts (In mz0 w18.heap.size) w19 (.slice az0_out nz0_out cz0_out) x0.out) := Lib.hid (OSl.gr fr_int hz0_out.out g19)
      replace kb0_0 : w19.cell? ⟨w.heap.size, 0, none⟩ = some (.int .i64 x0.id) := g19.cellv kb0_0
      replace kb0_1 : w19.cell? ⟨w.heap.size, 1, none⟩ = some (.int .i64 x0.tenant) := g19.cellv kb0_1
      replace kb0_2 : w19.cell? ⟨w.heap.size, 2, none⟩ = some (u0_conds) := g19.cellv kb0_2
      replace kb0_3 : w19.cell? ⟨w.heap.size, 3, none⟩ = some (u0_out) := g19.cellv kb0_3
      replace gw : Hid (Gr w w19) := Lib.hid (gw.out.trans g19)
      replace gv : Hid (Gr w5 w19) := Lib.hid (gv.out.trans g19)
      have hz1 : Hid (PRows (In w18.heap.size w19.heap.size) w19 (.slice az1 nz1 cz1) x1) := Lib.hid (r_hz1.wide (by simp) (by omega))
      clear r_hz1
      go_wp2_with fail
      refine (impl_AnswerAlone x0 _ _ _ x1 _ (rd_pconds hz0_conds.out) (rd_pints hz0_out.out) (rd_prows hz1.out) HQ1.out).mono ?_
      rintro e w20 ⟨vh0, rfl, g20, r_hh0⟩
      have Z20 : Hid (w19.heap.size + 0 ≤ w20.heap.size) := Lib.hid (by have := g20.size; simpa using this)
      replace h0_conds : Hid (RConds w20 u0_conds x0.conds) := Lib.hid (RSlice.mono keeps_cond g20 h0_conds.out)
      replace h0_out : Hid (RInts w20 u0_out x0.out) := Lib.hid (RSlice.mono keeps_int g20 h0_out.out)
      replace hv1 : Hid (RRows w20 (.slice a1 x1.length c1) x1) := Lib.hid (RSlice.mono keeps_row g20 hv1.out)
      replace hw0 : Hid (RRows w20 (.slice aw0 nw0 cw0) (answerL x0 x1)) := Lib.hid (RSlice.mono keeps_row g20 hw0.out)
      replace Mhg0 : Hid (RRows w20 (.slice ag0 ng0 cg0) (marksTo mkRow cntRow (1 : Int) (answerL x0 x1).length (answerL x0 x1))) := Lib.hid (RSlice.mono keeps_row g20 Mhg0.out)
      replace hz0_conds : Hid (PConds (In w17.heap.size mz0) w20 (.slice az0_conds nz0_conds cz0_conds) x0.conds) := Lib.hid (OSl.gr fr_cond hz0_conds.out g20)
      replace hz0_out : Hid (PInts (In mz0 w18.heap.size) w20 (.slice az0_out nz0_out cz0_out) x0.out) := Lib.hid (OSl.gr fr_int hz0_out.out g20)
      replace hz1 : Hid (PRows (In w18.heap.size w19.heap.size) w20 (.slice az1 nz1 cz1) x1) := Lib.hid (OSl.gr fr_row hz1.out g20)
      replace kb0_0 : w20.cell? ⟨w.heap.size, 0, none⟩ = some (.int .i64 x0.id) := g20.cellv kb0_0
      replace kb0_1 : w20.cell? ⟨w.heap.size, 1, none⟩ = some (.int .i64 x0.tenant) := g20.cellv kb0_1
      replace kb0_2 : w20.cell? ⟨w.heap.size, 2, none⟩ = some (u0_conds) := g20.cellv kb0_2
      replace kb0_3 : w20.cell? ⟨w.heap.size, 3, none⟩ = some (u0_out) := g20.cellv kb0_3
      replace gw : Hid (Gr w w20) := Lib.hid (gw.out.trans g20)
      replace gv : Hid (Gr w5 w20) := Lib.hid (gv.out.trans g20)
      clear hz0_conds
      clear hz0_out
      clear hz1
      obtain ⟨ah0, nh0, ch0, rfl⟩ := r_hh0.isSl
      have hh0 : Hid (PRows (In w19.heap.size w20.heap.size) w20 (.slice ah0 nh0 ch0) (answerL x0 x1)) := Lib.hid (r_hh0.wide (by simp) (by omega))
      clear r_hh0
      go_wp2_with fail
      refine (laws_eqRowS_same _ _ (answerL x0 x1) _ (rd_prows hh0.out) hw0.out).mono ?_
      rintro e w21 ⟨rfl, g21⟩
      have Z21 : Hid (w20.heap.size + 0 ≤ w21.heap.size) := Lib.hid (by have := g21.size; simpa using this)
      replace h0_conds : Hid (RConds w21 u0_conds x0.conds) := Lib.hid (RSlice.mono keeps_cond g21 h0_conds.out)
      replace h0_out : Hid (RInts w21 u0_out x0.out) := Lib.hid (RSlice.mono keeps_int g21 h0_out.out)
      replace hv1 : Hid (RRows w21 (.slice a1 x1.length c1) x1) := Lib.hid (RSlice.mono keeps_row g21 hv1.out)
      replace hw0 : Hid (RRows w21 (.slice aw0 nw0 cw0) (answerL x0 x1)) := Lib.hid (RSlice.mono keeps_row g21 hw0.out)
      replace Mhg0 : Hid (RRows w21 (.slice ag0 ng0 cg0) (marksTo mkRow cntRow (1 : Int) (answerL x0 x1).length (answerL x0 x1))) := Lib.hid (RSlice.mono keeps_row g21 Mhg0.out)
      replace hh0 : Hid (PRows (In w19.heap.size w20.heap.size) w21 (.slice ah0 nh0 ch0) (answerL x0 x1)) := Lib.hid (OSl.gr fr_row hh0.out g21)
      replace kb0_0 : w21.cell? ⟨w.heap.size, 0, none⟩ = some (.int .i64 x0.id) := g21.cellv kb0_0
      replace kb0_1 : w21.cell? ⟨w.heap.size, 1, none⟩ = some (.int .i64 x0.tenant) := g21.cellv kb0_1
      replace kb0_2 : w21.cell? ⟨w.heap.size, 2, none⟩ = some (u0_conds) := g21.cellv kb0_2
      replace kb0_3 : w21.cell? ⟨w.heap.size, 3, none⟩ = some (u0_out) := g21.cellv kb0_3
      replace gw : Hid (Gr w w21) := Lib.hid (gw.out.trans g21)
      replace gv : Hid (Gr w5 w21) := Lib.hid (gv.out.trans g21)
      go_wp2_with fail
      refine (laws_heldRowS _ (answerL x0 x1) (1 : Int) _ Mhg0.out (by omega) (by omega)).mono ?_
      rintro e w22 ⟨rfl, g22⟩
      have Z22 : Hid (w21.heap.size + 0 ≤ w22.heap.size) := Lib.hid (by have := g22.size; simpa using this)
      replace h0_conds : Hid (RConds w22 u0_conds x0.conds) := Lib.hid (RSlice.mono keeps_cond g22 h0_conds.out)
      replace h0_out : Hid (RInts w22 u0_out x0.out) := Lib.hid (RSlice.mono keeps_int g22 h0_out.out)
      replace hv1 : Hid (RRows w22 (.slice a1 x1.length c1) x1) := Lib.hid (RSlice.mono keeps_row g22 hv1.out)
      replace hw0 : Hid (RRows w22 (.slice aw0 nw0 cw0) (answerL x0 x1)) := Lib.hid (RSlice.mono keeps_row g22 hw0.out)
      replace Mhg0 : Hid (RRows w22 (.slice ag0 ng0 cg0) (marksTo mkRow cntRow (1 : Int) (answerL x0 x1).length (answerL x0 x1))) := Lib.hid (RSlice.mono keeps_row g22 Mhg0.out)
      replace hh0 : Hid (PRows (In w19.heap.size w20.heap.size) w22 (.slice ah0 nh0 ch0) (answerL x0 x1)) := Lib.hid (OSl.gr fr_row hh0.out g22)
      replace kb0_0 : w22.cell? ⟨w.heap.size, 0, none⟩ = some (.int .i64 x0.id) := g22.cellv kb0_0
      replace kb0_1 : w22.cell? ⟨w.heap.size, 1, none⟩ = some (.int .i64 x0.tenant) := g22.cellv kb0_1
      replace kb0_2 : w22.cell? ⟨w.heap.size, 2, none⟩ = some (u0_conds) := g22.cellv kb0_2
      replace kb0_3 : w22.cell? ⟨w.heap.size, 3, none⟩ = some (u0_out) := g22.cellv kb0_3
      replace gw : Hid (Gr w w22) := Lib.hid (gw.out.trans g22)
      replace gv : Hid (Gr w5 w22) := Lib.hid (gv.out.trans g22)
      go_wp2_with fail
      go_ret
      exact ⟨rfl, gw.out⟩
    · have HZ0 := Lib.hid (szV_yes (t := (totQuery x0)) (left := (1048576 : Int)) (by omega))
      have HA0 := Lib.hid (show (0 : Int) ≤ (1048576 : Int) ∧ (1048576 : Int) ≤ 1048576 from by omega)
      have HB0 := Lib.hid (show (0 : Int) ≤ (1048576 : Int) - ((totQuery x0) : Int) ∧ (1048576 : Int) - ((totQuery x0) : Int) ≤ 1048576 from by omega)
      have HZ1 := Lib.hid (szV_no (t := (totL totRow x1)) (left := (1048576 - ((totQuery x0) : Int))) (by omega))
      have HA1 := Lib.hid (show (0 : Int) ≤ (1048576 - ((totQuery x0) : Int)) ∧ (1048576 - ((totQuery x0) : Int)) ≤ 1048576 from by omega)
      clear hs0 hs1
      go_enter Try.func4, Try.ntmps4
      have Bh0_conds := Lib.hid h0_conds
      replace h0_conds := Lib.hid h0_conds
      have Bh0_out := Lib.hid h0_out
      replace h0_out := Lib.hid h0_out
      have Bhv1 := Lib.hid hv1
      replace hv1 := Lib.hid hv1
      go_wp2_with fail
      refine (laws_szQuery x0 u0_conds u0_out _ _ (RSlice.mono keeps_cond ((Gr.refl w).alloc _) h0_conds.out) (RSlice.mono keeps_int ((Gr.refl w).alloc _) h0_out.out) HA0.out.1 HA0.out.2).mono ?_
      rintro e w1 ⟨rfl, g1⟩
      have gs1 : Gr w w1 := ((Gr.refl w).alloc _).trans g1
      have Z1 : Hid (w.heap.size + 1 ≤ w1.heap.size) := Lib.hid (by have := g1.size; simpa using this)
      replace h0_conds : Hid (RConds w1 u0_conds x0.conds) := Lib.hid (RSlice.mono keeps_cond gs1 h0_conds.out)
      replace h0_out : Hid (RInts w1 u0_out x0.out) := Lib.hid (RSlice.mono keeps_int gs1 h0_out.out)
      replace hv1 : Hid (RRows w1 (.slice a1 x1.length c1) x1) := Lib.hid (RSlice.mono keeps_row gs1 hv1.out)
      have gw : Hid (Gr w w1) := Lib.hid gs1
      have kb0_0 : w1.cell? ⟨w.heap.size, 0, none⟩ = some (.int .i64 x0.id) := g1.cellv (by simp [go_sem])
      have kb0_1 : w1.cell? ⟨w.heap.size, 1, none⟩ = some (.int .i64 x0.tenant) := g1.cellv (by simp [go_sem])
      have kb0_2 : w1.cell? ⟨w.heap.size, 2, none⟩ = some (u0_conds) := g1.cellv (by simp [go_sem])
      have kb0_3 : w1.cell? ⟨w.heap.size, 3, none⟩ = some (u0_out) := g1.cellv (by simp [go_sem])
      have bkb0_0 : Hid (w.heap.size < w1.heap.size) := Lib.hid (by have := Z1.out; omega)
      rw [HZ0.out]
      have hB0 := HB0.out.1
      have hC0 := HB0.out.2
      go_wp2_with fail
      refine (laws_szRowS _ _ x1 _ hv1.out HA1.out.1 HA1.out.2).mono ?_
      rintro e w2 ⟨rfl, g2⟩
      have Z2 : Hid (w1.heap.size + 0 ≤ w2.heap.size) := Lib.hid (by have := g2.size; simpa using this)
      replace h0_conds : Hid (RConds w2 u0_conds x0.conds) := Lib.hid (RSlice.mono keeps_cond g2 h0_conds.out)
      replace h0_out : Hid (RInts w2 u0_out x0.out) := Lib.hid (RSlice.mono keeps_int g2 h0_out.out)
      replace hv1 : Hid (RRows w2 (.slice a1 x1.length c1) x1) := Lib.hid (RSlice.mono keeps_row g2 hv1.out)
      replace kb0_0 : w2.cell? ⟨w.heap.size, 0, none⟩ = some (.int .i64 x0.id) := g2.cellv kb0_0
      replace kb0_1 : w2.cell? ⟨w.heap.size, 1, none⟩ = some (.int .i64 x0.tenant) := g2.cellv kb0_1
      replace kb0_2 : w2.cell? ⟨w.heap.size, 2, none⟩ = some (u0_conds) := g2.cellv kb0_2
      replace kb0_3 : w2.cell? ⟨w.heap.size, 3, none⟩ = some (u0_out) := g2.cellv kb0_3
      replace gw : Hid (Gr w w2) := Lib.hid (gw.out.trans g2)
      rw [HZ1.out]
      go_wp2_with fail
      go_ret
      exact ⟨rfl, gw.out⟩
  · have HZ0 := Lib.hid (szV_no (t := (totQuery x0)) (left := (1048576 : Int)) (by omega))
    have HA0 := Lib.hid (show (0 : Int) ≤ (1048576 : Int) ∧ (1048576 : Int) ≤ 1048576 from by omega)
    clear hs0
    go_enter Try.func4, Try.ntmps4
    have Bh0_conds := Lib.hid h0_conds
    replace h0_conds := Lib.hid h0_conds
    have Bh0_out := Lib.hid h0_out
    replace h0_out := Lib.hid h0_out
    have Bhv1 := Lib.hid hv1
    replace hv1 := Lib.hid hv1
    go_wp2_with fail
    refine (laws_szQuery x0 u0_conds u0_out _ _ (RSlice.mono keeps_cond ((Gr.refl w).alloc _) h0_conds.out) (RSlice.mono keeps_int ((Gr.refl w).alloc _) h0_out.out) HA0.out.1 HA0.out.2).mono ?_
    rintro e w1 ⟨rfl, g1⟩
    have gs1 : Gr w w1 := ((Gr.refl w).alloc _).trans g1
    have Z1 : Hid (w.heap.size + 1 ≤ w1.heap.size) := Lib.hid (by have := g1.size; simpa using this)
    replace h0_conds : Hid (RConds w1 u0_conds x0.conds) := Lib.hid (RSlice.mono keeps_cond gs1 h0_conds.out)
    replace h0_out : Hid (RInts w1 u0_out x0.out) := Lib.hid (RSlice.mono keeps_int gs1 h0_out.out)
    replace hv1 : Hid (RRows w1 (.slice a1 x1.length c1) x1) := Lib.hid (RSlice.mono keeps_row gs1 hv1.out)
    have gw : Hid (Gr w w1) := Lib.hid gs1
    have kb0_0 : w1.cell? ⟨w.heap.size, 0, none⟩ = some (.int .i64 x0.id) := g1.cellv (by simp [go_sem])
    have kb0_1 : w1.cell? ⟨w.heap.size, 1, none⟩ = some (.int .i64 x0.tenant) := g1.cellv (by simp [go_sem])
    have kb0_2 : w1.cell? ⟨w.heap.size, 2, none⟩ = some (u0_conds) := g1.cellv (by simp [go_sem])
    have kb0_3 : w1.cell? ⟨w.heap.size, 3, none⟩ = some (u0_out) := g1.cellv (by simp [go_sem])
    have bkb0_0 : Hid (w.heap.size < w1.heap.size) := Lib.hid (by have := Z1.out; omega)
    rw [HZ0.out]
    go_wp2_with fail
    go_ret
    exact ⟨rfl, gw.out⟩

-- endgen
end Go.Proofs.Ytjeffagejbdjkaa
