/- The law's own helpers: marks, and what holds them. Written by gen_mark.py. -/
import Derived.Test.YtjeffagejbdjkaaDoorMg3
import Derived.Test.YtjeffagejbdjkaaDoorGenQuery
import Derived.Test.YtjeffagejbdjkaaDoorBase
namespace Go.Proofs.YtjeffagejbdjkaaDoor
open Go.RowKit
set_option linter.unusedSimpArgs false
set_option maxRecDepth 100000 in
set_option maxHeartbeats 4000000 in
theorem laws_markQuery (F1 F2 : Nat → Prop) (x : DQuery) (u_conds : Value) (u_out : Value) (k : Int) (w : World) (h_conds : PConds F1 w u_conds x.conds) (hF_conds : ∀ b, F1 b → b < w.heap.size) (h_out : PInts F2 w u_out x.out) (hF_out : ∀ b, F2 b → b < w.heap.size) (hd : ∀ b, F1 b → ¬ F2 b) (h0 : 0 ≤ k) (hb : k + ((sumT cntCond x.conds : Int) + (sumT cntI x.out : Int)) ≤ 4611686018427387904) :
    Calls Tryd.prog 45 #[.agg #[.int .i64 x.id, .int .i64 x.tenant, u_conds, u_out], .int .i64 k] w fun e w' => e = .returned (.int .i64 (k + (sumT cntCond x.conds : Int) + (sumT cntI x.out : Int))) ∧ PConds F1 w' u_conds (marksTo mkCond cntCond k x.conds.length x.conds) ∧ PInts F2 w' u_out (marksTo mkI cntI (k + (sumT cntCond x.conds : Int)) x.out.length x.out) ∧ Chg (fun b => F1 b ∨ F2 b) w w' := by
  obtain ⟨id, tenant, conds, out⟩ := x
  dsimp only at *
  obtain ⟨a_conds, c_conds, rfl⟩ := h_conds.form
  obtain ⟨a_out, c_out, rfl⟩ := h_out.form
  have gc : Chg (fun b => F1 b ∨ F2 b) w (w.alloc (.cells #[.int .i64 id, .int .i64 tenant, .slice a_conds conds.length c_conds, .slice a_out out.length c_out] 51)) := (Chg.refl _ w).alloc _
  have p_conds := OSl.gr fr_cond h_conds ((Gr.refl w).alloc (.cells #[.int .i64 id, .int .i64 tenant, .slice a_conds conds.length c_conds, .slice a_out out.length c_out] 51))
  have p_out := OSl.gr fr_int h_out ((Gr.refl w).alloc (.cells #[.int .i64 id, .int .i64 tenant, .slice a_conds conds.length c_conds, .slice a_out out.length c_out] 51))
  go_enter Tryd.func45, Tryd.ntmps45
  go_wp2_with fail
  refine (laws_markCondS F1 _ conds k _ p_conds (by omega) (by omega)).mono ?_
  rintro e w1 ⟨rfl, q_conds, d1⟩
  replace gc := gc.trans (d1.mono fun b hb => Or.inl hb)
  replace p_conds := q_conds
  replace p_out := OSl.frame fr_int p_out (d1.agree fun b hb hc => hd b hc hb)
  have hblk1 : w1.heap[w.heap.size]? = (w.alloc (.cells #[.int .i64 id, .int .i64 tenant, .slice a_conds conds.length c_conds, .slice a_out out.length c_out] 51)).heap[w.heap.size]? := d1.block _ (by simp) (fun hb => by have := hF_conds _ hb; omega)
  have c1_0 : w1.cell? ⟨w.heap.size, 0, none⟩ = some (.int .i64 id) := by rw [World.cell?_of_block (w := (w.alloc (.cells #[.int .i64 id, .int .i64 tenant, .slice a_conds conds.length c_conds, .slice a_out out.length c_out] 51))) hblk1]; simp [go_sem]
  have c1_1 : w1.cell? ⟨w.heap.size, 1, none⟩ = some (.int .i64 tenant) := by rw [World.cell?_of_block (w := (w.alloc (.cells #[.int .i64 id, .int .i64 tenant, .slice a_conds conds.length c_conds, .slice a_out out.length c_out] 51))) hblk1]; simp [go_sem]
  have c1_2 : w1.cell? ⟨w.heap.size, 2, none⟩ = some (.slice a_conds conds.length c_conds) := by rw [World.cell?_of_block (w := (w.alloc (.cells #[.int .i64 id, .int .i64 tenant, .slice a_conds conds.length c_conds, .slice a_out out.length c_out] 51))) hblk1]; simp [go_sem]
  have c1_3 : w1.cell? ⟨w.heap.size, 3, none⟩ = some (.slice a_out out.length c_out) := by rw [World.cell?_of_block (w := (w.alloc (.cells #[.int .i64 id, .int .i64 tenant, .slice a_conds conds.length c_conds, .slice a_out out.length c_out] 51))) hblk1]; simp [go_sem]
  go_wp2_with fail
  refine (laws_markIntS F2 _ out (k + (sumT cntCond conds : Int)) _ p_out (by omega) (by omega)).mono ?_
  rintro e w2 ⟨rfl, q_out, d2⟩
  replace gc := gc.trans (d2.mono fun b hb => Or.inr hb)
  replace p_conds := OSl.frame fr_cond p_conds (d2.agree fun b hb hc => hd b hb hc)
  replace p_out := q_out
  have hblk2 : w2.heap[w.heap.size]? = w1.heap[w.heap.size]? := d2.block _ (by exact Nat.lt_of_lt_of_le (show w.heap.size < (w.alloc (.cells #[.int .i64 id, .int .i64 tenant, .slice a_conds conds.length c_conds, .slice a_out out.length c_out] 51)).heap.size from by simp) d1.size) (fun hb => by have := hF_out _ hb; omega)
  have c2_0 : w2.cell? ⟨w.heap.size, 0, none⟩ = some (.int .i64 id) := by rw [World.cell?_of_block (w := w1) hblk2]; exact c1_0
  have c2_1 : w2.cell? ⟨w.heap.size, 1, none⟩ = some (.int .i64 tenant) := by rw [World.cell?_of_block (w := w1) hblk2]; exact c1_1
  have c2_2 : w2.cell? ⟨w.heap.size, 2, none⟩ = some (.slice a_conds conds.length c_conds) := by rw [World.cell?_of_block (w := w1) hblk2]; exact c1_2
  have c2_3 : w2.cell? ⟨w.heap.size, 3, none⟩ = some (.slice a_out out.length c_out) := by rw [World.cell?_of_block (w := w1) hblk2]; exact c1_3
  go_wp2_with fail
  go_ret
  exact ⟨ret_int (by omega), p_conds, p_out, gc⟩
set_option maxRecDepth 100000 in
set_option maxHeartbeats 4000000 in
theorem laws_heldQuery (x : DQuery) (u_conds : Value) (u_out : Value) (k : Int) (w : World) (h_conds : RConds w u_conds (marksTo mkCond cntCond k x.conds.length x.conds)) (h_out : RInts w u_out (marksTo mkI cntI (k + (sumT cntCond x.conds : Int)) x.out.length x.out)) (h0 : 0 ≤ k) (hb : k + ((sumT cntCond x.conds : Int) + (sumT cntI x.out : Int)) ≤ 4611686018427387904) :
    Calls Tryd.prog 46 #[.agg #[.int .i64 x.id, .int .i64 x.tenant, u_conds, u_out], .int .i64 k] w fun e w' => e = .returned (.int .i64 (k + (sumT cntCond x.conds : Int) + (sumT cntI x.out : Int))) ∧ Gr w w' := by
  obtain ⟨id, tenant, conds, out⟩ := x
  dsimp only at *
  have g0 : Gr w (w.alloc (.cells #[.int .i64 id, .int .i64 tenant, u_conds, u_out] 51)) := (Gr.refl w).alloc _
  go_enter Tryd.func46, Tryd.ntmps46
  have hh0 := (RSlice.mono keeps_cond g0 h_conds)
  go_wp2_with fail
  refine (laws_heldCondS _ conds k _ hh0 (by omega) (by omega)).mono ?_
  rintro e w1 ⟨rfl, g1⟩
  have gw1 : Gr w w1 := g0.trans g1
  have hn1 : 0 ≤ (k + (sumT cntCond conds : Int)) := by omega
  have k1_0 : w1.cell? ⟨w.heap.size, 0, none⟩ = some (.int .i64 id) := g1.cellv (by simp [go_sem])
  have k1_1 : w1.cell? ⟨w.heap.size, 1, none⟩ = some (.int .i64 tenant) := g1.cellv (by simp [go_sem])
  have k1_2 : w1.cell? ⟨w.heap.size, 2, none⟩ = some (u_conds) := g1.cellv (by simp [go_sem])
  have k1_3 : w1.cell? ⟨w.heap.size, 3, none⟩ = some (u_out) := g1.cellv (by simp [go_sem])
  have hh1 := (RSlice.mono keeps_int gw1 h_out)
  go_wp2_with fail
  refine (laws_heldIntS _ out (k + (sumT cntCond conds : Int)) _ hh1 (by omega) (by omega)).mono ?_
  rintro e w2 ⟨rfl, g2⟩
  have gw2 : Gr w w2 := gw1.trans g2
  have hn2 : 0 ≤ (k + (sumT cntCond conds : Int) + (sumT cntI out : Int)) := by omega
  have k2_0 : w2.cell? ⟨w.heap.size, 0, none⟩ = some (.int .i64 id) := g2.cellv (by simp [k1_0])
  have k2_1 : w2.cell? ⟨w.heap.size, 1, none⟩ = some (.int .i64 tenant) := g2.cellv (by simp [k1_1])
  have k2_2 : w2.cell? ⟨w.heap.size, 2, none⟩ = some (u_conds) := g2.cellv (by simp [k1_2])
  have k2_3 : w2.cell? ⟨w.heap.size, 3, none⟩ = some (u_out) := g2.cellv (by simp [k1_3])
  go_wp2_with fail
  go_ret
  exact ⟨ret_int (by omega), gw2⟩
end Go.Proofs.YtjeffagejbdjkaaDoor

/- ParseQuery: the law. -/
namespace Go.Proofs.YtjeffagejbdjkaaDoor
open Go.RowKit
theorem qryOr_small (l : List UInt8) : (qryOr (implQuery l)).conds.length ≤ 3 ∧ (qryOr (implQuery l)).out.length ≤ 3 := by
  cases h : implQuery l with
  | none => exact ⟨by simp [qryOr], by simp [qryOr]⟩
  | some q =>
    obtain ⟨_, _, h3, _, _, h6⟩ := isQueryB_parts (implQuery_some h).1
    exact ⟨h3, h6⟩
theorem spec_ParQ (l : List UInt8) (w : World) (hl : l.length ≤ 1048576) : Calls Tryd.prog 43 #[.string ⟨l.toArray⟩] w fun e w' => ∃ v v', e = .returned (.tuple #[.agg #[.int .i64 (qryOr (implQuery l)).id, .int .i64 (qryOr (implQuery l)).tenant, v, v'], .bool (implQuery l).isSome]) ∧ RConds w' v (qryOr (implQuery l)).conds ∧ RInts w' v' (qryOr (implQuery l)).out ∧ Gr w w' := by
  rw [← specQuery_eq]; exact spec_ParseQuery l w hl
theorem impl_ParQ (l : List UInt8) (w : World) (hl : l.length ≤ 1048576) (hT : Tens Tryd.prog w) (hS : ErrS Tryd.prog w) (hR : ErrR Tryd.prog w) (hM : MaxL w) : Calls Tryd.prog 44 #[.string ⟨l.toArray⟩] w fun e w' => ∃ v v', e = .returned (.tuple #[.agg #[.int .i64 (qryOr (implQuery l)).id, .int .i64 (qryOr (implQuery l)).tenant, v, v'], .bool (implQuery l).isSome]) ∧ Gr w w' ∧ ∃ m, w.heap.size ≤ m ∧ m ≤ w'.heap.size ∧ PConds (In m w'.heap.size) w' v (qryOr (implQuery l)).conds ∧ PInts (In w.heap.size m) w' v' (qryOr (implQuery l)).out := impl_ParseQuery l w hl hT hS hR hM
-- mgen FnExactParseQuery ParQ+HQ0!parse!rev Query,bool "(qryOr (implQuery x0));((implQuery x0).isSome)" "by have := qryOr_small x0; have := cnt_IntS ((qryOr (implQuery x0)).out); have := cnt_CondS ((qryOr (implQuery x0)).conds); omega" str
set_option maxRecDepth 100000 in
set_option maxHeartbeats 1500000 in
theorem lawl_FnExactParseQuery (w : World) (hT : Tens Tryd.prog w) (hS : ErrS Tryd.prog w) (hR : ErrR Tryd.prog w) (hM : MaxL w) (x0 : List UInt8) : Calls Tryd.prog 11 #[.string ⟨x0.toArray⟩] w fun e w' => e = .returned (.bool true) ∧ Gr w w' := by
  have HTens := Lib.hid hT
  have HErS := Lib.hid hS
  have HErR := Lib.hid hR
  have HMx := Lib.hid hM
  clear hT hS hR hM
  by_cases hs0 : (x0.length : Int) ≤ 1048576
  · have HQ0 : Hid (x0.length ≤ 1048576) := Lib.hid (by omega)
    go_enter Tryd.func11, Tryd.ntmps11
    go_wp2_with fail
    refine (spec_ParQ x0 _ HQ0.out).mono ?_
    rintro e w1 ⟨vw0_conds, vw0_out, rfl, r_hw0_conds, r_hw0_out, g1⟩
    have Z1 : Hid (w.heap.size + 0 ≤ w1.heap.size) := Lib.hid (by have := g1.size; simpa using this)
    have gw : Hid (Gr w w1) := Lib.hid g1
    obtain ⟨aw0_conds, nw0_conds, cw0_conds, rfl⟩ := r_hw0_conds.isSl
    obtain ⟨aw0_out, nw0_out, cw0_out, rfl⟩ := r_hw0_out.isSl
    have hw0_conds : Hid (RConds w1 (.slice aw0_conds nw0_conds cw0_conds) (qryOr (implQuery x0)).conds) := Lib.hid r_hw0_conds
    have Bhw0_conds := Lib.hid r_hw0_conds
    clear r_hw0_conds
    have hw0_out : Hid (RInts w1 (.slice aw0_out nw0_out cw0_out) (qryOr (implQuery x0)).out) := Lib.hid r_hw0_out
    have Bhw0_out := Lib.hid r_hw0_out
    clear r_hw0_out
    have gv : Hid (Gr w1 w1) := Lib.hid (Gr.refl _)
    have ZV : Hid (w.heap.size ≤ w1.heap.size) := Lib.hid gw.out.size
    go_wp2_with fail
    refine (impl_ParQ x0 _ HQ0.out (tab_gr HTens.out (gw.out.trans ((Gr.refl w1).alloc _))) (errS_gr HErS.out (gw.out.trans ((Gr.refl w1).alloc _))) (errR_gr HErR.out (gw.out.trans ((Gr.refl w1).alloc _))) (maxL_gr HMx.out (gw.out.trans ((Gr.refl w1).alloc _)))).mono ?_
    rintro e w2 ⟨vg0_conds, vg0_out, rfl, g2, mg, hmg, hng, r_hg0_conds, r_hg0_out⟩
    have gs2 : Gr w1 w2 := ((Gr.refl w1).alloc _).trans g2
    have Z2 : Hid (w1.heap.size + 1 ≤ w2.heap.size) := Lib.hid (by have := g2.size; simpa using this)
    replace hw0_conds : Hid (RConds w2 (.slice aw0_conds nw0_conds cw0_conds) (qryOr (implQuery x0)).conds) := Lib.hid (RSlice.mono keeps_cond gs2 hw0_conds.out)
    replace hw0_out : Hid (RInts w2 (.slice aw0_out nw0_out cw0_out) (qryOr (implQuery x0)).out) := Lib.hid (RSlice.mono keeps_int gs2 hw0_out.out)
    replace gw : Hid (Gr w w2) := Lib.hid (gw.out.trans gs2)
    replace gv : Hid (Gr w1 w2) := Lib.hid (gv.out.trans gs2)
    have kw0_0 : w2.cell? ⟨w1.heap.size, 0, none⟩ = some (.int .i64 (qryOr (implQuery x0)).id) := g2.cellv (by simp [go_sem])
    have kw0_1 : w2.cell? ⟨w1.heap.size, 1, none⟩ = some (.int .i64 (qryOr (implQuery x0)).tenant) := g2.cellv (by simp [go_sem])
    have kw0_2 : w2.cell? ⟨w1.heap.size, 2, none⟩ = some (.slice aw0_conds nw0_conds cw0_conds) := g2.cellv (by simp [go_sem])
    have kw0_3 : w2.cell? ⟨w1.heap.size, 3, none⟩ = some (.slice aw0_out nw0_out cw0_out) := g2.cellv (by simp [go_sem])
    have bkw0_0 : Hid (w1.heap.size < w2.heap.size) := Lib.hid (by have := Z2.out; omega)
    obtain ⟨ag0_conds, ng0_conds, cg0_conds, rfl⟩ := r_hg0_conds.isSl
    obtain ⟨ag0_out, ng0_out, cg0_out, rfl⟩ := r_hg0_out.isSl
    have ZMg : Hid ((w1.heap.size + 1) ≤ mg) := Lib.hid (by have := hmg; (try simp at this); omega)
    have hg0_conds : Hid (PConds (In mg w2.heap.size) w2 (.slice ag0_conds ng0_conds cg0_conds) (qryOr (implQuery x0)).conds) := Lib.hid (r_hg0_conds.wide (Nat.le_refl _) (by omega))
    clear r_hg0_conds
    have hg0_out : Hid (PInts (In (w1.heap.size + 1) mg) w2 (.slice ag0_out ng0_out cg0_out) (qryOr (implQuery x0)).out) := Lib.hid (r_hg0_out.wide (by simp) (by omega))
    clear r_hg0_out
    have Lkw0_0 := ((Gr.refl w2).alloc (.cells #[.int .i64 (qryOr (implQuery x0)).id, .int .i64 (qryOr (implQuery x0)).tenant, .slice ag0_conds ng0_conds cg0_conds, .slice ag0_out ng0_out cg0_out] 51)).cellv kw0_0
    have Lkw0_1 := ((Gr.refl w2).alloc (.cells #[.int .i64 (qryOr (implQuery x0)).id, .int .i64 (qryOr (implQuery x0)).tenant, .slice ag0_conds ng0_conds cg0_conds, .slice ag0_out ng0_out cg0_out] 51)).cellv kw0_1
    have Lkw0_2 := ((Gr.refl w2).alloc (.cells #[.int .i64 (qryOr (implQuery x0)).id, .int .i64 (qryOr (implQuery x0)).tenant, .slice ag0_conds ng0_conds cg0_conds, .slice ag0_out ng0_out cg0_out] 51)).cellv kw0_2
    have Lkw0_3 := ((Gr.refl w2).alloc (.cells #[.int .i64 (qryOr (implQuery x0)).id, .int .i64 (qryOr (implQuery x0)).tenant, .slice ag0_conds ng0_conds cg0_conds, .slice ag0_out ng0_out cg0_out] 51)).cellv kw0_3
    have ei1 : ((((implQuery x0).isSome) : Bool) != ((implQuery x0).isSome)) = false := by simp
    go_wp2_with fail
    refine (laws_eqQuery (qryOr (implQuery x0)) _ _ _ _ _ (RSlice.mono keeps_cond ((Gr.refl w2).alloc _) (rd_pconds hg0_conds.out)) (RSlice.mono keeps_int ((Gr.refl w2).alloc _) (rd_pints hg0_out.out)) (RSlice.mono keeps_cond ((Gr.refl w2).alloc _) hw0_conds.out) (RSlice.mono keeps_int ((Gr.refl w2).alloc _) hw0_out.out)).mono ?_
    rintro e w3 ⟨rfl, g3⟩
    have gs3 : Gr w2 w3 := ((Gr.refl w2).alloc _).trans g3
    have Z3 : Hid (w2.heap.size + 1 ≤ w3.heap.size) := Lib.hid (by have := g3.size; simpa using this)
    replace hw0_conds : Hid (RConds w3 (.slice aw0_conds nw0_conds cw0_conds) (qryOr (implQuery x0)).conds) := Lib.hid (RSlice.mono keeps_cond gs3 hw0_conds.out)
    replace hw0_out : Hid (RInts w3 (.slice aw0_out nw0_out cw0_out) (qryOr (implQuery x0)).out) := Lib.hid (RSlice.mono keeps_int gs3 hw0_out.out)
    replace hg0_conds : Hid (PConds (In mg w2.heap.size) w3 (.slice ag0_conds ng0_conds cg0_conds) (qryOr (implQuery x0)).conds) := Lib.hid (OSl.gr fr_cond hg0_conds.out gs3)
    replace hg0_out : Hid (PInts (In (w1.heap.size + 1) mg) w3 (.slice ag0_out ng0_out cg0_out) (qryOr (implQuery x0)).out) := Lib.hid (OSl.gr fr_int hg0_out.out gs3)
    replace kw0_0 : w3.cell? ⟨w1.heap.size, 0, none⟩ = some (.int .i64 (qryOr (implQuery x0)).id) := gs3.cellv kw0_0
    replace kw0_1 : w3.cell? ⟨w1.heap.size, 1, none⟩ = some (.int .i64 (qryOr (implQuery x0)).tenant) := gs3.cellv kw0_1
    replace kw0_2 : w3.cell? ⟨w1.heap.size, 2, none⟩ = some (.slice aw0_conds nw0_conds cw0_conds) := gs3.cellv kw0_2
    replace kw0_3 : w3.cell? ⟨w1.heap.size, 3, none⟩ = some (.slice aw0_out nw0_out cw0_out) := gs3.cellv kw0_3
    replace gw : Hid (Gr w w3) := Lib.hid (gw.out.trans gs3)
    replace gv : Hid (Gr w1 w3) := Lib.hid (gv.out.trans gs3)
    have kg0_0 : w3.cell? ⟨w2.heap.size, 0, none⟩ = some (.int .i64 (qryOr (implQuery x0)).id) := g3.cellv (by simp [go_sem])
    have kg0_1 : w3.cell? ⟨w2.heap.size, 1, none⟩ = some (.int .i64 (qryOr (implQuery x0)).tenant) := g3.cellv (by simp [go_sem])
    have kg0_2 : w3.cell? ⟨w2.heap.size, 2, none⟩ = some (.slice ag0_conds ng0_conds cg0_conds) := g3.cellv (by simp [go_sem])
    have kg0_3 : w3.cell? ⟨w2.heap.size, 3, none⟩ = some (.slice ag0_out ng0_out cg0_out) := g3.cellv (by simp [go_sem])
    have bkg0_0 : Hid (w2.heap.size < w3.heap.size) := Lib.hid (by have := Z3.out; omega)
    clear Lkw0_0 Lkw0_1 Lkw0_2 Lkw0_3
    have HBR := Lib.hid (show (1 : Int) + (sumT cntCond (qryOr (implQuery x0)).conds : Int) + (sumT cntI (qryOr (implQuery x0)).out : Int) ≤ 4611686018427387904 from by have := qryOr_small x0; have := cnt_IntS ((qryOr (implQuery x0)).out); have := cnt_CondS ((qryOr (implQuery x0)).conds); omega)
    have hbr := HBR.out
    go_wp2_with fail
    refine (laws_markQuery (In mg w2.heap.size) (In (w1.heap.size + 1) mg) (qryOr (implQuery x0)) _ _ (1 : Int) _ hg0_conds.out (fun b hb => by have := Z1.out; have := ZV.out; have := Z2.out; have := bkw0_0.out; have := ZMg.out; have := Z3.out; have := bkg0_0.out; have := hb.2; omega) hg0_out.out (fun b hb => by have := Z1.out; have := ZV.out; have := Z2.out; have := bkw0_0.out; have := ZMg.out; have := Z3.out; have := bkg0_0.out; have := hb.2; omega) (fun b hb hc => by have := hb.1; have := hb.2; have := hc.1; have := hc.2; omega) (by omega) (by omega)).mono ?_
    rintro e wg0 ⟨rfl, qhg0_conds, qhg0_out, dg0⟩
    have Z4 : Hid (w3.heap.size ≤ wg0.heap.size) := Lib.hid dg0.size
    replace gw : Hid (Gr w wg0) := Lib.hid (Gr.trans' gw.out (dg0.below (fun b hb => by have := Z1.out; have := ZV.out; have := Z2.out; have := bkw0_0.out; have := ZMg.out; have := Z3.out; have := bkg0_0.out; have := Z4.out; rcases hb with hb | hb <;> (have := hb.1; omega)) (gw.out.size)))
    replace gv : Hid (Gr w1 wg0) := Lib.hid (Gr.trans' gv.out (dg0.below (fun b hb => by have := Z1.out; have := ZV.out; have := Z2.out; have := bkw0_0.out; have := ZMg.out; have := Z3.out; have := bkg0_0.out; have := Z4.out; rcases hb with hb | hb <;> (have := hb.1; omega)) (gv.out.size)))
    replace hw0_conds : Hid (RConds wg0 (.slice aw0_conds nw0_conds cw0_conds) (qryOr (implQuery x0)).conds) := Lib.hid (RSlice.mono keeps_cond gv.out Bhw0_conds.out)
    replace hw0_out : Hid (RInts wg0 (.slice aw0_out nw0_out cw0_out) (qryOr (implQuery x0)).out) := Lib.hid (RSlice.mono keeps_int gv.out Bhw0_out.out)
    replace kw0_0 : wg0.cell? ⟨w1.heap.size, 0, none⟩ = some (.int .i64 (qryOr (implQuery x0)).id) := (World.cell?_of_block (w := w3) (dg0.block _ (World.block_lt_of_cell? _ _ kw0_0) (fun hc => by have := Z1.out; have := ZV.out; have := Z2.out; have := bkw0_0.out; have := ZMg.out; have := Z3.out; have := bkg0_0.out; have := Z4.out; rcases hc with hc | hc <;> (have := hc.1; have := hc.2; dsimp only at *; omega)))).trans kw0_0
    replace kw0_1 : wg0.cell? ⟨w1.heap.size, 1, none⟩ = some (.int .i64 (qryOr (implQuery x0)).tenant) := (World.cell?_of_block (w := w3) (dg0.block _ (World.block_lt_of_cell? _ _ kw0_1) (fun hc => by have := Z1.out; have := ZV.out; have := Z2.out; have := bkw0_0.out; have := ZMg.out; have := Z3.out; have := bkg0_0.out; have := Z4.out; rcases hc with hc | hc <;> (have := hc.1; have := hc.2; dsimp only at *; omega)))).trans kw0_1
    replace kw0_2 : wg0.cell? ⟨w1.heap.size, 2, none⟩ = some (.slice aw0_conds nw0_conds cw0_conds) := (World.cell?_of_block (w := w3) (dg0.block _ (World.block_lt_of_cell? _ _ kw0_2) (fun hc => by have := Z1.out; have := ZV.out; have := Z2.out; have := bkw0_0.out; have := ZMg.out; have := Z3.out; have := bkg0_0.out; have := Z4.out; rcases hc with hc | hc <;> (have := hc.1; have := hc.2; dsimp only at *; omega)))).trans kw0_2
    replace kw0_3 : wg0.cell? ⟨w1.heap.size, 3, none⟩ = some (.slice aw0_out nw0_out cw0_out) := (World.cell?_of_block (w := w3) (dg0.block _ (World.block_lt_of_cell? _ _ kw0_3) (fun hc => by have := Z1.out; have := ZV.out; have := Z2.out; have := bkw0_0.out; have := ZMg.out; have := Z3.out; have := bkg0_0.out; have := Z4.out; rcases hc with hc | hc <;> (have := hc.1; have := hc.2; dsimp only at *; omega)))).trans kw0_3
    replace kg0_0 : wg0.cell? ⟨w2.heap.size, 0, none⟩ = some (.int .i64 (qryOr (implQuery x0)).id) := (World.cell?_of_block (w := w3) (dg0.block _ (World.block_lt_of_cell? _ _ kg0_0) (fun hc => by have := Z1.out; have := ZV.out; have := Z2.out; have := bkw0_0.out; have := ZMg.out; have := Z3.out; have := bkg0_0.out; have := Z4.out; rcases hc with hc | hc <;> (have := hc.1; have := hc.2; dsimp only at *; omega)))).trans kg0_0
    replace kg0_1 : wg0.cell? ⟨w2.heap.size, 1, none⟩ = some (.int .i64 (qryOr (implQuery x0)).tenant) := (World.cell?_of_block (w := w3) (dg0.block _ (World.block_lt_of_cell? _ _ kg0_1) (fun hc => by have := Z1.out; have := ZV.out; have := Z2.out; have := bkw0_0.out; have := ZMg.out; have := Z3.out; have := bkg0_0.out; have := Z4.out; rcases hc with hc | hc <;> (have := hc.1; have := hc.2; dsimp only at *; omega)))).trans kg0_1
    replace kg0_2 : wg0.cell? ⟨w2.heap.size, 2, none⟩ = some (.slice ag0_conds ng0_conds cg0_conds) := (World.cell?_of_block (w := w3) (dg0.block _ (World.block_lt_of_cell? _ _ kg0_2) (fun hc => by have := Z1.out; have := ZV.out; have := Z2.out; have := bkw0_0.out; have := ZMg.out; have := Z3.out; have := bkg0_0.out; have := Z4.out; rcases hc with hc | hc <;> (have := hc.1; have := hc.2; dsimp only at *; omega)))).trans kg0_2
    replace kg0_3 : wg0.cell? ⟨w2.heap.size, 3, none⟩ = some (.slice ag0_out ng0_out cg0_out) := (World.cell?_of_block (w := w3) (dg0.block _ (World.block_lt_of_cell? _ _ kg0_3) (fun hc => by have := Z1.out; have := ZV.out; have := Z2.out; have := bkw0_0.out; have := ZMg.out; have := Z3.out; have := bkg0_0.out; have := Z4.out; rcases hc with hc | hc <;> (have := hc.1; have := hc.2; dsimp only at *; omega)))).trans kg0_3
    clear hg0_conds
    have Mhg0_conds : Hid (RConds wg0 (.slice ag0_conds ng0_conds cg0_conds) (marksTo mkCond cntCond (1 : Int) (qryOr (implQuery x0)).conds.length (qryOr (implQuery x0)).conds)) := Lib.hid (rd_pconds qhg0_conds)
    clear qhg0_conds
    clear hg0_out
    have Mhg0_out : Hid (RInts wg0 (.slice ag0_out ng0_out cg0_out) (marksTo mkI cntI ((1 : Int) + (sumT cntCond (qryOr (implQuery x0)).conds : Int)) (qryOr (implQuery x0)).out.length (qryOr (implQuery x0)).out)) := Lib.hid (rd_pints qhg0_out)
    clear qhg0_out
    have hcg0 : 0 ≤ (((1 : Int) + (sumT cntCond (qryOr (implQuery x0)).conds : Int)) + (sumT cntI (qryOr (implQuery x0)).out : Int)) := by omega
    have ef : ((((1 : Int) + (sumT cntCond (qryOr (implQuery x0)).conds : Int)) + (sumT cntI (qryOr (implQuery x0)).out : Int)) != (((1 : Int) + (sumT cntCond (qryOr (implQuery x0)).conds : Int)) + (sumT cntI (qryOr (implQuery x0)).out : Int))) = false := by simp
    go_wp2_with fail
    refine (laws_heldQuery (qryOr (implQuery x0)) _ _ (1 : Int) _ Mhg0_conds.out Mhg0_out.out (by omega) (by omega)).mono ?_
    rintro e w5 ⟨rfl, g5⟩
    have Z5 : Hid (wg0.heap.size + 0 ≤ w5.heap.size) := Lib.hid (by have := g5.size; simpa using this)
    replace hw0_conds : Hid (RConds w5 (.slice aw0_conds nw0_conds cw0_conds) (qryOr (implQuery x0)).conds) := Lib.hid (RSlice.mono keeps_cond g5 hw0_conds.out)
    replace hw0_out : Hid (RInts w5 (.slice aw0_out nw0_out cw0_out) (qryOr (implQuery x0)).out) := Lib.hid (RSlice.mono keeps_int g5 hw0_out.out)
    replace Mhg0_conds : Hid (RConds w5 (.slice ag0_conds ng0_conds cg0_conds) (marksTo mkCond cntCond (1 : Int) (qryOr (implQuery x0)).conds.length (qryOr (implQuery x0)).conds)) := Lib.hid (RSlice.mono keeps_cond g5 Mhg0_conds.out)
    replace Mhg0_out : Hid (RInts w5 (.slice ag0_out ng0_out cg0_out) (marksTo mkI cntI ((1 : Int) + (sumT cntCond (qryOr (implQuery x0)).conds : Int)) (qryOr (implQuery x0)).out.length (qryOr (implQuery x0)).out)) := Lib.hid (RSlice.mono keeps_int g5 Mhg0_out.out)
    replace kw0_0 : w5.cell? ⟨w1.heap.size, 0, none⟩ = some (.int .i64 (qryOr (implQuery x0)).id) := g5.cellv kw0_0
    replace kw0_1 : w5.cell? ⟨w1.heap.size, 1, none⟩ = some (.int .i64 (qryOr (implQuery x0)).tenant) := g5.cellv kw0_1
    replace kw0_2 : w5.cell? ⟨w1.heap.size, 2, none⟩ = some (.slice aw0_conds nw0_conds cw0_conds) := g5.cellv kw0_2
    replace kw0_3 : w5.cell? ⟨w1.heap.size, 3, none⟩ = some (.slice aw0_out nw0_out cw0_out) := g5.cellv kw0_3
    replace kg0_0 : w5.cell? ⟨w2.heap.size, 0, none⟩ = some (.int .i64 (qryOr (implQuery x0)).id) := g5.cellv kg0_0
    replace kg0_1 : w5.cell? ⟨w2.heap.size, 1, none⟩ = some (.int .i64 (qryOr (implQuery x0)).tenant) := g5.cellv kg0_1
    replace kg0_2 : w5.cell? ⟨w2.heap.size, 2, none⟩ = some (.slice ag0_conds ng0_conds cg0_conds) := g5.cellv kg0_2
    replace kg0_3 : w5.cell? ⟨w2.heap.size, 3, none⟩ = some (.slice ag0_out ng0_out cg0_out) := g5.cellv kg0_3
    replace gw : Hid (Gr w w5) := Lib.hid (gw.out.trans g5)
    replace gv : Hid (Gr w1 w5) := Lib.hid (gv.out.trans g5)
    go_wp2_with fail
    refine (impl_ParQ x0 _ HQ0.out (tab_gr HTens.out (gw.out.trans (Gr.refl _))) (errS_gr HErS.out (gw.out.trans (Gr.refl _))) (errR_gr HErR.out (gw.out.trans (Gr.refl _))) (maxL_gr HMx.out (gw.out.trans (Gr.refl _)))).mono ?_
    rintro e w6 ⟨vh0_conds, vh0_out, rfl, g6, mh, hmh, hnh, r_hh0_conds, r_hh0_out⟩
    have Z6 : Hid (w5.heap.size + 0 ≤ w6.heap.size) := Lib.hid (by have := g6.size; simpa using this)
    replace hw0_conds : Hid (RConds w6 (.slice aw0_conds nw0_conds cw0_conds) (qryOr (implQuery x0)).conds) := Lib.hid (RSlice.mono keeps_cond g6 hw0_conds.out)
    replace hw0_out : Hid (RInts w6 (.slice aw0_out nw0_out cw0_out) (qryOr (implQuery x0)).out) := Lib.hid (RSlice.mono keeps_int g6 hw0_out.out)
    replace Mhg0_conds : Hid (RConds w6 (.slice ag0_conds ng0_conds cg0_conds) (marksTo mkCond cntCond (1 : Int) (qryOr (implQuery x0)).conds.length (qryOr (implQuery x0)).conds)) := Lib.hid (RSlice.mono keeps_cond g6 Mhg0_conds.out)
    replace Mhg0_out : Hid (RInts w6 (.slice ag0_out ng0_out cg0_out) (marksTo mkI cntI ((1 : Int) + (sumT cntCond (qryOr (implQuery x0)).conds : Int)) (qryOr (implQuery x0)).out.length (qryOr (implQuery x0)).out)) := Lib.hid (RSlice.mono keeps_int g6 Mhg0_out.out)
    replace kw0_0 : w6.cell? ⟨w1.heap.size, 0, none⟩ = some (.int .i64 (qryOr (implQuery x0)).id) := g6.cellv kw0_0
    replace kw0_1 : w6.cell? ⟨w1.heap.size, 1, none⟩ = some (.int .i64 (qryOr (implQuery x0)).tenant) := g6.cellv kw0_1
    replace kw0_2 : w6.cell? ⟨w1.heap.size, 2, none⟩ = some (.slice aw0_conds nw0_conds cw0_conds) := g6.cellv kw0_2
    replace kw0_3 : w6.cell? ⟨w1.heap.size, 3, none⟩ = some (.slice aw0_out nw0_out cw0_out) := g6.cellv kw0_3
    replace kg0_0 : w6.cell? ⟨w2.heap.size, 0, none⟩ = some (.int .i64 (qryOr (implQuery x0)).id) := g6.cellv kg0_0
    replace kg0_1 : w6.cell? ⟨w2.heap.size, 1, none⟩ = some (.int .i64 (qryOr (implQuery x0)).tenant) := g6.cellv kg0_1
    replace kg0_2 : w6.cell? ⟨w2.heap.size, 2, none⟩ = some (.slice ag0_conds ng0_conds cg0_conds) := g6.cellv kg0_2
    replace kg0_3 : w6.cell? ⟨w2.heap.size, 3, none⟩ = some (.slice ag0_out ng0_out cg0_out) := g6.cellv kg0_3
    replace gw : Hid (Gr w w6) := Lib.hid (gw.out.trans g6)
    replace gv : Hid (Gr w1 w6) := Lib.hid (gv.out.trans g6)
    obtain ⟨ah0_conds, nh0_conds, ch0_conds, rfl⟩ := r_hh0_conds.isSl
    obtain ⟨ah0_out, nh0_out, ch0_out, rfl⟩ := r_hh0_out.isSl
    have ZMh : Hid (w5.heap.size ≤ mh) := Lib.hid (by have := hmh; (try simp at this); omega)
    have hh0_conds : Hid (PConds (In mh w6.heap.size) w6 (.slice ah0_conds nh0_conds ch0_conds) (qryOr (implQuery x0)).conds) := Lib.hid (r_hh0_conds.wide (Nat.le_refl _) (by omega))
    clear r_hh0_conds
    have hh0_out : Hid (PInts (In w5.heap.size mh) w6 (.slice ah0_out nh0_out ch0_out) (qryOr (implQuery x0)).out) := Lib.hid (r_hh0_out.wide (by simp) (by omega))
    clear r_hh0_out
    have Lkw0_0 := ((Gr.refl w6).alloc (.cells #[.int .i64 (qryOr (implQuery x0)).id, .int .i64 (qryOr (implQuery x0)).tenant, .slice ah0_conds nh0_conds ch0_conds, .slice ah0_out nh0_out ch0_out] 51)).cellv kw0_0
    have Lkw0_1 := ((Gr.refl w6).alloc (.cells #[.int .i64 (qryOr (implQuery x0)).id, .int .i64 (qryOr (implQuery x0)).tenant, .slice ah0_conds nh0_conds ch0_conds, .slice ah0_out nh0_out ch0_out] 51)).cellv kw0_1
    have Lkw0_2 := ((Gr.refl w6).alloc (.cells #[.int .i64 (qryOr (implQuery x0)).id, .int .i64 (qryOr (implQuery x0)).tenant, .slice ah0_conds nh0_conds ch0_conds, .slice ah0_out nh0_out ch0_out] 51)).cellv kw0_2
    have Lkw0_3 := ((Gr.refl w6).alloc (.cells #[.int .i64 (qryOr (implQuery x0)).id, .int .i64 (qryOr (implQuery x0)).tenant, .slice ah0_conds nh0_conds ch0_conds, .slice ah0_out nh0_out ch0_out] 51)).cellv kw0_3
    have Lkg0_0 := ((Gr.refl w6).alloc (.cells #[.int .i64 (qryOr (implQuery x0)).id, .int .i64 (qryOr (implQuery x0)).tenant, .slice ah0_conds nh0_conds ch0_conds, .slice ah0_out nh0_out ch0_out] 51)).cellv kg0_0
    have Lkg0_1 := ((Gr.refl w6).alloc (.cells #[.int .i64 (qryOr (implQuery x0)).id, .int .i64 (qryOr (implQuery x0)).tenant, .slice ah0_conds nh0_conds ch0_conds, .slice ah0_out nh0_out ch0_out] 51)).cellv kg0_1
    have Lkg0_2 := ((Gr.refl w6).alloc (.cells #[.int .i64 (qryOr (implQuery x0)).id, .int .i64 (qryOr (implQuery x0)).tenant, .slice ah0_conds nh0_conds ch0_conds, .slice ah0_out nh0_out ch0_out] 51)).cellv kg0_2
    have Lkg0_3 := ((Gr.refl w6).alloc (.cells #[.int .i64 (qryOr (implQuery x0)).id, .int .i64 (qryOr (implQuery x0)).tenant, .slice ah0_conds nh0_conds ch0_conds, .slice ah0_out nh0_out ch0_out] 51)).cellv kg0_3
    go_wp2_with fail
    refine (laws_eqQuery (qryOr (implQuery x0)) _ _ _ _ _ (RSlice.mono keeps_cond ((Gr.refl w6).alloc _) (rd_pconds hh0_conds.out)) (RSlice.mono keeps_int ((Gr.refl w6).alloc _) (rd_pints hh0_out.out)) (RSlice.mono keeps_cond ((Gr.refl w6).alloc _) hw0_conds.out) (RSlice.mono keeps_int ((Gr.refl w6).alloc _) hw0_out.out)).mono ?_
    rintro e w7 ⟨rfl, g7⟩
    have gs7 : Gr w6 w7 := ((Gr.refl w6).alloc _).trans g7
    have Z7 : Hid (w6.heap.size + 1 ≤ w7.heap.size) := Lib.hid (by have := g7.size; simpa using this)
    replace hw0_conds : Hid (RConds w7 (.slice aw0_conds nw0_conds cw0_conds) (qryOr (implQuery x0)).conds) := Lib.hid (RSlice.mono keeps_cond gs7 hw0_conds.out)
    replace hw0_out : Hid (RInts w7 (.slice aw0_out nw0_out cw0_out) (qryOr (implQuery x0)).out) := Lib.hid (RSlice.mono keeps_int gs7 hw0_out.out)
    replace Mhg0_conds : Hid (RConds w7 (.slice ag0_conds ng0_conds cg0_conds) (marksTo mkCond cntCond (1 : Int) (qryOr (implQuery x0)).conds.length (qryOr (implQuery x0)).conds)) := Lib.hid (RSlice.mono keeps_cond gs7 Mhg0_conds.out)
    replace Mhg0_out : Hid (RInts w7 (.slice ag0_out ng0_out cg0_out) (marksTo mkI cntI ((1 : Int) + (sumT cntCond (qryOr (implQuery x0)).conds : Int)) (qryOr (implQuery x0)).out.length (qryOr (implQuery x0)).out)) := Lib.hid (RSlice.mono keeps_int gs7 Mhg0_out.out)
    replace hh0_conds : Hid (PConds (In mh w6.heap.size) w7 (.slice ah0_conds nh0_conds ch0_conds) (qryOr (implQuery x0)).conds) := Lib.hid (OSl.gr fr_cond hh0_conds.out gs7)
    replace hh0_out : Hid (PInts (In w5.heap.size mh) w7 (.slice ah0_out nh0_out ch0_out) (qryOr (implQuery x0)).out) := Lib.hid (OSl.gr fr_int hh0_out.out gs7)
    replace kw0_0 : w7.cell? ⟨w1.heap.size, 0, none⟩ = some (.int .i64 (qryOr (implQuery x0)).id) := gs7.cellv kw0_0
    replace kw0_1 : w7.cell? ⟨w1.heap.size, 1, none⟩ = some (.int .i64 (qryOr (implQuery x0)).tenant) := gs7.cellv kw0_1
    replace kw0_2 : w7.cell? ⟨w1.heap.size, 2, none⟩ = some (.slice aw0_conds nw0_conds cw0_conds) := gs7.cellv kw0_2
    replace kw0_3 : w7.cell? ⟨w1.heap.size, 3, none⟩ = some (.slice aw0_out nw0_out cw0_out) := gs7.cellv kw0_3
    replace kg0_0 : w7.cell? ⟨w2.heap.size, 0, none⟩ = some (.int .i64 (qryOr (implQuery x0)).id) := gs7.cellv kg0_0
    replace kg0_1 : w7.cell? ⟨w2.heap.size, 1, none⟩ = some (.int .i64 (qryOr (implQuery x0)).tenant) := gs7.cellv kg0_1
    replace kg0_2 : w7.cell? ⟨w2.heap.size, 2, none⟩ = some (.slice ag0_conds ng0_conds cg0_conds) := gs7.cellv kg0_2
    replace kg0_3 : w7.cell? ⟨w2.heap.size, 3, none⟩ = some (.slice ag0_out ng0_out cg0_out) := gs7.cellv kg0_3
    replace gw : Hid (Gr w w7) := Lib.hid (gw.out.trans gs7)
    replace gv : Hid (Gr w1 w7) := Lib.hid (gv.out.trans gs7)
    have kh0_0 : w7.cell? ⟨w6.heap.size, 0, none⟩ = some (.int .i64 (qryOr (implQuery x0)).id) := g7.cellv (by simp [go_sem])
    have kh0_1 : w7.cell? ⟨w6.heap.size, 1, none⟩ = some (.int .i64 (qryOr (implQuery x0)).tenant) := g7.cellv (by simp [go_sem])
    have kh0_2 : w7.cell? ⟨w6.heap.size, 2, none⟩ = some (.slice ah0_conds nh0_conds ch0_conds) := g7.cellv (by simp [go_sem])
    have kh0_3 : w7.cell? ⟨w6.heap.size, 3, none⟩ = some (.slice ah0_out nh0_out ch0_out) := g7.cellv (by simp [go_sem])
    have bkh0_0 : Hid (w6.heap.size < w7.heap.size) := Lib.hid (by have := Z7.out; omega)
    clear Lkw0_0 Lkw0_1 Lkw0_2 Lkw0_3 Lkg0_0 Lkg0_1 Lkg0_2 Lkg0_3
    go_wp2_with fail
    refine (laws_heldQuery (qryOr (implQuery x0)) _ _ (1 : Int) _ Mhg0_conds.out Mhg0_out.out (by omega) (by omega)).mono ?_
    rintro e w8 ⟨rfl, g8⟩
    have Z8 : Hid (w7.heap.size + 0 ≤ w8.heap.size) := Lib.hid (by have := g8.size; simpa using this)
    replace hw0_conds : Hid (RConds w8 (.slice aw0_conds nw0_conds cw0_conds) (qryOr (implQuery x0)).conds) := Lib.hid (RSlice.mono keeps_cond g8 hw0_conds.out)
    replace hw0_out : Hid (RInts w8 (.slice aw0_out nw0_out cw0_out) (qryOr (implQuery x0)).out) := Lib.hid (RSlice.mono keeps_int g8 hw0_out.out)
    replace Mhg0_conds : Hid (RConds w8 (.slice ag0_conds ng0_conds cg0_conds) (marksTo mkCond cntCond (1 : Int) (qryOr (implQuery x0)).conds.length (qryOr (implQuery x0)).conds)) := Lib.hid (RSlice.mono keeps_cond g8 Mhg0_conds.out)
    replace Mhg0_out : Hid (RInts w8 (.slice ag0_out ng0_out cg0_out) (marksTo mkI cntI ((1 : Int) + (sumT cntCond (qryOr (implQuery x0)).conds : Int)) (qryOr (implQuery x0)).out.length (qryOr (implQuery x0)).out)) := Lib.hid (RSlice.mono keeps_int g8 Mhg0_out.out)
    replace hh0_conds : Hid (PConds (In mh w6.heap.size) w8 (.slice ah0_conds nh0_conds ch0_conds) (qryOr (implQuery x0)).conds) := Lib.hid (OSl.gr fr_cond hh0_conds.out g8)
    replace hh0_out : Hid (PInts (In w5.heap.size mh) w8 (.slice ah0_out nh0_out ch0_out) (qryOr (implQuery x0)).out) := Lib.hid (OSl.gr fr_int hh0_out.out g8)
    replace kw0_0 : w8.cell? ⟨w1.heap.size, 0, none⟩ = some (.int .i64 (qryOr (implQuery x0)).id) := g8.cellv kw0_0
    replace kw0_1 : w8.cell? ⟨w1.heap.size, 1, none⟩ = some (.int .i64 (qryOr (implQuery x0)).tenant) := g8.cellv kw0_1
    replace kw0_2 : w8.cell? ⟨w1.heap.size, 2, none⟩ = some (.slice aw0_conds nw0_conds cw0_conds) := g8.cellv kw0_2
    replace kw0_3 : w8.cell? ⟨w1.heap.size, 3, none⟩ = some (.slice aw0_out nw0_out cw0_out) := g8.cellv kw0_3
    replace kg0_0 : w8.cell? ⟨w2.heap.size, 0, none⟩ = some (.int .i64 (qryOr (implQuery x0)).id) := g8.cellv kg0_0
    replace kg0_1 : w8.cell? ⟨w2.heap.size, 1, none⟩ = some (.int .i64 (qryOr (implQuery x0)).tenant) := g8.cellv kg0_1
    replace kg0_2 : w8.cell? ⟨w2.heap.size, 2, none⟩ = some (.slice ag0_conds ng0_conds cg0_conds) := g8.cellv kg0_2
    replace kg0_3 : w8.cell? ⟨w2.heap.size, 3, none⟩ = some (.slice ag0_out ng0_out cg0_out) := g8.cellv kg0_3
    replace kh0_0 : w8.cell? ⟨w6.heap.size, 0, none⟩ = some (.int .i64 (qryOr (implQuery x0)).id) := g8.cellv kh0_0
    replace kh0_1 : w8.cell? ⟨w6.heap.size, 1, none⟩ = some (.int .i64 (qryOr (implQuery x0)).tenant) := g8.cellv kh0_1
    replace kh0_2 : w8.cell? ⟨w6.heap.size, 2, none⟩ = some (.slice ah0_conds nh0_conds ch0_conds) := g8.cellv kh0_2
    replace kh0_3 : w8.cell? ⟨w6.heap.size, 3, none⟩ = some (.slice ah0_out nh0_out ch0_out) := g8.cellv kh0_3
    replace gw : Hid (Gr w w8) := Lib.hid (gw.out.trans g8)
    replace gv : Hid (Gr w1 w8) := Lib.hid (gv.out.trans g8)
    go_wp2_with fail
    go_ret
    exact ⟨rfl, gw.out⟩
  · go_enter Tryd.func11, Tryd.ntmps11
    go_wp2_with fail
    go_ret
    exact ⟨rfl, Gr.refl _⟩

-- endgen
theorem law_FnExactParseQuery (w : World) (hT : Tens Tryd.prog w) (hS : ∃ p, w.var? Tryd.prog "strconv.ErrSyntax" = some #[.iface 147 p]) (hR : ∃ p, w.var? Tryd.prog "strconv.ErrRange" = some #[.iface 147 p]) (hSh : w.ShapedOpen Tryd.prog) (s : ByteArray) (_ : s.size ≤ 9223372036854775807) : Calls Tryd.prog 11 #[.string s] w fun e w' => e = .returned (.bool true) ∧ Gr w w' := by
  obtain ⟨l, rfl⟩ : ∃ l : List UInt8, s = ⟨l.toArray⟩ := ⟨_, ba_list s⟩
  exact lawl_FnExactParseQuery w hT (by obtain ⟨p, h⟩ := hS; exact ⟨_, p, h⟩) (by obtain ⟨p, h⟩ := hR; exact ⟨_, p, h⟩) (Tryd.laysM146.s1_3 w hSh) l
end Go.Proofs.YtjeffagejbdjkaaDoor

/- From the reading of an argument as data to the words of Base. -/
namespace Go.Proofs.YtjeffagejbdjkaaDoor
open Go.ChangeShapes Go.WideShapes Go.RowKit Go.Deep
section
variable {H : Type} {enc : TypeId × Value → H} {P : Program} {w : World} {base : Nat} {spare : Nat → Bool} {held : Bool}
/-- Whatever reads as data of this type stands for something by R. -/
def Reads (enc : TypeId × Value → H) (P : Program) (w : World) (base : Nat) (spare : Nat → Bool) (held : Bool) {α : Type} (t : TypeId) (R : World → List Value → α → Prop) : Prop :=
  ∀ n cs x, DataW.trod enc P w base spare held n t cs = some x → ∃ d, R w cs d
theorem rd_int {t : TypeId} (ht : P.underlying t = some (.int .i64)) : Reads enc P w base spare held t RInt := fun n cs x h => by
  obtain ⟨k, rfl, _, hw⟩ := DataW.trod_int ht h
  exact ⟨k, rfl, i64_of_wf hw⟩
theorem cells_at {a : Addr} {n : Nat} {cs : List Value} (h : w.cells? base a n = some cs) : cs.length = n ∧ ∀ j (hj : j < cs.length), w.cell? (a.add j) = some cs[j] := by
  obtain ⟨_, hl, hc⟩ := World.cells?_some h
  refine ⟨hl, fun j hj => ?_⟩
  have := hc j (by omega)
  simpa [hj] using this
theorem plain_of_cell {a : Addr} {v : Value} (h : w.cell? a = some v) : a = ⟨a.block, a.off, none⟩ := by
  obtain ⟨b, o, s⟩ := a
  cases s with
  | none => rfl
  | some s =>
    simp only [World.cell?] at h
    split at h <;> simp at h
theorem rd_slice {α : Type} {t e : TypeId} {sz : Nat} {R : World → List Value → α → Prop} (hsz : 0 < sz) (ht : P.underlying t = some (.slice e)) (hC : P.cellsOf e = sz) (he : Reads enc P w base spare held e R)
    {n : Nat} {cs : List Value} {x : DataW H × List MemPlace} (h : DataW.trod enc P w base spare held n t cs = some x) : ∃ v xs, cs = [v] ∧ RSlice sz R w v xs := by
  rcases open_slice ht h with ⟨rfl, _⟩ | ⟨a, len, cap, m, n', D, Pl, rfl, _, hl, hm, hmm, _, hx⟩
  · exact ⟨_, [], rfl, none, 0, rfl, Nat.le_refl _, by omega, fun i hi => absurd hi (Nat.not_lt_zero _)⟩
  · have hml : len ≤ m := by rw [hmm]; split <;> omega
    have hall : ∀ i, i < len → ∃ (d : List Value × α), d.1.length = sz ∧ R w d.1 d.2 ∧ ∀ j (hj : j < d.1.length), w.cell? ((a.add (i * sz)).add j) = some d.1[j] := fun i hi => by
      obtain ⟨cs', h1, h2⟩ := hx i (by omega)
      rw [hC] at h1
      obtain ⟨d, hd⟩ := he _ _ _ h2
      obtain ⟨h3, h4⟩ := cells_at h1
      exact ⟨(cs', d), h3, hd, h4⟩
    by_cases h0 : len = 0
    · subst h0
      exact ⟨_, [], rfl, some a, cap, rfl, Nat.zero_le _, by simpa [maxLen] using hm, fun i hi => absurd hi (Nat.not_lt_zero _)⟩
    · obtain ⟨d0, hd0, hd1, hd2⟩ := hall 0 (by omega)
      have hp : a = ⟨a.block, a.off, none⟩ := by
        have := hd2 0 (by omega)
        simp [Addr.add] at this
        exact plain_of_cell this
      haveI : Inhabited (List Value × α) := ⟨d0⟩
      obtain ⟨f, hf⟩ := choose_lt hall
      refine ⟨_, (List.range len).map fun i => (f i).2, rfl, some a, cap, by simp, by simpa using hl, by simpa [maxLen] using hm, fun i hi => ?_⟩
      have hi' : i < len := by simpa using hi
      obtain ⟨h1, h2, h3⟩ := hf i hi'
      refine ⟨a.block, a.off, (f i).1, by rw [← hp], h1, by simpa using h2, fun j hj => ?_⟩
      have := h3 j hj
      rw [hp, add_plain, add_plain] at this
      exact this
theorem arg_slice {α : Type} {r : Reach} {b0 : Nat} {t e : TypeId} {sz : Nat} {R : World → List Value → α → Prop} {v : Value} {d : DataW H} {p : List MemPlace} (hsz : 0 < sz) (ht : P.underlying t = some (.slice e)) (hC : P.cellsOf e = sz)
    (he : Reads enc P w base spare held e R) (hv : Value.okWide P w r b0 t v) (h : DataW.Trod enc P w base spare held t v d p) : ∃ xs, RSlice sz R w v xs := by
  obtain ⟨a, len, cap, rfl⟩ := okWide_slice ht hv
  obtain ⟨n, hn⟩ := h
  obtain ⟨v', xs, hc, hr⟩ := rd_slice hsz ht hC he hn
  simp [Value.cells] at hc
  subst hc
  exact ⟨xs, hr⟩
theorem arg_cond {r : Reach} {b0 : Nat} {t : TypeId} {f0 f1 f2 : Field} {v : Value} {d : DataW H} {p : List MemPlace} (hs : P.underlying t = some (.struct #[f0, f1, f2])) (hone : oneCellFields P #[f0, f1, f2] = true) (hC : P.cellsOf t = 3)
    (h0 : P.underlying f0.type = some (.int .i64)) (h1 : P.underlying f1.type = some (.int .i64)) (h2 : P.underlying f2.type = some (.int .i64)) (hv : Value.okWide P w r b0 t v) (h : DataW.Trod enc P w base spare held t v d p) :
    ∃ c : DCond, v = .agg #[.int .i64 c.field, .int .i64 c.low, .int .i64 c.high] ∧ I64 c.field ∧ I64 c.low ∧ I64 c.high := by
  obtain ⟨v0, v1, v2, y0, y1, y2, n, rfl, _, _, t0, t1, t2⟩ := Joins.open_agg3 hs hone hC hv h
  obtain ⟨a, e0, i0⟩ := rd_int h0 _ _ _ t0
  obtain ⟨b, e1, i1⟩ := rd_int h1 _ _ _ t1
  obtain ⟨c, e2, i2⟩ := rd_int h2 _ _ _ t2
  simp at e0 e1 e2
  subst e0 e1 e2
  exact ⟨⟨a, b, c⟩, rfl, i0, i1, i2⟩
theorem rd_ints {t e : TypeId} (ht : P.underlying t = some (.slice e)) (he : P.underlying e = some (.int .i64)) (hC : P.cellsOf e = 1) {n : Nat} {cs : List Value} {x : DataW H × List MemPlace} (h : DataW.trod enc P w base spare held n t cs = some x) : ∃ v xs, cs = [v] ∧ RInts w v xs :=
  rd_slice (by decide) ht hC (rd_int he) h
theorem arg_row {r : Reach} {b0 : Nat} {t e : TypeId} {f0 f1 : Field} {v : Value} {d : DataW H} {p : List MemPlace} (hs : P.underlying t = some (.struct #[f0, f1])) (hone : oneCellFields P #[f0, f1] = true) (hC : P.cellsOf t = 2)
    (h0 : P.underlying f0.type = some (.int .i64)) (h1 : P.underlying f1.type = some (.slice e)) (he : P.underlying e = some (.int .i64)) (hCe : P.cellsOf e = 1) (hv : Value.okWide P w r b0 t v) (h : DataW.Trod enc P w base spare held t v d p) :
    ∃ (x : DRow) (u : Value), v = .agg #[.int .i64 x.id, u] ∧ I64 x.id ∧ RInts w u x.vals := by
  obtain ⟨v0, v1, y0, y1, n, rfl, _, _, t0, t1⟩ := Joins.open_agg2 hs hone hC hv h
  obtain ⟨a, e0, i0⟩ := rd_int h0 _ _ _ t0
  obtain ⟨u, xs, e1, i1⟩ := rd_ints h1 he hCe t1
  simp at e0 e1
  subst e0 e1
  exact ⟨⟨a, xs⟩, v1, rfl, i0, i1⟩
theorem arg_version {r : Reach} {b0 : Nat} {t e : TypeId} {f0 f1 f2 f3 : Field} {v : Value} {d : DataW H} {p : List MemPlace} (hs : P.underlying t = some (.struct #[f0, f1, f2, f3])) (hone : oneCellFields P #[f0, f1, f2, f3] = true) (hC : P.cellsOf t = 4)
    (h0 : P.underlying f0.type = some (.int .i64)) (h1 : P.underlying f1.type = some (.slice e)) (he : P.underlying e = some (.int .i64)) (hCe : P.cellsOf e = 1) (h2 : P.underlying f2.type = some (.int .i64)) (h3 : P.underlying f3.type = some (.int .i64)) (hv : Value.okWide P w r b0 t v) (h : DataW.Trod enc P w base spare held t v d p) :
    ∃ (x : DVersion) (u : Value), v = .agg #[.int .i64 x.id, u, .int .i64 x.born, .int .i64 x.died] ∧ I64 x.id ∧ RInts w u x.vals ∧ I64 x.born ∧ I64 x.died := by
  obtain ⟨v0, v1, v2, v3, y0, y1, y2, y3, n, rfl, _, _, t0, t1, t2, t3⟩ := Joins.open_agg4 hs hone hC hv h
  obtain ⟨a, e0, i0⟩ := rd_int h0 _ _ _ t0
  obtain ⟨u, xs, e1, i1⟩ := rd_ints h1 he hCe t1
  obtain ⟨b, e2, i2⟩ := rd_int h2 _ _ _ t2
  obtain ⟨c, e3, i3⟩ := rd_int h3 _ _ _ t3
  simp at e0 e1 e2 e3
  subst e0 e1 e2 e3
  exact ⟨⟨a, xs, b, c⟩, v1, rfl, i0, i1, i2, i3⟩
theorem arg_int {r : Reach} {b0 : Nat} {t : TypeId} {v : Value} {d : DataW H} {p : List MemPlace} (ht : P.underlying t = some (.int .i64)) (hv : Value.okWide P w r b0 t v) (h : DataW.Trod enc P w base spare held t v d p) : ∃ n, v = .int .i64 n ∧ I64 n := by
  obtain ⟨n, rfl, _, _, hw⟩ := open_int ht hv h
  exact ⟨n, rfl, i64_of_wf hw⟩
theorem arg_str {r : Reach} {b0 : Nat} {t : TypeId} {v : Value} {d : DataW H} {p : List MemPlace} (ht : P.underlying t = some .string) (hv : Value.okWide P w r b0 t v) (h : DataW.Trod enc P w base spare held t v d p) : ∃ s : ByteArray, v = .string s ∧ s.size ≤ 9223372036854775807 := by
  obtain ⟨s, rfl, _, _, hs⟩ := Go.ChangeMaps.open_string ht hv h
  exact ⟨s, rfl, by simpa [maxLen] using hs⟩
end
end Go.Proofs.YtjeffagejbdjkaaDoor

/- From the reading of an argument as data to the words of Base: structs and slices of structs. -/
namespace Go.Proofs.YtjeffagejbdjkaaDoor
open Go.ChangeShapes Go.WideShapes Go.RowKit Go.Deep
section
variable {H : Type} {enc : TypeId × Value → H} {P : Program} {w : World} {base : Nat} {spare : Nat → Bool} {held : Bool}
theorem rd_sl {α : Type} {t e : TypeId} {sz : Nat} {R : World → List Value → α → Prop} (hsz : 0 < sz) (ht : P.underlying t = some (.slice e)) (hC : P.cellsOf e = sz) (he : Reads enc P w base spare held e R) : Reads enc P w base spare held t (ROf (RSlice sz R)) := fun n cs x h => by
  obtain ⟨v, xs, h1, h2⟩ := rd_slice hsz ht hC he h
  exact ⟨xs, v, h1, h2⟩
theorem st2 {t : TypeId} {f0 f1 : Field} (hs : P.underlying t = some (.struct #[f0, f1])) (hone : oneCellFields P #[f0, f1] = true) (hC : P.cellsOf t = 2) {n : Nat} {cs : List Value} {x : DataW H × List MemPlace} (h : DataW.trod enc P w base spare held n t cs = some x) :
    ∃ c0 c1 y0 y1 m, cs = [c0, c1] ∧ DataW.trod enc P w base spare held m f0.type [c0] = some y0 ∧ DataW.trod enc P w base spare held m f1.type [c1] = some y1 := by
  obtain ⟨y0, y1, m, _, hl, h0, h1⟩ := trod_struct2 hs h
  rw [hC] at hl
  obtain ⟨o0, k0⟩ := hone_of hone 0 f0 rfl
  obtain ⟨o1, k1⟩ := hone_of hone 1 f1 rfl
  match cs, hl with
  | [c0, c1], _ => exact ⟨c0, c1, y0, y1, m, rfl, by simpa [o0, k0] using h0, by simpa [o1, k1] using h1⟩
theorem st3 {t : TypeId} {f0 f1 f2 : Field} (hs : P.underlying t = some (.struct #[f0, f1, f2])) (hone : oneCellFields P #[f0, f1, f2] = true) (hC : P.cellsOf t = 3) {n : Nat} {cs : List Value} {x : DataW H × List MemPlace} (h : DataW.trod enc P w base spare held n t cs = some x) :
    ∃ c0 c1 c2 y0 y1 y2 m, cs = [c0, c1, c2] ∧ DataW.trod enc P w base spare held m f0.type [c0] = some y0 ∧ DataW.trod enc P w base spare held m f1.type [c1] = some y1 ∧ DataW.trod enc P w base spare held m f2.type [c2] = some y2 := by
  obtain ⟨y0, y1, y2, m, _, hl, h0, h1, h2⟩ := trod_struct3 hs h
  rw [hC] at hl
  obtain ⟨o0, k0⟩ := hone_of hone 0 f0 rfl
  obtain ⟨o1, k1⟩ := hone_of hone 1 f1 rfl
  obtain ⟨o2, k2⟩ := hone_of hone 2 f2 rfl
  match cs, hl with
  | [c0, c1, c2], _ => exact ⟨c0, c1, c2, y0, y1, y2, m, rfl, by simpa [o0, k0] using h0, by simpa [o1, k1] using h1, by simpa [o2, k2] using h2⟩
theorem st4 {t : TypeId} {f0 f1 f2 f3 : Field} (hs : P.underlying t = some (.struct #[f0, f1, f2, f3])) (hone : oneCellFields P #[f0, f1, f2, f3] = true) (hC : P.cellsOf t = 4) {n : Nat} {cs : List Value} {x : DataW H × List MemPlace} (h : DataW.trod enc P w base spare held n t cs = some x) :
    ∃ c0 c1 c2 c3 y0 y1 y2 y3 m, cs = [c0, c1, c2, c3] ∧ DataW.trod enc P w base spare held m f0.type [c0] = some y0 ∧ DataW.trod enc P w base spare held m f1.type [c1] = some y1 ∧ DataW.trod enc P w base spare held m f2.type [c2] = some y2 ∧ DataW.trod enc P w base spare held m f3.type [c3] = some y3 := by
  obtain ⟨y0, y1, y2, y3, m, _, hl, h0, h1, h2, h3⟩ := Joins.trod_struct4 hs h
  rw [hC] at hl
  obtain ⟨o0, k0⟩ := hone_of hone 0 f0 rfl
  obtain ⟨o1, k1⟩ := hone_of hone 1 f1 rfl
  obtain ⟨o2, k2⟩ := hone_of hone 2 f2 rfl
  obtain ⟨o3, k3⟩ := hone_of hone 3 f3 rfl
  match cs, hl with
  | [c0, c1, c2, c3], _ => exact ⟨c0, c1, c2, c3, y0, y1, y2, y3, m, rfl, by simpa [o0, k0] using h0, by simpa [o1, k1] using h1, by simpa [o2, k2] using h2, by simpa [o3, k3] using h3⟩
theorem rd_cond {t : TypeId} {f0 f1 f2 : Field} (hs : P.underlying t = some (.struct #[f0, f1, f2])) (hone : oneCellFields P #[f0, f1, f2] = true) (hC : P.cellsOf t = 3)
    (r0 : Reads enc P w base spare held f0.type RInt) (r1 : Reads enc P w base spare held f1.type RInt) (r2 : Reads enc P w base spare held f2.type RInt) : Reads enc P w base spare held t RCond := fun n cs x h => by
  obtain ⟨c0, c1, c2, y0, y1, y2, m, rfl, h0, h1, h2⟩ := st3 hs hone hC h
  obtain ⟨a, ea, ia⟩ := r0 _ _ _ h0
  obtain ⟨b, eb, ib⟩ := r1 _ _ _ h1
  obtain ⟨c, ec, ic⟩ := r2 _ _ _ h2
  simp at ea eb ec
  subst ea eb ec
  exact ⟨⟨a, b, c⟩, rfl, ia, ib, ic⟩
theorem rd_row {t : TypeId} {f0 f1 : Field} (hs : P.underlying t = some (.struct #[f0, f1])) (hone : oneCellFields P #[f0, f1] = true) (hC : P.cellsOf t = 2)
    (r0 : Reads enc P w base spare held f0.type RInt) (r1 : Reads enc P w base spare held f1.type (ROf RInts)) : Reads enc P w base spare held t RRow := fun n cs x h => by
  obtain ⟨c0, c1, y0, y1, m, rfl, h0, h1⟩ := st2 hs hone hC h
  obtain ⟨a, ea, ia⟩ := r0 _ _ _ h0
  obtain ⟨b, u, eb, ib⟩ := r1 _ _ _ h1
  simp at ea eb
  subst ea eb
  exact ⟨⟨a, b⟩, _, rfl, ia, ib⟩
theorem rd_span {t : TypeId} {f0 f1 f2 : Field} (hs : P.underlying t = some (.struct #[f0, f1, f2])) (hone : oneCellFields P #[f0, f1, f2] = true) (hC : P.cellsOf t = 3)
    (r0 : Reads enc P w base spare held f0.type RInt) (r1 : Reads enc P w base spare held f1.type RInt) (r2 : Reads enc P w base spare held f2.type (ROf RInts)) : Reads enc P w base spare held t RSpan := fun n cs x h => by
  obtain ⟨c0, c1, c2, y0, y1, y2, m, rfl, h0, h1, h2⟩ := st3 hs hone hC h
  obtain ⟨a, ea, ia⟩ := r0 _ _ _ h0
  obtain ⟨b, eb, ib⟩ := r1 _ _ _ h1
  obtain ⟨c, u, ec, ic⟩ := r2 _ _ _ h2
  simp at ea eb ec
  subst ea eb ec
  exact ⟨⟨a, b, c⟩, _, rfl, ia, ib, ic⟩
theorem rd_query {t : TypeId} {f0 f1 f2 f3 : Field} (hs : P.underlying t = some (.struct #[f0, f1, f2, f3])) (hone : oneCellFields P #[f0, f1, f2, f3] = true) (hC : P.cellsOf t = 4)
    (r0 : Reads enc P w base spare held f0.type RInt) (r1 : Reads enc P w base spare held f1.type RInt) (r2 : Reads enc P w base spare held f2.type (ROf RConds)) (r3 : Reads enc P w base spare held f3.type (ROf RInts)) : Reads enc P w base spare held t RQuery := fun n cs x h => by
  obtain ⟨c0, c1, c2, c3, y0, y1, y2, y3, m, rfl, h0, h1, h2, h3⟩ := st4 hs hone hC h
  obtain ⟨a, ea, ia⟩ := r0 _ _ _ h0
  obtain ⟨b, eb, ib⟩ := r1 _ _ _ h1
  obtain ⟨c, u, ec, ic⟩ := r2 _ _ _ h2
  obtain ⟨d, v, ed, id⟩ := r3 _ _ _ h3
  simp at ea eb ec ed
  subst ea eb ec ed
  exact ⟨⟨a, b, c, d⟩, _, _, rfl, ia, ib, ic, id⟩
theorem rd_version {t : TypeId} {f0 f1 f2 f3 : Field} (hs : P.underlying t = some (.struct #[f0, f1, f2, f3])) (hone : oneCellFields P #[f0, f1, f2, f3] = true) (hC : P.cellsOf t = 4)
    (r0 : Reads enc P w base spare held f0.type RInt) (r1 : Reads enc P w base spare held f1.type (ROf RInts)) (r2 : Reads enc P w base spare held f2.type RInt) (r3 : Reads enc P w base spare held f3.type RInt) : Reads enc P w base spare held t RVersion := fun n cs x h => by
  obtain ⟨c0, c1, c2, c3, y0, y1, y2, y3, m, rfl, h0, h1, h2, h3⟩ := st4 hs hone hC h
  obtain ⟨a, ea, ia⟩ := r0 _ _ _ h0
  obtain ⟨b, u, eb, ib⟩ := r1 _ _ _ h1
  obtain ⟨c, ec, ic⟩ := r2 _ _ _ h2
  obtain ⟨d, ed, id⟩ := r3 _ _ _ h3
  simp at ea eb ec ed
  subst ea eb ec ed
  exact ⟨⟨a, b, c, d⟩, _, rfl, ia, ib, ic, id⟩
theorem rd_index {t : TypeId} {f0 f1 : Field} (hs : P.underlying t = some (.struct #[f0, f1])) (hone : oneCellFields P #[f0, f1] = true) (hC : P.cellsOf t = 2)
    (r0 : Reads enc P w base spare held f0.type (ROf RQueries)) (r1 : Reads enc P w base spare held f1.type (ROf RSpanss)) : Reads enc P w base spare held t RIndex := fun n cs x h => by
  obtain ⟨c0, c1, y0, y1, m, rfl, h0, h1⟩ := st2 hs hone hC h
  obtain ⟨a, u, ea, ia⟩ := r0 _ _ _ h0
  obtain ⟨b, v, eb, ib⟩ := r1 _ _ _ h1
  simp at ea eb
  subst ea eb
  exact ⟨⟨a, b⟩, _, _, rfl, ia, ib⟩
theorem rd_store {t : TypeId} {f0 f1 : Field} (hs : P.underlying t = some (.struct #[f0, f1])) (hone : oneCellFields P #[f0, f1] = true) (hC : P.cellsOf t = 2)
    (r0 : Reads enc P w base spare held f0.type (ROf RVersionss)) (r1 : Reads enc P w base spare held f1.type RInt) : Reads enc P w base spare held t RStore := fun n cs x h => by
  obtain ⟨c0, c1, y0, y1, m, rfl, h0, h1⟩ := st2 hs hone hC h
  obtain ⟨a, u, ea, ia⟩ := r0 _ _ _ h0
  obtain ⟨b, eb, ib⟩ := r1 _ _ _ h1
  simp at ea eb
  subst ea eb
  exact ⟨⟨a, b⟩, _, rfl, ia, ib⟩
/-- An argument of slice type. -/
theorem arg_sl {α : Type} {r : Reach} {b0 : Nat} {t e : TypeId} {sz : Nat} {R : World → List Value → α → Prop} {v : Value} {d : DataW H} {p : List MemPlace} (ht : P.underlying t = some (.slice e))
    (he : Reads enc P w base spare held t (ROf (RSlice sz R))) (hv : Value.okWide P w r b0 t v) (h : DataW.Trod enc P w base spare held t v d p) : ∃ xs, RSlice sz R w v xs := by
  obtain ⟨a, len, cap, rfl⟩ := okWide_slice ht hv
  obtain ⟨n, hn⟩ := h
  obtain ⟨xs, v', hc, hr⟩ := he _ _ _ hn
  simp [Value.cells] at hc
  subst hc
  exact ⟨xs, hr⟩
/-- An argument of struct type. -/
theorem arg_st {α : Type} {r : Reach} {b0 : Nat} {t : TypeId} {fs : Array Field} {R : World → List Value → α → Prop} {v : Value} {d : DataW H} {p : List MemPlace} (ht : P.underlying t = some (.struct fs))
    (he : Reads enc P w base spare held t R) (hv : Value.okWide P w r b0 t v) (h : DataW.Trod enc P w base spare held t v d p) : ∃ (x : α) (cs : List Value), v = .agg cs.toArray ∧ R w cs x := by
  obtain ⟨cs, rfl, hsz⟩ := okWide_struct ht hv
  obtain ⟨n, hn⟩ := h
  obtain ⟨x, hr⟩ := he _ _ _ hn
  exact ⟨x, cs.toList, by simp, by simpa [Value.cells] using hr⟩
end
end Go.Proofs.YtjeffagejbdjkaaDoor
