/- The law's own helpers: GenQuery. Written by gen_law.py. -/
import Derived.Test.YtjeffagejbdjkaaGenCond
namespace Go.Proofs.Ytjeffagejbdjkaa
open Go.RowKit
set_option linter.unusedSimpArgs false
set_option maxRecDepth 100000 in
set_option maxHeartbeats 4000000 in
theorem laws_szQuery (x : DQuery) (u_conds : Value) (u_out : Value) (left : Int) (w : World) (h_conds : RConds w u_conds x.conds) (h_out : RInts w u_out x.out) (h0 : 0 ≤ left) (h1 : left ≤ 1048576) :
    Calls Try.prog 12 #[.agg #[.int .i64 x.id, .int .i64 x.tenant, u_conds, u_out], .int .i64 left] w fun e w' => e = .returned (.int .i64 (szV (totQuery x) left)) ∧ Gr w w' := by
  unfold totQuery
  obtain ⟨id, tenant, conds, out⟩ := x
  dsimp only at *
  have g0 : Gr w (w.alloc (.cells #[.int .i64 id, .int .i64 tenant, u_conds, u_out] 33)) := (Gr.refl w).alloc _
  by_cases hs0 : (conds.length : Int) ≤ left
  · by_cases hs1 : (out.length : Int) ≤ (left - (conds.length : Int))
    · have HZ0 := Lib.hid (szV_yes (t := conds.length) (left := left) (by omega))
      have HA0 := Lib.hid (show 0 ≤ left ∧ left ≤ 1048576 from by omega)
      have HZ1 := Lib.hid (szV_yes (t := out.length) (left := (left - (conds.length : Int))) (by omega))
      have HA1 := Lib.hid (show 0 ≤ (left - (conds.length : Int)) ∧ (left - (conds.length : Int)) ≤ 1048576 from by omega)
      have HF := Lib.hid (szV_yes (t := conds.length + out.length) (left := left) (by omega))
      go_enter Try.func12, Try.ntmps12
      go_wp2_with fail
      refine (laws_szCondS u_conds _ conds _ (RSlice.mono keeps_cond g0 h_conds) HA0.out.1 HA0.out.2).mono ?_
      rintro e w1 ⟨rfl, g1⟩
      have gw1 : Gr w w1 := g0.trans g1
      have k1_0 : w1.cell? ⟨w.heap.size, 0, none⟩ = some (.int .i64 id) := g1.cellv (by simp [go_sem])
      have k1_1 : w1.cell? ⟨w.heap.size, 1, none⟩ = some (.int .i64 tenant) := g1.cellv (by simp [go_sem])
      have k1_2 : w1.cell? ⟨w.heap.size, 2, none⟩ = some u_conds := g1.cellv (by simp [go_sem])
      have k1_3 : w1.cell? ⟨w.heap.size, 3, none⟩ = some u_out := g1.cellv (by simp [go_sem])
      rw [HZ0.out]
      go_wp2_with fail
      refine (laws_szIntS_gr u_out _ out _ (RSlice.mono keeps_int gw1 h_out) HA1.out.1 HA1.out.2).mono ?_
      rintro e w2 ⟨rfl, g2⟩
      have gw2 : Gr w w2 := gw1.trans g2
      have k2_0 : w2.cell? ⟨w.heap.size, 0, none⟩ = some (.int .i64 id) := g2.cellv (by simp [k1_0])
      have k2_1 : w2.cell? ⟨w.heap.size, 1, none⟩ = some (.int .i64 tenant) := g2.cellv (by simp [k1_1])
      have k2_2 : w2.cell? ⟨w.heap.size, 2, none⟩ = some u_conds := g2.cellv (by simp [k1_2])
      have k2_3 : w2.cell? ⟨w.heap.size, 3, none⟩ = some u_out := g2.cellv (by simp [k1_3])
      rw [HZ1.out]
      go_wp2_with fail
      go_ret
      exact ⟨ret_int (by rw [HF.out]; omega), gw2⟩
    · have HZ0 := Lib.hid (szV_yes (t := conds.length) (left := left) (by omega))
      have HA0 := Lib.hid (show 0 ≤ left ∧ left ≤ 1048576 from by omega)
      have HZ1 := Lib.hid (szV_no (t := out.length) (left := (left - (conds.length : Int))) (by omega))
      have HA1 := Lib.hid (show 0 ≤ (left - (conds.length : Int)) ∧ (left - (conds.length : Int)) ≤ 1048576 from by omega)
      have HF := Lib.hid (szV_no (t := conds.length + out.length) (left := left) (by omega))
      go_enter Try.func12, Try.ntmps12
      go_wp2_with fail
      refine (laws_szCondS u_conds _ conds _ (RSlice.mono keeps_cond g0 h_conds) HA0.out.1 HA0.out.2).mono ?_
      rintro e w1 ⟨rfl, g1⟩
      have gw1 : Gr w w1 := g0.trans g1
      have k1_0 : w1.cell? ⟨w.heap.size, 0, none⟩ = some (.int .i64 id) := g1.cellv (by simp [go_sem])
      have k1_1 : w1.cell? ⟨w.heap.size, 1, none⟩ = some (.int .i64 tenant) := g1.cellv (by simp [go_sem])
      have k1_2 : w1.cell? ⟨w.heap.size, 2, none⟩ = some u_conds := g1.cellv (by simp [go_sem])
      have k1_3 : w1.cell? ⟨w.heap.size, 3, none⟩ = some u_out := g1.cellv (by simp [go_sem])
      rw [HZ0.out]
      go_wp2_with fail
      refine (laws_szIntS_gr u_out _ out _ (RSlice.mono keeps_int gw1 h_out) HA1.out.1 HA1.out.2).mono ?_
      rintro e w2 ⟨rfl, g2⟩
      have gw2 : Gr w w2 := gw1.trans g2
      have k2_0 : w2.cell? ⟨w.heap.size, 0, none⟩ = some (.int .i64 id) := g2.cellv (by simp [k1_0])
      have k2_1 : w2.cell? ⟨w.heap.size, 1, none⟩ = some (.int .i64 tenant) := g2.cellv (by simp [k1_1])
      have k2_2 : w2.cell? ⟨w.heap.size, 2, none⟩ = some u_conds := g2.cellv (by simp [k1_2])
      have k2_3 : w2.cell? ⟨w.heap.size, 3, none⟩ = some u_out := g2.cellv (by simp [k1_3])
      rw [HZ1.out]
      go_wp2_with fail
      go_ret
      exact ⟨ret_int (by rw [HF.out]), gw2⟩
  · have HZ0 := Lib.hid (szV_no (t := conds.length) (left := left) (by omega))
    have HA0 := Lib.hid (show 0 ≤ left ∧ left ≤ 1048576 from by omega)
    have HF := Lib.hid (szV_no (t := conds.length + out.length) (left := left) (by omega))
    go_enter Try.func12, Try.ntmps12
    go_wp2_with fail
    refine (laws_szCondS u_conds _ conds _ (RSlice.mono keeps_cond g0 h_conds) HA0.out.1 HA0.out.2).mono ?_
    rintro e w1 ⟨rfl, g1⟩
    have gw1 : Gr w w1 := g0.trans g1
    have k1_0 : w1.cell? ⟨w.heap.size, 0, none⟩ = some (.int .i64 id) := g1.cellv (by simp [go_sem])
    have k1_1 : w1.cell? ⟨w.heap.size, 1, none⟩ = some (.int .i64 tenant) := g1.cellv (by simp [go_sem])
    have k1_2 : w1.cell? ⟨w.heap.size, 2, none⟩ = some u_conds := g1.cellv (by simp [go_sem])
    have k1_3 : w1.cell? ⟨w.heap.size, 3, none⟩ = some u_out := g1.cellv (by simp [go_sem])
    rw [HZ0.out]
    go_wp2_with fail
    go_ret
    exact ⟨ret_int (by rw [HF.out]), gw1⟩
set_option maxRecDepth 100000 in
set_option maxHeartbeats 4000000 in
theorem laws_toQuery_own (x : DQuery) (u_conds : Value) (u_out : Value) (w : World) (h_conds : RConds w u_conds x.conds) (h_out : RInts w u_out x.out) (hb : totQuery x ≤ 4294967296) :
    Calls Try.prog 14 #[.agg #[.int .i64 x.id, .int .i64 x.tenant, u_conds, u_out]] w fun e w' => ∃ v_conds v_out, e = .returned (.agg #[.int .i64 x.id, .int .i64 x.tenant, v_conds, v_out]) ∧ Gr w w' ∧ ∃ m, w.heap.size ≤ m ∧ m ≤ w'.heap.size ∧ PConds (In w.heap.size m) w' v_conds x.conds ∧ PInts (In m w'.heap.size) w' v_out x.out := by
  unfold totQuery at hb
  obtain ⟨id, tenant, conds, out⟩ := x
  dsimp only at *
  have g0 : Gr w (((w.alloc (.cells #[.int .i64 id, .int .i64 tenant, u_conds, u_out] 33)).alloc (.cells #[.int .i64 0, .int .i64 0, .slice none 0 0, .slice none 0 0] 38)).alloc (.cells #[.int .i64 id, .int .i64 tenant, .slice none 0 0, .slice none 0 0] 38)) := (((Gr.refl w).alloc _).alloc _).alloc _
  go_enter Try.func14, Try.ntmps14
  go_wp2_with fail
  refine (laws_toCondS_own u_conds conds _ (RSlice.mono keeps_cond g0 h_conds) (by omega)).mono ?_
  rintro e w1 ⟨v_conds, rfl, ⟨a1, n1, c1, rfl⟩, g1, r1⟩
  have gw1 : Gr w w1 := Gr.trans g0 g1
  have hz1 : w.heap.size + 1 + 1 + 1 ≤ w1.heap.size := by have := g1.size; simpa using this
  have r1 := r1.wide (lo' := w.heap.size + 1 + 1 + 1) (hi' := w1.heap.size) (by first | omega | (simp; done) | (simp; omega)) (Nat.le_refl _)
  have kb1_0 : w1.cell? ⟨w.heap.size, 0, none⟩ = some (.int .i64 id) := g1.cellv (by simp [go_sem])
  have kb1_1 : w1.cell? ⟨w.heap.size, 1, none⟩ = some (.int .i64 tenant) := g1.cellv (by simp [go_sem])
  have kb1_2 : w1.cell? ⟨w.heap.size, 2, none⟩ = some (u_conds) := g1.cellv (by simp [go_sem])
  have kb1_3 : w1.cell? ⟨w.heap.size, 3, none⟩ = some (u_out) := g1.cellv (by simp [go_sem])
  have k11_0 : w1.cell? ⟨w.heap.size + 1, 0, none⟩ = some (.int .i64 0) := g1.cellv (by simp [go_sem])
  have fk11_0 : w1.frozen? ⟨w.heap.size + 1, 0, none⟩ = false := by rw [g1.frozen (by first | omega | (simp; done) | (simp; omega))]; simp [go_sem]
  have k11_1 : w1.cell? ⟨w.heap.size + 1, 1, none⟩ = some (.int .i64 0) := g1.cellv (by simp [go_sem])
  have fk11_1 : w1.frozen? ⟨w.heap.size + 1, 1, none⟩ = false := by rw [g1.frozen (by first | omega | (simp; done) | (simp; omega))]; simp [go_sem]
  have k11_2 : w1.cell? ⟨w.heap.size + 1, 2, none⟩ = some (.slice none 0 0) := g1.cellv (by simp [go_sem])
  have fk11_2 : w1.frozen? ⟨w.heap.size + 1, 2, none⟩ = false := by rw [g1.frozen (by first | omega | (simp; done) | (simp; omega))]; simp [go_sem]
  have k11_3 : w1.cell? ⟨w.heap.size + 1, 3, none⟩ = some (.slice none 0 0) := g1.cellv (by simp [go_sem])
  have fk11_3 : w1.frozen? ⟨w.heap.size + 1, 3, none⟩ = false := by rw [g1.frozen (by first | omega | (simp; done) | (simp; omega))]; simp [go_sem]
  have k21_0 : w1.cell? ⟨w.heap.size + 1 + 1, 0, none⟩ = some (.int .i64 id) := g1.cellv (by simp [go_sem])
  have fk21_0 : w1.frozen? ⟨w.heap.size + 1 + 1, 0, none⟩ = false := by rw [g1.frozen (by first | omega | (simp; done) | (simp; omega))]; simp [go_sem]
  have k21_1 : w1.cell? ⟨w.heap.size + 1 + 1, 1, none⟩ = some (.int .i64 tenant) := g1.cellv (by simp [go_sem])
  have fk21_1 : w1.frozen? ⟨w.heap.size + 1 + 1, 1, none⟩ = false := by rw [g1.frozen (by first | omega | (simp; done) | (simp; omega))]; simp [go_sem]
  have k21_2 : w1.cell? ⟨w.heap.size + 1 + 1, 2, none⟩ = some (.slice none 0 0) := g1.cellv (by simp [go_sem])
  have fk21_2 : w1.frozen? ⟨w.heap.size + 1 + 1, 2, none⟩ = false := by rw [g1.frozen (by first | omega | (simp; done) | (simp; omega))]; simp [go_sem]
  have k21_3 : w1.cell? ⟨w.heap.size + 1 + 1, 3, none⟩ = some (.slice none 0 0) := g1.cellv (by simp [go_sem])
  have fk21_3 : w1.frozen? ⟨w.heap.size + 1 + 1, 3, none⟩ = false := by rw [g1.frozen (by first | omega | (simp; done) | (simp; omega))]; simp [go_sem]
  clear g1
  go_wp2_with fail
  refine (laws_toIntS_own u_out out _ (RSlice.mono keeps_int (by repeat' (first | with_reducible assumption | with_reducible exact Gr.refl _ | with_reducible refine Gr.alloc ?_ _ | with_reducible refine Gr.setCell ?_ ?_ _ | (dsimp only; omega))) h_out) (by omega)).mono ?_
  rintro e w2 ⟨v_out, rfl, ⟨a2, n2, c2, rfl⟩, g2, r2⟩
  have gw2 : Gr w w2 := Gr.trans (by repeat' (first | with_reducible assumption | with_reducible exact Gr.refl _ | with_reducible refine Gr.alloc ?_ _ | with_reducible refine Gr.setCell ?_ ?_ _ | (dsimp only; omega))) g2
  have hz2 : w.heap.size + 1 + 1 + 1 ≤ w2.heap.size := by have := g2.size; simp at this; omega
  have hy2 : w1.heap.size ≤ w2.heap.size := by have := g2.size; simp at this; omega
  have r2 := r2.wide (lo' := w1.heap.size) (hi' := w2.heap.size) (by first | omega | (simp; done) | (simp; omega)) (Nat.le_refl _)
  have r1 := OSl.gr fr_cond (OSl.loc (lo' := w.heap.size + 1 + 1 + 1) fr_cond r1 (by repeat' (first | with_reducible exact Loc.refl _ _ | with_reducible refine Loc.setCell ?_ ?_ _ | (dsimp only; omega))) (by omega)) g2
  have kb2_0 : w2.cell? ⟨w.heap.size, 0, none⟩ = some (.int .i64 id) := g2.cellv (by simp [go_sem, kb1_0, kb1_1, kb1_2, kb1_3])
  have kb2_1 : w2.cell? ⟨w.heap.size, 1, none⟩ = some (.int .i64 tenant) := g2.cellv (by simp [go_sem, kb1_0, kb1_1, kb1_2, kb1_3])
  have kb2_2 : w2.cell? ⟨w.heap.size, 2, none⟩ = some (u_conds) := g2.cellv (by simp [go_sem, kb1_0, kb1_1, kb1_2, kb1_3])
  have kb2_3 : w2.cell? ⟨w.heap.size, 3, none⟩ = some (u_out) := g2.cellv (by simp [go_sem, kb1_0, kb1_1, kb1_2, kb1_3])
  have k12_0 : w2.cell? ⟨w.heap.size + 1, 0, none⟩ = some (.int .i64 0) := g2.cellv (by simp [go_sem, k11_0, k11_1, k11_2, k11_3])
  have fk12_0 : w2.frozen? ⟨w.heap.size + 1, 0, none⟩ = false := by rw [g2.frozen (by first | omega | (simp; done) | (simp; omega))]; simp [go_sem, fk11_0, fk11_1, fk11_2, fk11_3]
  have k12_1 : w2.cell? ⟨w.heap.size + 1, 1, none⟩ = some (.int .i64 0) := g2.cellv (by simp [go_sem, k11_0, k11_1, k11_2, k11_3])
  have fk12_1 : w2.frozen? ⟨w.heap.size + 1, 1, none⟩ = false := by rw [g2.frozen (by first | omega | (simp; done) | (simp; omega))]; simp [go_sem, fk11_0, fk11_1, fk11_2, fk11_3]
  have k12_2 : w2.cell? ⟨w.heap.size + 1, 2, none⟩ = some (.slice none 0 0) := g2.cellv (by simp [go_sem, k11_0, k11_1, k11_2, k11_3])
  have fk12_2 : w2.frozen? ⟨w.heap.size + 1, 2, none⟩ = false := by rw [g2.frozen (by first | omega | (simp; done) | (simp; omega))]; simp [go_sem, fk11_0, fk11_1, fk11_2, fk11_3]
  have k12_3 : w2.cell? ⟨w.heap.size + 1, 3, none⟩ = some (.slice none 0 0) := g2.cellv (by simp [go_sem, k11_0, k11_1, k11_2, k11_3])
  have fk12_3 : w2.frozen? ⟨w.heap.size + 1, 3, none⟩ = false := by rw [g2.frozen (by first | omega | (simp; done) | (simp; omega))]; simp [go_sem, fk11_0, fk11_1, fk11_2, fk11_3]
  have k22_0 : w2.cell? ⟨w.heap.size + 1 + 1, 0, none⟩ = some (.int .i64 id) := g2.cellv (by simp [go_sem, k21_0, k21_1, k21_2, k21_3])
  have fk22_0 : w2.frozen? ⟨w.heap.size + 1 + 1, 0, none⟩ = false := by rw [g2.frozen (by first | omega | (simp; done) | (simp; omega))]; simp [go_sem, fk21_0, fk21_1, fk21_2, fk21_3]
  have k22_1 : w2.cell? ⟨w.heap.size + 1 + 1, 1, none⟩ = some (.int .i64 tenant) := g2.cellv (by simp [go_sem, k21_0, k21_1, k21_2, k21_3])
  have fk22_1 : w2.frozen? ⟨w.heap.size + 1 + 1, 1, none⟩ = false := by rw [g2.frozen (by first | omega | (simp; done) | (simp; omega))]; simp [go_sem, fk21_0, fk21_1, fk21_2, fk21_3]
  have k22_2 : w2.cell? ⟨w.heap.size + 1 + 1, 2, none⟩ = some (.slice a1 n1 c1) := g2.cellv (by simp [go_sem, k21_0, k21_1, k21_2, k21_3])
  have fk22_2 : w2.frozen? ⟨w.heap.size + 1 + 1, 2, none⟩ = false := by rw [g2.frozen (by first | omega | (simp; done) | (simp; omega))]; simp [go_sem, fk21_0, fk21_1, fk21_2, fk21_3]
  have k22_3 : w2.cell? ⟨w.heap.size + 1 + 1, 3, none⟩ = some (.slice none 0 0) := g2.cellv (by simp [go_sem, k21_0, k21_1, k21_2, k21_3])
  have fk22_3 : w2.frozen? ⟨w.heap.size + 1 + 1, 3, none⟩ = false := by rw [g2.frozen (by first | omega | (simp; done) | (simp; omega))]; simp [go_sem, fk21_0, fk21_1, fk21_2, fk21_3]
  clear kb1_0 kb1_1 kb1_2 kb1_3 k11_0 k11_1 k11_2 k11_3 k21_0 k21_1 k21_2 k21_3 fk11_0 fk11_1 fk11_2 fk11_3 fk21_0 fk21_1 fk21_2 fk21_3 g2
  have R1 := Lib.hid r1
  have R2 := Lib.hid r2
  clear r1 r2
  go_wp2_with fail
  refine bodyPost_ret (v := .agg #[.int .i64 id, .int .i64 tenant, .slice a1 n1 c1, .slice a2 n2 c2]) (by simp [results, Try.results14, go_sem, *]) rfl ⟨_, _, rfl, (by repeat' (first | with_reducible assumption | with_reducible exact Gr.refl _ | with_reducible refine Gr.alloc ?_ _ | with_reducible refine Gr.setCell ?_ ?_ _ | (dsimp only; omega))), w1.heap.size, (by omega), (by first | omega | (simp [World.setCell]; done) | (simp [World.setCell]; omega)), ((OSl.loc (lo' := w.heap.size + 1 + 1 + 1) fr_cond R1.out (by repeat' (first | with_reducible exact Loc.refl _ _ | with_reducible refine Loc.setCell ?_ ?_ _ | (dsimp only; omega))) (by omega)).wide (by first | omega | (simp [World.setCell]; done) | (simp [World.setCell]; omega)) (by first | omega | (simp [World.setCell]; done) | (simp [World.setCell]; omega))), ((OSl.loc (lo' := w.heap.size + 1 + 1 + 1) fr_int R2.out (by repeat' (first | with_reducible exact Loc.refl _ _ | with_reducible refine Loc.setCell ?_ ?_ _ | (dsimp only; omega))) (by omega)).wide (by first | omega | (simp [World.setCell]; done) | (simp [World.setCell]; omega)) (by first | omega | (simp [World.setCell]; done) | (simp [World.setCell]; omega)))⟩
theorem laws_toQuery_gr (x : DQuery) (u_conds : Value) (u_out : Value) (w : World) (h_conds : RConds w u_conds x.conds) (h_out : RInts w u_out x.out) (hb : totQuery x ≤ 4294967296) :
    Calls Try.prog 14 #[.agg #[.int .i64 x.id, .int .i64 x.tenant, u_conds, u_out]] w fun e w' => ∃ v_conds v_out, e = .returned (.agg #[.int .i64 x.id, .int .i64 x.tenant, v_conds, v_out]) ∧ IsSl v_conds ∧ Fresh w.heap.size RConds w' v_conds x.conds ∧ IsSl v_out ∧ Fresh w.heap.size RInts w' v_out x.out ∧ Gr w w' := (laws_toQuery_own x u_conds u_out w h_conds h_out hb).mono fun _ _ ⟨v, u, h1, h2, _, hm, _, h3, h4⟩ => ⟨v, u, h1, h3.isSl, h3.fresh fr_cond (fun h => rd_pconds h), h4.isSl, (h4.fresh fr_int (fun h => rd_pints h)).le hm, h2⟩
set_option maxRecDepth 100000 in
set_option maxHeartbeats 4000000 in
theorem laws_eqQuery (x : DQuery) (u_conds : Value) (u_out : Value) (t_conds : Value) (t_out : Value) (w : World) (h_conds : RConds w u_conds x.conds) (h_out : RInts w u_out x.out) (k_conds : RConds w t_conds x.conds) (k_out : RInts w t_out x.out) :
    Calls Try.prog 16 #[.agg #[.int .i64 x.id, .int .i64 x.tenant, u_conds, u_out], .agg #[.int .i64 x.id, .int .i64 x.tenant, t_conds, t_out]] w fun e w' => e = .returned (.bool true) ∧ Gr w w' := by
  obtain ⟨id, tenant, conds, out⟩ := x
  dsimp only at *
  have g0 : Gr w ((w.alloc (.cells #[.int .i64 id, .int .i64 tenant, u_conds, u_out] 38)).alloc (.cells #[.int .i64 id, .int .i64 tenant, t_conds, t_out] 38)) := ((Gr.refl w).alloc _).alloc _
  have e_id : (id != id) = false := by simp
  have e_tenant : (tenant != tenant) = false := by simp
  go_enter Try.func16, Try.ntmps16
  go_wp2_with fail
  refine (laws_eqCondS_same u_conds t_conds _ _ (RSlice.mono keeps_cond g0 h_conds) (RSlice.mono keeps_cond g0 k_conds)).mono ?_
  rintro e w1 ⟨rfl, g1⟩
  have gw1 : Gr w w1 := g0.trans g1
  have k1_0 : w1.cell? ⟨w.heap.size, 0, none⟩ = some (.int .i64 id) := g1.cellv (by simp [go_sem])
  have l1_0 : w1.cell? ⟨w.heap.size + 1, 0, none⟩ = some (.int .i64 id) := g1.cellv (by simp [go_sem])
  have k1_1 : w1.cell? ⟨w.heap.size, 1, none⟩ = some (.int .i64 tenant) := g1.cellv (by simp [go_sem])
  have l1_1 : w1.cell? ⟨w.heap.size + 1, 1, none⟩ = some (.int .i64 tenant) := g1.cellv (by simp [go_sem])
  have k1_2 : w1.cell? ⟨w.heap.size, 2, none⟩ = some u_conds := g1.cellv (by simp [go_sem])
  have l1_2 : w1.cell? ⟨w.heap.size + 1, 2, none⟩ = some t_conds := g1.cellv (by simp [go_sem])
  have k1_3 : w1.cell? ⟨w.heap.size, 3, none⟩ = some u_out := g1.cellv (by simp [go_sem])
  have l1_3 : w1.cell? ⟨w.heap.size + 1, 3, none⟩ = some t_out := g1.cellv (by simp [go_sem])
  go_wp2_with fail
  refine (laws_eqIntS_same u_out t_out _ _ (RSlice.mono keeps_int gw1 h_out) (RSlice.mono keeps_int gw1 k_out)).mono ?_
  rintro e w2 ⟨rfl, g2⟩
  have gw2 : Gr w w2 := gw1.trans g2
  have k2_0 : w2.cell? ⟨w.heap.size, 0, none⟩ = some (.int .i64 id) := g2.cellv (by simp [k1_0])
  have l2_0 : w2.cell? ⟨w.heap.size + 1, 0, none⟩ = some (.int .i64 id) := g2.cellv (by simp [l1_0])
  have k2_1 : w2.cell? ⟨w.heap.size, 1, none⟩ = some (.int .i64 tenant) := g2.cellv (by simp [k1_1])
  have l2_1 : w2.cell? ⟨w.heap.size + 1, 1, none⟩ = some (.int .i64 tenant) := g2.cellv (by simp [l1_1])
  have k2_2 : w2.cell? ⟨w.heap.size, 2, none⟩ = some u_conds := g2.cellv (by simp [k1_2])
  have l2_2 : w2.cell? ⟨w.heap.size + 1, 2, none⟩ = some t_conds := g2.cellv (by simp [l1_2])
  have k2_3 : w2.cell? ⟨w.heap.size, 3, none⟩ = some u_out := g2.cellv (by simp [k1_3])
  have l2_3 : w2.cell? ⟨w.heap.size + 1, 3, none⟩ = some t_out := g2.cellv (by simp [l1_3])
  go_wp2_with fail
  go_ret
  exact ⟨rfl, gw2⟩
end Go.Proofs.Ytjeffagejbdjkaa
