/- The law's own helpers: GenRow. Written by gen_law.py. -/
import Derived.Test.YtjeffagejbdjkaaDoorGenInt
namespace Go.Proofs.YtjeffagejbdjkaaDoor
open Go.RowKit
set_option linter.unusedSimpArgs false
set_option maxRecDepth 100000 in
set_option maxHeartbeats 4000000 in
theorem laws_szRow (x : DRow) (u_vals : Value) (left : Int) (w : World) (h_vals : RInts w u_vals x.vals) (h0 : 0 ≤ left) (h1 : left ≤ 1048576) :
    Calls Tryd.prog 18 #[.agg #[.int .i64 x.id, u_vals], .int .i64 left] w fun e w' => e = .returned (.int .i64 (szV (totRow x) left)) ∧ Gr w w' := by
  unfold totRow
  obtain ⟨id, vals⟩ := x
  dsimp only at *
  have g0 : Gr w (w.alloc (.cells #[.int .i64 id, u_vals] 30)) := (Gr.refl w).alloc _
  by_cases hs0 : (vals.length : Int) ≤ left
  · have HZ0 := Lib.hid (szV_yes (t := vals.length) (left := left) (by omega))
    have HA0 := Lib.hid (show 0 ≤ left ∧ left ≤ 1048576 from by omega)
    have HF := Lib.hid (szV_yes (t := vals.length) (left := left) (by omega))
    go_enter Tryd.func18, Tryd.ntmps18
    go_wp2_with fail
    refine (laws_szIntS_gr u_vals _ vals _ (RSlice.mono keeps_int g0 h_vals) HA0.out.1 HA0.out.2).mono ?_
    rintro e w1 ⟨rfl, g1⟩
    have gw1 : Gr w w1 := g0.trans g1
    have k1_0 : w1.cell? ⟨w.heap.size, 0, none⟩ = some (.int .i64 id) := g1.cellv (by simp [go_sem])
    have k1_1 : w1.cell? ⟨w.heap.size, 1, none⟩ = some u_vals := g1.cellv (by simp [go_sem])
    rw [HZ0.out]
    go_wp2_with fail
    go_ret
    exact ⟨ret_int (by rw [HF.out]), gw1⟩
  · have HZ0 := Lib.hid (szV_no (t := vals.length) (left := left) (by omega))
    have HA0 := Lib.hid (show 0 ≤ left ∧ left ≤ 1048576 from by omega)
    have HF := Lib.hid (szV_no (t := vals.length) (left := left) (by omega))
    go_enter Tryd.func18, Tryd.ntmps18
    go_wp2_with fail
    refine (laws_szIntS_gr u_vals _ vals _ (RSlice.mono keeps_int g0 h_vals) HA0.out.1 HA0.out.2).mono ?_
    rintro e w1 ⟨rfl, g1⟩
    have gw1 : Gr w w1 := g0.trans g1
    have k1_0 : w1.cell? ⟨w.heap.size, 0, none⟩ = some (.int .i64 id) := g1.cellv (by simp [go_sem])
    have k1_1 : w1.cell? ⟨w.heap.size, 1, none⟩ = some u_vals := g1.cellv (by simp [go_sem])
    rw [HZ0.out]
    go_wp2_with fail
    go_ret
    exact ⟨ret_int (by rw [HF.out]), gw1⟩
set_option maxRecDepth 100000 in
set_option maxHeartbeats 4000000 in
theorem laws_toRow_own (x : DRow) (u_vals : Value) (w : World) (h_vals : RInts w u_vals x.vals) (hb : totRow x ≤ 4294967296) :
    Calls Tryd.prog 20 #[.agg #[.int .i64 x.id, u_vals]] w fun e w' => ∃ v_vals, e = .returned (.agg #[.int .i64 x.id, v_vals]) ∧ Gr w w' ∧ PInts (In w.heap.size w'.heap.size) w' v_vals x.vals := by
  unfold totRow at hb
  obtain ⟨id, vals⟩ := x
  dsimp only at *
  have g0 : Gr w (((w.alloc (.cells #[.int .i64 id, u_vals] 30)).alloc (.cells #[.int .i64 0, .slice none 0 0] 33)).alloc (.cells #[.int .i64 id, .slice none 0 0] 33)) := (((Gr.refl w).alloc _).alloc _).alloc _
  go_enter Tryd.func20, Tryd.ntmps20
  go_wp2_with fail
  refine (laws_toIntS_own u_vals vals _ (RSlice.mono keeps_int g0 h_vals) (by omega)).mono ?_
  rintro e w1 ⟨v_vals, rfl, ⟨a1, n1, c1, rfl⟩, g1, r1⟩
  have gw1 : Gr w w1 := Gr.trans g0 g1
  have hz1 : w.heap.size + 1 + 1 + 1 ≤ w1.heap.size := by have := g1.size; simpa using this
  have r1 := r1.wide (lo' := w.heap.size + 1 + 1 + 1) (hi' := w1.heap.size) (by first | omega | (simp; done) | (simp; omega)) (Nat.le_refl _)
  have kb1_0 : w1.cell? ⟨w.heap.size, 0, none⟩ = some (.int .i64 id) := g1.cellv (by simp [go_sem])
  have kb1_1 : w1.cell? ⟨w.heap.size, 1, none⟩ = some (u_vals) := g1.cellv (by simp [go_sem])
  have k11_0 : w1.cell? ⟨w.heap.size + 1, 0, none⟩ = some (.int .i64 0) := g1.cellv (by simp [go_sem])
  have fk11_0 : w1.frozen? ⟨w.heap.size + 1, 0, none⟩ = false := by rw [g1.frozen (by first | omega | (simp; done) | (simp; omega))]; simp [go_sem]
  have k11_1 : w1.cell? ⟨w.heap.size + 1, 1, none⟩ = some (.slice none 0 0) := g1.cellv (by simp [go_sem])
  have fk11_1 : w1.frozen? ⟨w.heap.size + 1, 1, none⟩ = false := by rw [g1.frozen (by first | omega | (simp; done) | (simp; omega))]; simp [go_sem]
  have k21_0 : w1.cell? ⟨w.heap.size + 1 + 1, 0, none⟩ = some (.int .i64 id) := g1.cellv (by simp [go_sem])
  have fk21_0 : w1.frozen? ⟨w.heap.size + 1 + 1, 0, none⟩ = false := by rw [g1.frozen (by first | omega | (simp; done) | (simp; omega))]; simp [go_sem]
  have k21_1 : w1.cell? ⟨w.heap.size + 1 + 1, 1, none⟩ = some (.slice none 0 0) := g1.cellv (by simp [go_sem])
  have fk21_1 : w1.frozen? ⟨w.heap.size + 1 + 1, 1, none⟩ = false := by rw [g1.frozen (by first | omega | (simp; done) | (simp; omega))]; simp [go_sem]
  clear g1
  have R1 := Lib.hid r1
  clear r1
  go_wp2_with fail
  refine bodyPost_ret (v := .agg #[.int .i64 id, .slice a1 n1 c1]) (by simp [results, Tryd.results20, go_sem, *]) rfl ⟨_, rfl, (by repeat' (first | with_reducible assumption | with_reducible exact Gr.refl _ | with_reducible refine Gr.alloc ?_ _ | with_reducible refine Gr.setCell ?_ ?_ _ | (dsimp only; omega))), ((OSl.loc (lo' := w.heap.size + 1 + 1 + 1) fr_int R1.out (by repeat' (first | with_reducible exact Loc.refl _ _ | with_reducible refine Loc.setCell ?_ ?_ _ | (dsimp only; omega))) (by omega)).wide (by first | omega | (simp [World.setCell]; done) | (simp [World.setCell]; omega)) (by first | omega | (simp [World.setCell]; done) | (simp [World.setCell]; omega)))⟩
theorem laws_toRow_gr (x : DRow) (u_vals : Value) (w : World) (h_vals : RInts w u_vals x.vals) (hb : totRow x ≤ 4294967296) :
    Calls Tryd.prog 20 #[.agg #[.int .i64 x.id, u_vals]] w fun e w' => ∃ v_vals, e = .returned (.agg #[.int .i64 x.id, v_vals]) ∧ IsSl v_vals ∧ Fresh w.heap.size RInts w' v_vals x.vals ∧ Gr w w' := (laws_toRow_own x u_vals w h_vals hb).mono fun _ _ ⟨v, h1, h2, h3⟩ => ⟨v, h1, h3.isSl, h3.fresh fr_int (fun h => rd_pints h), h2⟩
set_option maxRecDepth 100000 in
set_option maxHeartbeats 4000000 in
theorem laws_eqRow (x : DRow) (u_vals : Value) (t_vals : Value) (w : World) (h_vals : RInts w u_vals x.vals) (k_vals : RInts w t_vals x.vals) :
    Calls Tryd.prog 22 #[.agg #[.int .i64 x.id, u_vals], .agg #[.int .i64 x.id, t_vals]] w fun e w' => e = .returned (.bool true) ∧ Gr w w' := by
  obtain ⟨id, vals⟩ := x
  dsimp only at *
  have g0 : Gr w ((w.alloc (.cells #[.int .i64 id, u_vals] 33)).alloc (.cells #[.int .i64 id, t_vals] 33)) := ((Gr.refl w).alloc _).alloc _
  have e_id : (id != id) = false := by simp
  go_enter Tryd.func22, Tryd.ntmps22
  go_wp2_with fail
  refine (laws_eqIntS_same u_vals t_vals _ _ (RSlice.mono keeps_int g0 h_vals) (RSlice.mono keeps_int g0 k_vals)).mono ?_
  rintro e w1 ⟨rfl, g1⟩
  have gw1 : Gr w w1 := g0.trans g1
  have k1_0 : w1.cell? ⟨w.heap.size, 0, none⟩ = some (.int .i64 id) := g1.cellv (by simp [go_sem])
  have l1_0 : w1.cell? ⟨w.heap.size + 1, 0, none⟩ = some (.int .i64 id) := g1.cellv (by simp [go_sem])
  have k1_1 : w1.cell? ⟨w.heap.size, 1, none⟩ = some u_vals := g1.cellv (by simp [go_sem])
  have l1_1 : w1.cell? ⟨w.heap.size + 1, 1, none⟩ = some t_vals := g1.cellv (by simp [go_sem])
  go_wp2_with fail
  go_ret
  exact ⟨rfl, gw1⟩
end Go.Proofs.YtjeffagejbdjkaaDoor
