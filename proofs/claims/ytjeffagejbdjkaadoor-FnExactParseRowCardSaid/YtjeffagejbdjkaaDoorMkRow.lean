/- The law's own helpers: marks, and what holds them. Written by gen_mark.py. -/
import Derived.Test.YtjeffagejbdjkaaDoorMkInt
import Derived.Test.YtjeffagejbdjkaaDoorGenRow
namespace Go.Proofs.YtjeffagejbdjkaaDoor
open Go.RowKit
set_option linter.unusedSimpArgs false
set_option maxRecDepth 100000 in
set_option maxHeartbeats 4000000 in
theorem laws_markRow (F : Nat → Prop) (x : DRow) (u_vals : Value) (k : Int) (w : World) (h_vals : PInts F w u_vals x.vals) (hF_vals : ∀ b, F b → b < w.heap.size) (h0 : 0 ≤ k) (hb : k + (sumT cntI x.vals : Int) ≤ 4611686018427387904) :
    Calls Tryd.prog 37 #[.agg #[.int .i64 x.id, u_vals], .int .i64 k] w fun e w' => e = .returned (.int .i64 (k + (sumT cntI x.vals : Int))) ∧ PInts F w' u_vals (marksTo mkI cntI k x.vals.length x.vals) ∧ Chg F w w' := by
  obtain ⟨id, vals⟩ := x
  dsimp only at *
  obtain ⟨a_vals, c_vals, rfl⟩ := h_vals.form
  have gc : Chg F w (w.alloc (.cells #[.int .i64 id, .slice a_vals vals.length c_vals] 33)) := (Chg.refl _ w).alloc _
  have p_vals := OSl.gr fr_int h_vals ((Gr.refl w).alloc (.cells #[.int .i64 id, .slice a_vals vals.length c_vals] 33))
  go_enter Tryd.func37, Tryd.ntmps37
  go_wp2_with fail
  refine (laws_markIntS F _ vals k _ p_vals (by omega) (by omega)).mono ?_
  rintro e w1 ⟨rfl, q_vals, d1⟩
  replace gc := gc.trans (d1.mono fun b hb => hb)
  replace p_vals := q_vals
  have hblk1 : w1.heap[w.heap.size]? = (w.alloc (.cells #[.int .i64 id, .slice a_vals vals.length c_vals] 33)).heap[w.heap.size]? := d1.block _ (by simp) (fun hb => by have := hF_vals _ hb; omega)
  have c1_0 : w1.cell? ⟨w.heap.size, 0, none⟩ = some (.int .i64 id) := by rw [World.cell?_of_block (w := (w.alloc (.cells #[.int .i64 id, .slice a_vals vals.length c_vals] 33))) hblk1]; simp [go_sem]
  have c1_1 : w1.cell? ⟨w.heap.size, 1, none⟩ = some (.slice a_vals vals.length c_vals) := by rw [World.cell?_of_block (w := (w.alloc (.cells #[.int .i64 id, .slice a_vals vals.length c_vals] 33))) hblk1]; simp [go_sem]
  go_wp2_with fail
  go_ret
  exact ⟨ret_int (by omega), p_vals, gc⟩
set_option maxRecDepth 100000 in
set_option maxHeartbeats 4000000 in
theorem laws_heldRow (x : DRow) (u_vals : Value) (k : Int) (w : World) (h_vals : RInts w u_vals (marksTo mkI cntI k x.vals.length x.vals)) (h0 : 0 ≤ k) (hb : k + (sumT cntI x.vals : Int) ≤ 4611686018427387904) :
    Calls Tryd.prog 38 #[.agg #[.int .i64 x.id, u_vals], .int .i64 k] w fun e w' => e = .returned (.int .i64 (k + (sumT cntI x.vals : Int))) ∧ Gr w w' := by
  obtain ⟨id, vals⟩ := x
  dsimp only at *
  have g0 : Gr w (w.alloc (.cells #[.int .i64 id, u_vals] 33)) := (Gr.refl w).alloc _
  go_enter Tryd.func38, Tryd.ntmps38
  have hh0 := (RSlice.mono keeps_int g0 h_vals)
  go_wp2_with fail
  refine (laws_heldIntS _ vals k _ hh0 (by omega) (by omega)).mono ?_
  rintro e w1 ⟨rfl, g1⟩
  have gw1 : Gr w w1 := g0.trans g1
  have hn1 : 0 ≤ (k + (sumT cntI vals : Int)) := by omega
  have k1_0 : w1.cell? ⟨w.heap.size, 0, none⟩ = some (.int .i64 id) := g1.cellv (by simp [go_sem])
  have k1_1 : w1.cell? ⟨w.heap.size, 1, none⟩ = some (u_vals) := g1.cellv (by simp [go_sem])
  go_wp2_with fail
  go_ret
  exact ⟨ret_int (by omega), gw1⟩
end Go.Proofs.YtjeffagejbdjkaaDoor
