/- The law's own helpers: marks, and what holds them. Written by gen_mark.py. -/
import Derived.Test.YtjeffagejbdjkaaMkCond
import Derived.Test.YtjeffagejbdjkaaGenQuery
namespace Go.Proofs.Ytjeffagejbdjkaa
open Go.RowKit
set_option linter.unusedSimpArgs false
set_option maxRecDepth 100000 in
set_option maxHeartbeats 4000000 in
theorem laws_markQuery (F1 F2 : Nat → Prop) (x : DQuery) (u_conds : Value) (u_out : Value) (k : Int) (w : World) (h_conds : PConds F1 w u_conds x.conds) (hF_conds : ∀ b, F1 b → b < w.heap.size) (h_out : PInts F2 w u_out x.out) (hF_out : ∀ b, F2 b → b < w.heap.size) (hd : ∀ b, F1 b → ¬ F2 b) (h0 : 0 ≤ k) (hb : k + ((sumT cntCond x.conds : Int) + (sumT cntI x.out : Int)) ≤ 4611686018427387904) :
    Calls Try.prog 17 #[.agg #[.int .i64 x.id, .int .i64 x.tenant, u_conds, u_out], .int .i64 k] w fun e w' => e = .returned (.int .i64 (k + (sumT cntCond x.conds : Int) + (sumT cntI x.out : Int))) ∧ PConds F1 w' u_conds (marksTo mkCond cntCond k x.conds.length x.conds) ∧ PInts F2 w' u_out (marksTo mkI cntI (k + (sumT cntCond x.conds : Int)) x.out.length x.out) ∧ Chg (fun b => F1 b ∨ F2 b) w w' := by
  obtain ⟨id, tenant, conds, out⟩ := x
  dsimp only at *
  obtain ⟨a_conds, c_conds, rfl⟩ := h_conds.form
  obtain ⟨a_out, c_out, rfl⟩ := h_out.form
  have gc : Chg (fun b => F1 b ∨ F2 b) w (w.alloc (.cells #[.int .i64 id, .int .i64 tenant, .slice a_conds conds.length c_conds, .slice a_out out.length c_out] 38)) := (Chg.refl _ w).alloc _
  have p_conds := OSl.gr fr_cond h_conds ((Gr.refl w).alloc (.cells #[.int .i64 id, .int .i64 tenant, .slice a_conds conds.length c_conds, .slice a_out out.length c_out] 38))
  have p_out := OSl.gr fr_int h_out ((Gr.refl w).alloc (.cells #[.int .i64 id, .int .i64 tenant, .slice a_conds conds.length c_conds, .slice a_out out.length c_out] 38))
  go_enter Try.func17, Try.ntmps17
  go_wp2_with fail
  refine (laws_markCondS F1 _ conds k _ p_conds (by omega) (by omega)).mono ?_
  rintro e w1 ⟨rfl, q_conds, d1⟩
  replace gc := gc.trans (d1.mono fun b hb => Or.inl hb)
  replace p_conds := q_conds
  replace p_out := OSl.frame fr_int p_out (d1.agree fun b hb hc => hd b hc hb)
  have hblk1 : w1.heap[w.heap.size]? = (w.alloc (.cells #[.int .i64 id, .int .i64 tenant, .slice a_conds conds.length c_conds, .slice a_out out.length c_out] 38)).heap[w.heap.size]? := d1.block _ (by simp) (fun hb => by have := hF_conds _ hb; omega)
  have c1_0 : w1.cell? ⟨w.heap.size, 0, none⟩ = some (.int .i64 id) := by rw [World.cell?_of_block (w := (w.alloc (.cells #[.int .i64 id, .int .i64 tenant, .slice a_conds conds.length c_conds, .slice a_out out.length c_out] 38))) hblk1]; simp [go_sem]
  have c1_1 : w1.cell? ⟨w.heap.size, 1, none⟩ = some (.int .i64 tenant) := by rw [World.cell?_of_block (w := (w.alloc (.cells #[.int .i64 id, .int .i64 tenant, .slice a_conds conds.length c_conds, .slice a_out out.length c_out] 38))) hblk1]; simp [go_sem]
  have c1_2 : w1.cell? ⟨w.heap.size, 2, none⟩ = some (.slice a_conds conds.length c_conds) := by rw [World.cell?_of_block (w := (w.alloc (.cells #[.int .i64 id, .int .i64 tenant, .slice a_conds conds.length c_conds, .slice a_out out.length c_out] 38))) hblk1]; simp [go_sem]
  have c1_3 : w1.cell? ⟨w.heap.size, 3, none⟩ = some (.slice a_out out.length c_out) := by rw [World.cell?_of_block (w := (w.alloc (.cells #[.int .i64 id, .int .i64 tenant, .slice a_conds conds.length c_conds, .slice a_out out.length c_out] 38))) hblk1]; simp [go_sem]
  go_wp2_with fail
  refine (laws_markIntS F2 _ out (k + (sumT cntCond conds : Int)) _ p_out (by omega) (by omega)).mono ?_
  rintro e w2 ⟨rfl, q_out, d2⟩
  replace gc := gc.trans (d2.mono fun b hb => Or.inr hb)
  replace p_conds := OSl.frame fr_cond p_conds (d2.agree fun b hb hc => hd b hb hc)
  replace p_out := q_out
  have hblk2 : w2.heap[w.heap.size]? = w1.heap[w.heap.size]? := d2.block _ (by exact Nat.lt_of_lt_of_le (show w.heap.size < (w.alloc (.cells #[.int .i64 id, .int .i64 tenant, .slice a_conds conds.length c_conds, .slice a_out out.length c_out] 38)).heap.size from by simp) d1.size) (fun hb => by have := hF_out _ hb; omega)
  have c2_0 : w2.cell? ⟨w.heap.size, 0, none⟩ = some (.int .i64 id) := by rw [World.cell?_of_block (w := w1) hblk2]; exact c1_0
  have c2_1 : w2.cell? ⟨w.heap.size, 1, none⟩ = some (.int .i64 tenant) := by rw [World.cell?_of_block (w := w1) hblk2]; exact c1_1
  have c2_2 : w2.cell? ⟨w.heap.size, 2, none⟩ = some (.slice a_conds conds.length c_conds) := by rw [World.cell?_of_block (w := w1) hblk2]; exact c1_2
  have c2_3 : w2.cell? ⟨w.heap.size, 3, none⟩ = some (.slice a_out out.length c_out) := by rw [World.cell?_of_block (w := w1) hblk2]; exact c1_3
  go_wp2_with fail
  go_ret
  exact ⟨ret_int (by omega), p_conds, p_out, gc⟩
end Go.Proofs.Ytjeffagejbdjkaa
