/- rowOf: the walk. -/
import Derived.Test.YtnnapjaggahjgaaStoreP
namespace Go.Proofs.Ytnnapjaggahjgaa
open Go.RowKit
set_option maxRecDepth 100000 in
set_option maxHeartbeats 1000000 in
theorem impl_rowOf (x : DVersion) (u : Value) (w : World) (hx : RInts w u x.vals) (hb : x.vals.length ≤ 4294967296) : Calls Try.prog 81 #[.agg #[.int .i64 x.id, u, .int .i64 x.born, .int .i64 x.died]] w fun e w' => ∃ v, e = .returned (.agg #[.int .i64 x.id, v]) ∧ Gr w w' ∧ PInts (In w.heap.size w'.heap.size) w' v x.vals := by
  obtain ⟨ua, un, uc, rfl⟩ := hx.isSl
  have g0 : Gr w ((w.alloc (.cells #[.int .i64 x.id, .slice ua un uc, .int .i64 x.born, .int .i64 x.died] 110)).alloc (.cells #[.int .i64 0, .slice none 0 0] 46)) := ((Gr.refl w).alloc _).alloc _
  have r0 : RInts ((w.alloc (.cells #[.int .i64 x.id, .slice ua un uc, .int .i64 x.born, .int .i64 x.died] 110)).alloc (.cells #[.int .i64 0, .slice none 0 0] 46)) (.slice ua un uc) x.vals := hx.mono g0
  have p0 : ((w.alloc (.cells #[.int .i64 x.id, .slice ua un uc, .int .i64 x.born, .int .i64 x.died] 110)).alloc (.cells #[.int .i64 0, .slice none 0 0] 46)).cell? ⟨w.heap.size, 0, none⟩ = some (.int .i64 x.id) := by simp [go_sem]
  have p1 : ((w.alloc (.cells #[.int .i64 x.id, .slice ua un uc, .int .i64 x.born, .int .i64 x.died] 110)).alloc (.cells #[.int .i64 0, .slice none 0 0] 46)).cell? ⟨w.heap.size, 1, none⟩ = some (.slice ua un uc) := by simp [go_sem]
  have q0 : ((w.alloc (.cells #[.int .i64 x.id, .slice ua un uc, .int .i64 x.born, .int .i64 x.died] 110)).alloc (.cells #[.int .i64 0, .slice none 0 0] 46)).cell? ⟨w.heap.size + 1, 0, none⟩ = some (.int .i64 0) := by simp [go_sem]
  have q1 : ((w.alloc (.cells #[.int .i64 x.id, .slice ua un uc, .int .i64 x.born, .int .i64 x.died] 110)).alloc (.cells #[.int .i64 0, .slice none 0 0] 46)).cell? ⟨w.heap.size + 1, 1, none⟩ = some (.slice none 0 0) := by simp [go_sem]
  have f0 : ((w.alloc (.cells #[.int .i64 x.id, .slice ua un uc, .int .i64 x.born, .int .i64 x.died] 110)).alloc (.cells #[.int .i64 0, .slice none 0 0] 46)).frozen? ⟨w.heap.size + 1, 0, none⟩ = false := by simp [go_sem]
  have f1 : ((w.alloc (.cells #[.int .i64 x.id, .slice ua un uc, .int .i64 x.born, .int .i64 x.died] 110)).alloc (.cells #[.int .i64 0, .slice none 0 0] 46)).frozen? ⟨w.heap.size + 1, 1, none⟩ = false := by simp [go_sem]
  have z0 : w.heap.size + 1 < ((w.alloc (.cells #[.int .i64 x.id, .slice ua un uc, .int .i64 x.born, .int .i64 x.died] 110)).alloc (.cells #[.int .i64 0, .slice none 0 0] 46)).heap.size := by simp
  go_enter Try.func81, Try.ntmps81
  go_wp2_with fail
  go_region_with ((go_at_call 99; refine (impl_copyInts _ x.vals _ (RSlice.mono keeps_int ((Gr.refl _).drew) r0) hb).mono ?_; rintro e w1 ⟨v1, rfl, g1, hv⟩; obtain ⟨va, vc, rfl⟩ := (rd_pints hv).form; have p0' := g1.cellv p0; have p1' := g1.cellv p1; have q0' := g1.cellv q0; have q1' := g1.cellv q1; have f0' := (Below.frozen g1 z0).trans f0; have f1' := (Below.frozen g1 z0).trans f1; have z1 := Nat.lt_of_lt_of_le z0 g1.size))
  all_goals
    have HR := Lib.hid (hv.wide (lo' := w.heap.size + 1 + 1) (hi' := w1.heap.size) (by simp [World.drew]) (Nat.le_refl _))
    have G1 := Lib.hid (g0.trans ((Gr.refl _).drew.trans g1))
    clear hv g1
    go_wp2_with fail
    refine bodyPost_ret (v := .agg #[.int .i64 x.id, .slice va x.vals.length vc]) (by simp [results, Try.results81, go_sem, *]) rfl ⟨_, rfl, (G1.out.setCell (by dsimp only; omega) _).setCell (by dsimp only; omega) _, (OSl.loc (lo' := w.heap.size + 1 + 1) fr_int HR.out ((Loc.setCell (Loc.setCell (Loc.refl _ _) (by dsimp only; omega) _) (by dsimp only; omega) _)) (Nat.le_refl _)).wide (by omega) (by simp [World.setCell])⟩
end Go.Proofs.Ytnnapjaggahjgaa
