/- IsVisible and IsRow: the walks. -/
import Derived.Test.YthbpcdfobiacmaaGenRow
import Derived.Test.YthbpcdfobiacmaaGenVersion
import Derived.Test.YthbpcdfobiacmaaSc
namespace Go.Proofs.Ythbpcdfobiacmaa
open Go.RowKit
/-- IsVisible of a version. -/
def isVisB (x : DVersion) (t : Int) : Bool := decide (x.born ≤ t) && (x.died == -1 || decide (x.died > t))
set_option maxRecDepth 100000 in
theorem spec_IsVisible (x : DVersion) (u : Value) (t : Int) (w : World) (_ : RInts w u x.vals) : Calls Try.prog 37 #[.agg #[.int .i64 x.id, u, .int .i64 x.born, .int .i64 x.died], .int .i64 t] w fun e w' => e = .returned (.bool (isVisB x t)) ∧ Gr w w' := by
  obtain ⟨id, vals, born, died⟩ := x
  dsimp only
  by_cases h1 : born ≤ t <;> by_cases h2 : died = -1 <;> by_cases h3 : died > t <;>
  · go_enter Try.func37, Try.ntmps37
    go_wp2
    go_ret
    exact ⟨ret_bool (by simp [isVisB, h1, h2, h3]), (Gr.refl _).alloc _⟩
set_option maxRecDepth 100000 in
theorem impl_IsVisible (x : DVersion) (u : Value) (t : Int) (w : World) (_ : RInts w u x.vals) : Calls Try.prog 39 #[.agg #[.int .i64 x.id, u, .int .i64 x.born, .int .i64 x.died], .int .i64 t] w fun e w' => e = .returned (.bool (isVisB x t)) ∧ Gr w w' := by
  obtain ⟨id, vals, born, died⟩ := x
  dsimp only
  by_cases h1 : born ≤ t <;> by_cases h2 : died = -1 <;> by_cases h3 : died > t <;>
  · go_enter Try.func39, Try.ntmps39
    go_wp2
    go_ret
    exact ⟨ret_bool (by simp [isVisB, h1, h2, h3]), (Gr.refl _).alloc _⟩
-- gen FnExactIsVisible IsVisible Version int
set_option maxRecDepth 100000 in
set_option maxHeartbeats 4000000 in
theorem law_FnExactIsVisible (w : World) (x0 : DVersion) (u0_vals : Value) (_ : I64 x0.id) (h0_vals : RInts w u0_vals x0.vals) (_ : I64 x0.born) (_ : I64 x0.died) (n1 : Int) (_ : I64 n1) : Calls Try.prog 13 #[.agg #[.int .i64 x0.id, u0_vals, .int .i64 x0.born, .int .i64 x0.died], .int .i64 n1] w fun e w' => e = .returned (.bool true) ∧ Gr w w' := by
  by_cases hs0 : ((totVersion x0) : Int) ≤ (1048576 : Int)
  · have HZ0 := Lib.hid (szV_yes (t := (totVersion x0)) (left := (1048576 : Int)) (by omega))
    have HA0 := Lib.hid (show (0 : Int) ≤ (1048576 : Int) ∧ (1048576 : Int) ≤ 1048576 from by omega)
    have HB0 := Lib.hid (show (0 : Int) ≤ (1048576 : Int) - ((totVersion x0) : Int) ∧ (1048576 : Int) - ((totVersion x0) : Int) ≤ 1048576 from by omega)
    have HT0 := Lib.hid (show (totVersion x0) ≤ 4294967296 from by omega)
    clear hs0
    go_enter Try.func13, Try.ntmps13
    go_wp2_with fail
    refine (laws_szVersion x0 u0_vals _ _ (RSlice.mono keeps_int ((Gr.refl w).alloc _) h0_vals) HA0.out.1 HA0.out.2).mono ?_
    rintro e w1 ⟨rfl, g1⟩
    have gs1 : Gr w w1 := ((Gr.refl w).alloc _).trans g1
    replace h0_vals : RInts w1 u0_vals x0.vals := (RSlice.mono keeps_int gs1 h0_vals)
    have kb0_0 : w1.cell? ⟨w.heap.size, 0, none⟩ = some (.int .i64 x0.id) := g1.cellv (by simp [go_sem])
    have kb0_1 : w1.cell? ⟨w.heap.size, 1, none⟩ = some (u0_vals) := g1.cellv (by simp [go_sem])
    have kb0_2 : w1.cell? ⟨w.heap.size, 2, none⟩ = some (.int .i64 x0.born) := g1.cellv (by simp [go_sem])
    have kb0_3 : w1.cell? ⟨w.heap.size, 3, none⟩ = some (.int .i64 x0.died) := g1.cellv (by simp [go_sem])
    have gw : Gr w w1 := gs1
    rw [HZ0.out]
    have hB0 := HB0.out.1
    have hC0 := HB0.out.2
    go_wp2_with fail
    refine (laws_toVersion_gr x0 u0_vals _ h0_vals HT0.out).mono ?_
    rintro e w2 ⟨_, rfl, ⟨ap0_vals, np0_vals, cp0_vals, rfl⟩, r_hp0_vals, g2⟩
    replace h0_vals : RInts w2 u0_vals x0.vals := (RSlice.mono keeps_int g2 h0_vals)
    replace kb0_0 : w2.cell? ⟨w.heap.size, 0, none⟩ = some (.int .i64 x0.id) := g2.cellv kb0_0
    replace kb0_1 : w2.cell? ⟨w.heap.size, 1, none⟩ = some (u0_vals) := g2.cellv kb0_1
    replace kb0_2 : w2.cell? ⟨w.heap.size, 2, none⟩ = some (.int .i64 x0.born) := g2.cellv kb0_2
    replace kb0_3 : w2.cell? ⟨w.heap.size, 3, none⟩ = some (.int .i64 x0.died) := g2.cellv kb0_3
    replace gw : Gr w w2 := gw.trans g2
    have hp0_vals : RInts w2 (.slice ap0_vals np0_vals cp0_vals) x0.vals := r_hp0_vals _ (Loc.refl _ _)
    clear r_hp0_vals
    go_wp2_with fail
    refine (spec_IsVisible x0 _ n1 _ hp0_vals).mono ?_
    rintro e w3 ⟨rfl, g3⟩
    replace h0_vals : RInts w3 u0_vals x0.vals := (RSlice.mono keeps_int g3 h0_vals)
    replace hp0_vals : RInts w3 (.slice ap0_vals np0_vals cp0_vals) x0.vals := (RSlice.mono keeps_int g3 hp0_vals)
    replace kb0_0 : w3.cell? ⟨w.heap.size, 0, none⟩ = some (.int .i64 x0.id) := g3.cellv kb0_0
    replace kb0_1 : w3.cell? ⟨w.heap.size, 1, none⟩ = some (u0_vals) := g3.cellv kb0_1
    replace kb0_2 : w3.cell? ⟨w.heap.size, 2, none⟩ = some (.int .i64 x0.born) := g3.cellv kb0_2
    replace kb0_3 : w3.cell? ⟨w.heap.size, 3, none⟩ = some (.int .i64 x0.died) := g3.cellv kb0_3
    replace gw : Gr w w3 := gw.trans g3
    clear hp0_vals
    go_wp2_with fail
    refine (laws_toVersion_gr x0 u0_vals _ h0_vals HT0.out).mono ?_
    rintro e w4 ⟨_, rfl, ⟨ax0_vals, nx0_vals, cx0_vals, rfl⟩, r_hx0_vals, g4⟩
    replace h0_vals : RInts w4 u0_vals x0.vals := (RSlice.mono keeps_int g4 h0_vals)
    replace kb0_0 : w4.cell? ⟨w.heap.size, 0, none⟩ = some (.int .i64 x0.id) := g4.cellv kb0_0
    replace kb0_1 : w4.cell? ⟨w.heap.size, 1, none⟩ = some (u0_vals) := g4.cellv kb0_1
    replace kb0_2 : w4.cell? ⟨w.heap.size, 2, none⟩ = some (.int .i64 x0.born) := g4.cellv kb0_2
    replace kb0_3 : w4.cell? ⟨w.heap.size, 3, none⟩ = some (.int .i64 x0.died) := g4.cellv kb0_3
    replace gw : Gr w w4 := gw.trans g4
    have hx0_vals : RInts w4 (.slice ax0_vals nx0_vals cx0_vals) x0.vals := r_hx0_vals _ (Loc.refl _ _)
    clear r_hx0_vals
    go_wp2_with fail
    refine (impl_IsVisible x0 _ n1 _ (RSlice.mono keeps_int ((Gr.refl w4).alloc _) hx0_vals)).mono ?_
    rintro e w5 ⟨rfl, g5⟩
    have gs5 : Gr w4 w5 := ((Gr.refl w4).alloc _).trans g5
    replace h0_vals : RInts w5 u0_vals x0.vals := (RSlice.mono keeps_int gs5 h0_vals)
    replace hx0_vals : RInts w5 (.slice ax0_vals nx0_vals cx0_vals) x0.vals := (RSlice.mono keeps_int gs5 hx0_vals)
    replace kb0_0 : w5.cell? ⟨w.heap.size, 0, none⟩ = some (.int .i64 x0.id) := gs5.cellv kb0_0
    replace kb0_1 : w5.cell? ⟨w.heap.size, 1, none⟩ = some (u0_vals) := gs5.cellv kb0_1
    replace kb0_2 : w5.cell? ⟨w.heap.size, 2, none⟩ = some (.int .i64 x0.born) := gs5.cellv kb0_2
    replace kb0_3 : w5.cell? ⟨w.heap.size, 3, none⟩ = some (.int .i64 x0.died) := gs5.cellv kb0_3
    have kx0_0 : w5.cell? ⟨w4.heap.size, 0, none⟩ = some (.int .i64 x0.id) := g5.cellv (by simp [go_sem])
    have kx0_1 : w5.cell? ⟨w4.heap.size, 1, none⟩ = some (.slice ax0_vals nx0_vals cx0_vals) := g5.cellv (by simp [go_sem])
    have kx0_2 : w5.cell? ⟨w4.heap.size, 2, none⟩ = some (.int .i64 x0.born) := g5.cellv (by simp [go_sem])
    have kx0_3 : w5.cell? ⟨w4.heap.size, 3, none⟩ = some (.int .i64 x0.died) := g5.cellv (by simp [go_sem])
    replace gw : Gr w w5 := gw.trans gs5
    go_wp2_with fail
    go_region_held3 (fun w' => w'.cell? ⟨w.heap.size, 0, none⟩ = some (.int .i64 x0.id) ∧ w'.cell? ⟨w.heap.size, 1, none⟩ = some (u0_vals) ∧ w'.cell? ⟨w.heap.size, 2, none⟩ = some (.int .i64 x0.born) ∧ w'.cell? ⟨w.heap.size, 3, none⟩ = some (.int .i64 x0.died) ∧ w'.cell? ⟨w4.heap.size, 0, none⟩ = some (.int .i64 x0.id) ∧ w'.cell? ⟨w4.heap.size, 1, none⟩ = some (.slice ax0_vals nx0_vals cx0_vals) ∧ w'.cell? ⟨w4.heap.size, 2, none⟩ = some (.int .i64 x0.born) ∧ w'.cell? ⟨w4.heap.size, 3, none⟩ = some (.int .i64 x0.died) ∧ RInts w' u0_vals x0.vals ∧ RInts w' (.slice ax0_vals nx0_vals cx0_vals) x0.vals ∧ Gr w5 w')
      (first | exact ⟨kb0_0, kb0_1, kb0_2, kb0_3, kx0_0, kx0_1, kx0_2, kx0_3, h0_vals, hx0_vals, Gr.refl _⟩ | exact ⟨kb0_0, kb0_1, kb0_2, kb0_3, kx0_0, kx0_1, kx0_2, kx0_3, h0_vals, hx0_vals, (Gr.refl _).drew⟩ | (go_split_ands; exact ⟨Gr.cellv gb0 (by assumption), Gr.cellv gb0 (by assumption), Gr.cellv gb0 (by assumption), Gr.cellv gb0 (by assumption), Gr.cellv gb0 (by assumption), Gr.cellv gb0 (by assumption), Gr.cellv gb0 (by assumption), Gr.cellv gb0 (by assumption), (RSlice.mono keeps_int gb0 (by assumption)), (RSlice.mono keeps_int gb0 (by assumption)), Gr.trans (by assumption) gb0⟩) | (go_split_ands; exact ⟨Gr.cellv ga0 (by assumption), Gr.cellv ga0 (by assumption), Gr.cellv ga0 (by assumption), Gr.cellv ga0 (by assumption), Gr.cellv ga0 (by assumption), Gr.cellv ga0 (by assumption), Gr.cellv ga0 (by assumption), Gr.cellv ga0 (by assumption), (RSlice.mono keeps_int ga0 (by assumption)), (RSlice.mono keeps_int ga0 (by assumption)), Gr.trans (by assumption) ga0⟩))
      (first | (go_at_call 38; go_split_ands; refine (laws_toVersion_gr x0 u0_vals _ (by assumption) HT0.out).mono ?_; rintro e wa0 ⟨_, rfl, ⟨ay0_vals, ny0_vals, cy0_vals, rfl⟩, ry0_vals, ga0⟩) | (go_at_call 40; go_split_ands; refine (laws_eqVersion x0 _ _ _ (by assumption) (ry0_vals _ (Loc.refl _ _))).mono ?_; rintro e wb0 ⟨rfl, gb0⟩))
    have gs6 : Gr w5 wb0 := ((Gr.refl w5).drew.trans ga0).trans gb0
    replace h0_vals : RInts wb0 u0_vals x0.vals := (RSlice.mono keeps_int gs6 h0_vals)
    replace hx0_vals : RInts wb0 (.slice ax0_vals nx0_vals cx0_vals) x0.vals := (RSlice.mono keeps_int gs6 hx0_vals)
    replace kb0_0 : wb0.cell? ⟨w.heap.size, 0, none⟩ = some (.int .i64 x0.id) := gs6.cellv kb0_0
    replace kb0_1 : wb0.cell? ⟨w.heap.size, 1, none⟩ = some (u0_vals) := gs6.cellv kb0_1
    replace kb0_2 : wb0.cell? ⟨w.heap.size, 2, none⟩ = some (.int .i64 x0.born) := gs6.cellv kb0_2
    replace kb0_3 : wb0.cell? ⟨w.heap.size, 3, none⟩ = some (.int .i64 x0.died) := gs6.cellv kb0_3
    replace kx0_0 : wb0.cell? ⟨w4.heap.size, 0, none⟩ = some (.int .i64 x0.id) := gs6.cellv kx0_0
    replace kx0_1 : wb0.cell? ⟨w4.heap.size, 1, none⟩ = some (.slice ax0_vals nx0_vals cx0_vals) := gs6.cellv kx0_1
    replace kx0_2 : wb0.cell? ⟨w4.heap.size, 2, none⟩ = some (.int .i64 x0.born) := gs6.cellv kx0_2
    replace kx0_3 : wb0.cell? ⟨w4.heap.size, 3, none⟩ = some (.int .i64 x0.died) := gs6.cellv kx0_3
    replace gw : Gr w wb0 := gw.trans gs6
    go_wp2_with fail
    go_ret
    exact ⟨rfl, gw⟩
  · have HZ0 := Lib.hid (szV_no (t := (totVersion x0)) (left := (1048576 : Int)) (by omega))
    have HA0 := Lib.hid (show (0 : Int) ≤ (1048576 : Int) ∧ (1048576 : Int) ≤ 1048576 from by omega)
    clear hs0
    go_enter Try.func13, Try.ntmps13
    go_wp2_with fail
    refine (laws_szVersion x0 u0_vals _ _ (RSlice.mono keeps_int ((Gr.refl w).alloc _) h0_vals) HA0.out.1 HA0.out.2).mono ?_
    rintro e w1 ⟨rfl, g1⟩
    have gs1 : Gr w w1 := ((Gr.refl w).alloc _).trans g1
    replace h0_vals : RInts w1 u0_vals x0.vals := (RSlice.mono keeps_int gs1 h0_vals)
    have kb0_0 : w1.cell? ⟨w.heap.size, 0, none⟩ = some (.int .i64 x0.id) := g1.cellv (by simp [go_sem])
    have kb0_1 : w1.cell? ⟨w.heap.size, 1, none⟩ = some (u0_vals) := g1.cellv (by simp [go_sem])
    have kb0_2 : w1.cell? ⟨w.heap.size, 2, none⟩ = some (.int .i64 x0.born) := g1.cellv (by simp [go_sem])
    have kb0_3 : w1.cell? ⟨w.heap.size, 3, none⟩ = some (.int .i64 x0.died) := g1.cellv (by simp [go_sem])
    have gw : Gr w w1 := gs1
    rw [HZ0.out]
    go_wp2_with fail
    go_ret
    exact ⟨rfl, gw⟩

-- endgen
end Go.Proofs.Ythbpcdfobiacmaa
