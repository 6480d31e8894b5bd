/- IsStore: the small walks: rowOf, meetInTime, l7Version, l7Apart. -/
import Derived.Test.YtnnapjaggahjgaaStoreP
namespace Go.Proofs.Ytnnapjaggahjgaa
open Go.RowKit
set_option maxRecDepth 100000 in
set_option maxHeartbeats 1000000 in
theorem impl_meetInTime (x y : DVersion) (u v : Value) (w : World) (hx : RInts w u x.vals) (hy : RInts w v y.vals) : Calls Try.prog 82 #[.agg #[.int .i64 x.id, u, .int .i64 x.born, .int .i64 x.died], .agg #[.int .i64 y.id, v, .int .i64 y.born, .int .i64 y.died]] w fun e w' => e = .returned (.bool (meetB x y)) ∧ Gr w w' := by
  obtain ⟨ua, un, uc, rfl⟩ := hx.isSl
  obtain ⟨va, vn, vc, rfl⟩ := hy.isSl
  have g0 : Gr w ((w.alloc (.cells #[.int .i64 x.id, .slice ua un uc, .int .i64 x.born, .int .i64 x.died] 110)).alloc (.cells #[.int .i64 y.id, .slice va vn vc, .int .i64 y.born, .int .i64 y.died] 110)) := ((Gr.refl w).alloc _).alloc _
  have HX := Lib.hid hx
  have HY := Lib.hid hy
  clear hx hy
  cases h1 : isVisB x y.born with
  | true =>
    have HE : Hid (meetB x y = true) := Lib.hid (by unfold meetB; rw [h1]; rfl)
    have H1 := Lib.hid h1
    clear h1
    go_enter Try.func82, Try.ntmps82
    go_wp2_with fail
    refine (calls_b (impl_IsVisible x _ y.born _ (HX.out.mono g0)) H1.out).mono ?_
    rintro e w1 ⟨rfl, g1⟩
    go_wp2_with fail
    go_ret
    exact ⟨ret_bool HE.out.symm, g0.trans g1⟩
  | false =>
    have HE : Hid (meetB x y = isVisB y x.born) := Lib.hid (by unfold meetB; rw [h1]; rfl)
    have H1 := Lib.hid h1
    clear h1
    go_enter Try.func82, Try.ntmps82
    go_wp2_with fail
    refine (calls_b (impl_IsVisible x _ y.born _ (HX.out.mono g0)) H1.out).mono ?_
    rintro e w1 ⟨rfl, g1⟩
    have gw1 := g0.trans g1
    have k0 : w1.cell? ⟨w.heap.size, 2, none⟩ = some (.int .i64 x.born) := g1.cellv (by simp [go_sem])
    have k1 : w1.cell? ⟨w.heap.size + 1, 0, none⟩ = some (.int .i64 y.id) := g1.cellv (by simp [go_sem])
    have k2 : w1.cell? ⟨w.heap.size + 1, 1, none⟩ = some (.slice va vn vc) := g1.cellv (by simp [go_sem])
    have k3 : w1.cell? ⟨w.heap.size + 1, 2, none⟩ = some (.int .i64 y.born) := g1.cellv (by simp [go_sem])
    have k4 : w1.cell? ⟨w.heap.size + 1, 3, none⟩ = some (.int .i64 y.died) := g1.cellv (by simp [go_sem])
    go_wp2_with fail
    refine (impl_IsVisible y _ x.born _ (HY.out.mono gw1)).mono ?_
    rintro e w2 ⟨rfl, g2⟩
    go_wp2_with fail
    go_ret
    exact ⟨ret_bool HE.out.symm, gw1.trans g2⟩
set_option maxRecDepth 100000 in
set_option maxHeartbeats 1000000 in
theorem spec_l7Version (x : DVersion) (u : Value) (now : Int) (w : World) (hx : RInts w u x.vals) (hn : now ≤ 100000) : Calls Try.prog 76 #[.agg #[.int .i64 x.id, u, .int .i64 x.born, .int .i64 x.died], .int .i64 now] w fun e w' => e = .returned (.bool (versOk now x)) ∧ Gr w w' := by
  obtain ⟨ua, un, uc, rfl⟩ := hx.isSl
  have g0 : Gr w (w.alloc (.cells #[.int .i64 x.id, .slice ua un uc, .int .i64 x.born, .int .i64 x.died] 110)) := (Gr.refl w).alloc _
  have HX := Lib.hid (hx.mono g0)
  clear hx
  cases h1 : isRowB ⟨x.id, x.vals⟩ with
  | false =>
    have HE : Hid (versOk now x = false) := Lib.hid (by unfold versOk; rw [h1]; rfl)
    have H1 := Lib.hid h1
    clear h1
    go_enter Try.func76, Try.ntmps76
    go_wp2_with fail
    refine (calls_b (spec_IsRow ⟨x.id, x.vals⟩ _ _ HX.out) H1.out).mono ?_
    rintro e w1 ⟨rfl, g1⟩
    go_wp2_with fail
    go_ret
    exact ⟨ret_bool HE.out.symm, g0.trans g1⟩
  | true =>
    cases h2 : inB x.born 0 now with
    | false =>
      have HE : Hid (versOk now x = false) := Lib.hid (by unfold versOk; rw [h1, h2]; rfl)
      have H1 := Lib.hid h1
      have H2 := Lib.hid h2
      clear h1 h2
      go_enter Try.func76, Try.ntmps76
      go_wp2_with fail
      refine (calls_b (spec_IsRow ⟨x.id, x.vals⟩ _ _ HX.out) H1.out).mono ?_
      rintro e w1 ⟨rfl, g1⟩
      have k2 : w1.cell? ⟨w.heap.size, 2, none⟩ = some (.int .i64 x.born) := g1.cellv (by simp [go_sem])
      go_wp2_with fail
      refine (calls_b (R := fun w' => w1 = w') (spec_l1In _ _ _ _) H2.out).mono ?_
      rintro e w2 ⟨rfl, rfl⟩
      go_wp2_with fail
      go_ret
      exact ⟨ret_bool HE.out.symm, g0.trans g1⟩
    | true =>
      have hb0 := (inB_true h2).1
      have hb1 := (inB_true h2).2
      by_cases h3 : x.died = -1
      · have HE : Hid (versOk now x = true) := Lib.hid (by unfold versOk; rw [h1, h2, h3]; rfl)
        have h3d : (x.died == (-1 : Int)) = true := by simp [h3]
        have H1 := Lib.hid h1
        have H2 := Lib.hid h2
        clear h1 h2 h3
        go_enter Try.func76, Try.ntmps76
        go_wp2_with fail
        refine (calls_b (spec_IsRow ⟨x.id, x.vals⟩ _ _ HX.out) H1.out).mono ?_
        rintro e w1 ⟨rfl, g1⟩
        have k2 : w1.cell? ⟨w.heap.size, 2, none⟩ = some (.int .i64 x.born) := g1.cellv (by simp [go_sem])
        have k3 : w1.cell? ⟨w.heap.size, 3, none⟩ = some (.int .i64 x.died) := g1.cellv (by simp [go_sem])
        go_wp2_with fail
        refine (calls_b (R := fun w' => w1 = w') (spec_l1In _ _ _ _) H2.out).mono ?_
        rintro e w2 ⟨rfl, rfl⟩
        go_wp2_with fail
        go_ret
        exact ⟨ret_bool HE.out.symm, g0.trans g1⟩
      · have HE : Hid (versOk now x = inB x.died (x.born + 1) now) := Lib.hid (by unfold versOk; rw [h1, h2]; simp [h3])
        have h3d : (x.died == (-1 : Int)) = false := by simp [h3]
        have H1 := Lib.hid h1
        have H2 := Lib.hid h2
        clear h1 h2 h3
        go_enter Try.func76, Try.ntmps76
        go_wp2_with fail
        refine (calls_b (spec_IsRow ⟨x.id, x.vals⟩ _ _ HX.out) H1.out).mono ?_
        rintro e w1 ⟨rfl, g1⟩
        have k2 : w1.cell? ⟨w.heap.size, 2, none⟩ = some (.int .i64 x.born) := g1.cellv (by simp [go_sem])
        have k3 : w1.cell? ⟨w.heap.size, 3, none⟩ = some (.int .i64 x.died) := g1.cellv (by simp [go_sem])
        go_wp2_with fail
        refine (calls_b (R := fun w' => w1 = w') (spec_l1In _ _ _ _) H2.out).mono ?_
        rintro e w2 ⟨rfl, rfl⟩
        go_wp2_with fail
        refine (spec_l1In _ _ _ _).mono ?_
        rintro e w2 ⟨rfl, rfl⟩
        go_wp2_with fail
        go_ret
        exact ⟨ret_bool HE.out.symm, g0.trans g1⟩
set_option maxRecDepth 100000 in
set_option maxHeartbeats 1000000 in
theorem spec_l7Apart (x y : DVersion) (u v : Value) (w : World) (hx : RInts w u x.vals) (hy : RInts w v y.vals) : Calls Try.prog 77 #[.agg #[.int .i64 x.id, u, .int .i64 x.born, .int .i64 x.died], .agg #[.int .i64 y.id, v, .int .i64 y.born, .int .i64 y.died]] w fun e w' => e = .returned (.bool (apartB x y)) ∧ Gr w w' := by
  obtain ⟨xi, xv, xb, xd⟩ := x
  obtain ⟨yi, yv, yb, yd⟩ := y
  dsimp only at *
  by_cases h1 : xi = yi <;> by_cases h2 : xd = -1 <;> by_cases h3 : xd ≤ yb <;> by_cases h4 : yd = -1 <;> by_cases h5 : yd ≤ xb <;>
  · go_enter Try.func77, Try.ntmps77
    go_wp2
    go_ret
    exact ⟨ret_bool (by simp [apartB, h1, h2, h3, h4, h5]), ((Gr.refl _).alloc _).alloc _⟩
end Go.Proofs.Ytnnapjaggahjgaa
