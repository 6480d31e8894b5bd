/- IsVisible and IsRow: the walks. -/
import Derived.Test.YtnnapjaggahjgaaGenRow
import Derived.Test.YtnnapjaggahjgaaGenVersion
import Derived.Test.YtnnapjaggahjgaaSc
namespace Go.Proofs.Ytnnapjaggahjgaa
open Go.RowKit
/-- IsVisible of a version. -/
def isVisB (x : DVersion) (t : Int) : Bool := decide (x.born ≤ t) && (x.died == -1 || decide (x.died > t))
set_option maxRecDepth 100000 in
theorem spec_IsVisible (x : DVersion) (u : Value) (t : Int) (w : World) (_ : RInts w u x.vals) : Calls Try.prog 135 #[.agg #[.int .i64 x.id, u, .int .i64 x.born, .int .i64 x.died], .int .i64 t] w fun e w' => e = .returned (.bool (isVisB x t)) ∧ Gr w w' := by
  obtain ⟨id, vals, born, died⟩ := x
  dsimp only
  by_cases h1 : born ≤ t <;> by_cases h2 : died = -1 <;> by_cases h3 : died > t <;>
  · go_enter Try.func135, Try.ntmps135
    go_wp2
    go_ret
    exact ⟨ret_bool (by simp [isVisB, h1, h2, h3]), (Gr.refl _).alloc _⟩
set_option maxRecDepth 100000 in
theorem impl_IsVisible (x : DVersion) (u : Value) (t : Int) (w : World) (_ : RInts w u x.vals) : Calls Try.prog 124 #[.agg #[.int .i64 x.id, u, .int .i64 x.born, .int .i64 x.died], .int .i64 t] w fun e w' => e = .returned (.bool (isVisB x t)) ∧ Gr w w' := by
  obtain ⟨id, vals, born, died⟩ := x
  dsimp only
  by_cases h1 : born ≤ t <;> by_cases h2 : died = -1 <;> by_cases h3 : died > t <;>
  · go_enter Try.func124, Try.ntmps124
    go_wp2
    go_ret
    exact ⟨ret_bool (by simp [isVisB, h1, h2, h3]), (Gr.refl _).alloc _⟩
-- gen FnExactIsVisible IsVisible Version int
-- endgen
end Go.Proofs.Ytnnapjaggahjgaa
