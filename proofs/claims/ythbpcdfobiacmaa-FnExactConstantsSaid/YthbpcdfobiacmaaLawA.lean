/- The laws of the small functions: HasMember, IsSet, IsCond, and so on: each returns true. -/
import Derived.Test.YthbpcdfobiacmaaInts
namespace Go.Proofs.Ythbpcdfobiacmaa
open Go.RowKit
set_option maxHeartbeats 400000 in
theorem law_FnExactConstants (w : World) : Calls Try.prog 3 #[] w fun e w' => e = .returned (.bool true) ∧ Gr w w' := by
  go_enter Try.func3, Try.ntmps3
  go_wp2
  go_ret
  exact ⟨rfl, Gr.refl _⟩
set_option maxHeartbeats 400000 in
theorem law_FnExactHasMember (w : World) (v : Value) (xs : List Int) (hx : RInts w v xs) (n : Int) (_ : I64 n) : Calls Try.prog 9 #[v, .int .i64 n] w fun e w' => e = .returned (.bool true) ∧ Gr w w' := by
  obtain ⟨a, cap, hv, -, -, -⟩ := hx.open
  subst hv
  by_cases hlen : xs.length ≤ 1048576
  · go_enter Try.func9, Try.ntmps9
    go_wp2_with fail
    refine (laws_toIntS _ xs _ hx (by omega)).mono ?_
    rintro e w1 ⟨u1, rfl, o1, g1⟩
    go_wp2_with fail
    refine (spec_HasMember u1 n xs _ o1.reads).mono ?_
    rintro e w' ⟨rfl, rfl⟩
    go_wp2_with fail
    refine (laws_toIntS _ xs _ (hx.mono g1) (by omega)).mono ?_
    rintro e w2 ⟨u2, rfl, o2, g2⟩
    go_wp2_with fail
    refine (impl_HasMember u2 n xs _ o2.reads).mono ?_
    rintro e w' ⟨rfl, rfl⟩
    go_wp2_with fail
    refine (laws_toIntS _ xs _ (hx.mono (g1.trans g2)) (by omega)).mono ?_
    rintro e w3 ⟨u3, rfl, o3, g3⟩
    go_wp2_with fail
    refine (laws_eqIntS u2 u3 xs xs _ (o2.reads.mono g3) o3.reads).mono ?_
    rintro e w4 ⟨rfl, g4⟩
    rw [show eqL xs xs = true from by simp [eqL]]
    go_wp2_with fail
    go_ret
    exact ⟨rfl, ((g1.trans g2).trans g3).trans g4⟩
  · go_enter Try.func9, Try.ntmps9
    go_wp2
    go_ret
    exact ⟨rfl, Gr.refl _⟩
end Go.Proofs.Ythbpcdfobiacmaa
