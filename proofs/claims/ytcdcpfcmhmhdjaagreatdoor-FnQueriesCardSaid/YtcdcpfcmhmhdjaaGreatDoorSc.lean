/- The small functions that only compute: l1In, within, isField, IsCond, toCond; and the readers of integer slices. -/
import Derived.Test.YtcdcpfcmhmhdjaaGreatDoorBase
namespace Go.Proofs.YtcdcpfcmhmhdjaaGreatDoor
open Go.RowKit
def inB (x lo hi : Int) : Bool := decide (lo ≤ x) && decide (x ≤ hi)
theorem inB_true {x lo hi : Int} (h : inB x lo hi = true) : lo ≤ x ∧ x ≤ hi := by simpa [inB] using h
theorem inB_false {x lo hi : Int} (h : inB x lo hi = false) : x < lo ∨ hi < x := by
  simp only [inB, Bool.and_eq_false_iff, decide_eq_false_iff_not] at h; omega
theorem inB_mk {x lo hi : Int} (h1 : lo ≤ x) (h2 : x ≤ hi) : inB x lo hi = true := by simp [inB, h1, h2]
theorem inB_no {x lo hi : Int} (h : x < lo ∨ hi < x) : inB x lo hi = false := by
  simp only [inB, Bool.and_eq_false_iff, decide_eq_false_iff_not]; omega
set_option maxHeartbeats 400000 in
theorem spec_l1In (x lo hi : Int) (w : World) :
    Calls Tryz.prog 43 #[.int .i64 x, .int .i64 lo, .int .i64 hi] w fun e w' => e = .returned (.bool (inB x lo hi)) ∧ w = w' := by
  by_cases h1 : lo ≤ x <;> by_cases h2 : x ≤ hi <;>
  · go_enter Tryz.func43, Tryz.ntmps43
    go_wp2
    go_ret
    exact ⟨by simp [inB, *], rfl⟩
set_option maxHeartbeats 400000 in
theorem impl_within (x lo hi : Int) (w : World) :
    Calls Tryz.prog 59 #[.int .i64 x, .int .i64 lo, .int .i64 hi] w fun e w' => e = .returned (.bool (inB x lo hi)) ∧ w = w' := by
  by_cases h1 : lo ≤ x <;> by_cases h2 : x ≤ hi <;>
  · go_enter Tryz.func59, Tryz.ntmps59
    go_wp2
    go_ret
    exact ⟨by simp [inB, *], rfl⟩
set_option maxHeartbeats 400000 in
theorem impl_isField (x : Int) (w : World) :
    Calls Tryz.prog 61 #[.int .i64 x] w fun e w' => e = .returned (.bool (inB x 0 2)) ∧ w = w' := by
  go_enter Tryz.func61, Tryz.ntmps61
  go_wp2_with (go_at_call 59; refine (impl_within _ _ _ _).mono ?_; rintro e w' ⟨rfl, rfl⟩)
  go_ret
  exact ⟨rfl, rfl⟩
def isCondB (c : DCond) : Bool := inB c.field 0 2 && inB c.low 0 c.high && decide (c.high ≤ 99)
set_option maxHeartbeats 400000 in
theorem spec_IsCond (f l h : Int) (w : World) :
    Calls Tryz.prog 42 #[.agg #[.int .i64 f, .int .i64 l, .int .i64 h]] w fun e w' => e = .returned (.bool (isCondB ⟨f, l, h⟩)) ∧ Gr w w' := by
  have HX : Hid (isCondB ⟨f, l, h⟩ = (inB f 0 2 && inB l 0 h && decide (h ≤ 99))) := Lib.hid rfl
  by_cases h1 : inB f 0 2 = true
  · by_cases h2 : inB l 0 h = true
    all_goals
      go_enter Tryz.func42, Tryz.ntmps42
      go_wp2_with (go_at_call 43; refine (spec_l1In _ _ _ _).mono ?_; rintro e w' ⟨rfl, rfl⟩)
      go_ret
      exact ⟨by rw [HX.out]; first | (simp [*]; done) | (simp [*]; omega), (Gr.refl _).alloc _⟩
  · go_enter Tryz.func42, Tryz.ntmps42
    go_wp2_with (go_at_call 43; refine (spec_l1In _ _ _ _).mono ?_; rintro e w' ⟨rfl, rfl⟩)
    go_ret
    exact ⟨by rw [HX.out]; first | (simp [*]; done) | (simp [*]; omega), (Gr.refl _).alloc _⟩
set_option maxHeartbeats 400000 in
theorem impl_IsCond (f l h : Int) (w : World) :
    Calls Tryz.prog 60 #[.agg #[.int .i64 f, .int .i64 l, .int .i64 h]] w fun e w' => e = .returned (.bool (isCondB ⟨f, l, h⟩)) ∧ Gr w w' := by
  have HX : Hid (isCondB ⟨f, l, h⟩ = (inB f 0 2 && (decide (0 ≤ l) && decide (l ≤ h)) && decide (h ≤ 99))) := Lib.hid rfl
  by_cases h1 : inB f 0 2 = true
  · by_cases h2 : 0 ≤ l
    · by_cases h3 : l ≤ h
      all_goals
        go_enter Tryz.func60, Tryz.ntmps60
        go_wp2_with (go_at_call 61; refine (impl_isField _ _).mono ?_; rintro e w' ⟨rfl, rfl⟩)
        go_ret
        exact ⟨by rw [HX.out]; first | (simp [*]; done) | (simp [*]; omega), (Gr.refl _).alloc _⟩
    · go_enter Tryz.func60, Tryz.ntmps60
      go_wp2_with (go_at_call 61; refine (impl_isField _ _).mono ?_; rintro e w' ⟨rfl, rfl⟩)
      go_ret
      exact ⟨by rw [HX.out]; first | (simp [*]; done) | (simp [*]; omega), (Gr.refl _).alloc _⟩
  · go_enter Tryz.func60, Tryz.ntmps60
    go_wp2_with (go_at_call 61; refine (impl_isField _ _).mono ?_; rintro e w' ⟨rfl, rfl⟩)
    go_ret
    exact ⟨by rw [HX.out]; first | (simp [*]; done) | (simp [*]; omega), (Gr.refl _).alloc _⟩
end Go.Proofs.YtcdcpfcmhmhdjaaGreatDoor
