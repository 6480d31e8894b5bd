/- IsRow: the walks. -/
import Derived.Test.YtcdcpfcmhmhdjaaGreatDoorLawC
namespace Go.Proofs.YtcdcpfcmhmhdjaaGreatDoor
open Go.RowKit
/-- One value of a row lies in its bounds. -/
def valAt (xs : List Int) (j : Nat) : Bool := inB (xs.getD j 0) 0 99
def isRowB (x : DRow) : Bool := allB x.vals.length (valAt x.vals) && (inB x.id 0 999 && decide (x.vals.length = 3))
theorem isRowB_no {id : Int} {xs : List Int} (k : Nat) (hk : k < xs.length) (h : inB xs[k] 0 99 = false) : isRowB ⟨id, xs⟩ = false := by
  unfold isRowB; rw [allB_false k hk (by unfold valAt; rw [getD_lt hk]; exact h)]; rfl
theorem isRowB_all {id : Int} {xs : List Int} (h : ∀ j, j < xs.length → valAt xs j = true) : isRowB ⟨id, xs⟩ = (inB id 0 999 && decide (xs.length = 3)) := by
  unfold isRowB; rw [allB_true h]; rfl
theorem valAt_mk {xs : List Int} {k : Nat} (hk : k < xs.length) (h : inB xs[k] 0 99 = true) : valAt xs k = true := by unfold valAt; rw [getD_lt hk]; exact h
set_option maxRecDepth 100000 in
set_option maxHeartbeats 1000000 in
theorem impl_IsRow (x : DRow) (u : Value) (w : World) (hx : RInts w u x.vals) : Calls Tryz.prog 29 #[.agg #[.int .i64 x.id, u]] w fun e w' => e = .returned (.bool (isRowB x)) ∧ Gr w w' := by
  obtain ⟨id, xs⟩ := x
  dsimp only at *
  obtain ⟨a, cap, rfl, hl, hm, hx⟩ := hx.open
  have g0 : Gr w (w.alloc (.cells #[.int .i64 id, .slice a xs.length cap] 36)) := (Gr.refl w).alloc _
  go_enter Tryz.func29, Tryz.ntmps29
  go_wp2
  go_loopw [8] (fun i wr => ∃ k : Nat, k ≤ xs.length ∧ i = .int .i64 k ∧ Hid (∀ j, j < k → valAt xs j = true) ∧ Gr w wr ∧ wr.cell? ⟨w.heap.size, 0, none⟩ = some (.int .i64 id) ∧ wr.cell? ⟨w.heap.size, 1, none⟩ = some (.slice a xs.length cap)) (fun i _ => xs.length - (intOf i).toNat)
  case atStart => exact ⟨0, Nat.zero_le _, rfl, Lib.hid (fun _ h => absurd h (Nat.not_lt_zero _)), g0, by simp [go_sem], by simp [go_sem]⟩
  case round =>
    obtain ⟨k, hk, rfl, hn, hgr, k0, k1⟩ := hrel
    by_cases hlt : k < xs.length
    · obtain ⟨b, off, rfl, hc, _⟩ := hx k hlt
      have gc := hgr.cellv hc
      clear hc
      by_cases h1 : inB xs[k] 0 99 = true
      · go_wp2_with (go_at_call 59; refine (impl_within _ _ _ _).mono ?_; rintro e w' ⟨rfl, rfl⟩)
        go_roundw
        case rel => exact ⟨k + 1, by omega, by go_num, Lib.hid (below_succ hn.out (valAt_mk hlt h1)), hgr, k0, k1⟩
        case measure => simp [intOf]; omega
      · have h1 : inB xs[k] 0 99 = false := by simpa using h1
        go_wp2_with (go_at_call 59; refine (impl_within _ _ _ _).mono ?_; rintro e w' ⟨rfl, rfl⟩)
        go_ret
        exact ⟨ret_bool (isRowB_no k hlt h1).symm, hgr⟩
    · have HF := Lib.hid (isRowB_all (id := id) (xs := xs) (fun j hj => hn.out j (by omega)))
      by_cases h1 : inB id 0 999 = true <;> by_cases h2 : xs.length = 3 <;>
      · have h3 := Lib.hid h2
        have h4 : ((xs.length : Int) == 3) = decide (xs.length = 3) := by have := h3.out; simp [this] <;> omega
        clear h2
        go_wp2_with (go_at_call 59; refine (impl_within _ _ _ _).mono ?_; rintro e w' ⟨rfl, rfl⟩)
        go_ret
        exact ⟨ret_bool (by rw [HF.out]; have := h3.out; simp [*] <;> omega), hgr⟩
set_option maxRecDepth 100000 in
set_option maxHeartbeats 1000000 in
theorem spec_IsRow (x : DRow) (u : Value) (w : World) (hx : RInts w u x.vals) : Calls Tryz.prog 45 #[.agg #[.int .i64 x.id, u]] w fun e w' => e = .returned (.bool (isRowB x)) ∧ Gr w w' := by
  obtain ⟨id, xs⟩ := x
  dsimp only at *
  obtain ⟨a, cap, rfl, hl, hm, hx⟩ := hx.open
  have g0 : Gr w (w.alloc (.cells #[.int .i64 id, .slice a xs.length cap] 36)) := (Gr.refl w).alloc _
  go_enter Tryz.func45, Tryz.ntmps45
  go_wp2
  go_loopw [3] (fun i wr => ∃ k : Nat, k ≤ xs.length ∧ i = .int .i64 k ∧ Hid (∀ j, j < k → valAt xs j = true) ∧ Gr w wr ∧ wr.cell? ⟨w.heap.size, 0, none⟩ = some (.int .i64 id) ∧ wr.cell? ⟨w.heap.size, 1, none⟩ = some (.slice a xs.length cap)) (fun i _ => xs.length - (intOf i).toNat)
  case atStart => exact ⟨0, Nat.zero_le _, rfl, Lib.hid (fun _ h => absurd h (Nat.not_lt_zero _)), g0, by simp [go_sem], by simp [go_sem]⟩
  case round =>
    obtain ⟨k, hk, rfl, hn, hgr, k0, k1⟩ := hrel
    by_cases hlt : k < xs.length
    · obtain ⟨b, off, rfl, hc, _⟩ := hx k hlt
      have gc := hgr.cellv hc
      clear hc
      by_cases h1 : inB xs[k] 0 99 = true
      · go_wp2_with (go_at_call 43; refine (spec_l1In _ _ _ _).mono ?_; rintro e w' ⟨rfl, rfl⟩)
        go_roundw
        case rel => exact ⟨k + 1, by omega, by go_num, Lib.hid (below_succ hn.out (valAt_mk hlt h1)), hgr, k0, k1⟩
        case measure => simp [intOf]; omega
      · have h1 : inB xs[k] 0 99 = false := by simpa using h1
        go_wp2_with (go_at_call 43; refine (spec_l1In _ _ _ _).mono ?_; rintro e w' ⟨rfl, rfl⟩)
        go_ret
        exact ⟨ret_bool (isRowB_no k hlt h1).symm, hgr⟩
    · have HF := Lib.hid (isRowB_all (id := id) (xs := xs) (fun j hj => hn.out j (by omega)))
      by_cases h1 : inB id 0 999 = true <;> by_cases h2 : xs.length = 3 <;>
      · have h3 := Lib.hid h2
        have h4 : ((xs.length : Int) == 3) = decide (xs.length = 3) := by have := h3.out; simp [this] <;> omega
        clear h2
        go_wp2_with (go_at_call 43; refine (spec_l1In _ _ _ _).mono ?_; rintro e w' ⟨rfl, rfl⟩)
        go_ret
        exact ⟨ret_bool (by rw [HF.out]; have := h3.out; simp [*] <;> omega), hgr⟩
-- gen FnExactIsRow IsRow Row
-- endgen
end Go.Proofs.YtcdcpfcmhmhdjaaGreatDoor
