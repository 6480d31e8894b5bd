/- IsRow: the walks. -/
import Derived.Test.YthbpcdfobiacmaaLawC
namespace Go.Proofs.Ythbpcdfobiacmaa
open Go.RowKit
/-- One value of a row lies in its bounds. -/
def valAt (xs : List Int) (j : Nat) : Bool := inB (xs.getD j 0) 0 99
def isRowB (x : DRow) : Bool := allB x.vals.length (valAt x.vals) && (inB x.id 0 999 && decide (x.vals.length = 3))
theorem isRowB_no {id : Int} {xs : List Int} (k : Nat) (hk : k < xs.length) (h : inB xs[k] 0 99 = false) : isRowB ⟨id, xs⟩ = false := by
  unfold isRowB; rw [allB_false k hk (by unfold valAt; rw [getD_lt hk]; exact h)]; rfl
theorem isRowB_all {id : Int} {xs : List Int} (h : ∀ j, j < xs.length → valAt xs j = true) : isRowB ⟨id, xs⟩ = (inB id 0 999 && decide (xs.length = 3)) := by
  unfold isRowB; rw [allB_true h]; rfl
theorem valAt_mk {xs : List Int} {k : Nat} (hk : k < xs.length) (h : inB xs[k] 0 99 = true) : valAt xs k = true := by unfold valAt; rw [getD_lt hk]; exact h
set_option maxRecDepth 100000 in
set_option maxHeartbeats 1000000 in
theorem impl_IsRow (x : DRow) (u : Value) (w : World) (hx : RInts w u x.vals) : Calls Try.prog 44 #[.agg #[.int .i64 x.id, u]] w fun e w' => e = .returned (.bool (isRowB x)) ∧ Gr w w' := by
  obtain ⟨id, xs⟩ := x
  dsimp only at *
  obtain ⟨a, cap, rfl, hl, hm, hx⟩ := hx.open
  have g0 : Gr w (w.alloc (.cells #[.int .i64 id, .slice a xs.length cap] 59)) := (Gr.refl w).alloc _
  go_enter Try.func44, Try.ntmps44
  go_wp2
  go_loopw [8] (fun i wr => ∃ k : Nat, k ≤ xs.length ∧ i = .int .i64 k ∧ Hid (∀ j, j < k → valAt xs j = true) ∧ Gr w wr ∧ wr.cell? ⟨w.heap.size, 0, none⟩ = some (.int .i64 id) ∧ wr.cell? ⟨w.heap.size, 1, none⟩ = some (.slice a xs.length cap)) (fun i _ => xs.length - (intOf i).toNat)
  case atStart => exact ⟨0, Nat.zero_le _, rfl, Lib.hid (fun _ h => absurd h (Nat.not_lt_zero _)), g0, by simp [go_sem], by simp [go_sem]⟩
  case round =>
    obtain ⟨k, hk, rfl, hn, hgr, k0, k1⟩ := hrel
    by_cases hlt : k < xs.length
    · obtain ⟨b, off, rfl, hc, _⟩ := hx k hlt
      have gc := hgr.cellv hc
      clear hc
      by_cases h1 : inB xs[k] 0 99 = true
      · go_wp2_with (go_at_call 53; refine (impl_within _ _ _ _).mono ?_; rintro e w' ⟨rfl, rfl⟩)
        go_roundw
        case rel => exact ⟨k + 1, by omega, by go_num, Lib.hid (below_succ hn.out (valAt_mk hlt h1)), hgr, k0, k1⟩
        case measure => simp [intOf]; omega
      · have h1 : inB xs[k] 0 99 = false := by simpa using h1
        go_wp2_with (go_at_call 53; refine (impl_within _ _ _ _).mono ?_; rintro e w' ⟨rfl, rfl⟩)
        go_ret
        exact ⟨ret_bool (isRowB_no k hlt h1).symm, hgr⟩
    · have HF := Lib.hid (isRowB_all (id := id) (xs := xs) (fun j hj => hn.out j (by omega)))
      by_cases h1 : inB id 0 999 = true <;> by_cases h2 : xs.length = 3 <;>
      · have h3 := Lib.hid h2
        have h4 : ((xs.length : Int) == 3) = decide (xs.length = 3) := by have := h3.out; simp [this] <;> omega
        clear h2
        go_wp2_with (go_at_call 53; refine (impl_within _ _ _ _).mono ?_; rintro e w' ⟨rfl, rfl⟩)
        go_ret
        exact ⟨ret_bool (by rw [HF.out]; have := h3.out; simp [*] <;> omega), hgr⟩
set_option maxRecDepth 100000 in
set_option maxHeartbeats 1000000 in
theorem spec_IsRow (x : DRow) (u : Value) (w : World) (hx : RInts w u x.vals) : Calls Try.prog 42 #[.agg #[.int .i64 x.id, u]] w fun e w' => e = .returned (.bool (isRowB x)) ∧ Gr w w' := by
  obtain ⟨id, xs⟩ := x
  dsimp only at *
  obtain ⟨a, cap, rfl, hl, hm, hx⟩ := hx.open
  have g0 : Gr w (w.alloc (.cells #[.int .i64 id, .slice a xs.length cap] 59)) := (Gr.refl w).alloc _
  go_enter Try.func42, Try.ntmps42
  go_wp2
  go_loopw [3] (fun i wr => ∃ k : Nat, k ≤ xs.length ∧ i = .int .i64 k ∧ Hid (∀ j, j < k → valAt xs j = true) ∧ Gr w wr ∧ wr.cell? ⟨w.heap.size, 0, none⟩ = some (.int .i64 id) ∧ wr.cell? ⟨w.heap.size, 1, none⟩ = some (.slice a xs.length cap)) (fun i _ => xs.length - (intOf i).toNat)
  case atStart => exact ⟨0, Nat.zero_le _, rfl, Lib.hid (fun _ h => absurd h (Nat.not_lt_zero _)), g0, by simp [go_sem], by simp [go_sem]⟩
  case round =>
    obtain ⟨k, hk, rfl, hn, hgr, k0, k1⟩ := hrel
    by_cases hlt : k < xs.length
    · obtain ⟨b, off, rfl, hc, _⟩ := hx k hlt
      have gc := hgr.cellv hc
      clear hc
      by_cases h1 : inB xs[k] 0 99 = true
      · go_wp2_with (go_at_call 47; refine (spec_l1In _ _ _ _).mono ?_; rintro e w' ⟨rfl, rfl⟩)
        go_roundw
        case rel => exact ⟨k + 1, by omega, by go_num, Lib.hid (below_succ hn.out (valAt_mk hlt h1)), hgr, k0, k1⟩
        case measure => simp [intOf]; omega
      · have h1 : inB xs[k] 0 99 = false := by simpa using h1
        go_wp2_with (go_at_call 47; refine (spec_l1In _ _ _ _).mono ?_; rintro e w' ⟨rfl, rfl⟩)
        go_ret
        exact ⟨ret_bool (isRowB_no k hlt h1).symm, hgr⟩
    · have HF := Lib.hid (isRowB_all (id := id) (xs := xs) (fun j hj => hn.out j (by omega)))
      by_cases h1 : inB id 0 999 = true <;> by_cases h2 : xs.length = 3 <;>
      · have h3 := Lib.hid h2
        have h4 : ((xs.length : Int) == 3) = decide (xs.length = 3) := by have := h3.out; simp [this] <;> omega
        clear h2
        go_wp2_with (go_at_call 47; refine (spec_l1In _ _ _ _).mono ?_; rintro e w' ⟨rfl, rfl⟩)
        go_ret
        exact ⟨ret_bool (by rw [HF.out]; have := h3.out; simp [*] <;> omega), hgr⟩
-- gen FnExactIsRow IsRow Row
set_option maxRecDepth 100000 in
set_option maxHeartbeats 4000000 in
theorem law_FnExactIsRow (w : World) (x0 : DRow) (u0_vals : Value) (_ : I64 x0.id) (h0_vals : RInts w u0_vals x0.vals) : Calls Try.prog 14 #[.agg #[.int .i64 x0.id, u0_vals]] w fun e w' => e = .returned (.bool true) ∧ Gr w w' := by
  by_cases hs0 : ((totRow x0) : Int) ≤ (1048576 : Int)
  · have HZ0 := Lib.hid (szV_yes (t := (totRow x0)) (left := (1048576 : Int)) (by omega))
    have HA0 := Lib.hid (show (0 : Int) ≤ (1048576 : Int) ∧ (1048576 : Int) ≤ 1048576 from by omega)
    have HB0 := Lib.hid (show (0 : Int) ≤ (1048576 : Int) - ((totRow x0) : Int) ∧ (1048576 : Int) - ((totRow x0) : Int) ≤ 1048576 from by omega)
    have HT0 := Lib.hid (show (totRow x0) ≤ 4294967296 from by omega)
    clear hs0
    go_enter Try.func14, Try.ntmps14
    go_wp2_with fail
    refine (laws_szRow x0 u0_vals _ _ (RSlice.mono keeps_int ((Gr.refl w).alloc _) h0_vals) HA0.out.1 HA0.out.2).mono ?_
    rintro e w1 ⟨rfl, g1⟩
    have gs1 : Gr w w1 := ((Gr.refl w).alloc _).trans g1
    replace h0_vals : RInts w1 u0_vals x0.vals := (RSlice.mono keeps_int gs1 h0_vals)
    have kb0_0 : w1.cell? ⟨w.heap.size, 0, none⟩ = some (.int .i64 x0.id) := g1.cellv (by simp [go_sem])
    have kb0_1 : w1.cell? ⟨w.heap.size, 1, none⟩ = some (u0_vals) := g1.cellv (by simp [go_sem])
    have gw : Gr w w1 := gs1
    rw [HZ0.out]
    have hB0 := HB0.out.1
    have hC0 := HB0.out.2
    go_wp2_with fail
    refine (laws_toRow_gr x0 u0_vals _ h0_vals HT0.out).mono ?_
    rintro e w2 ⟨_, rfl, ⟨ap0_vals, np0_vals, cp0_vals, rfl⟩, r_hp0_vals, g2⟩
    replace h0_vals : RInts w2 u0_vals x0.vals := (RSlice.mono keeps_int g2 h0_vals)
    replace kb0_0 : w2.cell? ⟨w.heap.size, 0, none⟩ = some (.int .i64 x0.id) := g2.cellv kb0_0
    replace kb0_1 : w2.cell? ⟨w.heap.size, 1, none⟩ = some (u0_vals) := g2.cellv kb0_1
    replace gw : Gr w w2 := gw.trans g2
    have hp0_vals : RInts w2 (.slice ap0_vals np0_vals cp0_vals) x0.vals := r_hp0_vals _ (Loc.refl _ _)
    clear r_hp0_vals
    go_wp2_with fail
    refine (spec_IsRow x0 _ _ hp0_vals).mono ?_
    rintro e w3 ⟨rfl, g3⟩
    replace h0_vals : RInts w3 u0_vals x0.vals := (RSlice.mono keeps_int g3 h0_vals)
    replace hp0_vals : RInts w3 (.slice ap0_vals np0_vals cp0_vals) x0.vals := (RSlice.mono keeps_int g3 hp0_vals)
    replace kb0_0 : w3.cell? ⟨w.heap.size, 0, none⟩ = some (.int .i64 x0.id) := g3.cellv kb0_0
    replace kb0_1 : w3.cell? ⟨w.heap.size, 1, none⟩ = some (u0_vals) := g3.cellv kb0_1
    replace gw : Gr w w3 := gw.trans g3
    clear hp0_vals
    go_wp2_with fail
    refine (laws_toRow_gr x0 u0_vals _ h0_vals HT0.out).mono ?_
    rintro e w4 ⟨_, rfl, ⟨ax0_vals, nx0_vals, cx0_vals, rfl⟩, r_hx0_vals, g4⟩
    replace h0_vals : RInts w4 u0_vals x0.vals := (RSlice.mono keeps_int g4 h0_vals)
    replace kb0_0 : w4.cell? ⟨w.heap.size, 0, none⟩ = some (.int .i64 x0.id) := g4.cellv kb0_0
    replace kb0_1 : w4.cell? ⟨w.heap.size, 1, none⟩ = some (u0_vals) := g4.cellv kb0_1
    replace gw : Gr w w4 := gw.trans g4
    have hx0_vals : RInts w4 (.slice ax0_vals nx0_vals cx0_vals) x0.vals := r_hx0_vals _ (Loc.refl _ _)
    clear r_hx0_vals
    go_wp2_with fail
    refine (impl_IsRow x0 _ _ (RSlice.mono keeps_int ((Gr.refl w4).alloc _) hx0_vals)).mono ?_
    rintro e w5 ⟨rfl, g5⟩
    have gs5 : Gr w4 w5 := ((Gr.refl w4).alloc _).trans g5
    replace h0_vals : RInts w5 u0_vals x0.vals := (RSlice.mono keeps_int gs5 h0_vals)
    replace hx0_vals : RInts w5 (.slice ax0_vals nx0_vals cx0_vals) x0.vals := (RSlice.mono keeps_int gs5 hx0_vals)
    replace kb0_0 : w5.cell? ⟨w.heap.size, 0, none⟩ = some (.int .i64 x0.id) := gs5.cellv kb0_0
    replace kb0_1 : w5.cell? ⟨w.heap.size, 1, none⟩ = some (u0_vals) := gs5.cellv kb0_1
    have kx0_0 : w5.cell? ⟨w4.heap.size, 0, none⟩ = some (.int .i64 x0.id) := g5.cellv (by simp [go_sem])
    have kx0_1 : w5.cell? ⟨w4.heap.size, 1, none⟩ = some (.slice ax0_vals nx0_vals cx0_vals) := g5.cellv (by simp [go_sem])
    replace gw : Gr w w5 := gw.trans gs5
    go_wp2_with fail
    go_region_held3 (fun w' => w'.cell? ⟨w.heap.size, 0, none⟩ = some (.int .i64 x0.id) ∧ w'.cell? ⟨w.heap.size, 1, none⟩ = some (u0_vals) ∧ w'.cell? ⟨w4.heap.size, 0, none⟩ = some (.int .i64 x0.id) ∧ w'.cell? ⟨w4.heap.size, 1, none⟩ = some (.slice ax0_vals nx0_vals cx0_vals) ∧ RInts w' u0_vals x0.vals ∧ RInts w' (.slice ax0_vals nx0_vals cx0_vals) x0.vals ∧ Gr w5 w')
      (first | exact ⟨kb0_0, kb0_1, kx0_0, kx0_1, h0_vals, hx0_vals, Gr.refl _⟩ | exact ⟨kb0_0, kb0_1, kx0_0, kx0_1, h0_vals, hx0_vals, (Gr.refl _).drew⟩ | (go_split_ands; exact ⟨Gr.cellv gb0 (by assumption), Gr.cellv gb0 (by assumption), Gr.cellv gb0 (by assumption), Gr.cellv gb0 (by assumption), (RSlice.mono keeps_int gb0 (by assumption)), (RSlice.mono keeps_int gb0 (by assumption)), Gr.trans (by assumption) gb0⟩) | (go_split_ands; exact ⟨Gr.cellv ga0 (by assumption), Gr.cellv ga0 (by assumption), Gr.cellv ga0 (by assumption), Gr.cellv ga0 (by assumption), (RSlice.mono keeps_int ga0 (by assumption)), (RSlice.mono keeps_int ga0 (by assumption)), Gr.trans (by assumption) ga0⟩))
      (first | (go_at_call 43; go_split_ands; refine (laws_toRow_gr x0 u0_vals _ (by assumption) HT0.out).mono ?_; rintro e wa0 ⟨_, rfl, ⟨ay0_vals, ny0_vals, cy0_vals, rfl⟩, ry0_vals, ga0⟩) | (go_at_call 45; go_split_ands; refine (laws_eqRow x0 _ _ _ (by assumption) (ry0_vals _ (Loc.refl _ _))).mono ?_; rintro e wb0 ⟨rfl, gb0⟩))
    have gs6 : Gr w5 wb0 := ((Gr.refl w5).drew.trans ga0).trans gb0
    replace h0_vals : RInts wb0 u0_vals x0.vals := (RSlice.mono keeps_int gs6 h0_vals)
    replace hx0_vals : RInts wb0 (.slice ax0_vals nx0_vals cx0_vals) x0.vals := (RSlice.mono keeps_int gs6 hx0_vals)
    replace kb0_0 : wb0.cell? ⟨w.heap.size, 0, none⟩ = some (.int .i64 x0.id) := gs6.cellv kb0_0
    replace kb0_1 : wb0.cell? ⟨w.heap.size, 1, none⟩ = some (u0_vals) := gs6.cellv kb0_1
    replace kx0_0 : wb0.cell? ⟨w4.heap.size, 0, none⟩ = some (.int .i64 x0.id) := gs6.cellv kx0_0
    replace kx0_1 : wb0.cell? ⟨w4.heap.size, 1, none⟩ = some (.slice ax0_vals nx0_vals cx0_vals) := gs6.cellv kx0_1
    replace gw : Gr w wb0 := gw.trans gs6
    go_wp2_with fail
    go_ret
    exact ⟨rfl, gw⟩
  · have HZ0 := Lib.hid (szV_no (t := (totRow x0)) (left := (1048576 : Int)) (by omega))
    have HA0 := Lib.hid (show (0 : Int) ≤ (1048576 : Int) ∧ (1048576 : Int) ≤ 1048576 from by omega)
    clear hs0
    go_enter Try.func14, Try.ntmps14
    go_wp2_with fail
    refine (laws_szRow x0 u0_vals _ _ (RSlice.mono keeps_int ((Gr.refl w).alloc _) h0_vals) HA0.out.1 HA0.out.2).mono ?_
    rintro e w1 ⟨rfl, g1⟩
    have gs1 : Gr w w1 := ((Gr.refl w).alloc _).trans g1
    replace h0_vals : RInts w1 u0_vals x0.vals := (RSlice.mono keeps_int gs1 h0_vals)
    have kb0_0 : w1.cell? ⟨w.heap.size, 0, none⟩ = some (.int .i64 x0.id) := g1.cellv (by simp [go_sem])
    have kb0_1 : w1.cell? ⟨w.heap.size, 1, none⟩ = some (u0_vals) := g1.cellv (by simp [go_sem])
    have gw : Gr w w1 := gs1
    rw [HZ0.out]
    go_wp2_with fail
    go_ret
    exact ⟨rfl, gw⟩

-- endgen
end Go.Proofs.Ythbpcdfobiacmaa
