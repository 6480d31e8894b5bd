/- EqualRows, EqualSpans: the walks. -/
import Derived.Test.YtgadgidhomijpaaGenRow
import Derived.Test.YtgadgidhomijpaaGenSpan
import Derived.Test.YtgadgidhomijpaaGenVersion
namespace Go.Proofs.Ytgadgidhomijpaa
open Go.RowKit
set_option maxRecDepth 100000 in
set_option maxHeartbeats 1000000 in
theorem spec_l2Ints (v u : Value) (xs ys : List Int) (w : World) (hx : RInts w v xs) (hy : RInts w u ys) :
    Calls Try.prog 73 #[v, u] w fun e w' => e = .returned (.bool (eqL xs ys)) ∧ Gr w w' := by
  obtain ⟨a, cap, rfl, hl, hm, hx⟩ := hx.open
  obtain ⟨a', cap', rfl, hl', hm', hy⟩ := hy.open
  by_cases hn : xs.length = ys.length
  · have hd : ((xs.length : Int) != (ys.length : Int)) = false := by simp; omega
    have HN := Lib.hid hn
    have hle : xs.length ≤ ys.length := by omega
    clear hn
    go_enter Try.func73, Try.ntmps73
    go_wp2
    go_loopw [5] (fun i wr => ∃ k : Nat, k ≤ xs.length ∧ i = .int .i64 k ∧ Hid (∀ j, j < k → (xs.getD j 0 == ys.getD j 0) = true) ∧ Gr w wr) (fun i _ => xs.length - (intOf i).toNat)
    case atStart => exact ⟨0, Nat.zero_le _, rfl, Lib.hid (fun _ h => absurd h (Nat.not_lt_zero _)), Gr.refl _⟩
    case round =>
      obtain ⟨k, hk, rfl, hall, hgr⟩ := hrel
      by_cases hlt : k < xs.length
      · obtain ⟨b, off, rfl, hc, _⟩ := hx k hlt
        have hlt' : k < ys.length := by omega
        obtain ⟨b', off', rfl, hc', _⟩ := hy k hlt'
        have gc := hgr.cellv hc
        have gc' := hgr.cellv hc'
        have i0 : (0 : Int) ≤ (k : Int) := Int.natCast_nonneg _
        have i1 : (k : Int) < (xs.length : Int) := by omega
        have i2 : (k : Int) < (ys.length : Int) := by omega
        clear hc hc'
        go_wp2
        go_quiet (fail)
        go_wp2
        · go_ret
          have h : (xs[k] != ys[k]) = true := by assumption
          exact ⟨ret_bool (eqL_no k hlt hlt' h).symm, hgr.drewN _⟩
        · go_roundw
          have h : (xs[k] != ys[k]) = false := by assumption
          case rel => exact ⟨k+1, by omega, by go_num, Lib.hid (below_succ hall.out (by rw [getD_lt hlt, getD_lt hlt']; simpa using h)), hgr.drewN _⟩
          case measure => simp [intOf]; omega
      · go_wp2
        go_ret
        exact ⟨ret_bool (eqL_yes HN.out (fun j hj => hall.out j (by omega))).symm, hgr⟩
  · have hd : ((xs.length : Int) != (ys.length : Int)) = true := by simp; omega
    go_enter Try.func73, Try.ntmps73
    go_wp2
    go_ret
    exact ⟨ret_bool (by simp [eqL]; intro h; exact hn (by rw [h])), Gr.refl _⟩
set_option maxRecDepth 100000 in
set_option maxHeartbeats 1000000 in
theorem impl_sameInts (v u : Value) (xs ys : List Int) (w : World) (hx : RInts w v xs) (hy : RInts w u ys) :
    Calls Try.prog 75 #[v, u] w fun e w' => e = .returned (.bool (eqL xs ys)) ∧ Gr w w' := by
  obtain ⟨a, cap, rfl, hl, hm, hx⟩ := hx.open
  obtain ⟨a', cap', rfl, hl', hm', hy⟩ := hy.open
  by_cases hn : xs.length = ys.length
  · have hd : ((xs.length : Int) != (ys.length : Int)) = false := by simp; omega
    have HN := Lib.hid hn
    have hle : xs.length ≤ ys.length := by omega
    clear hn
    go_enter Try.func75, Try.ntmps75
    go_wp2
    go_loopw [13] (fun i wr => ∃ k : Nat, k ≤ xs.length ∧ i = .int .i64 k ∧ Hid (∀ j, j < k → (xs.getD j 0 == ys.getD j 0) = true) ∧ Gr w wr) (fun i _ => xs.length - (intOf i).toNat)
    case atStart => exact ⟨0, Nat.zero_le _, rfl, Lib.hid (fun _ h => absurd h (Nat.not_lt_zero _)), Gr.refl _⟩
    case round =>
      obtain ⟨k, hk, rfl, hall, hgr⟩ := hrel
      by_cases hlt : k < xs.length
      · obtain ⟨b, off, rfl, hc, _⟩ := hx k hlt
        have hlt' : k < ys.length := by omega
        obtain ⟨b', off', rfl, hc', _⟩ := hy k hlt'
        have gc := hgr.cellv hc
        have gc' := hgr.cellv hc'
        have i0 : (0 : Int) ≤ (k : Int) := Int.natCast_nonneg _
        have i1 : (k : Int) < (xs.length : Int) := by omega
        have i2 : (k : Int) < (ys.length : Int) := by omega
        clear hc hc'
        go_wp2
        go_quiet (fail)
        go_wp2
        · go_ret
          have h : (xs[k] != ys[k]) = true := by assumption
          exact ⟨ret_bool (eqL_no k hlt hlt' h).symm, hgr.drewN _⟩
        · go_roundw
          have h : (xs[k] != ys[k]) = false := by assumption
          case rel => exact ⟨k+1, by omega, by go_num, Lib.hid (below_succ hall.out (by rw [getD_lt hlt, getD_lt hlt']; simpa using h)), hgr.drewN _⟩
          case measure => simp [intOf]; omega
      · go_wp2
        go_ret
        exact ⟨ret_bool (eqL_yes HN.out (fun j hj => hall.out j (by omega))).symm, hgr⟩
  · have hd : ((xs.length : Int) != (ys.length : Int)) = true := by simp; omega
    go_enter Try.func75, Try.ntmps75
    go_wp2
    go_ret
    exact ⟨ret_bool (by simp [eqL]; intro h; exact hn (by rw [h])), Gr.refl _⟩
def eqRowB (x y : DRow) : Bool := x.id == y.id && eqL x.vals y.vals
set_option maxRecDepth 100000 in
set_option maxHeartbeats 1000000 in
theorem spec_l3Same (x y : DRow) (u v : Value) (w : World) (hx : RInts w u x.vals) (hy : RInts w v y.vals) : Calls Try.prog 77 #[.agg #[.int .i64 x.id, u], .agg #[.int .i64 y.id, v]] w fun e w' => e = .returned (.bool (eqRowB x y)) ∧ Gr w w' := by
  obtain ⟨id, xs⟩ := x
  obtain ⟨jd, ys⟩ := y
  dsimp only at *
  have g0 : Gr w ((w.alloc (.cells #[.int .i64 id, u] 78)).alloc (.cells #[.int .i64 jd, v] 78)) := ((Gr.refl w).alloc _).alloc _
  by_cases h1 : id = jd
  · have h2 : (id == jd) = true := by simp [h1]
    have HF : Hid (eqRowB ⟨id, xs⟩ ⟨jd, ys⟩ = eqL xs ys) := Lib.hid (by simp [eqRowB, h1])
    clear h1
    go_enter Try.func77, Try.ntmps77
    go_wp2_with fail
    refine (spec_l2Ints u v xs ys _ (hx.mono g0) (hy.mono g0)).mono ?_
    rintro e w1 ⟨rfl, g1⟩
    go_wp2_with fail
    go_ret
    exact ⟨ret_bool (by rw [HF.out]), g0.trans g1⟩
  · have h2 : (id == jd) = false := by simpa using h1
    have HF : Hid (eqRowB ⟨id, xs⟩ ⟨jd, ys⟩ = false) := Lib.hid (by simp [eqRowB, h1])
    clear h1
    go_enter Try.func77, Try.ntmps77
    go_wp2
    go_ret
    exact ⟨ret_bool HF.out.symm, g0⟩
set_option maxRecDepth 100000 in
set_option maxHeartbeats 1000000 in
theorem impl_equalRow (x y : DRow) (u v : Value) (w : World) (hx : RInts w u x.vals) (hy : RInts w v y.vals) : Calls Try.prog 79 #[.agg #[.int .i64 x.id, u], .agg #[.int .i64 y.id, v]] w fun e w' => e = .returned (.bool (eqRowB x y)) ∧ Gr w w' := by
  obtain ⟨id, xs⟩ := x
  obtain ⟨jd, ys⟩ := y
  dsimp only at *
  have g0 : Gr w ((w.alloc (.cells #[.int .i64 id, u] 78)).alloc (.cells #[.int .i64 jd, v] 78)) := ((Gr.refl w).alloc _).alloc _
  by_cases h1 : id = jd
  · have h2 : (id == jd) = true := by simp [h1]
    have HF : Hid (eqRowB ⟨id, xs⟩ ⟨jd, ys⟩ = eqL xs ys) := Lib.hid (by simp [eqRowB, h1])
    clear h1
    go_enter Try.func79, Try.ntmps79
    go_wp2_with fail
    refine (impl_sameInts u v xs ys _ (hx.mono g0) (hy.mono g0)).mono ?_
    rintro e w1 ⟨rfl, g1⟩
    go_wp2_with fail
    go_ret
    exact ⟨ret_bool (by rw [HF.out]), g0.trans g1⟩
  · have h2 : (id == jd) = false := by simpa using h1
    have HF : Hid (eqRowB ⟨id, xs⟩ ⟨jd, ys⟩ = false) := Lib.hid (by simp [eqRowB, h1])
    clear h1
    go_enter Try.func79, Try.ntmps79
    go_wp2
    go_ret
    exact ⟨ret_bool HF.out.symm, g0⟩
end Go.Proofs.Ytgadgidhomijpaa
