/- The comparison of rows. -/
import Derived.Test.YtjeffagejbdjkaaSortQ
import Derived.Test.YtjeffagejbdjkaaSortA
namespace Go.Proofs.Ytjeffagejbdjkaa
open Go.RowKit Go.Sort Go.ChangeShapes Go.WideShapes Go.Deep
theorem cmp_isNaN (n : Int) (w : World) : Calls Try.prog 53 #[.int .i64 n] w fun e w' => e = .returned (.bool false) ∧ w' = w := by
  go_enter Try.func53, Try.ntmps53
  go_wp2
  go_ret
  exact ⟨rfl, rfl⟩
def cmpI (x y : Int) : Int := if x < y then -1 else if y < x then 1 else 0
set_option maxRecDepth 100000 in
theorem cmp_Compare (x y : Int) (w : World) : Calls Try.prog 41 #[.int .i64 x, .int .i64 y] w fun e w' => e = .returned (.int .i64 (cmpI x y)) ∧ w' = w := by
  go_enter Try.func41, Try.ntmps41
  go_wp2_with fail
  refine (cmp_isNaN x _).mono ?_
  rintro e w1 ⟨rfl, rfl⟩
  go_wp2_with fail
  refine (cmp_isNaN y _).mono ?_
  rintro e w1 ⟨rfl, rfl⟩
  by_cases h1 : x < y
  · have H1 := Lib.hid h1
    go_wp2_with fail
    go_ret
    exact ⟨ret_int (by have h1 := H1.out; simp [cmpI, h1]), rfl⟩
  · have H1 := Lib.hid h1
    by_cases h2 : y < x
    · have H2 := Lib.hid h2
      go_wp2_with fail
      go_ret
      exact ⟨ret_int (by unfold cmpI; have := H1.out; have := H2.out; rw [if_neg (by omega), if_pos (by omega)]), rfl⟩
    · have H2 := Lib.hid h2
      go_wp2_with fail
      go_ret
      exact ⟨ret_int (by unfold cmpI; have := H1.out; have := H2.out; rw [if_neg (by omega), if_neg (by omega)]), rfl⟩
set_option maxRecDepth 100000 in
set_option maxHeartbeats 1000000 in
theorem slices_CompareInts {u v : Value} {xs ys : List Int} {w : World} (hx : RInts w u xs) (hy : RInts w v ys) : Calls Try.prog 25 #[u, v] w fun e w' => e = .returned (.int .i64 (cmpInts xs ys)) ∧ w' = w := by
  obtain ⟨a, cap, rfl, hl, hm, hx⟩ := hx.open
  obtain ⟨a', cap', rfl, hl', hm', hy⟩ := hy.open
  go_enter Try.func25, Try.ntmps25
  go_wp2_with fail
  go_loopw [11] (fun i wr => ∃ j : Nat, j ≤ xs.length ∧ j ≤ ys.length ∧ i = .int .i64 j ∧ Hid (cmpInts (xs.drop j) (ys.drop j) = cmpInts xs ys) ∧ wr = w) (fun i _ => xs.length - (intOf i).toNat)
  case atStart => exact ⟨0, Nat.zero_le _, Nat.zero_le _, rfl, Lib.hid (by simp), rfl⟩
  case round =>
    obtain ⟨j, hj, hj', rfl, HC, rfl⟩ := hrel
    by_cases hlt : j < xs.length
    · have hlz : (j : Int) < (xs.length : Int) := by omega
      obtain ⟨b, off, rfl, hc, hi64⟩ := hx j hlt
      by_cases hlt' : j < ys.length
      · have hlz' : (j : Int) < (ys.length : Int) := by omega
        obtain ⟨b', off', rfl, hc', hi64'⟩ := hy j hlt'
        have HE := Lib.hid (cmpInts_at hlt hlt')
        generalize xs[j] = x at hc hi64 HE
        generalize ys[j] = y at hc' hi64' HE
        go_wp2_with fail
        refine (cmp_Compare x y _).mono ?_
        rintro e w1 ⟨rfl, rfl⟩
        by_cases h1 : x < y
        · have H1 := Lib.hid h1
          have e0 : cmpI x y = -1 := by simp [cmpI, h1]
          rw [e0]
          go_wp2_with fail
          go_ret
          exact ⟨ret_int (by have := HE.out; rw [if_pos H1.out, HC.out] at this; rw [this]), rfl⟩
        · have H1 := Lib.hid h1
          by_cases h2 : y < x
          · have H2 := Lib.hid h2
            have e0 : cmpI x y = 1 := by simp [cmpI, h1, h2]
            rw [e0]
            go_wp2_with fail
            go_ret
            exact ⟨ret_int (by have := HE.out; rw [if_neg (show ¬ x < y by have := H1.out; omega), if_pos H2.out, HC.out] at this; rw [this]), rfl⟩
          · have H2 := Lib.hid h2
            have e0 : cmpI x y = 0 := by simp [cmpI, h1, h2]
            rw [e0]
            go_wp2_with fail
            go_roundw
            case rel => exact ⟨j + 1, by omega, by omega, by go_num, Lib.hid (by have := HE.out; rw [if_neg (show ¬ x < y by have := H1.out; omega), if_neg (show ¬ y < x by have := H2.out; omega), HC.out] at this; exact this.symm), by first | rfl | trivial⟩
            case measure => simp [intOf]; omega
      · have hlz' : ¬ (j : Int) < (ys.length : Int) := by omega
        have HE := Lib.hid (cmpInts_more hlt (Nat.le_of_not_lt hlt'))
        go_wp2_with fail
        go_ret
        exact ⟨ret_int (by rw [← HC.out, HE.out]), rfl⟩
    · have hlz : ¬ (j : Int) < (xs.length : Int) := by omega
      by_cases hlt' : xs.length < ys.length
      · have hlz' : (xs.length : Int) < (ys.length : Int) := by omega
        have HE := Lib.hid (cmpInts_less (k := j) (xs := xs) (ys := ys) (by omega) (by omega))
        go_wp2_with fail
        go_ret
        exact ⟨ret_int (by rw [← HC.out, HE.out]), rfl⟩
      · have hlz' : ¬ (xs.length : Int) < (ys.length : Int) := by omega
        have HE := Lib.hid (cmpInts_same (k := j) (xs := xs) (ys := ys) (by omega) (by omega))
        go_wp2_with fail
        go_ret
        exact ⟨ret_int (by rw [← HC.out, HE.out]), rfl⟩
set_option maxRecDepth 100000 in
set_option maxHeartbeats 1000000 in
theorem cmp_rows {x y : DRow} {u v : Value} {w : World} (hx : RInts w u x.vals) (hy : RInts w v y.vals) : Calls Try.prog 24 #[.agg #[.int .i64 x.id, u], .agg #[.int .i64 y.id, v]] w fun e w' => e = .returned (.int .i64 (cmpRow x y)) ∧ Gr w w' := by
  obtain ⟨a, c, rfl⟩ := hx.form
  obtain ⟨a', c', rfl⟩ := hy.form
  have HX := Lib.hid hx
  have HY := Lib.hid hy
  clear hx hy
  obtain ⟨id, vs⟩ := x
  obtain ⟨id', vs'⟩ := y
  simp only at HX HY
  have hg : Hid (Gr w ((w.alloc (.cells #[.int .i64 id, .slice a vs.length c] 47)).alloc (.cells #[.int .i64 id', .slice a' vs'.length c'] 47))) := Lib.hid (((Gr.refl w).alloc _).alloc _)
  go_enter Try.func24, Try.ntmps24
  by_cases h1 : id < id'
  · have H1 := Lib.hid h1
    go_wp2_with fail
    go_ret
    exact ⟨ret_int (by have h1 := H1.out; simp [cmpRow, h1]), hg.out⟩
  · have H1 := Lib.hid h1
    by_cases h2 : id' < id
    · have H2 := Lib.hid h2
      go_wp2_with fail
      go_ret
      exact ⟨ret_int (by unfold cmpRow; simp only; have := H1.out; have := H2.out; rw [if_neg (by omega), if_pos (by omega)]), hg.out⟩
    · have H2 := Lib.hid h2
      go_wp2_with fail
      refine (slices_CompareInts (HX.out.mono hg.out) (HY.out.mono hg.out)).mono ?_
      rintro e w1 ⟨rfl, rfl⟩
      go_wp2_with fail
      go_ret
      exact ⟨ret_int (by unfold cmpRow; simp only; have := H1.out; have := H2.out; rw [if_neg (by omega), if_neg (by omega)]), hg.out⟩
end Go.Proofs.Ytjeffagejbdjkaa
