/- SortRows: the reference's order of rows. -/
import Derived.Test.YtjeffagejbdjkaaSortQ
import Derived.Test.YtjeffagejbdjkaaExt
import Derived.Test.YtjeffagejbdjkaaPriv
namespace Go.Proofs.Ytjeffagejbdjkaa
open Go.RowKit Go.ChangeShapes Go.WideShapes Go.Deep
theorem lex_end {xs ys : List Int} {k : Nat} (h : xs.length ≤ k ∨ ys.length ≤ k) (hx : k ≤ xs.length) (hy : k ≤ ys.length) (HC : cmpInts (xs.drop k) (ys.drop k) = cmpInts xs ys) : decide (xs.length < ys.length) = lexB xs ys := by
  rw [← cmpInts_lex, ← HC]
  rcases Nat.lt_trichotomy xs.length ys.length with h1 | h1 | h1
  · rw [cmpInts_less (by omega) (by omega), decide_eq_true (by omega), decide_eq_true (by omega)]
  · rw [cmpInts_same (by omega) (by omega), decide_eq_false (by omega), decide_eq_false (by omega)]
  · rw [cmpInts_more (by omega) (by omega), decide_eq_false (by omega), decide_eq_false (by omega)]
theorem lex_here {xs ys : List Int} {k : Nat} (hx : k < xs.length) (hy : k < ys.length) (HC : cmpInts (xs.drop k) (ys.drop k) = cmpInts xs ys) (h : (xs[k] != ys[k]) = true) : decide (xs[k] < ys[k]) = lexB xs ys := by
  rw [← cmpInts_lex, ← HC, cmpInts_at hx hy]
  have hn : xs[k] ≠ ys[k] := by simpa using h
  by_cases h1 : xs[k] < ys[k]
  · rw [if_pos h1, decide_eq_true h1]; rfl
  · rw [if_neg h1, if_pos (by omega), decide_eq_false h1]; rfl
theorem lex_on {xs ys : List Int} {k : Nat} (hx : k < xs.length) (hy : k < ys.length) (HC : cmpInts (xs.drop k) (ys.drop k) = cmpInts xs ys) (h : (xs[k] != ys[k]) = false) : cmpInts (xs.drop (k + 1)) (ys.drop (k + 1)) = cmpInts xs ys := by
  have hn : xs[k] = ys[k] := by simpa using h
  rw [← HC, cmpInts_at hx hy, if_neg (by omega), if_neg (by omega)]
set_option maxRecDepth 100000 in
set_option maxHeartbeats 1000000 in
theorem spec_l3LessInts (v u : Value) (xs ys : List Int) (w : World) (hx : RInts w v xs) (hy : RInts w u ys) :
    Calls Try.prog 38 #[v, u] w fun e w' => e = .returned (.bool (lexB xs ys)) ∧ Gr w w' := by
  obtain ⟨a, cap, rfl, hl, hm, hx⟩ := hx.open
  obtain ⟨a', cap', rfl, hl', hm', hy⟩ := hy.open
  go_enter Try.func38, Try.ntmps38
  go_wp2_with fail
  go_loopw [5] (fun i wr => ∃ k : Nat, k ≤ xs.length ∧ k ≤ ys.length ∧ i = .int .i64 k ∧ Hid (cmpInts (xs.drop k) (ys.drop k) = cmpInts xs ys) ∧ Gr w wr) (fun i _ => xs.length - (intOf i).toNat)
  case atStart => exact ⟨0, Nat.zero_le _, Nat.zero_le _, rfl, Lib.hid (by simp), Gr.refl _⟩
  case round =>
    obtain ⟨k, hk, hk', rfl, HC, hgr⟩ := hrel
    by_cases hlt : k < xs.length
    · have hlz : (k : Int) < (xs.length : Int) := by omega
      obtain ⟨b, off, rfl, hc, _⟩ := hx k hlt
      by_cases hlt' : k < ys.length
      · have hlz' : (k : Int) < (ys.length : Int) := by omega
        obtain ⟨b', off', rfl, hc', _⟩ := hy k hlt'
        have gc := hgr.cellv hc
        have gc' := hgr.cellv hc'
        have i0 : (0 : Int) ≤ (k : Int) := Int.natCast_nonneg _
        clear hc hc'
        go_wp2_with fail
        go_quiet (fail)
        go_wp2_with fail
        · go_quiet (fail)
          go_wp2_with fail
          go_ret
          have h : (xs[k] != ys[k]) = true := by assumption
          exact ⟨ret_bool (lex_here hlt hlt' HC.out h), (hgr.drewN _).drewN _⟩
        · go_roundw
          have h : (xs[k] != ys[k]) = false := by assumption
          case rel => exact ⟨k + 1, by omega, by omega, by go_num, Lib.hid (lex_on hlt hlt' HC.out h), hgr.drewN _⟩
          case measure => simp [intOf]; omega
      · have hlz' : ¬ (k : Int) < (ys.length : Int) := by omega
        go_wp2_with fail
        go_ret
        exact ⟨ret_bool (lex_end (k := k) (by omega) hk hk' HC.out), hgr⟩
    · have hlz : ¬ (k : Int) < (xs.length : Int) := by omega
      go_wp2_with fail
      go_ret
      exact ⟨ret_bool (lex_end (k := k) (by omega) hk hk' HC.out), hgr⟩
set_option maxRecDepth 100000 in
set_option maxHeartbeats 1000000 in
theorem spec_l3Less (x y : DRow) (u v : Value) (w : World) (hx : RInts w u x.vals) (hy : RInts w v y.vals) : Calls Try.prog 19 #[.agg #[.int .i64 x.id, u], .agg #[.int .i64 y.id, v]] w fun e w' => e = .returned (.bool (ltRow x y)) ∧ Gr w w' := by
  obtain ⟨id, xs⟩ := x
  obtain ⟨jd, ys⟩ := y
  dsimp only at *
  obtain ⟨a, c, rfl⟩ := hx.form
  obtain ⟨a', c', rfl⟩ := hy.form
  have g0 : Gr w ((w.alloc (.cells #[.int .i64 id, .slice a xs.length c] 47)).alloc (.cells #[.int .i64 jd, .slice a' ys.length c'] 47)) := ((Gr.refl w).alloc _).alloc _
  have HX := Lib.hid (hx.mono g0)
  have HY := Lib.hid (hy.mono g0)
  have HG := Lib.hid g0
  clear hx hy g0
  by_cases h1 : id = jd
  · have h2 : (id != jd) = false := by simp [h1]
    have HF : Hid (ltRow ⟨id, xs⟩ ⟨jd, ys⟩ = lexB xs ys) := Lib.hid (by simp [ltRow, h1])
    clear h1
    go_enter Try.func19, Try.ntmps19
    go_wp2_with fail
    refine (spec_l3LessInts _ _ xs ys _ HX.out HY.out).mono ?_
    rintro e w1 ⟨rfl, g1⟩
    go_wp2_with fail
    go_ret
    exact ⟨ret_bool (by rw [HF.out]), HG.out.trans g1⟩
  · have h2 : (id != jd) = true := by simpa using h1
    have HF : Hid (ltRow ⟨id, xs⟩ ⟨jd, ys⟩ = decide (id < jd)) := Lib.hid (by
      unfold ltRow; dsimp only
      by_cases h3 : id < jd
      · rw [if_pos h3, decide_eq_true h3]
      · rw [if_neg h3, if_pos (by omega), decide_eq_false h3])
    clear h1
    go_enter Try.func19, Try.ntmps19
    go_wp2_with fail
    go_ret
    exact ⟨ret_bool HF.out.symm, HG.out⟩
end Go.Proofs.Ytjeffagejbdjkaa
