/- The library's stable sort at rows, step by step: the exchange of two runs. -/
import Derived.Test.YtjeffagejbdjkaaSortA
import Derived.Test.YtjeffagejbdjkaaExt
namespace Go.Proofs.Ytjeffagejbdjkaa
open Go.RowKit Go.Sort Go.ChangeShapes Go.WideShapes Go.Deep
variable {F : Nat → Prop} {g cap : Nat} {w w' : World} {d : Array El}
set_option maxRecDepth 100000 in
set_option maxHeartbeats 1500000 in
theorem std_swapRange (h : SA F g cap w d) (hsz : d.size ≤ 1048576) {x y n : Nat} (hxy : x + n ≤ y) (hy : y + n ≤ d.size) (c : Value) :
    Calls Try.prog 60 #[.slice (some ⟨g, 0, none⟩) d.size cap, .int .i64 x, .int .i64 y, .int .i64 n, c] w fun e w' =>
      e = .returned (.tuple #[]) ∧ ∃ d', SA F g cap w' d' ∧ Swapped x y n d d' ∧ PermIn x (y + n) d d' ∧ Chg (fun k => k = g) w w' := by
  have HS := Lib.hid h
  clear h
  go_enter Try.func60, Try.ntmps60
  go_wp2_with fail
  go_loopw [10] (fun i wr => ∃ j d1, j ≤ n ∧ i = .int .i64 (j : Nat) ∧ SA F g cap wr d1 ∧ Swapped x y j d d1 ∧ PermIn x (y + n) d d1 ∧ Chg (fun k => k = g) w wr) (fun i _ => n - (intOf i).toNat)
  case atStart => exact ⟨0, d, Nat.zero_le _, rfl, HS.out, Swapped.zero _ _ _, permIn_refl _ _ _, Chg.refl _ _⟩
  case round =>
    obtain ⟨j, d1, hj, rfl, h1, h2, h3, h4⟩ := hrel
    by_cases hlt : j < n
    · have hz : d1.size = d.size := h2.size
      have hlz : (j : Int) < (n : Int) := by omega
      obtain ⟨I, hI⟩ : ∃ I, I = x + j := ⟨_, rfl⟩
      obtain ⟨J, hJ⟩ : ∃ J, J = y + j := ⟨_, rfl⟩
      have hx : I < d1.size := by omega
      have hyj : J < d1.size := by omega
      have hne : I ≠ J := by omega
      have i1 : (x : Int) + (j : Int) < (d.size : Int) := by omega
      have i2 : (y : Int) + (j : Int) < (d.size : Int) := by omega
      have e1 : ((x : Int) + (j : Int)).toNat = I := by omega
      have e2 : ((y : Int) + (j : Int)).toNat = J := by omega
      obtain ⟨n1, n2, n3, n4, n5, n6⟩ := ne_facts hne
      obtain ⟨ax, nx, kx, ay, ny, ky, ix, iy, cx, cx1, cy, cy1, fx, fx1, fy, fy1, HS1, HC1⟩ := h1.swapAll hx hyj hne
      have HW : Hid (Swapped x y (j + 1) d (swp d1 I J) ∧ PermIn x (y + n) d (swp d1 I J)) := Lib.hid (by rw [hI, hJ]; exact ⟨h2.step hlt hxy hy, Swapped.step_perm h3 hlt hxy hy⟩)
      have H4 := Lib.hid h4
      clear h1 h2 h3 h4 hI hJ
      go_wp2_with fail
      go_big_region
      go_wp2_with fail
      go_roundw
      case rel => exact ⟨j + 1, _, by omega, by go_num, HS1.out, HW.out.1, HW.out.2, H4.out.trans HC1.out⟩
      case measure => simp [intOf]; omega
    · have hlz : ¬ (j : Int) < (n : Int) := by omega
      go_wp2_with fail
      have : j = n := by omega
      subst this
      go_end0
      exact ⟨rfl, d1, h1, h2, h3, h4⟩
theorem std_swapRange' (h : SA F g cap w d) (hsz : d.size ≤ 1048576) {x y n : Nat} {X Y N : Int} (hX : X = x) (hY : Y = y) (hN : N = n) (hxy : x + n ≤ y) (hy : y + n ≤ d.size) (c : Value) :
    Calls Try.prog 60 #[.slice (some ⟨g, 0, none⟩) d.size cap, .int .i64 X, .int .i64 Y, .int .i64 N, c] w fun e w' =>
      e = .returned (.tuple #[]) ∧ ∃ d', SA F g cap w' d' ∧ Swapped x y n d d' ∧ PermIn x (y + n) d d' ∧ Chg (fun k => k = g) w w' := by
  subst hX hY hN; exact std_swapRange h hsz hxy hy c
set_option maxRecDepth 100000 in
set_option maxHeartbeats 1500000 in
theorem std_rotate (h : SA F g cap w d) (hsz : d.size ≤ 1048576) {a m b : Nat} (ham : a < m) (hmb : m < b) (hb : b ≤ d.size) (c : Value) :
    Calls Try.prog 59 #[.slice (some ⟨g, 0, none⟩) d.size cap, .int .i64 a, .int .i64 m, .int .i64 b, c] w fun e w' =>
      e = .returned (.tuple #[]) ∧ ∃ d', SA F g cap w' d' ∧ Rot m (m - a) (b - m) d d' ∧ PermIn a b d d' ∧ Chg (fun k => k = g) w w' := by
  have HS := Lib.hid h
  clear h
  go_enter Try.func59, Try.ntmps59
  go_wp2_with fail
  go_loopw [10, 11] (fun vi vj wr => ∃ (i j : Nat) (d1 : Array El), vi = .int .i64 i ∧ vj = .int .i64 j ∧ 0 < i ∧ 0 < j ∧ i ≤ m - a ∧ j ≤ b - m ∧ SA F g cap wr d1 ∧ (∀ d2, Rot m i j d1 d2 → Rot m (m - a) (b - m) d d2) ∧ PermIn a b d d1 ∧ Chg (fun k => k = g) w wr) (fun vi vj _ => (intOf vi).toNat + (intOf vj).toNat)
  case atStart => exact ⟨m - a, b - m, d, by go_num, by go_num, by omega, by omega, Nat.le_refl _, Nat.le_refl _, HS.out, fun _ h => h, permIn_refl _ _ _, Chg.refl _ _⟩
  case round =>
    obtain ⟨i, j, d1, rfl, rfl, hi, hj, him, hjm, h1, h2, h3, h4⟩ := hrel
    have hz : d1.size = d.size := h3.1
    have H1 := Lib.hid h1
    have H2 := Lib.hid h2
    have H3 := Lib.hid h3
    have H4 := Lib.hid h4
    clear h1 h2 h3 h4
    by_cases he : i = j
    · subst he
      go_wp2_with fail
      rw [← hz]
      refine (std_swapRange' H1.out (by omega) (x := m - i) (y := m) (n := i) (by omega) rfl rfl (by omega) (by omega) c).mono ?_
      rintro e w1 ⟨rfl, d2, k1, k2, k3, k4⟩
      go_wp2_with fail
      go_end0
      exact ⟨rfl, d2, k1, H2.out _ (Rot.same k2 (by omega)), permIn_trans _ _ _ _ _ H3.out (permIn_mono _ _ _ _ _ _ (by omega) (by omega) (by omega) k3), H4.out.trans k4⟩
    · have hez : ¬ (i : Int) = (j : Int) := by omega
      by_cases hg : j < i
      · have hgz : (j : Int) < (i : Int) := by omega
        go_wp2_with fail
        rw [← hz]
        refine (std_swapRange' H1.out (by omega) (x := m - i) (y := m) (n := j) (by omega) rfl rfl (by omega) (by omega) c).mono ?_
        rintro e w1 ⟨rfl, d2, k1, k2, k3, k4⟩
        have K := Lib.hid (And.intro k1 (And.intro k2 (And.intro k3 k4)))
        clear k1 k2 k3 k4
        rw [hz]
        go_wp2_with fail
        go_roundw
        case rel =>
          obtain ⟨k1, k2, k3, k4⟩ := K.out
          exact ⟨i - j, j, d2, by go_num, rfl, by omega, hj, by omega, hjm, k1, fun d3 hd => H2.out _ (Rot.up k2 hg (by omega) hd), permIn_trans _ _ _ _ _ H3.out (permIn_mono _ _ _ _ _ _ (by omega) (by omega) (by omega) k3), H4.out.trans k4⟩
        case measure => simp [intOf]; omega
      · have hgz : ¬ (j : Int) < (i : Int) := by omega
        go_wp2_with fail
        rw [← hz]
        refine (std_swapRange' H1.out (by omega) (x := m - i) (y := m + j - i) (n := i) (by omega) (by omega) rfl (by omega) (by omega) c).mono ?_
        rintro e w1 ⟨rfl, d2, k1, k2, k3, k4⟩
        have K := Lib.hid (And.intro k1 (And.intro k2 (And.intro k3 k4)))
        clear k1 k2 k3 k4
        rw [hz]
        go_wp2_with fail
        go_roundw
        case rel =>
          obtain ⟨k1, k2, k3, k4⟩ := K.out
          exact ⟨i, j - i, d2, rfl, by go_num, hi, by omega, him, by omega, k1, fun d3 hd => H2.out _ (Rot.lo k2 (by omega) (by omega) hd), permIn_trans _ _ _ _ _ H3.out (permIn_mono _ _ _ _ _ _ (by omega) (by omega) (by omega) k3), H4.out.trans k4⟩
        case measure => simp [intOf]; omega
end Go.Proofs.Ytjeffagejbdjkaa
