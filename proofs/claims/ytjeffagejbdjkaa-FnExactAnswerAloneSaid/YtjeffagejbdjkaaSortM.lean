/- The library's stable sort at rows, step by step: the merge in place. (Printed by gen_symm.py.) -/
import Derived.Test.YtjeffagejbdjkaaSortJ
import Derived.Deep.DeepCutAuto
namespace Go.Proofs.Ytjeffagejbdjkaa
open Go.RowKit Go.Sort Go.ChangeShapes Go.WideShapes Go.Deep
variable {F : Nat → Prop} {g cap : Nat}
def MergeP (K : Nat) : Prop := ∀ (F : Nat → Prop) (g cap : Nat) (w : World) (d : Array El) (a m b : Nat), SA F g cap w d → d.size ≤ 1048576 → b - a = K → a < m → m < b → b ≤ d.size → SortedIn ltE a m d → SortedIn ltE m b d →
    Calls Try.prog 52 #[.slice (some ⟨g, 0, none⟩) d.size cap, .int .i64 a, .int .i64 m, .int .i64 b, .func (.func 24) #[] #[]] w fun e w' =>
      e = .returned (.tuple #[]) ∧ ∃ d', SA F g cap w' d' ∧ SortedIn ltE a b d' ∧ PermIn a b d d' ∧ Chg (fun k => k = g) w w'
theorem MergeP.at {K : Nat} (ih : ∀ k, k < K → MergeP k) {F : Nat → Prop} {g cap : Nat} {w : World} {d : Array El} {a m b : Nat} {A M B : Int} (hA : A = a) (hM : M = m) (hB : B = b) (h : SA F g cap w d) (hsz : d.size ≤ 1048576) (hK : b - a < K) (ham : a < m) (hmb : m < b) (hb : b ≤ d.size) (s1 : SortedIn ltE a m d) (s2 : SortedIn ltE m b d) :
    Calls Try.prog 52 #[.slice (some ⟨g, 0, none⟩) d.size cap, .int .i64 A, .int .i64 M, .int .i64 B, .func (.func 24) #[] #[]] w fun e w' =>
      e = .returned (.tuple #[]) ∧ ∃ d', SA F g cap w' d' ∧ SortedIn ltE a b d' ∧ PermIn a b d d' ∧ Chg (fun k => k = g) w w' := by
  subst hA hM hB; exact ih _ hK F g cap w d a m b h hsz rfl ham hmb hb s1 s2
theorem std_rotate' {w : World} {d : Array El} (h : SA F g cap w d) (hsz : d.size ≤ 1048576) {a m b : Nat} {A M B : Int} (hA : A = a) (hM : M = m) (hB : B = b) (ham : a < m) (hmb : m < b) (hb : b ≤ d.size) (c : Value) :
    Calls Try.prog 59 #[.slice (some ⟨g, 0, none⟩) d.size cap, .int .i64 A, .int .i64 M, .int .i64 B, c] w fun e w' =>
      e = .returned (.tuple #[]) ∧ ∃ d', SA F g cap w' d' ∧ Rot m (m - a) (b - m) d d' ∧ PermIn a b d d' ∧ Chg (fun k => k = g) w w' := by
  subst hA hM hB; exact std_rotate h hsz ham hmb hb c
def bothB (x y z : Nat) : Bool := decide (x < y ∧ y < z)
theorem bothB_yes {x y z : Nat} (h : bothB x y z = true) : x < y ∧ y < z := of_decide_eq_true h
theorem bothB_no {x y z : Nat} (h : bothB x y z = false) : ¬ (x < y ∧ y < z) := of_decide_eq_false h
def Half1 (F : Nat → Prop) (g cap a i mid E b : Nat) (w : World) (d : Array El) (w1 : World) (d1 : Array El) : Prop := SA F g cap w1 d1 ∧ d1.size = d.size ∧ SortedIn ltE a i d1 ∧ SortedIn ltE i mid d1 ∧ SortedIn ltE mid E d1 ∧ SortedIn ltE E b d1 ∧ (∀ p q, a ≤ p → p < mid → mid ≤ q → q < b → ltE d1[q]! d1[p]! = false) ∧ PermIn a b d d1 ∧ Chg (fun k => k = g) w w1
def Half2 (F : Nat → Prop) (g cap a mid E b : Nat) (w : World) (d : Array El) (w2 : World) (d2 : Array El) : Prop := SA F g cap w2 d2 ∧ d2.size = d.size ∧ SortedIn ltE a mid d2 ∧ SortedIn ltE mid E d2 ∧ SortedIn ltE E b d2 ∧ (∀ p q, a ≤ p → p < mid → mid ≤ q → q < b → ltE d2[q]! d2[p]! = false) ∧ PermIn a b d d2 ∧ Chg (fun k => k = g) w w2
set_option maxRecDepth 100000 in
set_option maxHeartbeats 4000000 in
theorem merge_left (K : Nat) (ih : ∀ k, k < K → MergeP k) (F : Nat → Prop) (g cap : Nat) (w : World) (d : Array El) (a m b : Nat) (h : SA F g cap w d) (hsz : d.size ≤ 1048576) (_ : b - a = K) (_ : a < m) (hmb : m < b) (hb : b ≤ d.size) (s1 : SortedIn ltE a m d) (s2 : SortedIn ltE m b d) (hA : m = a + 1) :
    Calls Try.prog 52 #[.slice (some ⟨g, 0, none⟩) d.size cap, .int .i64 a, .int .i64 m, .int .i64 b, .func (.func 24) #[] #[]] w fun e w' =>
      e = .returned (.tuple #[]) ∧ ∃ d', SA F g cap w' d' ∧ SortedIn ltE a b d' ∧ PermIn a b d d' ∧ Chg (fun k => k = g) w w' := by
  have HS := Lib.hid h
  have IH := Lib.hid ih
  have S1 := Lib.hid s1
  have S2 := Lib.hid s2
  clear h ih s1 s2
  have HA := Lib.hid hA
  have hAz : (m : Int) - (a : Int) = 1 := by omega
  clear hA
  go_enter Try.func52, Try.ntmps52
  go_wp2_with fail
  go_loopw [10, 11] (fun vi vj wr => ∃ (i j : Nat), vi = .int .i64 i ∧ vj = .int .i64 j ∧ m ≤ i ∧ i ≤ j ∧ j ≤ b ∧ Hid (∀ k, a + 1 ≤ k → k < i → ltE d[k]! d[a]! = true) ∧ Hid (∀ k, j ≤ k → k < b → ltE d[k]! d[a]! = false) ∧ Hid (SA F g cap wr d) ∧ Hid (Chg (fun k => k = g) w wr)) (fun vi vj _ => (intOf vj).toNat - (intOf vi).toNat)
  case atStart => exact ⟨m, b, rfl, rfl, Nat.le_refl _, by omega, Nat.le_refl _, Lib.hid (fun k h1 h2 => by have := HA.out; omega), Lib.hid (fun k h1 h2 => by omega), HS, Lib.hid (Chg.refl _ _)⟩
  case round =>
    obtain ⟨i, j, rfl, rfl, hmi, hij, hjb, L1, L2, H1, H2⟩ := hrel
    by_cases hlt : i < j
    · have hlz : (i : Int) < (j : Int) := by omega
      obtain ⟨H, hH⟩ : ∃ H, H = (i + j) / 2 := ⟨_, rfl⟩
      have hHi : i ≤ H := by omega
      have hHj : H < j := by omega
      have e1 : (((i : Int) + (j : Int)) / 2).toNat = H := by omega
      have i1 : ((i : Int) + (j : Int)) / 2 < (d.size : Int) := by omega
      have i0 : (0 : Int) ≤ ((i : Int) + (j : Int)) / 2 := by omega
      have i2 : (a : Int) < (d.size : Int) := by omega
      have HH := Lib.hid hH
      clear hH
      obtain ⟨ax, nx, kx, ay, ny, ky, ix, iy, c, cx, cx1, cy, cy1, HC, hcmp⟩ := H1.out.cmpAll (I := H) (J := a) (by omega) (by omega)
      by_cases hc : c < 0
      · have hcd : decide (c < 0) = true := decide_eq_true hc
        go_wp2_with fail
        have q0 := fun q : Ext wr => Ext.cell cx q
        have q1 := fun q : Ext wr => Ext.cell cx1 q
        have q2 := fun q : Ext wr => Ext.cell cy q
        have q3 := fun q : Ext wr => Ext.cell cy1 q
        refine wp_region_ext (by kernel_rfl) (by kernel_rfl) ?_
        repeat (go_big_quiet_step ((go_at_call 24; exact quiet_ext (hcmp _))))
        refine wpQuiet_nil ?_
        intro w1 hw1
        have HG := Lib.hid (Ext.out hw1)
        clear hw1 q0 q1 q2 q3 cx cx1 cy cy1 hcmp
        go_wp2_with fail
        go_roundw
        case rel => exact ⟨H + 1, j, by have := HH.out; go_num, rfl, by omega, by omega, hjb, Lib.hid (fun k h1 h2 => less_below swo_E (by rw [← HA.out]; exact S2.out) (by omega) (ltE_yes HC.out hc) k h1 (by omega)), L2, Lib.hid (H1.out.gr HG.out), Lib.hid (H2.out.trans (chg_gr HG.out))⟩
        case measure => have := HH.out; simp [intOf]; omega
      · have hcd : decide (c < 0) = false := decide_eq_false hc
        go_wp2_with fail
        have q0 := fun q : Ext wr => Ext.cell cx q
        have q1 := fun q : Ext wr => Ext.cell cx1 q
        have q2 := fun q : Ext wr => Ext.cell cy q
        have q3 := fun q : Ext wr => Ext.cell cy1 q
        refine wp_region_ext (by kernel_rfl) (by kernel_rfl) ?_
        repeat (go_big_quiet_step ((go_at_call 24; exact quiet_ext (hcmp _))))
        refine wpQuiet_nil ?_
        intro w1 hw1
        have HG := Lib.hid (Ext.out hw1)
        clear hw1 q0 q1 q2 q3 cx cx1 cy cy1 hcmp
        go_wp2_with fail
        go_roundw
        case rel => exact ⟨i, H, rfl, by have := HH.out; go_num, hmi, hHi, by omega, L1, Lib.hid (fun k h1 h2 => less_above swo_E S2.out (by omega) (ltE_no HC.out (by omega)) k h1 h2), Lib.hid (H1.out.gr HG.out), Lib.hid (H2.out.trans (chg_gr HG.out))⟩
        case measure => have := HH.out; simp [intOf]; omega
    · have hlz : ¬ (i : Int) < (j : Int) := by omega
      obtain rfl : i = j := by omega
      obtain ⟨W1, hW1⟩ : ∃ W1, W1 = wr := ⟨_, rfl⟩
      rw [← hW1]; rw [← hW1] at H1 H2; clear hW1
      go_wp2_with fail
      go_loopw [13] (fun vk wr => ∃ (k : Nat) (d1 : Array El), vk = .int .i64 k ∧ a ≤ k ∧ k ≤ i - 1 ∧ d1.size = d.size ∧ Hid (SA F g cap wr d1) ∧ Hid (MovedUp a k d d1) ∧ Hid (PermIn a b d d1) ∧ Hid (Chg (fun k => k = g) w wr)) (fun vk _ => i - (intOf vk).toNat)
      case atStart => exact ⟨a, d, rfl, Nat.le_refl _, by omega, rfl, H1, Lib.hid (MovedUp.zero _ _), Lib.hid (permIn_refl _ _ _), H2⟩
      case round =>
        obtain ⟨k, d1, rfl, hak, hki, hz, T1, T2, T3, T4⟩ := hrel
        by_cases hlk : k < i - 1
        · have hlkz : (k : Int) < (i : Int) - 1 := by omega
          have hx : k < d1.size := by omega
          have hy : k + 1 < d1.size := by omega
          have hne : k ≠ k + 1 := by omega
          have i1 : (k : Int) < (d.size : Int) := by omega
          have i2 : (k : Int) + 1 < (d.size : Int) := by omega
          have e2 : ((k : Int) + 1).toNat = k + 1 := by omega
          obtain ⟨n1, n2, n3, n4, n5, n6⟩ := ne_facts hne
          obtain ⟨ax, nx, kx, ay, ny, ky, ix, iy, cx, cx1, cy, cy1, fx, fx1, fy, fy1, HS1, HC1⟩ := T1.out.swapAll hx hy hne
          go_wp2_with fail
          go_big_region
          go_wp2_with fail
          go_roundw
          case rel => exact ⟨k + 1, swp d1 k (k + 1), by go_num, by omega, by omega, by rw [swp_size]; exact hz, HS1, Lib.hid (T2.out.step hak (by omega)), Lib.hid (PermIn.step T3.out (by omega) (by omega) hb), Lib.hid (T4.out.trans HC1.out)⟩
          case measure => simp [intOf]; omega
        · have hlkz : ¬ (k : Int) < (i : Int) - 1 := by omega
          obtain rfl : k = i - 1 := by omega
          go_wp2_with fail
          (try simp only [Exit.inBlock, Exit.then])
          refine bodyPost_ret (results_none rfl _ _ _) rfl ?_
          exact ⟨rfl, d1, T1.out, sorted_up swo_E (by rw [← HA.out]; exact S2.out) (by have := HA.out; omega) hjb L1.out L2.out T2.out, T3.out, T4.out⟩
set_option maxRecDepth 100000 in
set_option maxHeartbeats 4000000 in
theorem merge_right (K : Nat) (ih : ∀ k, k < K → MergeP k) (F : Nat → Prop) (g cap : Nat) (w : World) (d : Array El) (a m b : Nat) (h : SA F g cap w d) (hsz : d.size ≤ 1048576) (_ : b - a = K) (ham : a < m) (_ : m < b) (hb : b ≤ d.size) (s1 : SortedIn ltE a m d) (s2 : SortedIn ltE m b d) (hA : m ≠ a + 1) (hB : b = m + 1) :
    Calls Try.prog 52 #[.slice (some ⟨g, 0, none⟩) d.size cap, .int .i64 a, .int .i64 m, .int .i64 b, .func (.func 24) #[] #[]] w fun e w' =>
      e = .returned (.tuple #[]) ∧ ∃ d', SA F g cap w' d' ∧ SortedIn ltE a b d' ∧ PermIn a b d d' ∧ Chg (fun k => k = g) w w' := by
  have HS := Lib.hid h
  have IH := Lib.hid ih
  have S1 := Lib.hid s1
  have S2 := Lib.hid s2
  clear h ih s1 s2
  have HB := Lib.hid hB
  have hAz : ((m : Int) - (a : Int) == 1) = false := by simp; omega
  have hBz : (b : Int) - (m : Int) = 1 := by omega
  clear hA hB
  go_enter Try.func52, Try.ntmps52
  go_wp2_with fail
  go_loopw [14, 15] (fun vi vj wr => ∃ (i j : Nat), vi = .int .i64 i ∧ vj = .int .i64 j ∧ a ≤ i ∧ i ≤ j ∧ j ≤ m ∧ Hid (∀ k, a ≤ k → k < i → ltE d[m]! d[k]! = false) ∧ Hid (∀ k, j ≤ k → k < m → ltE d[m]! d[k]! = true) ∧ Hid (SA F g cap wr d) ∧ Hid (Chg (fun k => k = g) w wr)) (fun vi vj _ => (intOf vj).toNat - (intOf vi).toNat)
  case atStart => exact ⟨a, m, rfl, rfl, Nat.le_refl _, by omega, Nat.le_refl _, Lib.hid (fun k h1 h2 => by omega), Lib.hid (fun k h1 h2 => by omega), HS, Lib.hid (Chg.refl _ _)⟩
  case round =>
    obtain ⟨i, j, rfl, rfl, hmi, hij, hjb, L1, L2, H1, H2⟩ := hrel
    by_cases hlt : i < j
    · have hlz : (i : Int) < (j : Int) := by omega
      obtain ⟨H, hH⟩ : ∃ H, H = (i + j) / 2 := ⟨_, rfl⟩
      have hHi : i ≤ H := by omega
      have hHj : H < j := by omega
      have e1 : (((i : Int) + (j : Int)) / 2).toNat = H := by omega
      have i1 : ((i : Int) + (j : Int)) / 2 < (d.size : Int) := by omega
      have i0 : (0 : Int) ≤ ((i : Int) + (j : Int)) / 2 := by omega
      have i2 : (m : Int) < (d.size : Int) := by omega
      have HH := Lib.hid hH
      clear hH
      obtain ⟨ax, nx, kx, ay, ny, ky, ix, iy, c, cx, cx1, cy, cy1, HC, hcmp⟩ := H1.out.cmpAll (I := m) (J := H) (by omega) (by omega)
      by_cases hc : c < 0
      · have hcd : decide (c < 0) = true := decide_eq_true hc
        go_wp2_with fail
        have q0 := fun q : Ext wr => Ext.cell cx q
        have q1 := fun q : Ext wr => Ext.cell cx1 q
        have q2 := fun q : Ext wr => Ext.cell cy q
        have q3 := fun q : Ext wr => Ext.cell cy1 q
        refine wp_region_ext (by kernel_rfl) (by kernel_rfl) ?_
        repeat (go_big_quiet_step ((go_at_call 24; exact quiet_ext (hcmp _))))
        refine wpQuiet_nil ?_
        intro w1 hw1
        have HG := Lib.hid (Ext.out hw1)
        clear hw1 q0 q1 q2 q3 cx cx1 cy cy1 hcmp
        go_wp2_with fail
        go_roundw
        case rel => exact ⟨i, H, rfl, by have := HH.out; go_num, hmi, hHi, by omega, L1, Lib.hid (fun k h1 h2 => more_above swo_E S1.out (by omega) (ltE_yes HC.out hc) k h1 h2), Lib.hid (H1.out.gr HG.out), Lib.hid (H2.out.trans (chg_gr HG.out))⟩
        case measure => have := HH.out; simp [intOf]; omega
      · have hcd : decide (c < 0) = false := decide_eq_false hc
        go_wp2_with fail
        have q0 := fun q : Ext wr => Ext.cell cx q
        have q1 := fun q : Ext wr => Ext.cell cx1 q
        have q2 := fun q : Ext wr => Ext.cell cy q
        have q3 := fun q : Ext wr => Ext.cell cy1 q
        refine wp_region_ext (by kernel_rfl) (by kernel_rfl) ?_
        repeat (go_big_quiet_step ((go_at_call 24; exact quiet_ext (hcmp _))))
        refine wpQuiet_nil ?_
        intro w1 hw1
        have HG := Lib.hid (Ext.out hw1)
        clear hw1 q0 q1 q2 q3 cx cx1 cy cy1 hcmp
        go_wp2_with fail
        go_roundw
        case rel => exact ⟨H + 1, j, by have := HH.out; go_num, rfl, by omega, by omega, hjb, Lib.hid (fun k h1 h2 => more_below swo_E S1.out (by omega) (ltE_no HC.out (by omega)) k h1 (by omega)), L2, Lib.hid (H1.out.gr HG.out), Lib.hid (H2.out.trans (chg_gr HG.out))⟩
        case measure => have := HH.out; simp [intOf]; omega
    · have hlz : ¬ (i : Int) < (j : Int) := by omega
      obtain rfl : i = j := by omega
      obtain ⟨W1, hW1⟩ : ∃ W1, W1 = wr := ⟨_, rfl⟩
      rw [← hW1]; rw [← hW1] at H1 H2; clear hW1
      go_wp2_with fail
      go_loopw [17] (fun vk wr => ∃ (k : Nat) (d1 : Array El), vk = .int .i64 k ∧ i ≤ k ∧ k ≤ m ∧ d1.size = d.size ∧ Hid (SA F g cap wr d1) ∧ Hid (MovedDown m k d d1) ∧ Hid (PermIn a b d d1) ∧ Hid (Chg (fun k => k = g) w wr)) (fun vk _ => (intOf vk).toNat)
      case atStart => exact ⟨m, d, rfl, hjb, Nat.le_refl _, rfl, H1, Lib.hid (MovedDown.zero _ _), Lib.hid (permIn_refl _ _ _), H2⟩
      case round =>
        obtain ⟨k, d1, rfl, hak, hki, hz, T1, T2, T3, T4⟩ := hrel
        by_cases hlk : i < k
        · have hlkz : (i : Int) < (k : Int) := by omega
          obtain ⟨J, hJ⟩ : ∃ J, J = k - 1 := ⟨_, rfl⟩
          have hx : k < d1.size := by omega
          have hy : J < d1.size := by omega
          have hne : k ≠ J := by omega
          have i1 : (k : Int) < (d.size : Int) := by omega
          have i2 : (k : Int) - 1 < (d.size : Int) := by omega
          have i3 : (0 : Int) ≤ (k : Int) - 1 := by omega
          have e2 : ((k : Int) - 1).toNat = J := by omega
          have HJ := Lib.hid hJ
          have HT : Hid (MovedDown m J d (swp d1 k J)) := Lib.hid (by
            obtain rfl : k = J + 1 := by omega
            exact T2.out.step (by omega) (by omega))
          clear hJ
          obtain ⟨n1, n2, n3, n4, n5, n6⟩ := ne_facts hne
          obtain ⟨ax, nx, kx, ay, ny, ky, ix, iy, cx, cx1, cy, cy1, fx, fx1, fy, fy1, HS1, HC1⟩ := T1.out.swapAll hx hy hne
          go_wp2_with fail
          go_big_region
          go_wp2_with fail
          go_roundw
          case rel => exact ⟨J, swp d1 k J, by have := HJ.out; go_num, by have := HJ.out; omega, by have := HJ.out; omega, by rw [swp_size]; exact hz, HS1, HT, Lib.hid (PermIn.step T3.out (by omega) (by have := HJ.out; omega) hb), Lib.hid (T4.out.trans HC1.out)⟩
          case measure => have := HJ.out; simp [intOf]; omega
        · have hlkz : ¬ (i : Int) < (k : Int) := by omega
          obtain rfl : k = i := by omega
          go_wp2_with fail
          (try simp only [Exit.inBlock, Exit.then])
          refine bodyPost_ret (results_none rfl _ _ _) rfl ?_
          have e3 := HB.out
          exact ⟨rfl, d1, T1.out, by rw [e3]; exact sorted_down swo_E S1.out hmi hki L1.out L2.out T2.out, T3.out, T4.out⟩
end Go.Proofs.Ytjeffagejbdjkaa
