/- The library's stable sort at rows, step by step: blocks of twenty, merged two by two. -/
import Derived.Test.YtjeffagejbdjkaaSortMZ
namespace Go.Proofs.Ytjeffagejbdjkaa
open Go.RowKit Go.Sort Go.ChangeShapes Go.WideShapes Go.Deep
variable {F : Nat → Prop} {g cap : Nat} {w w' : World} {d : Array El}
theorem Blocked.stepA {s q y A : Nat} {d d' : Array El} (hA : A = q * s) (h : Blocked ltE s q d) (hp : PermIn A y d d') (hs : SortedIn ltE A (A + s) d') : Blocked ltE s (q + 1) d' := by subst hA; exact h.step hp hs
theorem Blocked.allA {s q n A : Nat} {d d' : Array El} (hA : A = q * s) (h : Blocked ltE s q d) (hn : A ≤ n) (hn' : n ≤ A + s) (hp : PermIn A n d d') (hs : SortedIn ltE A n d') : Blocks ltE s n d' := by subst hA; exact h.all hn hn' hp hs
theorem Merged.leftA {s q n A : Nat} {d : Array El} (hA : A = q * (2 * s)) (h : Merged ltE s q n d) (hn : A + s ≤ n) : SortedIn ltE A (A + s) d := by subst hA; exact h.left hn
theorem Merged.rightA {s q n A : Nat} {d : Array El} (hA : A = q * (2 * s)) (h : Merged ltE s q n d) (hn : A + 2 * s ≤ n) : SortedIn ltE (A + s) (A + 2 * s) d := by subst hA; exact h.right hn
theorem Merged.lastA {s q n A : Nat} {d : Array El} (hA : A = q * (2 * s)) (h : Merged ltE s q n d) (hn : n ≤ A + 2 * s) : SortedIn ltE (A + s) n d := by subst hA; exact h.last hn
theorem Merged.loneA {s q n A : Nat} {d : Array El} (hA : A = q * (2 * s)) (h : Merged ltE s q n d) (hn : n ≤ A + s) : SortedIn ltE A n d := by subst hA; exact h.lone hn
theorem Merged.stepA {s q n A : Nat} {d d' : Array El} (hA : A = q * (2 * s)) (h : Merged ltE s q n d) (hp : PermIn A (A + 2 * s) d d') (hs : SortedIn ltE A (A + 2 * s) d') : Merged ltE s (q + 1) n d' := by subst hA; exact h.step hp hs
theorem Merged.doneA {s q n A : Nat} {d d' : Array El} (hA : A = q * (2 * s)) (h : Merged ltE s q n d) (hn : A ≤ n) (hn' : n ≤ A + 2 * s) (hp : PermIn A n d d') (hs : SortedIn ltE A n d') : Blocks ltE (2 * s) n d' := by subst hA; exact h.done hn hn' hp hs
theorem next_A {s q A : Nat} (hA : A = q * (2 * s)) : A + 2 * s = (q + 1) * (2 * s) := by rw [hA, Nat.add_mul, Nat.one_mul]
theorem std_insertion' (h : SA F g cap w d) (hsz : d.size ≤ 1048576) {a b : Nat} {A B : Int} (hA : A = a) (hB : B = b) (hab : a ≤ b) (hb : b ≤ d.size) :
    Calls Try.prog 51 #[.slice (some ⟨g, 0, none⟩) d.size cap, .int .i64 A, .int .i64 B, .func (.func 24) #[] #[]] w fun e w' =>
      e = .returned (.tuple #[]) ∧ ∃ d', SA F g cap w' d' ∧ SortedIn ltE a b d' ∧ PermIn a b d d' ∧ Chg (fun k => k = g) w w' := by
  subst hA hB; exact std_insertion h hsz hab hb
theorem std_merge {a m b : Nat} {A M B : Int} (hA : A = a) (hM : M = m) (hB : B = b) (h : SA F g cap w d) (hsz : d.size ≤ 1048576) (ham : a < m) (hmb : m < b) (hb : b ≤ d.size) (s1 : SortedIn ltE a m d) (s2 : SortedIn ltE m b d) :
    Calls Try.prog 52 #[.slice (some ⟨g, 0, none⟩) d.size cap, .int .i64 A, .int .i64 M, .int .i64 B, .func (.func 24) #[] #[]] w fun e w' =>
      e = .returned (.tuple #[]) ∧ ∃ d', SA F g cap w' d' ∧ SortedIn ltE a b d' ∧ PermIn a b d d' ∧ Chg (fun k => k = g) w w' :=
  MergeP.at (K := b - a + 1) (fun k _ => std_mergeP k) hA hM hB h hsz (by omega) ham hmb hb s1 s2
set_option maxRecDepth 100000 in
set_option maxHeartbeats 4000000 in
theorem std_stable (h : SA F g cap w d) (hsz : d.size ≤ 1048576) :
    Calls Try.prog 40 #[.slice (some ⟨g, 0, none⟩) d.size cap, .int .i64 d.size, .func (.func 24) #[] #[]] w fun e w' =>
      e = .returned (.tuple #[]) ∧ ∃ d', SA F g cap w' d' ∧ SortedIn ltE 0 d.size d' ∧ PermIn 0 d.size d d' ∧ Chg (fun k => k = g) w w' := by
  have HS := Lib.hid h
  clear h
  go_enter Try.func40, Try.ntmps40
  go_wp2_with fail
  go_loopw [7, 8] (fun va vb wr => ∃ (q A : Nat) (d1 : Array El), Hid (A = q * 20) ∧ va = .int .i64 (A : Int) ∧ vb = .int .i64 ((A : Int) + 20) ∧ A ≤ d.size ∧ d1.size = d.size ∧ Hid (SA F g cap wr d1) ∧ Hid (Blocked ltE 20 q d1) ∧ Hid (PermIn 0 d.size d d1) ∧ Hid (Chg (fun k => k = g) w wr)) (fun va _ _ => d.size - (intOf va).toNat)
  case atStart => exact ⟨0, 0, d, Lib.hid rfl, rfl, rfl, Nat.zero_le _, rfl, HS, Lib.hid (Blocked.zero _ _), Lib.hid (permIn_refl _ _ _), Lib.hid (Chg.refl _ _)⟩
  case round =>
    obtain ⟨q, A, d1, HA, rfl, rfl, hAn, hz, H1, H2, H3, H4⟩ := hrel
    by_cases hlt : A + 20 ≤ d.size
    · have hlz : (A : Int) + 20 ≤ (d.size : Int) := by omega
      go_wp2_with fail
      rw [← hz]
      refine (std_insertion' (a := A) (b := A + 20) H1.out (by omega) rfl (by omega) (by omega) (by omega)).mono ?_
      rintro e w1 ⟨rfl, d2, k1, k2, k3, k4⟩
      have hz2 : d2.size = d.size := k3.1.trans hz
      have K1 := Lib.hid k1
      have K2 := Lib.hid (H2.out.stepA HA.out k3 k2)
      have K3 := Lib.hid (permIn_trans _ _ _ _ _ H3.out (permIn_mono _ _ _ _ _ _ (Nat.zero_le _) (by omega) (by omega) k3))
      have K4 := Lib.hid (H4.out.trans k4)
      clear k1 k2 k3 k4 H1 H2 H3 H4
      rw [hz]
      go_wp2_with fail
      go_roundw
      case rel => exact ⟨q + 1, A + 20, d2, Lib.hid (by have := HA.out; omega), by go_num, by go_num, hlt, hz2, K1, K2, K3, K4⟩
      case measure => simp [intOf]; omega
    · have hlz : ¬ (A : Int) + 20 ≤ (d.size : Int) := by omega
      obtain ⟨W1, hW1⟩ : ∃ W1, W1 = wr := ⟨_, rfl⟩
      rw [← hW1]; rw [← hW1] at H1 H4; clear hW1
      go_wp2_with fail
      rw [← hz]
      refine (std_insertion' (a := A) (b := d1.size) H1.out (by omega) rfl rfl (by omega) (by omega)).mono ?_
      rintro e w1 ⟨rfl, d2, k1, k2, k3, k4⟩
      rw [hz] at k2 k3
      have hz2 : d2.size = d.size := k3.1.trans hz
      have K1 := Lib.hid k1
      have K2 := Lib.hid (H2.out.allA HA.out hAn (by omega) k3 k2)
      have K3 := Lib.hid (permIn_trans _ _ _ _ _ H3.out (permIn_mono _ _ _ _ _ _ (Nat.zero_le _) (by omega) (by omega) k3))
      have K4 := Lib.hid (H4.out.trans k4)
      clear k1 k2 k3 k4 H1 H2 H3 H4
      rw [hz]
      go_wp2_with fail
      go_loopw [6, 7, 8] (fun vs va vb wr => ∃ (s : Nat) (x y : Int) (d3 : Array El), vs = .int .i64 (s : Int) ∧ va = .int .i64 x ∧ vb = .int .i64 y ∧ 0 < s ∧ s ≤ 2097152 ∧ d3.size = d.size ∧ Hid (SA F g cap wr d3) ∧ Hid (Blocks ltE s d.size d3) ∧ Hid (PermIn 0 d.size d d3) ∧ Hid (Chg (fun k => k = g) w wr)) (fun vs _ _ _ => d.size - (intOf vs).toNat)
      case atStart => exact ⟨20, _, _, d2, rfl, rfl, rfl, by omega, by omega, hz2, K1, K2, K3, K4⟩
      case round =>
        obtain ⟨s, x, y, d3, rfl, rfl, rfl, hs0, hs1, hz3, T1, T2, T3, T4⟩ := hrel
        clear K1 K2 K3 K4 HA hAn hlt hlz hz hz2
        by_cases hls : s < d.size
        · have hlsz : (s : Int) < (d.size : Int) := by omega
          obtain ⟨W2, hW2⟩ : ∃ W2, W2 = wr := ⟨_, rfl⟩
          rw [← hW2]; rw [← hW2] at T1 T4; clear hW2
          go_wp2_with fail
          go_loopw [7, 8] (fun va vb wr => ∃ (q A : Nat) (d4 : Array El), Hid (A = q * (2 * s)) ∧ va = .int .i64 (A : Int) ∧ vb = .int .i64 ((A : Int) + 2 * (s : Int)) ∧ A ≤ d.size ∧ d4.size = d.size ∧ Hid (SA F g cap wr d4) ∧ Hid (Merged ltE s q d.size d4) ∧ Hid (PermIn 0 d.size d d4) ∧ Hid (Chg (fun k => k = g) w wr)) (fun va _ _ => d.size - (intOf va).toNat)
          case atStart => exact ⟨0, 0, d3, Lib.hid (by omega), rfl, by go_num, Nat.zero_le _, hz3, T1, Lib.hid (Merged.start T2.out), T3, T4⟩
          case round =>
            obtain ⟨q, A, d4, HA, rfl, rfl, hAn, hz4, U1, U2, U3, U4⟩ := hrel
            clear T1 T2 T3 T4
            by_cases hlt : A + 2 * s ≤ d.size
            · have hlz : (A : Int) + 2 * (s : Int) ≤ (d.size : Int) := by omega
              go_wp2_with fail
              rw [← hz4]
              refine (std_merge (a := A) (m := A + s) (b := A + 2 * s) rfl (by omega) (by omega) U1.out (by omega) (by omega) (by omega) (by omega) (U2.out.leftA HA.out (by omega)) (U2.out.rightA HA.out hlt)).mono ?_
              rintro e w1 ⟨rfl, d5, k1, k2, k3, k4⟩
              have hz5 : d5.size = d.size := k3.1.trans hz4
              have K1 := Lib.hid k1
              have K2 := Lib.hid (U2.out.stepA HA.out k3 k2)
              have K3 := Lib.hid (permIn_trans _ _ _ _ _ U3.out (permIn_mono _ _ _ _ _ _ (Nat.zero_le _) (by omega) (by omega) k3))
              have K4 := Lib.hid (U4.out.trans k4)
              clear k1 k2 k3 k4 U1 U2 U3 U4
              rw [hz4]
              go_wp2_with fail
              go_roundw
              case rel => exact ⟨q + 1, A + 2 * s, d5, Lib.hid (next_A HA.out), by go_num, by go_num, hlt, hz5, K1, K2, K3, K4⟩
              case measure => simp [intOf]; omega
            · have hlz : ¬ (A : Int) + 2 * (s : Int) ≤ (d.size : Int) := by omega
              by_cases hm : A + s < d.size
              · have hmz : (A : Int) + (s : Int) < (d.size : Int) := by omega
                go_wp2_with fail
                rw [← hz4]
                refine (std_merge (a := A) (m := A + s) (b := d4.size) rfl (by omega) rfl U1.out (by omega) (by omega) (by omega) (by omega) (U2.out.leftA HA.out (by omega)) (by rw [hz4]; exact U2.out.lastA HA.out (by omega))).mono ?_
                rintro e w1 ⟨rfl, d5, k1, k2, k3, k4⟩
                rw [hz4] at k2 k3
                have hz5 : d5.size = d.size := k3.1.trans hz4
                have K1 := Lib.hid k1
                have K2 := Lib.hid (U2.out.doneA HA.out hAn (by omega) k3 k2)
                have K3 := Lib.hid (permIn_trans _ _ _ _ _ U3.out (permIn_mono _ _ _ _ _ _ (Nat.zero_le _) (by omega) (by omega) k3))
                have K4 := Lib.hid (U4.out.trans k4)
                clear k1 k2 k3 k4 U1 U2 U3 U4
                rw [hz4]
                go_wp2_with fail
                go_roundw
                case rel => exact ⟨2 * s, _, _, d5, by go_num, rfl, rfl, by omega, by omega, hz5, K1, K2, K3, K4⟩
                case measure => simp [intOf]; omega
              · have hmz : ¬ (A : Int) + (s : Int) < (d.size : Int) := by omega
                have K2 := Lib.hid (U2.out.doneA HA.out hAn (by omega) (permIn_refl _ _ _) (U2.out.loneA HA.out (by omega)))
                go_wp2_with fail
                go_roundw
                case rel => exact ⟨2 * s, _, _, d4, by go_num, rfl, rfl, by omega, by omega, hz4, U1, K2, U3, U4⟩
                case measure => simp [intOf]; omega
        · have hlsz : ¬ (s : Int) < (d.size : Int) := by omega
          go_wp2_with fail
          go_end0
          exact ⟨rfl, d3, T1.out, T2.out.sorted (by omega), T3.out, T4.out⟩
end Go.Proofs.Ytjeffagejbdjkaa
