/- The library's stable sort at rows, step by step: the insertion sort. -/
import Derived.Test.YtjeffagejbdjkaaSortI
import Derived.Test.YtjeffagejbdjkaaSortC
namespace Go.Proofs.Ytjeffagejbdjkaa
open Go.RowKit Go.Sort Go.ChangeShapes Go.WideShapes Go.Deep
variable {F : Nat → Prop} {g cap : Nat} {w w' : World} {d : Array El}
def ltE (x y : El) : Bool := ltRow x.r y.r
theorem swo_E : SWO ltE := ⟨fun x => swo_row.irrefl x.r, fun x y z => swo_row.trans x.r y.r z.r, fun x y z => swo_row.ntrans x.r y.r z.r⟩
theorem ltE_yes {x y : El} {c : Int} (h : cmpRow x.r y.r = c) (hc : c < 0) : ltE x y = true := by unfold ltE; rw [← cmpRow_lt, h]; exact decide_eq_true hc
theorem ltE_no {x y : El} {c : Int} (h : cmpRow x.r y.r = c) (hc : ¬ c < 0) : ltE x y = false := by unfold ltE; rw [← cmpRow_lt, h]; exact decide_eq_false hc
/-- Two elements of the row, compared. -/
theorem SA.cmpAll (h : SA F g cap w d) {I J : Nat} (hx : I < d.size) (hy : J < d.size) : ∃ ax nx kx ay ny ky ix iy c,
    w.cell? ⟨g, I * 2, none⟩ = some (.int .i64 ix) ∧ w.cell? ⟨g, I * 2 + 1, none⟩ = some (.slice ax nx kx) ∧ w.cell? ⟨g, J * 2, none⟩ = some (.int .i64 iy) ∧ w.cell? ⟨g, J * 2 + 1, none⟩ = some (.slice ay ny ky) ∧
    Hid (cmpRow d[I]!.r d[J]!.r = c) ∧ ∀ q : Ext w, Calls Try.prog 24 #[.agg #[.int .i64 ix, .slice ax nx kx], .agg #[.int .i64 iy, .slice ay ny ky]] q.val fun e w' => e = .returned (.int .i64 c) ∧ Gr q.val w' := by
  obtain ⟨cx, cx1⟩ := h.cell hx
  obtain ⟨cy, cy1⟩ := h.cell hy
  have rx := h.reads hx
  have ry := h.reads hy
  obtain ⟨ax, nx, kx, hux⟩ := (h.el _ hx).2.1.isSl
  obtain ⟨ay, ny, ky, huy⟩ := (h.el _ hy).2.1.isSl
  rw [hux] at cx1 rx
  rw [huy] at cy1 ry
  exact ⟨ax, nx, kx, ay, ny, ky, _, _, _, cx, cx1, cy, cy1, Lib.hid rfl, fun q => cmp_rows (RInts.mono q.gr rx) (RInts.mono q.gr ry)⟩
theorem PermIn.step {a b : Nat} {d1 : Array El} (hp : PermIn a b d d1) {i j : Nat} (hi : a ≤ i ∧ i < b) (hj : a ≤ j ∧ j < b) (hb : b ≤ d.size) : PermIn a b d (swp d1 i j) := permIn_one a hp hi hj hb
set_option maxRecDepth 100000 in
set_option maxHeartbeats 2000000 in
theorem std_insertion (h : SA F g cap w d) (hsz : d.size ≤ 1048576) {a b : Nat} (hab : a ≤ b) (hb : b ≤ d.size) :
    Calls Try.prog 51 #[.slice (some ⟨g, 0, none⟩) d.size cap, .int .i64 a, .int .i64 b, .func (.func 24) #[] #[]] w fun e w' =>
      e = .returned (.tuple #[]) ∧ ∃ d', SA F g cap w' d' ∧ SortedIn ltE a b d' ∧ PermIn a b d d' ∧ Chg (fun k => k = g) w w' := by
  have HS := Lib.hid h
  clear h
  go_enter Try.func51, Try.ntmps51
  go_wp2_with fail
  go_loopw [8] (fun vi wr => ∃ (i : Nat) (d1 : Array El), vi = .int .i64 i ∧ a + 1 ≤ i ∧ i ≤ b + 1 ∧ SA F g cap wr d1 ∧ SortedIn ltE a i d1 ∧ PermIn a b d d1 ∧ Chg (fun k => k = g) w wr) (fun vi _ => b - (intOf vi).toNat)
  case atStart => exact ⟨a + 1, d, by go_num, Nat.le_refl _, by omega, HS.out, sorted_one _ _ (Nat.le_refl _) _, permIn_refl _ _ _, Chg.refl _ _⟩
  case round =>
    obtain ⟨i, d1, rfl, hai, hib, h1, h2, h3, h4⟩ := hrel
    by_cases hlt : i < b
    · have hlz : (i : Int) < (b : Int) := by omega
      have H1 := Lib.hid h1
      have H2 := Lib.hid h2
      have H3 := Lib.hid h3
      have H4 := Lib.hid h4
      clear h1 h2 h3 h4
      obtain ⟨W1, hW1⟩ : ∃ W1, W1 = wr := ⟨_, rfl⟩
      rw [← hW1]; rw [← hW1] at H1 H4; clear hW1
      go_wp2_with fail
      go_loopw [9] (fun vj wr => ∃ (j : Nat) (d2 : Array El), vj = .int .i64 j ∧ a ≤ j ∧ j ≤ i ∧ SA F g cap wr d2 ∧ Ins ltE a j i d2 ∧ PermIn a b d d2 ∧ Chg (fun k => k = g) w wr) (fun vj _ => (intOf vj).toNat)
      case atStart => exact ⟨i, d1, rfl, by omega, Nat.le_refl _, H1.out, ⟨fun p q hap hpq hqi _ hq => H2.out p q hap hpq (by omega), fun q h1 h2 => by omega⟩, H3.out, H4.out⟩
      case round =>
        obtain ⟨j, d2, rfl, haj, hji, k1, k2, k3, k4⟩ := hrel
        have hz : d2.size = d.size := k3.1
        by_cases hja : a < j
        · have hjz : (a : Int) < (j : Int) := by omega
          have hjd : decide ((j : Int) > (a : Int)) = true := decide_eq_true hjz
          obtain ⟨J, hJ⟩ : ∃ J, J = j - 1 := ⟨_, rfl⟩
          have hx : j < d2.size := by omega
          have hy : J < d2.size := by omega
          have hne : j ≠ J := by omega
          have i1 : (j : Int) < (d.size : Int) := by omega
          have i2 : (j : Int) - 1 < (d.size : Int) := by omega
          have i3 : (0 : Int) ≤ (j : Int) - 1 := by omega
          have e2 : ((j : Int) - 1).toNat = J := by omega
          obtain ⟨n1, n2, n3, n4, n5, n6⟩ := ne_facts hne
          obtain ⟨ax, nx, kx, ay, ny, ky, ix, iy, c, cx, cx1, cy, cy1, HC, hcmp⟩ := k1.cmpAll hx hy
          have K1 := Lib.hid k1
          have K2 := Lib.hid k2
          have K3 := Lib.hid k3
          have K4 := Lib.hid k4
          have HJ := Lib.hid hJ
          clear k1 k2 k3 k4 hJ
          by_cases hc : c < 0
          · have hcd : decide (c < 0) = true := decide_eq_true hc
            go_wp2_with fail
            have q0 := fun q : Ext wr => Ext.cell cx q
            have q1 := fun q : Ext wr => Ext.cell cx1 q
            have q2 := fun q : Ext wr => Ext.cell cy q
            have q3 := fun q : Ext wr => Ext.cell cy1 q
            refine wp_region_ext (by kernel_rfl) (by kernel_rfl) ?_
            repeat (go_big_quiet_step ((go_at_call 24; exact quiet_ext (hcmp _))))
            refine wpQuiet_nil ?_
            intro w1 hw1
            have g1 := Ext.out hw1
            clear hw1 q0 q1 q2 q3 cx cx1 cy cy1 hcmp
            have L1 := K1.out.gr g1
            obtain ⟨ax, nx, kx, ay, ny, ky, ix, iy, cx, cx1, cy, cy1, fx, fx1, fy, fy1, HS1, HC1⟩ := L1.swapAll hx hy hne
            have HI : Hid (Ins ltE a J i (swp d2 j J)) := Lib.hid (by
              obtain rfl : j = J + 1 := by have := HJ.out; omega
              exact Ins.step K2.out (ltE_yes HC.out hc) (by omega) (by omega))
            have HP : Hid (PermIn a b d (swp d2 j J)) := Lib.hid (PermIn.step K3.out (by omega) (by have := HJ.out; omega) hb)
            have HG := Lib.hid g1
            clear L1 g1
            go_wp2_with fail
            go_big_region
            go_wp2_with fail
            go_roundw
            case rel => exact ⟨J, _, by have := HJ.out; go_num, by have := HJ.out; omega, by have := HJ.out; omega, HS1.out, HI.out, HP.out, (K4.out.trans (chg_gr HG.out)).trans HC1.out⟩
            case measure => have := HJ.out; simp [intOf]; omega
          · have hcd : decide (c < 0) = false := decide_eq_false hc
            go_wp2_with fail
            have q0 := fun q : Ext wr => Ext.cell cx q
            have q1 := fun q : Ext wr => Ext.cell cx1 q
            have q2 := fun q : Ext wr => Ext.cell cy q
            have q3 := fun q : Ext wr => Ext.cell cy1 q
            refine wp_region_ext (by kernel_rfl) (by kernel_rfl) ?_
            repeat (go_big_quiet_step ((go_at_call 24; exact quiet_ext (hcmp _))))
            refine wpQuiet_nil ?_
            intro w1 hw1
            have g1 := Ext.out hw1
            clear hw1 q0 q1 q2 q3 cx cx1 cy cy1 hcmp
            have HG := Lib.hid g1
            have HSo : Hid (SortedIn ltE a (i + 1) d2) := Lib.hid (Ins.stop swo_E K2.out (Or.inr (by rw [← HJ.out]; exact ltE_no HC.out (by omega))))
            clear g1
            go_wp2_with fail
            go_roundw
            case rel => exact ⟨i + 1, d2, by go_num, by omega, by omega, K1.out.gr HG.out, HSo.out, K3.out, K4.out.trans (chg_gr HG.out)⟩
            case measure => simp [intOf]; omega
        · have hjz : ¬ (a : Int) < (j : Int) := by omega
          have hjd : decide ((j : Int) > (a : Int)) = false := decide_eq_false hjz
          have K := Lib.hid (And.intro k1 (And.intro (Ins.stop swo_E k2 (Or.inl (by omega))) (And.intro k3 k4)))
          clear k1 k2 k3 k4
          go_wp2_with fail
          go_big_region
          go_wp2_with fail
          go_roundw
          case rel => exact ⟨i + 1, d2, by go_num, by omega, by omega, K.out.1.gr (Gr.refl _).drew, K.out.2.1, K.out.2.2.1, K.out.2.2.2.drew⟩
          case measure => simp [intOf]; omega
    · have hlz : ¬ (i : Int) < (b : Int) := by omega
      go_wp2_with fail
      go_end0
      exact ⟨rfl, d1, h1, fun p q hp hpq hq => h2 p q hp hpq (by omega), h3, h4⟩
end Go.Proofs.Ytjeffagejbdjkaa
