/- The library's stable sort at rows, step by step: the merge in place, the middle in the upper run. (Printed by gen_symm.py.) -/
import Derived.Test.YtjeffagejbdjkaaSortM
namespace Go.Proofs.Ytjeffagejbdjkaa
open Go.RowKit Go.Sort Go.ChangeShapes Go.WideShapes Go.Deep
set_option maxRecDepth 100000 in
set_option maxHeartbeats 4000000 in
theorem merge_lo (K : Nat) (ih : ∀ k, k < K → MergeP k) (F : Nat → Prop) (g cap : Nat) (w : World) (d : Array El) (a m b : Nat) (h : SA F g cap w d) (hsz : d.size ≤ 1048576) (hK : b - a = K) (ham : a < m) (hmb : m < b) (hb : b ≤ d.size) (s1 : SortedIn ltE a m d) (s2 : SortedIn ltE m b d) (hA : m ≠ a + 1) (hB : b ≠ m + 1) (mid : Nat) (hmid : mid = (a + b) / 2) (hside : ¬ mid < m) :
    Calls Try.prog 52 #[.slice (some ⟨g, 0, none⟩) d.size cap, .int .i64 a, .int .i64 m, .int .i64 b, .func (.func 24) #[] #[]] w fun e w' =>
      e = .returned (.tuple #[]) ∧ ∃ d', SA F g cap w' d' ∧ SortedIn ltE a b d' ∧ PermIn a b d d' ∧ Chg (fun k => k = g) w w' := by
  have HS := Lib.hid h
  have IH := Lib.hid ih
  have S1 := Lib.hid s1
  have S2 := Lib.hid s2
  clear h ih s1 s2
  have hAz : ((m : Int) - (a : Int) == 1) = false := by simp; omega
  have hBz : ((b : Int) - (m : Int) == 1) = false := by simp; omega
  have hmz : ¬ (((a : Int) + (b : Int)) / 2) < (m : Int) := by omega
  have hmid' : ((a : Int) + (b : Int)) / 2 = (mid : Int) := by omega
  rw [hmid'] at hmz
  have b1 : a + 2 ≤ mid := by omega
  have b2 : mid + 2 ≤ b := by omega
  have hb0 := hb
  have HM := Lib.hid hmid
  have HSd := Lib.hid hside
  clear hmid hA hB hside
  go_enter Try.func52, Try.ntmps52
  go_wp2_with fail
  go_loopw [20, 21] (fun vi vj wr => ∃ (i j : Nat), vi = .int .i64 i ∧ vj = .int .i64 j ∧ a ≤ i ∧ i ≤ j ∧ j ≤ m ∧ Hid (∀ k, a ≤ k → k < i → ltE d[mid + m - 1 - k]! d[k]! = false) ∧ Hid (∀ k, j ≤ k → k < m → ltE d[mid + m - 1 - k]! d[k]! = true) ∧ Hid (SA F g cap wr d) ∧ Hid (Chg (fun k => k = g) w wr)) (fun vi vj _ => (intOf vj).toNat - (intOf vi).toNat)
  case atStart => exact ⟨a, m, by have := HSd.out; go_num, rfl, Nat.le_refl _, by have := HM.out; have := HSd.out; omega, Nat.le_refl _, Lib.hid (fun k h1 h2 => by omega), Lib.hid (fun k h1 h2 => by omega), HS, Lib.hid (Chg.refl _ _)⟩
  case round =>
    obtain ⟨i, j, rfl, rfl, hmi, hij, hjb, L1, L2, H1, H2⟩ := hrel
    have a0 : a ≤ i := by have := HM.out; have := HSd.out; omega
    have jm : j ≤ m := by have := HSd.out; omega
    by_cases hlt : i < j
    · have hlz : (i : Int) < (j : Int) := by omega
      obtain ⟨H, hH⟩ : ∃ H, H = (i + j) / 2 := ⟨_, rfl⟩
      have hHi : i ≤ H := by omega
      have hHj : H < j := by omega
      have e0 : ((i : Int) + (j : Int)) / 2 = (H : Int) := by omega
      have bd : m ≤ mid + m - 1 - H ∧ mid + m - 1 - H < b := by have := HM.out; have := HSd.out; omega
      obtain ⟨Q, hQ⟩ : ∃ Q, Q = mid + m - 1 - H := ⟨_, rfl⟩
      have e1 : ((mid : Int) + (m : Int) - 1 - (H : Int)).toNat = Q := by omega
      have i1 : (mid : Int) + (m : Int) - 1 - (H : Int) < (d.size : Int) := by omega
      have i0 : (0 : Int) ≤ (mid : Int) + (m : Int) - 1 - (H : Int) := by omega
      have i2 : (H : Int) < (d.size : Int) := by omega
      have hQd : Q < d.size := by omega
      have hHd : H < d.size := by omega
      have HH := Lib.hid hH
      have HQ := Lib.hid hQ
      have HB := Lib.hid bd
      clear hH hQ bd
      obtain ⟨ax, nx, kx, ay, ny, ky, ix, iy, c, cx, cx1, cy, cy1, HC, hcmp⟩ := H1.out.cmpAll (I := Q) (J := H) hQd hHd
      by_cases hc : c < 0
      · as_aux_lemma =>
          have hcd : decide (c < 0) = true := decide_eq_true hc
          go_wp2_with fail
          have q0 := fun q : Ext wr => Ext.cell cx q
          have q1 := fun q : Ext wr => Ext.cell cx1 q
          have q2 := fun q : Ext wr => Ext.cell cy q
          have q3 := fun q : Ext wr => Ext.cell cy1 q
          refine wp_region_ext (by kernel_rfl) (by kernel_rfl) ?_
          repeat (go_big_quiet_step ((go_at_call 24; exact quiet_ext (hcmp _))))
          refine wpQuiet_nil ?_
          intro w1 hw1
          have HG := Lib.hid (Ext.out hw1)
          clear hw1 q0 q1 q2 q3 cx cx1 cy cy1 hcmp
          go_wp2_with fail
          go_roundw
          case rel => exact ⟨i, H, rfl, by have := HH.out; go_num, hmi, hHi, by omega, L1, Lib.hid (fun k h1 h2 => pair_above swo_E S1.out S2.out (by omega) HB.out.2 (by rw [← HQ.out]; exact ltE_yes HC.out hc) k h1 (by omega) (by have := HM.out; have := HSd.out; omega)), Lib.hid (H1.out.gr HG.out), Lib.hid (H2.out.trans (chg_gr HG.out))⟩
          case measure => have := HH.out; simp [intOf]; omega
      · as_aux_lemma =>
          have hcd : decide (c < 0) = false := decide_eq_false hc
          go_wp2_with fail
          have q0 := fun q : Ext wr => Ext.cell cx q
          have q1 := fun q : Ext wr => Ext.cell cx1 q
          have q2 := fun q : Ext wr => Ext.cell cy q
          have q3 := fun q : Ext wr => Ext.cell cy1 q
          refine wp_region_ext (by kernel_rfl) (by kernel_rfl) ?_
          repeat (go_big_quiet_step ((go_at_call 24; exact quiet_ext (hcmp _))))
          refine wpQuiet_nil ?_
          intro w1 hw1
          have HG := Lib.hid (Ext.out hw1)
          clear hw1 q0 q1 q2 q3 cx cx1 cy cy1 hcmp
          go_wp2_with fail
          go_roundw
          case rel => exact ⟨H + 1, j, by have := HH.out; go_num, rfl, by omega, by omega, hjb, Lib.hid (fun k h1 h2 => pair_below swo_E S1.out S2.out (by omega) HB.out.1 (by rw [← HQ.out]; exact ltE_no HC.out (by omega)) k (by have := HM.out; have := HSd.out; omega) (by omega) (by have := HM.out; have := HSd.out; omega)), L2, Lib.hid (H1.out.gr HG.out), Lib.hid (H2.out.trans (chg_gr HG.out))⟩
          case measure => have := HH.out; simp [intOf]; omega
    · have hlz : ¬ (i : Int) < (j : Int) := by omega
      obtain rfl : i = j := by omega
      have im : i ≤ mid := by have := HM.out; have := HSd.out; omega
      have eb : m ≤ mid + m - i ∧ mid + m - i ≤ b := by have := HM.out; have := HSd.out; omega
      obtain ⟨E, hE⟩ : ∃ E, E = mid + m - i := ⟨_, rfl⟩
      have eE : (mid : Int) + (m : Int) - (i : Int) = (E : Int) := by omega
      have hhalf : ∀ d' : Array El, Rot m (m - i) (E - m) d d' → SortedIn ltE a i d' ∧ SortedIn ltE i mid d' ∧ SortedIn ltE mid E d' ∧ SortedIn ltE E b d' ∧ ∀ p q, a ≤ p → p < mid → mid ≤ q → q < b → ltE d'[q]! d'[p]! = false := fun d' hR => by
        have hsd := HSd.out
        rw [hE] at hR ⊢
        exact sym_halves swo_E S1.out S2.out ham hmb HM.out (by simp [hsd]) (r0 := m) (by simp [hsd]) hmi hjb L1.out L2.out hR
      have HHf := Lib.hid hhalf
      clear hhalf
      rw [← hE] at eb
      have HE := Lib.hid hE
      clear hE
      -- behind the rotation: the two halves
      have last : ∀ (w1 : World) (d1 : Array El), SA F g cap w1 d1 → Rot m (m - i) (E - m) d d1 → PermIn a b d d1 → Chg (fun k => k = g) w w1 → Half1 F g cap a i mid E b w d w1 d1 := fun w1 d1 q1 q2 q3 q4 =>
        have t := HHf.out d1 q2
        ⟨q1, q2.size, t.1, t.2.1, t.2.2.1, t.2.2.2.1, t.2.2.2.2, q3, q4⟩
      have LAST := Lib.hid last
      clear last
      go_upto_region 39 with fail
      go_cut [185] (fun s wx => s = .bool (bothB i m E) ∧ Hid (SA F g cap wx d) ∧ Hid (Chg (fun k => k = g) w wx))
      case first =>
        by_cases o1 : i < m
        · have o1z : (i : Int) < (m : Int) := by omega
          by_cases o2 : m < E
          · as_aux_lemma =>
              have o2z : (m : Int) < (E : Int) := by omega
              go_wp2_with fail
              go_meet
              exact ⟨by simp [bothB, o1, o2], H1, H2⟩
          · as_aux_lemma =>
              have o2z : ¬ (m : Int) < (E : Int) := by omega
              go_wp2_with fail
              go_meet
              exact ⟨by simp [bothB, o1, o2], H1, H2⟩
        · as_aux_lemma =>
            have o1z : ¬ (i : Int) < (m : Int) := by omega
            go_wp2_with fail
            go_meet
            exact ⟨by simp [bothB, o1], H1, H2⟩
      case' rest =>
        clear H1 H2
        obtain ⟨rfl, H1, H2⟩ := hcut
      go_upto_if 185 with fail
      go_cut [] (fun wx => ∃ d1, Hid (Half1 F g cap a i mid E b w d wx d1))
      case first =>
        cases hb : bothB i m E with
        | true => as_aux_lemma =>
          obtain ⟨o1, o2⟩ := bothB_yes hb
          go_wp2_with fail
          refine (std_rotate' H1.out hsz rfl rfl rfl o1 o2 (by omega) _).mono ?_
          rintro e w1 ⟨rfl, d1, k1, k2, k3, k4⟩
          have T := Lib.hid (LAST.out w1 d1 k1 k2 (permIn_mono _ _ _ _ _ _ a0 (by omega) hb0 k3) (H2.out.trans k4))
          clear k1 k2 k3 k4 LAST HHf H1 H2
          go_wp2_with fail
          go_meet
          exact ⟨d1, T⟩
        | false => as_aux_lemma =>
          have hno := bothB_no hb
          have hR : Rot m (m - i) (E - m) d d := by
            refine ⟨rfl, fun k => ?_⟩
            by_cases e : i = m
            · rw [e, Nat.sub_self, Nat.sub_zero]
              repeat' split
              all_goals first | rfl | (exfalso; omega) | (refine congrArg (fun z => d[z]!) ?_; omega)
            · have e' : E = m := by omega
              rw [e', Nat.sub_self]
              repeat' split
              all_goals first | rfl | (exfalso; omega) | (refine congrArg (fun z => d[z]!) ?_; omega)
          have T := Lib.hid (LAST.out _ d H1.out hR (permIn_refl _ _ _) H2.out)
          clear hR LAST HHf H1 H2 hno
          go_wp2_with fail
          go_meet
          exact ⟨d, T⟩
      case rest =>
        obtain ⟨d1, T⟩ := hcut
        clear H1 H2 LAST HHf
        obtain ⟨t0, hz, t1, t2, t3, t4, t5, t6, t7⟩ := T.out
        have H1 := Lib.hid t0
        have T1 := Lib.hid (And.intro t1 (And.intro t2 (And.intro t3 t4)))
        have T5 := Lib.hid t5
        have T6 := Lib.hid t6
        have H2 := Lib.hid t7
        clear t0 t1 t2 t3 t4 t5 t6 t7 T
        have left : ∀ (w2 : World) (d2 : Array El), SA F g cap w2 d2 → SortedIn ltE a mid d2 → PermIn a mid d1 d2 → Chg (fun k => k = g) w w2 → Half2 F g cap a mid E b w d w2 d2 := fun w2 d2 q1 q2 q3 q4 =>
          ⟨q1, q3.1.trans hz, q2, sorted_other T1.out.2.2.1 q3 (Or.inr (Nat.le_refl _)), sorted_other T1.out.2.2.2 q3 (Or.inr (by omega)), cross_left (by omega) q3 T5.out, permIn_trans _ _ _ _ _ T6.out (permIn_mono _ _ _ _ _ _ (Nat.le_refl _) (by omega) (by omega) q3), q4⟩
        have LEFT := Lib.hid left
        clear left
        go_upto_region 41 with fail
        go_cut [199] (fun s wx => s = .bool (bothB a i mid) ∧ Hid (SA F g cap wx d1) ∧ Hid (Chg (fun k => k = g) w wx))
        case first =>
          by_cases o1 : a < i
          · have o1z : (a : Int) < (i : Int) := by omega
            by_cases o2 : i < mid
            · as_aux_lemma =>
                have o2z : (i : Int) < (mid : Int) := by omega
                go_wp2_with fail
                go_meet
                exact ⟨by simp [bothB, o1, o2], H1, H2⟩
            · as_aux_lemma =>
                have o2z : ¬ (i : Int) < (mid : Int) := by omega
                go_wp2_with fail
                go_meet
                exact ⟨by simp [bothB, o1, o2], H1, H2⟩
          · as_aux_lemma =>
              have o1z : ¬ (a : Int) < (i : Int) := by omega
              go_wp2_with fail
              go_meet
              exact ⟨by simp [bothB, o1], H1, H2⟩
        case' rest =>
          clear H1 H2
          obtain ⟨rfl, H1, H2⟩ := hcut
        go_upto_if 199 with fail
        go_cut [] (fun wx => ∃ d2, Hid (Half2 F g cap a mid E b w d wx d2))
        case first =>
          cases hb : bothB a i mid with
          | true => as_aux_lemma =>
            obtain ⟨o1, o2⟩ := bothB_yes hb
            go_wp2_with fail
            rw [← hz]
            refine (MergeP.at IH.out rfl rfl rfl H1.out (by omega) (by omega) o1 o2 (by omega) T1.out.1 T1.out.2.1).mono ?_
            rintro e w2 ⟨rfl, d2, k1, k2, k3, k4⟩
            have U := Lib.hid (LEFT.out w2 d2 k1 k2 k3 (H2.out.trans k4))
            clear k1 k2 k3 k4 LEFT H1 T1 T5 T6 H2
            rw [hz]
            go_wp2_with fail
            go_meet
            exact ⟨d2, U⟩
          | false => as_aux_lemma =>
            have hno := bothB_no hb
            have U := Lib.hid (LEFT.out _ d1 H1.out (by
              by_cases e : i = a
              · rw [← e]; exact T1.out.2.1
              · have e' : i = mid := by omega
                rw [← e']; exact T1.out.1) (permIn_refl _ _ _) H2.out)
            clear LEFT H1 T1 T5 T6 H2 hno
            go_wp2_with fail
            go_meet
            exact ⟨d1, U⟩
        case rest =>
          obtain ⟨d2, U⟩ := hcut
          clear H1 H2 LEFT T1 T5 T6 hz
          obtain ⟨u0, hz, u2, u3, u4, u5, u6, u7⟩ := U.out
          have H1 := Lib.hid u0
          have V1 := Lib.hid u2
          have V2 := Lib.hid (And.intro u3 u4)
          have V4 := Lib.hid u5
          have V5 := Lib.hid u6
          have H2 := Lib.hid u7
          clear u0 u2 u3 u4 u5 u6 u7 U
          have right : ∀ (w3 : World) (d3 : Array El), SA F g cap w3 d3 → SortedIn ltE mid b d3 → PermIn mid b d2 d3 → Chg (fun k => k = g) w w3 → SA F g cap w3 d3 ∧ SortedIn ltE a b d3 ∧ PermIn a b d d3 ∧ Chg (fun k => k = g) w w3 := fun w3 d3 q1 q2 q3 q4 =>
            ⟨q1, sorted_join (sorted_other V1.out q3 (Or.inl (Nat.le_refl _))) q2 (cross_right (by omega) q3 V4.out), permIn_trans _ _ _ _ _ V5.out (permIn_mono _ _ _ _ _ _ (by omega) (Nat.le_refl _) (by omega) q3), q4⟩
          have RIGHT := Lib.hid right
          clear right
          go_upto_region 43 with fail
          go_cut [213] (fun s wx => s = .bool (bothB mid E b) ∧ Hid (SA F g cap wx d2) ∧ Hid (Chg (fun k => k = g) w wx))
          case first =>
            by_cases o1 : mid < E
            · have o1z : (mid : Int) < (E : Int) := by omega
              by_cases o2 : E < b
              · as_aux_lemma =>
                  have o2z : (E : Int) < (b : Int) := by omega
                  go_wp2_with fail
                  go_meet
                  exact ⟨by simp [bothB, o1, o2], H1, H2⟩
              · as_aux_lemma =>
                  have o2z : ¬ (E : Int) < (b : Int) := by omega
                  go_wp2_with fail
                  go_meet
                  exact ⟨by simp [bothB, o1, o2], H1, H2⟩
            · as_aux_lemma =>
                have o1z : ¬ (mid : Int) < (E : Int) := by omega
                go_wp2_with fail
                go_meet
                exact ⟨by simp [bothB, o1], H1, H2⟩
          case' rest =>
            clear H1 H2
            obtain ⟨rfl, H1, H2⟩ := hcut
          cases hb : bothB mid E b with
          | true => as_aux_lemma =>
            obtain ⟨o1, o2⟩ := bothB_yes hb
            go_wp2_with fail
            rw [← hz]
            refine (MergeP.at IH.out rfl rfl rfl H1.out (by omega) (by omega) o1 o2 (by omega) V2.out.1 V2.out.2).mono ?_
            rintro e w3 ⟨rfl, d3, k1, k2, k3, k4⟩
            have UU := Lib.hid (RIGHT.out w3 d3 k1 k2 k3 (H2.out.trans k4))
            clear k1 k2 k3 k4 RIGHT H1 V1 V2 V4 V5 H2
            go_wp2_with fail
            go_end0
            exact ⟨rfl, d3, UU.out⟩
          | false => as_aux_lemma =>
            have hno := bothB_no hb
            have UU := Lib.hid (RIGHT.out _ d2 H1.out (by
              by_cases e : E = mid
              · rw [← e]; exact V2.out.2
              · have e' : E = b := by omega
                rw [← e']; exact V2.out.1) (permIn_refl _ _ _) H2.out)
            clear RIGHT H1 V1 V2 V4 V5 H2 hno
            go_wp2_with fail
            go_end0
            exact ⟨rfl, d2, UU.out⟩
end Go.Proofs.Ytjeffagejbdjkaa
