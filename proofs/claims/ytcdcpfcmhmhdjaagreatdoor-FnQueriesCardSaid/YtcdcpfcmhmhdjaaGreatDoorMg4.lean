/- The library's stable sort at rows, step by step: the merge in place, the middle in the lower run. (Printed by gen_symm.py.) -/
import Derived.Test.YtcdcpfcmhmhdjaaGreatDoorMg3
import Derived.Test.YtcdcpfcmhmhdjaaGreatDoorStepN
import Derived.Test.YtcdcpfcmhmhdjaaGreatDoorHeld
import Derived.Test.YtcdcpfcmhmhdjaaGreatDoorGenInt
namespace Go.Proofs.YtcdcpfcmhmhdjaaGreatDoor
open Go.RowKit Go.Sort Go.ChangeShapes Go.WideShapes Go.Deep
set_option maxRecDepth 100000 in
set_option maxHeartbeats 4000000 in
theorem merge_hi (K : Nat) (ih : ∀ k, k < K → MergeP k) (F : Nat → Prop) (g cap : Nat) (w : World) (d : Array El) (a m b : Nat) (h : SA F g cap w d) (hsz : d.size ≤ 1048576) (hK : b - a = K) (ham : a < m) (hmb : m < b) (hb : b ≤ d.size) (s1 : SortedIn ltE a m d) (s2 : SortedIn ltE m b d) (hA : m ≠ a + 1) (hB : b ≠ m + 1) (mid : Nat) (hmid : mid = (a + b) / 2) (hside : mid < m) :
    Calls Tryz.prog 89 #[.slice (some ⟨g, 0, none⟩) d.size cap, .int .i64 a, .int .i64 m, .int .i64 b, .func (.func 50) #[] #[]] w fun e w' =>
      e = .returned (.tuple #[]) ∧ ∃ d', SA F g cap w' d' ∧ SortedIn ltE a b d' ∧ PermIn a b d d' ∧ Chg (fun k => k = g) w w' := by
  have HS := Lib.hid h
  have IH := Lib.hid ih
  have S1 := Lib.hid s1
  have S2 := Lib.hid s2
  clear h ih s1 s2
  have hAz : ((m : Int) - (a : Int) == 1) = false := by have := hA; simp; omega
  have hBz : ((b : Int) - (m : Int) == 1) = false := by simp; omega
  have hmz : (((a : Int) + (b : Int)) / 2) < (m : Int) := by omega
  have hmid' : ((a : Int) + (b : Int)) / 2 = (mid : Int) := by omega
  rw [hmid'] at hmz
  have b1 : a + 2 ≤ mid := by omega
  have b2 : mid + 2 ≤ b := by omega
  have hb0 := hb
  have HM := Lib.hid hmid
  have HSd := Lib.hid hside
  clear hmid hA hB hside
  go_enter Tryz.func89, Tryz.ntmps89
  go_wp2_with fail
  go_loopw [20, 21] (fun vi vj wr => ∃ (i j : Nat), vi = .int .i64 i ∧ vj = .int .i64 j ∧ mid + m - b ≤ i ∧ i ≤ j ∧ j ≤ mid ∧ Hid (∀ k, mid + m - b ≤ k → k < i → ltE d[mid + m - 1 - k]! d[k]! = false) ∧ Hid (∀ k, j ≤ k → k < mid → ltE d[mid + m - 1 - k]! d[k]! = true) ∧ Hid (SA F g cap wr d) ∧ Hid (Chg (fun k => k = g) w wr)) (fun vi vj _ => (intOf vj).toNat - (intOf vi).toNat)
  case atStart => exact ⟨mid + m - b, mid, by have := HSd.out; go_num, rfl, Nat.le_refl _, by have := HM.out; have := HSd.out; omega, Nat.le_refl _, Lib.hid (fun k h1 h2 => by omega), Lib.hid (fun k h1 h2 => by omega), HS, Lib.hid (Chg.refl _ _)⟩
  case round =>
    obtain ⟨i, j, rfl, rfl, hmi, hij, hjb, L1, L2, H1, H2⟩ := hrel
    have a0 : a ≤ i := by have := HM.out; have := HSd.out; omega
    have jm : j ≤ m := by have := HSd.out; omega
    by_cases hlt : i < j
    · have hlz : (i : Int) < (j : Int) := by omega
      obtain ⟨H, hH⟩ : ∃ H, H = (i + j) / 2 := ⟨_, rfl⟩
      have hHi : i ≤ H := by omega
      have hHj : H < j := by omega
      have e0 : ((i : Int) + (j : Int)) / 2 = (H : Int) := by omega
      have bd : m ≤ mid + m - 1 - H ∧ mid + m - 1 - H < b := by have := HM.out; have := HSd.out; omega
      obtain ⟨Q, hQ⟩ : ∃ Q, Q = mid + m - 1 - H := ⟨_, rfl⟩
      have e1 : ((mid : Int) + (m : Int) - 1 - (H : Int)).toNat = Q := by omega
      have i1 : (mid : Int) + (m : Int) - 1 - (H : Int) < (d.size : Int) := by omega
      have i0 : (0 : Int) ≤ (mid : Int) + (m : Int) - 1 - (H : Int) := by omega
      have i2 : (H : Int) < (d.size : Int) := by omega
      have hQd : Q < d.size := by omega
      have hHd : H < d.size := by omega
      have HH := Lib.hid hH
      have HQ := Lib.hid hQ
      have HB := Lib.hid bd
      clear hH hQ bd
      obtain ⟨ax, nx, kx, ay, ny, ky, ix, iy, c, cx, cx1, cy, cy1, HC, hcmp⟩ := H1.out.cmpAll (I := Q) (J := H) hQd hHd
      by_cases hc : c < 0
      · as_aux_lemma =>
          have hcd : decide (c < 0) = true := decide_eq_true hc
          go_wp2_with fail
          have q0 := fun q : Ext wr => Ext.cell cx q
          have q1 := fun q : Ext wr => Ext.cell cx1 q
          have q2 := fun q : Ext wr => Ext.cell cy q
          have q3 := fun q : Ext wr => Ext.cell cy1 q
          refine wp_region_ext (by kernel_rfl) (by kernel_rfl) ?_
          repeat (go_big_quiet_step ((go_at_call 50; exact quiet_ext (hcmp _))))
          refine wpQuiet_nil ?_
          intro w1 hw1
          have HG := Lib.hid (Ext.out hw1)
          clear hw1 q0 q1 q2 q3 cx cx1 cy cy1 hcmp
          go_wp2_with fail
          go_roundw
          case rel => exact ⟨i, H, rfl, by have := HH.out; go_num, hmi, hHi, by omega, L1, Lib.hid (fun k h1 h2 => pair_above swo_E S1.out S2.out (by omega) HB.out.2 (by rw [← HQ.out]; exact ltE_yes HC.out hc) k h1 (by omega) (by have := HM.out; have := HSd.out; omega)), Lib.hid (H1.out.gr HG.out), Lib.hid (H2.out.trans (chg_gr HG.out))⟩
          case measure => have := HH.out; simp [intOf]; omega
      · as_aux_lemma =>
          have hcd : decide (c < 0) = false := decide_eq_false hc
          go_wp2_with fail
          have q0 := fun q : Ext wr => Ext.cell cx q
          have q1 := fun q : Ext wr => Ext.cell cx1 q
          have q2 := fun q : Ext wr => Ext.cell cy q
          have q3 := fun q : Ext wr => Ext.cell cy1 q
          refine wp_region_ext (by kernel_rfl) (by kernel_rfl) ?_
          repeat (go_big_quiet_step ((go_at_call 50; exact quiet_ext (hcmp _))))
          refine wpQuiet_nil ?_
          intro w1 hw1
          have HG := Lib.hid (Ext.out hw1)
          clear hw1 q0 q1 q2 q3 cx cx1 cy cy1 hcmp
          go_wp2_with fail
          go_roundw
          case rel => exact ⟨H + 1, j, by have := HH.out; go_num, rfl, by omega, by omega, hjb, Lib.hid (fun k h1 h2 => pair_below swo_E S1.out S2.out (by omega) HB.out.1 (by rw [← HQ.out]; exact ltE_no HC.out (by omega)) k (by have := HM.out; have := HSd.out; omega) (by omega) (by have := HM.out; have := HSd.out; omega)), L2, Lib.hid (H1.out.gr HG.out), Lib.hid (H2.out.trans (chg_gr HG.out))⟩
          case measure => have := HH.out; simp [intOf]; omega
    · have hlz : ¬ (i : Int) < (j : Int) := by omega
      obtain rfl : i = j := by omega
      have im : i ≤ mid := by have := HM.out; have := HSd.out; omega
      have eb : m ≤ mid + m - i ∧ mid + m - i ≤ b := by have := HM.out; have := HSd.out; omega
      obtain ⟨E, hE⟩ : ∃ E, E = mid + m - i := ⟨_, rfl⟩
      have eE : (mid : Int) + (m : Int) - (i : Int) = (E : Int) := by omega
      have hhalf : ∀ d' : Array El, Rot m (m - i) (E - m) d d' → SortedIn ltE a i d' ∧ SortedIn ltE i mid d' ∧ SortedIn ltE mid E d' ∧ SortedIn ltE E b d' ∧ ∀ p q, a ≤ p → p < mid → mid ≤ q → q < b → ltE d'[q]! d'[p]! = false := fun d' hR => by
        have hsd := HSd.out
        rw [hE] at hR ⊢
        exact sym_halves swo_E S1.out S2.out ham hmb HM.out (by simp [hsd]) (r0 := mid) (by simp [hsd]) hmi hjb L1.out L2.out hR
      have HHf := Lib.hid hhalf
      clear hhalf
      rw [← hE] at eb
      have HE := Lib.hid hE
      clear hE
      -- behind the rotation: the two halves
      have last : ∀ (w1 : World) (d1 : Array El), SA F g cap w1 d1 → Rot m (m - i) (E - m) d d1 → PermIn a b d d1 → Chg (fun k => k = g) w w1 → Half1 F g cap a i mid E b w d w1 d1 := fun w1 d1 q1 q2 q3 q4 =>
        have t := HHf.out d1 q2
        ⟨q1, q2.size, t.1, t.2.1, t.2.2.1, t.2.2.2.1, t.2.2.2.2, q3, q4⟩
      have LAST := Lib.hid last
      clear last
      go_upto_region 39 with fail
      go_cut [185] (fun s wx => s = .bool (bothB i m E) ∧ Hid (SA F g cap wx d) ∧ Hid (Chg (fun k => k = g) w wx))
      case first =>
        by_cases o1 : i < m
        · have o1z : (i : Int) < (m : Int) := by omega
          by_cases o2 : m < E
          · as_aux_lemma =>
              have o2z : (m : Int) < (E : Int) := by omega
              go_wp2_with fail
              go_meet
              exact ⟨by simp [bothB, o1, o2], H1, H2⟩
          · as_aux_lemma =>
              have o2z : ¬ (m : Int) < (E : Int) := by omega
              go_wp2_with fail
              go_meet
              exact ⟨by simp [bothB, o1, o2], H1, H2⟩
        · as_aux_lemma =>
            have o1z : ¬ (i : Int) < (m : Int) := by omega
            go_wp2_with fail
            go_meet
            exact ⟨by simp [bothB, o1], H1, H2⟩
      case' rest =>
        clear H1 H2
        obtain ⟨rfl, H1, H2⟩ := hcut
      go_upto_if 185 with fail
      go_cut [] (fun wx => ∃ d1, Hid (Half1 F g cap a i mid E b w d wx d1))
      case first =>
        cases hb : bothB i m E with
        | true => as_aux_lemma =>
          obtain ⟨o1, o2⟩ := bothB_yes hb
          go_wp2_with fail
          refine (std_rotate' H1.out hsz rfl rfl rfl o1 o2 (by omega) _).mono ?_
          rintro e w1 ⟨rfl, d1, k1, k2, k3, k4⟩
          have T := Lib.hid (LAST.out w1 d1 k1 k2 (permIn_mono _ _ _ _ _ _ a0 (by omega) hb0 k3) (H2.out.trans k4))
          clear k1 k2 k3 k4 LAST HHf H1 H2
          go_wp2_with fail
          go_meet
          exact ⟨d1, T⟩
        | false => as_aux_lemma =>
          have hno := bothB_no hb
          have hR : Rot m (m - i) (E - m) d d := by
            refine ⟨rfl, fun k => ?_⟩
            by_cases e : i = m
            · rw [e, Nat.sub_self, Nat.sub_zero]
              repeat' split
              all_goals first | rfl | (exfalso; omega) | (refine congrArg (fun z => d[z]!) ?_; omega)
            · have e' : E = m := by omega
              rw [e', Nat.sub_self]
              repeat' split
              all_goals first | rfl | (exfalso; omega) | (refine congrArg (fun z => d[z]!) ?_; omega)
          have T := Lib.hid (LAST.out _ d H1.out hR (permIn_refl _ _ _) H2.out)
          clear hR LAST HHf H1 H2 hno
          go_wp2_with fail
          go_meet
          exact ⟨d, T⟩
      case rest =>
        obtain ⟨d1, T⟩ := hcut
        clear H1 H2 LAST HHf
        obtain ⟨t0, hz, t1, t2, t3, t4, t5, t6, t7⟩ := T.out
        have H1 := Lib.hid t0
        have T1 := Lib.hid (And.intro t1 (And.intro t2 (And.intro t3 t4)))
        have T5 := Lib.hid t5
        have T6 := Lib.hid t6
        have H2 := Lib.hid t7
        clear t0 t1 t2 t3 t4 t5 t6 t7 T
        have left : ∀ (w2 : World) (d2 : Array El), SA F g cap w2 d2 → SortedIn ltE a mid d2 → PermIn a mid d1 d2 → Chg (fun k => k = g) w w2 → Half2 F g cap a mid E b w d w2 d2 := fun w2 d2 q1 q2 q3 q4 =>
          ⟨q1, q3.1.trans hz, q2, sorted_other T1.out.2.2.1 q3 (Or.inr (Nat.le_refl _)), sorted_other T1.out.2.2.2 q3 (Or.inr (by omega)), cross_left (by omega) q3 T5.out, permIn_trans _ _ _ _ _ T6.out (permIn_mono _ _ _ _ _ _ (Nat.le_refl _) (by omega) (by omega) q3), q4⟩
        have LEFT := Lib.hid left
        clear left
        go_upto_region 41 with fail
        go_cut [199] (fun s wx => s = .bool (bothB a i mid) ∧ Hid (SA F g cap wx d1) ∧ Hid (Chg (fun k => k = g) w wx))
        case first =>
          by_cases o1 : a < i
          · have o1z : (a : Int) < (i : Int) := by omega
            by_cases o2 : i < mid
            · as_aux_lemma =>
                have o2z : (i : Int) < (mid : Int) := by omega
                go_wp2_with fail
                go_meet
                exact ⟨by simp [bothB, o1, o2], H1, H2⟩
            · as_aux_lemma =>
                have o2z : ¬ (i : Int) < (mid : Int) := by omega
                go_wp2_with fail
                go_meet
                exact ⟨by simp [bothB, o1, o2], H1, H2⟩
          · as_aux_lemma =>
              have o1z : ¬ (a : Int) < (i : Int) := by omega
              go_wp2_with fail
              go_meet
              exact ⟨by simp [bothB, o1], H1, H2⟩
        case' rest =>
          clear H1 H2
          obtain ⟨rfl, H1, H2⟩ := hcut
        go_upto_if 199 with fail
        go_cut [] (fun wx => ∃ d2, Hid (Half2 F g cap a mid E b w d wx d2))
        case first =>
          cases hb : bothB a i mid with
          | true => as_aux_lemma =>
            obtain ⟨o1, o2⟩ := bothB_yes hb
            go_wp2_with fail
            rw [← hz]
            refine (MergeP.at IH.out rfl rfl rfl H1.out (by omega) (by omega) o1 o2 (by omega) T1.out.1 T1.out.2.1).mono ?_
            rintro e w2 ⟨rfl, d2, k1, k2, k3, k4⟩
            have U := Lib.hid (LEFT.out w2 d2 k1 k2 k3 (H2.out.trans k4))
            clear k1 k2 k3 k4 LEFT H1 T1 T5 T6 H2
            rw [hz]
            go_wp2_with fail
            go_meet
            exact ⟨d2, U⟩
          | false => as_aux_lemma =>
            have hno := bothB_no hb
            have U := Lib.hid (LEFT.out _ d1 H1.out (by
              by_cases e : i = a
              · rw [← e]; exact T1.out.2.1
              · have e' : i = mid := by omega
                rw [← e']; exact T1.out.1) (permIn_refl _ _ _) H2.out)
            clear LEFT H1 T1 T5 T6 H2 hno
            go_wp2_with fail
            go_meet
            exact ⟨d1, U⟩
        case rest =>
          obtain ⟨d2, U⟩ := hcut
          clear H1 H2 LEFT T1 T5 T6 hz
          obtain ⟨u0, hz, u2, u3, u4, u5, u6, u7⟩ := U.out
          have H1 := Lib.hid u0
          have V1 := Lib.hid u2
          have V2 := Lib.hid (And.intro u3 u4)
          have V4 := Lib.hid u5
          have V5 := Lib.hid u6
          have H2 := Lib.hid u7
          clear u0 u2 u3 u4 u5 u6 u7 U
          have right : ∀ (w3 : World) (d3 : Array El), SA F g cap w3 d3 → SortedIn ltE mid b d3 → PermIn mid b d2 d3 → Chg (fun k => k = g) w w3 → SA F g cap w3 d3 ∧ SortedIn ltE a b d3 ∧ PermIn a b d d3 ∧ Chg (fun k => k = g) w w3 := fun w3 d3 q1 q2 q3 q4 =>
            ⟨q1, sorted_join (sorted_other V1.out q3 (Or.inl (Nat.le_refl _))) q2 (cross_right (by omega) q3 V4.out), permIn_trans _ _ _ _ _ V5.out (permIn_mono _ _ _ _ _ _ (by omega) (Nat.le_refl _) (by omega) q3), q4⟩
          have RIGHT := Lib.hid right
          clear right
          go_upto_region 43 with fail
          go_cut [213] (fun s wx => s = .bool (bothB mid E b) ∧ Hid (SA F g cap wx d2) ∧ Hid (Chg (fun k => k = g) w wx))
          case first =>
            by_cases o1 : mid < E
            · have o1z : (mid : Int) < (E : Int) := by omega
              by_cases o2 : E < b
              · as_aux_lemma =>
                  have o2z : (E : Int) < (b : Int) := by omega
                  go_wp2_with fail
                  go_meet
                  exact ⟨by simp [bothB, o1, o2], H1, H2⟩
              · as_aux_lemma =>
                  have o2z : ¬ (E : Int) < (b : Int) := by omega
                  go_wp2_with fail
                  go_meet
                  exact ⟨by simp [bothB, o1, o2], H1, H2⟩
            · as_aux_lemma =>
                have o1z : ¬ (mid : Int) < (E : Int) := by omega
                go_wp2_with fail
                go_meet
                exact ⟨by simp [bothB, o1], H1, H2⟩
          case' rest =>
            clear H1 H2
            obtain ⟨rfl, H1, H2⟩ := hcut
          cases hb : bothB mid E b with
          | true => as_aux_lemma =>
            obtain ⟨o1, o2⟩ := bothB_yes hb
            go_wp2_with fail
            rw [← hz]
            refine (MergeP.at IH.out rfl rfl rfl H1.out (by omega) (by omega) o1 o2 (by omega) V2.out.1 V2.out.2).mono ?_
            rintro e w3 ⟨rfl, d3, k1, k2, k3, k4⟩
            have UU := Lib.hid (RIGHT.out w3 d3 k1 k2 k3 (H2.out.trans k4))
            clear k1 k2 k3 k4 RIGHT H1 V1 V2 V4 V5 H2
            go_wp2_with fail
            go_end0
            exact ⟨rfl, d3, UU.out⟩
          | false => as_aux_lemma =>
            have hno := bothB_no hb
            have UU := Lib.hid (RIGHT.out _ d2 H1.out (by
              by_cases e : E = mid
              · rw [← e]; exact V2.out.2
              · have e' : E = b := by omega
                rw [← e']; exact V2.out.1) (permIn_refl _ _ _) H2.out)
            clear RIGHT H1 V1 V2 V4 V5 H2 hno
            go_wp2_with fail
            go_end0
            exact ⟨rfl, d2, UU.out⟩
end Go.Proofs.YtcdcpfcmhmhdjaaGreatDoor

/- The library's stable sort at rows, step by step: the merge in place, the middle in the upper run. (Printed by gen_symm.py.) -/
namespace Go.Proofs.YtcdcpfcmhmhdjaaGreatDoor
open Go.RowKit Go.Sort Go.ChangeShapes Go.WideShapes Go.Deep
set_option maxRecDepth 100000 in
set_option maxHeartbeats 4000000 in
theorem merge_lo (K : Nat) (ih : ∀ k, k < K → MergeP k) (F : Nat → Prop) (g cap : Nat) (w : World) (d : Array El) (a m b : Nat) (h : SA F g cap w d) (hsz : d.size ≤ 1048576) (hK : b - a = K) (ham : a < m) (hmb : m < b) (hb : b ≤ d.size) (s1 : SortedIn ltE a m d) (s2 : SortedIn ltE m b d) (hA : m ≠ a + 1) (hB : b ≠ m + 1) (mid : Nat) (hmid : mid = (a + b) / 2) (hside : ¬ mid < m) :
    Calls Tryz.prog 89 #[.slice (some ⟨g, 0, none⟩) d.size cap, .int .i64 a, .int .i64 m, .int .i64 b, .func (.func 50) #[] #[]] w fun e w' =>
      e = .returned (.tuple #[]) ∧ ∃ d', SA F g cap w' d' ∧ SortedIn ltE a b d' ∧ PermIn a b d d' ∧ Chg (fun k => k = g) w w' := by
  have HS := Lib.hid h
  have IH := Lib.hid ih
  have S1 := Lib.hid s1
  have S2 := Lib.hid s2
  clear h ih s1 s2
  have hAz : ((m : Int) - (a : Int) == 1) = false := by simp; omega
  have hBz : ((b : Int) - (m : Int) == 1) = false := by simp; omega
  have hmz : ¬ (((a : Int) + (b : Int)) / 2) < (m : Int) := by omega
  have hmid' : ((a : Int) + (b : Int)) / 2 = (mid : Int) := by omega
  rw [hmid'] at hmz
  have b1 : a + 2 ≤ mid := by omega
  have b2 : mid + 2 ≤ b := by omega
  have hb0 := hb
  have HM := Lib.hid hmid
  have HSd := Lib.hid hside
  clear hmid hA hB hside
  go_enter Tryz.func89, Tryz.ntmps89
  go_wp2_with fail
  go_loopw [20, 21] (fun vi vj wr => ∃ (i j : Nat), vi = .int .i64 i ∧ vj = .int .i64 j ∧ a ≤ i ∧ i ≤ j ∧ j ≤ m ∧ Hid (∀ k, a ≤ k → k < i → ltE d[mid + m - 1 - k]! d[k]! = false) ∧ Hid (∀ k, j ≤ k → k < m → ltE d[mid + m - 1 - k]! d[k]! = true) ∧ Hid (SA F g cap wr d) ∧ Hid (Chg (fun k => k = g) w wr)) (fun vi vj _ => (intOf vj).toNat - (intOf vi).toNat)
  case atStart => exact ⟨a, m, by have := HSd.out; go_num, rfl, Nat.le_refl _, by have := HM.out; have := HSd.out; omega, Nat.le_refl _, Lib.hid (fun k h1 h2 => by omega), Lib.hid (fun k h1 h2 => by omega), HS, Lib.hid (Chg.refl _ _)⟩
  case round =>
    obtain ⟨i, j, rfl, rfl, hmi, hij, hjb, L1, L2, H1, H2⟩ := hrel
    have a0 : a ≤ i := by have := HM.out; have := HSd.out; omega
    have jm : j ≤ m := by have := HSd.out; omega
    by_cases hlt : i < j
    · have hlz : (i : Int) < (j : Int) := by omega
      obtain ⟨H, hH⟩ : ∃ H, H = (i + j) / 2 := ⟨_, rfl⟩
      have hHi : i ≤ H := by omega
      have hHj : H < j := by omega
      have e0 : ((i : Int) + (j : Int)) / 2 = (H : Int) := by omega
      have bd : m ≤ mid + m - 1 - H ∧ mid + m - 1 - H < b := by have := HM.out; have := HSd.out; omega
      obtain ⟨Q, hQ⟩ : ∃ Q, Q = mid + m - 1 - H := ⟨_, rfl⟩
      have e1 : ((mid : Int) + (m : Int) - 1 - (H : Int)).toNat = Q := by omega
      have i1 : (mid : Int) + (m : Int) - 1 - (H : Int) < (d.size : Int) := by omega
      have i0 : (0 : Int) ≤ (mid : Int) + (m : Int) - 1 - (H : Int) := by omega
      have i2 : (H : Int) < (d.size : Int) := by omega
      have hQd : Q < d.size := by omega
      have hHd : H < d.size := by omega
      have HH := Lib.hid hH
      have HQ := Lib.hid hQ
      have HB := Lib.hid bd
      clear hH hQ bd
      obtain ⟨ax, nx, kx, ay, ny, ky, ix, iy, c, cx, cx1, cy, cy1, HC, hcmp⟩ := H1.out.cmpAll (I := Q) (J := H) hQd hHd
      by_cases hc : c < 0
      · as_aux_lemma =>
          have hcd : decide (c < 0) = true := decide_eq_true hc
          go_wp2_with fail
          have q0 := fun q : Ext wr => Ext.cell cx q
          have q1 := fun q : Ext wr => Ext.cell cx1 q
          have q2 := fun q : Ext wr => Ext.cell cy q
          have q3 := fun q : Ext wr => Ext.cell cy1 q
          refine wp_region_ext (by kernel_rfl) (by kernel_rfl) ?_
          repeat (go_big_quiet_step ((go_at_call 50; exact quiet_ext (hcmp _))))
          refine wpQuiet_nil ?_
          intro w1 hw1
          have HG := Lib.hid (Ext.out hw1)
          clear hw1 q0 q1 q2 q3 cx cx1 cy cy1 hcmp
          go_wp2_with fail
          go_roundw
          case rel => exact ⟨i, H, rfl, by have := HH.out; go_num, hmi, hHi, by omega, L1, Lib.hid (fun k h1 h2 => pair_above swo_E S1.out S2.out (by omega) HB.out.2 (by rw [← HQ.out]; exact ltE_yes HC.out hc) k h1 (by omega) (by have := HM.out; have := HSd.out; omega)), Lib.hid (H1.out.gr HG.out), Lib.hid (H2.out.trans (chg_gr HG.out))⟩
          case measure => have := HH.out; simp [intOf]; omega
      · as_aux_lemma =>
          have hcd : decide (c < 0) = false := decide_eq_false hc
          go_wp2_with fail
          have q0 := fun q : Ext wr => Ext.cell cx q
          have q1 := fun q : Ext wr => Ext.cell cx1 q
          have q2 := fun q : Ext wr => Ext.cell cy q
          have q3 := fun q : Ext wr => Ext.cell cy1 q
          refine wp_region_ext (by kernel_rfl) (by kernel_rfl) ?_
          repeat (go_big_quiet_step ((go_at_call 50; exact quiet_ext (hcmp _))))
          refine wpQuiet_nil ?_
          intro w1 hw1
          have HG := Lib.hid (Ext.out hw1)
          clear hw1 q0 q1 q2 q3 cx cx1 cy cy1 hcmp
          go_wp2_with fail
          go_roundw
          case rel => exact ⟨H + 1, j, by have := HH.out; go_num, rfl, by omega, by omega, hjb, Lib.hid (fun k h1 h2 => pair_below swo_E S1.out S2.out (by omega) HB.out.1 (by rw [← HQ.out]; exact ltE_no HC.out (by omega)) k (by have := HM.out; have := HSd.out; omega) (by omega) (by have := HM.out; have := HSd.out; omega)), L2, Lib.hid (H1.out.gr HG.out), Lib.hid (H2.out.trans (chg_gr HG.out))⟩
          case measure => have := HH.out; simp [intOf]; omega
    · have hlz : ¬ (i : Int) < (j : Int) := by omega
      obtain rfl : i = j := by omega
      have im : i ≤ mid := by have := HM.out; have := HSd.out; omega
      have eb : m ≤ mid + m - i ∧ mid + m - i ≤ b := by have := HM.out; have := HSd.out; omega
      obtain ⟨E, hE⟩ : ∃ E, E = mid + m - i := ⟨_, rfl⟩
      have eE : (mid : Int) + (m : Int) - (i : Int) = (E : Int) := by omega
      have hhalf : ∀ d' : Array El, Rot m (m - i) (E - m) d d' → SortedIn ltE a i d' ∧ SortedIn ltE i mid d' ∧ SortedIn ltE mid E d' ∧ SortedIn ltE E b d' ∧ ∀ p q, a ≤ p → p < mid → mid ≤ q → q < b → ltE d'[q]! d'[p]! = false := fun d' hR => by
        have hsd := HSd.out
        rw [hE] at hR ⊢
        exact sym_halves swo_E S1.out S2.out ham hmb HM.out (by simp [hsd]) (r0 := m) (by simp [hsd]) hmi hjb L1.out L2.out hR
      have HHf := Lib.hid hhalf
      clear hhalf
      rw [← hE] at eb
      have HE := Lib.hid hE
      clear hE
      -- behind the rotation: the two halves
      have last : ∀ (w1 : World) (d1 : Array El), SA F g cap w1 d1 → Rot m (m - i) (E - m) d d1 → PermIn a b d d1 → Chg (fun k => k = g) w w1 → Half1 F g cap a i mid E b w d w1 d1 := fun w1 d1 q1 q2 q3 q4 =>
        have t := HHf.out d1 q2
        ⟨q1, q2.size, t.1, t.2.1, t.2.2.1, t.2.2.2.1, t.2.2.2.2, q3, q4⟩
      have LAST := Lib.hid last
      clear last
      go_upto_region 39 with fail
      go_cut [185] (fun s wx => s = .bool (bothB i m E) ∧ Hid (SA F g cap wx d) ∧ Hid (Chg (fun k => k = g) w wx))
      case first =>
        by_cases o1 : i < m
        · have o1z : (i : Int) < (m : Int) := by omega
          by_cases o2 : m < E
          · as_aux_lemma =>
              have o2z : (m : Int) < (E : Int) := by omega
              go_wp2_with fail
              go_meet
              exact ⟨by simp [bothB, o1, o2], H1, H2⟩
          · as_aux_lemma =>
              have o2z : ¬ (m : Int) < (E : Int) := by omega
              go_wp2_with fail
              go_meet
              exact ⟨by simp [bothB, o1, o2], H1, H2⟩
        · as_aux_lemma =>
            have o1z : ¬ (i : Int) < (m : Int) := by omega
            go_wp2_with fail
            go_meet
            exact ⟨by simp [bothB, o1], H1, H2⟩
      case' rest =>
        clear H1 H2
        obtain ⟨rfl, H1, H2⟩ := hcut
      go_upto_if 185 with fail
      go_cut [] (fun wx => ∃ d1, Hid (Half1 F g cap a i mid E b w d wx d1))
      case first =>
        cases hb : bothB i m E with
        | true => as_aux_lemma =>
          obtain ⟨o1, o2⟩ := bothB_yes hb
          go_wp2_with fail
          refine (std_rotate' H1.out hsz rfl rfl rfl o1 o2 (by omega) _).mono ?_
          rintro e w1 ⟨rfl, d1, k1, k2, k3, k4⟩
          have T := Lib.hid (LAST.out w1 d1 k1 k2 (permIn_mono _ _ _ _ _ _ a0 (by omega) hb0 k3) (H2.out.trans k4))
          clear k1 k2 k3 k4 LAST HHf H1 H2
          go_wp2_with fail
          go_meet
          exact ⟨d1, T⟩
        | false => as_aux_lemma =>
          have hno := bothB_no hb
          have hR : Rot m (m - i) (E - m) d d := by
            refine ⟨rfl, fun k => ?_⟩
            by_cases e : i = m
            · rw [e, Nat.sub_self, Nat.sub_zero]
              repeat' split
              all_goals first | rfl | (exfalso; omega) | (refine congrArg (fun z => d[z]!) ?_; omega)
            · have e' : E = m := by omega
              rw [e', Nat.sub_self]
              repeat' split
              all_goals first | rfl | (exfalso; omega) | (refine congrArg (fun z => d[z]!) ?_; omega)
          have T := Lib.hid (LAST.out _ d H1.out hR (permIn_refl _ _ _) H2.out)
          clear hR LAST HHf H1 H2 hno
          go_wp2_with fail
          go_meet
          exact ⟨d, T⟩
      case rest =>
        obtain ⟨d1, T⟩ := hcut
        clear H1 H2 LAST HHf
        obtain ⟨t0, hz, t1, t2, t3, t4, t5, t6, t7⟩ := T.out
        have H1 := Lib.hid t0
        have T1 := Lib.hid (And.intro t1 (And.intro t2 (And.intro t3 t4)))
        have T5 := Lib.hid t5
        have T6 := Lib.hid t6
        have H2 := Lib.hid t7
        clear t0 t1 t2 t3 t4 t5 t6 t7 T
        have left : ∀ (w2 : World) (d2 : Array El), SA F g cap w2 d2 → SortedIn ltE a mid d2 → PermIn a mid d1 d2 → Chg (fun k => k = g) w w2 → Half2 F g cap a mid E b w d w2 d2 := fun w2 d2 q1 q2 q3 q4 =>
          ⟨q1, q3.1.trans hz, q2, sorted_other T1.out.2.2.1 q3 (Or.inr (Nat.le_refl _)), sorted_other T1.out.2.2.2 q3 (Or.inr (by omega)), cross_left (by omega) q3 T5.out, permIn_trans _ _ _ _ _ T6.out (permIn_mono _ _ _ _ _ _ (Nat.le_refl _) (by omega) (by omega) q3), q4⟩
        have LEFT := Lib.hid left
        clear left
        go_upto_region 41 with fail
        go_cut [199] (fun s wx => s = .bool (bothB a i mid) ∧ Hid (SA F g cap wx d1) ∧ Hid (Chg (fun k => k = g) w wx))
        case first =>
          by_cases o1 : a < i
          · have o1z : (a : Int) < (i : Int) := by omega
            by_cases o2 : i < mid
            · as_aux_lemma =>
                have o2z : (i : Int) < (mid : Int) := by omega
                go_wp2_with fail
                go_meet
                exact ⟨by simp [bothB, o1, o2], H1, H2⟩
            · as_aux_lemma =>
                have o2z : ¬ (i : Int) < (mid : Int) := by omega
                go_wp2_with fail
                go_meet
                exact ⟨by simp [bothB, o1, o2], H1, H2⟩
          · as_aux_lemma =>
              have o1z : ¬ (a : Int) < (i : Int) := by omega
              go_wp2_with fail
              go_meet
              exact ⟨by simp [bothB, o1], H1, H2⟩
        case' rest =>
          clear H1 H2
          obtain ⟨rfl, H1, H2⟩ := hcut
        go_upto_if 199 with fail
        go_cut [] (fun wx => ∃ d2, Hid (Half2 F g cap a mid E b w d wx d2))
        case first =>
          cases hb : bothB a i mid with
          | true => as_aux_lemma =>
            obtain ⟨o1, o2⟩ := bothB_yes hb
            go_wp2_with fail
            rw [← hz]
            refine (MergeP.at IH.out rfl rfl rfl H1.out (by omega) (by omega) o1 o2 (by omega) T1.out.1 T1.out.2.1).mono ?_
            rintro e w2 ⟨rfl, d2, k1, k2, k3, k4⟩
            have U := Lib.hid (LEFT.out w2 d2 k1 k2 k3 (H2.out.trans k4))
            clear k1 k2 k3 k4 LEFT H1 T1 T5 T6 H2
            rw [hz]
            go_wp2_with fail
            go_meet
            exact ⟨d2, U⟩
          | false => as_aux_lemma =>
            have hno := bothB_no hb
            have U := Lib.hid (LEFT.out _ d1 H1.out (by
              by_cases e : i = a
              · rw [← e]; exact T1.out.2.1
              · have e' : i = mid := by omega
                rw [← e']; exact T1.out.1) (permIn_refl _ _ _) H2.out)
            clear LEFT H1 T1 T5 T6 H2 hno
            go_wp2_with fail
            go_meet
            exact ⟨d1, U⟩
        case rest =>
          obtain ⟨d2, U⟩ := hcut
          clear H1 H2 LEFT T1 T5 T6 hz
          obtain ⟨u0, hz, u2, u3, u4, u5, u6, u7⟩ := U.out
          have H1 := Lib.hid u0
          have V1 := Lib.hid u2
          have V2 := Lib.hid (And.intro u3 u4)
          have V4 := Lib.hid u5
          have V5 := Lib.hid u6
          have H2 := Lib.hid u7
          clear u0 u2 u3 u4 u5 u6 u7 U
          have right : ∀ (w3 : World) (d3 : Array El), SA F g cap w3 d3 → SortedIn ltE mid b d3 → PermIn mid b d2 d3 → Chg (fun k => k = g) w w3 → SA F g cap w3 d3 ∧ SortedIn ltE a b d3 ∧ PermIn a b d d3 ∧ Chg (fun k => k = g) w w3 := fun w3 d3 q1 q2 q3 q4 =>
            ⟨q1, sorted_join (sorted_other V1.out q3 (Or.inl (Nat.le_refl _))) q2 (cross_right (by omega) q3 V4.out), permIn_trans _ _ _ _ _ V5.out (permIn_mono _ _ _ _ _ _ (by omega) (Nat.le_refl _) (by omega) q3), q4⟩
          have RIGHT := Lib.hid right
          clear right
          go_upto_region 43 with fail
          go_cut [213] (fun s wx => s = .bool (bothB mid E b) ∧ Hid (SA F g cap wx d2) ∧ Hid (Chg (fun k => k = g) w wx))
          case first =>
            by_cases o1 : mid < E
            · have o1z : (mid : Int) < (E : Int) := by omega
              by_cases o2 : E < b
              · as_aux_lemma =>
                  have o2z : (E : Int) < (b : Int) := by omega
                  go_wp2_with fail
                  go_meet
                  exact ⟨by simp [bothB, o1, o2], H1, H2⟩
              · as_aux_lemma =>
                  have o2z : ¬ (E : Int) < (b : Int) := by omega
                  go_wp2_with fail
                  go_meet
                  exact ⟨by simp [bothB, o1, o2], H1, H2⟩
            · as_aux_lemma =>
                have o1z : ¬ (mid : Int) < (E : Int) := by omega
                go_wp2_with fail
                go_meet
                exact ⟨by simp [bothB, o1], H1, H2⟩
          case' rest =>
            clear H1 H2
            obtain ⟨rfl, H1, H2⟩ := hcut
          cases hb : bothB mid E b with
          | true => as_aux_lemma =>
            obtain ⟨o1, o2⟩ := bothB_yes hb
            go_wp2_with fail
            rw [← hz]
            refine (MergeP.at IH.out rfl rfl rfl H1.out (by omega) (by omega) o1 o2 (by omega) V2.out.1 V2.out.2).mono ?_
            rintro e w3 ⟨rfl, d3, k1, k2, k3, k4⟩
            have UU := Lib.hid (RIGHT.out w3 d3 k1 k2 k3 (H2.out.trans k4))
            clear k1 k2 k3 k4 RIGHT H1 V1 V2 V4 V5 H2
            go_wp2_with fail
            go_end0
            exact ⟨rfl, d3, UU.out⟩
          | false => as_aux_lemma =>
            have hno := bothB_no hb
            have UU := Lib.hid (RIGHT.out _ d2 H1.out (by
              by_cases e : E = mid
              · rw [← e]; exact V2.out.2
              · have e' : E = b := by omega
                rw [← e']; exact V2.out.1) (permIn_refl _ _ _) H2.out)
            clear RIGHT H1 V1 V2 V4 V5 H2 hno
            go_wp2_with fail
            go_end0
            exact ⟨rfl, d2, UU.out⟩
end Go.Proofs.YtcdcpfcmhmhdjaaGreatDoor

/- The library's stable sort at rows, step by step: the merge in place, together. (Printed by gen_symm.py.) -/
namespace Go.Proofs.YtcdcpfcmhmhdjaaGreatDoor
open Go.RowKit Go.Sort Go.ChangeShapes Go.WideShapes Go.Deep
theorem std_mergeP (K : Nat) : MergeP K := by
  induction K using Nat.strongRecOn with
  | ind K ih =>
    intro F g cap w d a m b h hsz hK ham hmb hb s1 s2
    by_cases hA : m = a + 1
    · exact merge_left K ih F g cap w d a m b h hsz hK ham hmb hb s1 s2 hA
    · by_cases hB : b = m + 1
      · exact merge_right K ih F g cap w d a m b h hsz hK ham hmb hb s1 s2 hA hB
      · by_cases hm : (a + b) / 2 < m
        · exact merge_hi K ih F g cap w d a m b h hsz hK ham hmb hb s1 s2 hA hB _ rfl hm
        · exact merge_lo K ih F g cap w d a m b h hsz hK ham hmb hb s1 s2 hA hB _ rfl hm
end Go.Proofs.YtcdcpfcmhmhdjaaGreatDoor

/- The library's stable sort at rows, step by step: blocks of twenty, merged two by two. -/
namespace Go.Proofs.YtcdcpfcmhmhdjaaGreatDoor
open Go.RowKit Go.Sort Go.ChangeShapes Go.WideShapes Go.Deep
variable {F : Nat → Prop} {g cap : Nat} {w w' : World} {d : Array El}
theorem Blocked.stepA {s q y A : Nat} {d d' : Array El} (hA : A = q * s) (h : Blocked ltE s q d) (hp : PermIn A y d d') (hs : SortedIn ltE A (A + s) d') : Blocked ltE s (q + 1) d' := by subst hA; exact h.step hp hs
theorem Blocked.allA {s q n A : Nat} {d d' : Array El} (hA : A = q * s) (h : Blocked ltE s q d) (hn : A ≤ n) (hn' : n ≤ A + s) (hp : PermIn A n d d') (hs : SortedIn ltE A n d') : Blocks ltE s n d' := by subst hA; exact h.all hn hn' hp hs
theorem Merged.leftA {s q n A : Nat} {d : Array El} (hA : A = q * (2 * s)) (h : Merged ltE s q n d) (hn : A + s ≤ n) : SortedIn ltE A (A + s) d := by subst hA; exact h.left hn
theorem Merged.rightA {s q n A : Nat} {d : Array El} (hA : A = q * (2 * s)) (h : Merged ltE s q n d) (hn : A + 2 * s ≤ n) : SortedIn ltE (A + s) (A + 2 * s) d := by subst hA; exact h.right hn
theorem Merged.lastA {s q n A : Nat} {d : Array El} (hA : A = q * (2 * s)) (h : Merged ltE s q n d) (hn : n ≤ A + 2 * s) : SortedIn ltE (A + s) n d := by subst hA; exact h.last hn
theorem Merged.loneA {s q n A : Nat} {d : Array El} (hA : A = q * (2 * s)) (h : Merged ltE s q n d) (hn : n ≤ A + s) : SortedIn ltE A n d := by subst hA; exact h.lone hn
theorem Merged.stepA {s q n A : Nat} {d d' : Array El} (hA : A = q * (2 * s)) (h : Merged ltE s q n d) (hp : PermIn A (A + 2 * s) d d') (hs : SortedIn ltE A (A + 2 * s) d') : Merged ltE s (q + 1) n d' := by subst hA; exact h.step hp hs
theorem Merged.doneA {s q n A : Nat} {d d' : Array El} (hA : A = q * (2 * s)) (h : Merged ltE s q n d) (hn : A ≤ n) (hn' : n ≤ A + 2 * s) (hp : PermIn A n d d') (hs : SortedIn ltE A n d') : Blocks ltE (2 * s) n d' := by subst hA; exact h.done hn hn' hp hs
theorem next_A {s q A : Nat} (hA : A = q * (2 * s)) : A + 2 * s = (q + 1) * (2 * s) := by rw [hA, Nat.add_mul, Nat.one_mul]
theorem std_insertion' (h : SA F g cap w d) (hsz : d.size ≤ 1048576) {a b : Nat} {A B : Int} (hA : A = a) (hB : B = b) (hab : a ≤ b) (hb : b ≤ d.size) :
    Calls Tryz.prog 88 #[.slice (some ⟨g, 0, none⟩) d.size cap, .int .i64 A, .int .i64 B, .func (.func 50) #[] #[]] w fun e w' =>
      e = .returned (.tuple #[]) ∧ ∃ d', SA F g cap w' d' ∧ SortedIn ltE a b d' ∧ PermIn a b d d' ∧ Chg (fun k => k = g) w w' := by
  subst hA hB; exact std_insertion h hsz hab hb
theorem std_merge {a m b : Nat} {A M B : Int} (hA : A = a) (hM : M = m) (hB : B = b) (h : SA F g cap w d) (hsz : d.size ≤ 1048576) (ham : a < m) (hmb : m < b) (hb : b ≤ d.size) (s1 : SortedIn ltE a m d) (s2 : SortedIn ltE m b d) :
    Calls Tryz.prog 89 #[.slice (some ⟨g, 0, none⟩) d.size cap, .int .i64 A, .int .i64 M, .int .i64 B, .func (.func 50) #[] #[]] w fun e w' =>
      e = .returned (.tuple #[]) ∧ ∃ d', SA F g cap w' d' ∧ SortedIn ltE a b d' ∧ PermIn a b d d' ∧ Chg (fun k => k = g) w w' :=
  MergeP.at (K := b - a + 1) (fun k _ => std_mergeP k) hA hM hB h hsz (by omega) ham hmb hb s1 s2
set_option maxRecDepth 100000 in
set_option maxHeartbeats 4000000 in
theorem std_stable (h : SA F g cap w d) (hsz : d.size ≤ 1048576) :
    Calls Tryz.prog 73 #[.slice (some ⟨g, 0, none⟩) d.size cap, .int .i64 d.size, .func (.func 50) #[] #[]] w fun e w' =>
      e = .returned (.tuple #[]) ∧ ∃ d', SA F g cap w' d' ∧ SortedIn ltE 0 d.size d' ∧ PermIn 0 d.size d d' ∧ Chg (fun k => k = g) w w' := by
  have HS := Lib.hid h
  clear h
  go_enter Tryz.func73, Tryz.ntmps73
  go_wp2_with fail
  go_loopw [7, 8] (fun va vb wr => ∃ (q A : Nat) (d1 : Array El), Hid (A = q * 20) ∧ va = .int .i64 (A : Int) ∧ vb = .int .i64 ((A : Int) + 20) ∧ A ≤ d.size ∧ d1.size = d.size ∧ Hid (SA F g cap wr d1) ∧ Hid (Blocked ltE 20 q d1) ∧ Hid (PermIn 0 d.size d d1) ∧ Hid (Chg (fun k => k = g) w wr)) (fun va _ _ => d.size - (intOf va).toNat)
  case atStart => exact ⟨0, 0, d, Lib.hid rfl, rfl, rfl, Nat.zero_le _, rfl, HS, Lib.hid (Blocked.zero _ _), Lib.hid (permIn_refl _ _ _), Lib.hid (Chg.refl _ _)⟩
  case round =>
    obtain ⟨q, A, d1, HA, rfl, rfl, hAn, hz, H1, H2, H3, H4⟩ := hrel
    by_cases hlt : A + 20 ≤ d.size
    · have hlz : (A : Int) + 20 ≤ (d.size : Int) := by omega
      go_wp2_with fail
      rw [← hz]
      refine (std_insertion' (a := A) (b := A + 20) H1.out (by omega) rfl (by omega) (by omega) (by omega)).mono ?_
      rintro e w1 ⟨rfl, d2, k1, k2, k3, k4⟩
      have hz2 : d2.size = d.size := k3.1.trans hz
      have K1 := Lib.hid k1
      have K2 := Lib.hid (H2.out.stepA HA.out k3 k2)
      have K3 := Lib.hid (permIn_trans _ _ _ _ _ H3.out (permIn_mono _ _ _ _ _ _ (Nat.zero_le _) (by omega) (by omega) k3))
      have K4 := Lib.hid (H4.out.trans k4)
      clear k1 k2 k3 k4 H1 H2 H3 H4
      rw [hz]
      go_wp2_with fail
      go_roundw
      case rel => exact ⟨q + 1, A + 20, d2, Lib.hid (by have := HA.out; omega), by go_num, by go_num, hlt, hz2, K1, K2, K3, K4⟩
      case measure => simp [intOf]; omega
    · have hlz : ¬ (A : Int) + 20 ≤ (d.size : Int) := by omega
      obtain ⟨W1, hW1⟩ : ∃ W1, W1 = wr := ⟨_, rfl⟩
      rw [← hW1]; rw [← hW1] at H1 H4; clear hW1
      go_wp2_with fail
      rw [← hz]
      refine (std_insertion' (a := A) (b := d1.size) H1.out (by omega) rfl rfl (by omega) (by omega)).mono ?_
      rintro e w1 ⟨rfl, d2, k1, k2, k3, k4⟩
      rw [hz] at k2 k3
      have hz2 : d2.size = d.size := k3.1.trans hz
      have K1 := Lib.hid k1
      have K2 := Lib.hid (H2.out.allA HA.out hAn (by omega) k3 k2)
      have K3 := Lib.hid (permIn_trans _ _ _ _ _ H3.out (permIn_mono _ _ _ _ _ _ (Nat.zero_le _) (by omega) (by omega) k3))
      have K4 := Lib.hid (H4.out.trans k4)
      clear k1 k2 k3 k4 H1 H2 H3 H4
      rw [hz]
      go_wp2_with fail
      go_loopw [6, 7, 8] (fun vs va vb wr => ∃ (s : Nat) (x y : Int) (d3 : Array El), vs = .int .i64 (s : Int) ∧ va = .int .i64 x ∧ vb = .int .i64 y ∧ 0 < s ∧ s ≤ 2097152 ∧ d3.size = d.size ∧ Hid (SA F g cap wr d3) ∧ Hid (Blocks ltE s d.size d3) ∧ Hid (PermIn 0 d.size d d3) ∧ Hid (Chg (fun k => k = g) w wr)) (fun vs _ _ _ => d.size - (intOf vs).toNat)
      case atStart => exact ⟨20, _, _, d2, rfl, rfl, rfl, by omega, by omega, hz2, K1, K2, K3, K4⟩
      case round =>
        obtain ⟨s, x, y, d3, rfl, rfl, rfl, hs0, hs1, hz3, T1, T2, T3, T4⟩ := hrel
        clear K1 K2 K3 K4 HA hAn hlt hlz hz hz2
        by_cases hls : s < d.size
        · have hlsz : (s : Int) < (d.size : Int) := by omega
          obtain ⟨W2, hW2⟩ : ∃ W2, W2 = wr := ⟨_, rfl⟩
          rw [← hW2]; rw [← hW2] at T1 T4; clear hW2
          go_wp2_with fail
          go_loopw [7, 8] (fun va vb wr => ∃ (q A : Nat) (d4 : Array El), Hid (A = q * (2 * s)) ∧ va = .int .i64 (A : Int) ∧ vb = .int .i64 ((A : Int) + 2 * (s : Int)) ∧ A ≤ d.size ∧ d4.size = d.size ∧ Hid (SA F g cap wr d4) ∧ Hid (Merged ltE s q d.size d4) ∧ Hid (PermIn 0 d.size d d4) ∧ Hid (Chg (fun k => k = g) w wr)) (fun va _ _ => d.size - (intOf va).toNat)
          case atStart => exact ⟨0, 0, d3, Lib.hid (by omega), rfl, by go_num, Nat.zero_le _, hz3, T1, Lib.hid (Merged.start T2.out), T3, T4⟩
          case round =>
            obtain ⟨q, A, d4, HA, rfl, rfl, hAn, hz4, U1, U2, U3, U4⟩ := hrel
            clear T1 T2 T3 T4
            by_cases hlt : A + 2 * s ≤ d.size
            · have hlz : (A : Int) + 2 * (s : Int) ≤ (d.size : Int) := by omega
              go_wp2_with fail
              rw [← hz4]
              refine (std_merge (a := A) (m := A + s) (b := A + 2 * s) rfl (by omega) (by omega) U1.out (by omega) (by omega) (by omega) (by omega) (U2.out.leftA HA.out (by omega)) (U2.out.rightA HA.out hlt)).mono ?_
              rintro e w1 ⟨rfl, d5, k1, k2, k3, k4⟩
              have hz5 : d5.size = d.size := k3.1.trans hz4
              have K1 := Lib.hid k1
              have K2 := Lib.hid (U2.out.stepA HA.out k3 k2)
              have K3 := Lib.hid (permIn_trans _ _ _ _ _ U3.out (permIn_mono _ _ _ _ _ _ (Nat.zero_le _) (by omega) (by omega) k3))
              have K4 := Lib.hid (U4.out.trans k4)
              clear k1 k2 k3 k4 U1 U2 U3 U4
              rw [hz4]
              go_wp2_with fail
              go_roundw
              case rel => exact ⟨q + 1, A + 2 * s, d5, Lib.hid (next_A HA.out), by go_num, by go_num, hlt, hz5, K1, K2, K3, K4⟩
              case measure => simp [intOf]; omega
            · have hlz : ¬ (A : Int) + 2 * (s : Int) ≤ (d.size : Int) := by omega
              by_cases hm : A + s < d.size
              · have hmz : (A : Int) + (s : Int) < (d.size : Int) := by omega
                go_wp2_with fail
                rw [← hz4]
                refine (std_merge (a := A) (m := A + s) (b := d4.size) rfl (by omega) rfl U1.out (by omega) (by omega) (by omega) (by omega) (U2.out.leftA HA.out (by omega)) (by rw [hz4]; exact U2.out.lastA HA.out (by omega))).mono ?_
                rintro e w1 ⟨rfl, d5, k1, k2, k3, k4⟩
                rw [hz4] at k2 k3
                have hz5 : d5.size = d.size := k3.1.trans hz4
                have K1 := Lib.hid k1
                have K2 := Lib.hid (U2.out.doneA HA.out hAn (by omega) k3 k2)
                have K3 := Lib.hid (permIn_trans _ _ _ _ _ U3.out (permIn_mono _ _ _ _ _ _ (Nat.zero_le _) (by omega) (by omega) k3))
                have K4 := Lib.hid (U4.out.trans k4)
                clear k1 k2 k3 k4 U1 U2 U3 U4
                rw [hz4]
                go_wp2_with fail
                go_roundw
                case rel => exact ⟨2 * s, _, _, d5, by go_num, rfl, rfl, by omega, by omega, hz5, K1, K2, K3, K4⟩
                case measure => simp [intOf]; omega
              · have hmz : ¬ (A : Int) + (s : Int) < (d.size : Int) := by omega
                have K2 := Lib.hid (U2.out.doneA HA.out hAn (by omega) (permIn_refl _ _ _) (U2.out.loneA HA.out (by omega)))
                go_wp2_with fail
                go_roundw
                case rel => exact ⟨2 * s, _, _, d4, by go_num, rfl, rfl, by omega, by omega, hz4, U1, K2, U3, U4⟩
                case measure => simp [intOf]; omega
        · have hlsz : ¬ (s : Int) < (d.size : Int) := by omega
          go_wp2_with fail
          go_end0
          exact ⟨rfl, d3, T1.out, T2.out.sorted (by omega), T3.out, T4.out⟩
end Go.Proofs.YtcdcpfcmhmhdjaaGreatDoor

/- Rows copied, on both sides. -/
namespace Go.Proofs.YtcdcpfcmhmhdjaaGreatDoor
open Go.ChangeShapes Go.WideShapes Go.RowKit Go.Deep
set_option maxRecDepth 100000 in
set_option maxHeartbeats 1000000 in
theorem impl_copyRow (r : DRow) (u : Value) (w : World) (hu : RInts w u r.vals) (hb : r.vals.length ≤ 4294967296) :
    Calls Tryz.prog 72 #[.agg #[.int .i64 r.id, u]] w fun e w' => ∃ u', e = .returned (.agg #[.int .i64 r.id, u']) ∧ Gr w w' ∧ PInts (In w.heap.size w'.heap.size) w' u' r.vals := by
  obtain ⟨id, vals⟩ := r
  dsimp only at *
  obtain ⟨ua, uc, rfl⟩ := hu.form
  have HU := Lib.hid hu
  have HB := Lib.hid hb
  clear hu hb
  go_enter Tryz.func72, Tryz.ntmps72
  go_wp2
  obtain ⟨W, hW⟩ : ∃ W, W = ((w.alloc (.cells #[.int .i64 id, .slice ua vals.length uc] 36)).alloc (.cells #[.int .i64 0, .slice none 0 0] 36)).drew := ⟨_, rfl⟩
  have gw : Gr w W := by rw [hW]; exact (((Gr.refl w).alloc _).alloc _).drew
  have hz : w.heap.size + 1 + 1 = W.heap.size := by rw [hW]; show w.heap.size + 1 + 1 = ((w.alloc _).alloc _).heap.size; simp
  have c0 : W.cell? ⟨w.heap.size, 0, none⟩ = some (.int .i64 id) := by rw [hW]; show ((w.alloc _).alloc _).cell? _ = _; simp [go_sem]
  have c1 : W.cell? ⟨w.heap.size, 1, none⟩ = some (.slice ua vals.length uc) := by rw [hW]; show ((w.alloc _).alloc _).cell? _ = _; simp [go_sem]
  have d0 : W.cell? ⟨w.heap.size + 1, 0, none⟩ = some (.int .i64 0) := by rw [hW]; show ((w.alloc _).alloc _).cell? _ = _; simp [go_sem]
  have d1 : W.cell? ⟨w.heap.size + 1, 1, none⟩ = some (.slice none 0 0) := by rw [hW]; show ((w.alloc _).alloc _).cell? _ = _; simp [go_sem]
  have e0 : W.frozen? ⟨w.heap.size + 1, 0, none⟩ = false := by rw [hW]; show ((w.alloc _).alloc _).frozen? _ = _; simp [go_sem]
  have e1 : W.frozen? ⟨w.heap.size + 1, 1, none⟩ = false := by rw [hW]; show ((w.alloc _).alloc _).frozen? _ = _; simp [go_sem]
  refine wp_region_G (S := fun w' => w'.cell? ⟨w.heap.size, 0, none⟩ = some (.int .i64 id) ∧ w'.cell? ⟨w.heap.size, 1, none⟩ = some (.slice ua vals.length uc)) (m := 6) (by kernel_rfl) ?_
  rw [← hW]
  clear hW
  have hS : (fun w' : World => w'.cell? ⟨w.heap.size, 0, none⟩ = some (.int .i64 id) ∧ w'.cell? ⟨w.heap.size, 1, none⟩ = some (.slice ua vals.length uc)) W := ⟨c0, c1⟩
  refine wpAnyG_take (i := 0) (v := ?v0) hS rfl (by kernel_rfl) (by kernel_rfl) (by kernel_rfl) (by kernel_rfl) (fun _ _ _ h => h) (Or.inl ⟨by rfl, ?hy0⟩) ?rest0
  case hy0 => (intro w' hw'; (try dsimp only at hw'); go_simp; try with_reducible rfl)
  try simp only [Act.put]
  refine wpAnyG_take (i := 1) (v := ?v1) hS rfl (by kernel_rfl) (by kernel_rfl) (by kernel_rfl) (by kernel_rfl) (fun _ _ _ h => h) (Or.inl ⟨by rfl, ?hy1⟩) ?rest1
  case hy1 => (intro w' hw'; (try dsimp only at hw'); go_simp; try with_reducible rfl)
  try simp only [Act.put]
  refine wpAnyG_take (i := 2) (v := ?v2) hS rfl (by kernel_rfl) (by kernel_rfl) (by kernel_rfl) (by kernel_rfl) (fun _ _ _ h => h) (Or.inl ⟨by rfl, ?hy2⟩) ?rest2
  case hy2 => (intro w' hw'; (try dsimp only at hw'); go_simp; try with_reducible rfl)
  try simp only [Act.put]
  refine wpAnyG_take (i := 3) (v := ?v3) hS rfl (by kernel_rfl) (by kernel_rfl) (by kernel_rfl) (by kernel_rfl) (fun _ _ _ h => h) (Or.inl ⟨by rfl, ?hy3⟩) ?rest3
  case hy3 => (intro w' hw'; (try dsimp only at hw'); go_simp; try with_reducible rfl)
  try simp only [Act.put]
  refine wpAnyG_one (i := 4) rfl (by kernel_rfl) (fun K4 hK4 => ?_)
  go_simp
  refine (impl_copyInts _ vals _ (HU.out.mono gw) HB.out).mono ?_
  rintro e w3 ⟨v3, rfl, g3, hp3⟩
  obtain ⟨pa, pc, rfl⟩ := (rd_pints hp3).form
  replace c0 := g3.cellv c0
  replace c1 := g3.cellv c1
  replace d0 := g3.cellv d0
  replace d1 := g3.cellv d1
  replace e0 := (g3.frozen (p := ⟨w.heap.size + 1, 0, none⟩) (by dsimp only; omega)).trans e0
  replace e1 := (g3.frozen (p := ⟨w.heap.size + 1, 1, none⟩) (by dsimp only; omega)).trans e1
  have GW := Lib.hid (gw.trans g3)
  have HP := Lib.hid (hp3.wide (lo' := w.heap.size + 1 + 1) (hi' := w3.heap.size) (by omega) (Nat.le_refl _))
  have hz3 : w.heap.size + 1 + 1 ≤ w3.heap.size := by have := g3.size; omega
  go_simp
  refine hK4.out _ _ (fun _ => ⟨c0, c1⟩) ?_
  clear hK4 K4 hS hp3 g3 gw hz
  try simp only [Act.put]
  refine wpAnyG_one (i := 5) rfl (by kernel_rfl) (fun K5 hK5 => ?_)
  go_simp
  refine hK5.out _ _ (fun _ => ⟨c0, c1⟩) ?_
  clear hK5 K5
  try simp only [Act.put]
  refine wpAnyG_one (i := 6) rfl (by kernel_rfl) (fun K6 hK6 => ?_)
  go_simp
  refine hK6.out _ _ (fun h => absurd rfl h) ?_
  clear hK6 K6
  try simp only [Act.put]
  refine wpAnyG_done (by kernel_rfl) ?_ _
  go_wp2_with fail
  refine bodyPost_ret (v := .agg #[.int .i64 id, .slice pa vals.length pc]) (by simp [results, Tryz.results72, go_sem, *]) rfl ⟨_, rfl, (by repeat' (first | with_reducible exact GW.out | with_reducible refine Gr.setCell ?_ ?_ _ | (dsimp only; omega))), ?_⟩
  exact (HP.out.loc (lo' := w.heap.size + 1 + 1) fr_int (by repeat' (first | with_reducible exact Loc.refl _ _ | with_reducible refine Loc.setCell ?_ ?_ _ | (dsimp only; omega))) (Nat.le_refl _)).wide (by omega) (by simp [World.setCell])
set_option maxRecDepth 100000 in
set_option maxHeartbeats 1000000 in
theorem spec_l3Copy (r : DRow) (u : Value) (w : World) (hu : RInts w u r.vals) (hb : r.vals.length ≤ 4294967296) :
    Calls Tryz.prog 26 #[.agg #[.int .i64 r.id, u]] w fun e w' => ∃ u', e = .returned (.agg #[.int .i64 r.id, u']) ∧ Gr w w' ∧ PInts (In w.heap.size w'.heap.size) w' u' r.vals := by
  obtain ⟨id, vals⟩ := r
  dsimp only at *
  obtain ⟨ua, uc, rfl, hsrc, hii⟩ := ints_src hu
  have HU := Lib.hid hsrc
  have HII := Lib.hid hii
  have HB := Lib.hid hb
  clear hu hb hsrc hii
  go_enter Tryz.func26, Tryz.ntmps26
  go_wp2
  obtain ⟨W, hW⟩ : ∃ W, W = ((w.alloc (.cells #[.int .i64 id, .slice ua vals.length uc] 36)).alloc (.cells #[.int .i64 0, .slice none 0 0] 36)).drew := ⟨_, rfl⟩
  have gw : Gr w W := by rw [hW]; exact (((Gr.refl w).alloc _).alloc _).drew
  have hz : w.heap.size + 1 + 1 = W.heap.size := by rw [hW]; show w.heap.size + 1 + 1 = ((w.alloc _).alloc _).heap.size; simp
  have c0 : W.cell? ⟨w.heap.size, 0, none⟩ = some (.int .i64 id) := by rw [hW]; show ((w.alloc _).alloc _).cell? _ = _; simp [go_sem]
  have c1 : W.cell? ⟨w.heap.size, 1, none⟩ = some (.slice ua vals.length uc) := by rw [hW]; show ((w.alloc _).alloc _).cell? _ = _; simp [go_sem]
  have d0 : W.cell? ⟨w.heap.size + 1, 0, none⟩ = some (.int .i64 0) := by rw [hW]; show ((w.alloc _).alloc _).cell? _ = _; simp [go_sem]
  have d1 : W.cell? ⟨w.heap.size + 1, 1, none⟩ = some (.slice none 0 0) := by rw [hW]; show ((w.alloc _).alloc _).cell? _ = _; simp [go_sem]
  have e0 : W.frozen? ⟨w.heap.size + 1, 0, none⟩ = false := by rw [hW]; show ((w.alloc _).alloc _).frozen? _ = _; simp [go_sem]
  have e1 : W.frozen? ⟨w.heap.size + 1, 1, none⟩ = false := by rw [hW]; show ((w.alloc _).alloc _).frozen? _ = _; simp [go_sem]
  have HSRC : Hid (SrcAt W ua (vals.map (Value.int .i64))) := Lib.hid (by
    rcases HU.out with h | ⟨b, off, h1, h2⟩
    · exact Or.inl h
    · exact Or.inr ⟨b, off, h1, fun j u hj => gw.cellv (h2 j u hj)⟩)
  refine wp_region_G (S := fun w' => w'.cell? ⟨w.heap.size, 0, none⟩ = some (.int .i64 id) ∧ w'.cell? ⟨w.heap.size, 1, none⟩ = some (.slice ua vals.length uc)) (m := 7) (by kernel_rfl) ?_
  rw [← hW]
  clear hW
  have hS : (fun w' : World => w'.cell? ⟨w.heap.size, 0, none⟩ = some (.int .i64 id) ∧ w'.cell? ⟨w.heap.size, 1, none⟩ = some (.slice ua vals.length uc)) W := ⟨c0, c1⟩
  refine wpAnyG_take (i := 0) (v := ?v0) hS rfl (by kernel_rfl) (by kernel_rfl) (by kernel_rfl) (by kernel_rfl) (fun _ _ _ h => h) (Or.inl ⟨by rfl, ?hy0⟩) ?rest0
  case hy0 => (intro w' hw'; (try dsimp only at hw'); go_simp; try with_reducible rfl)
  try simp only [Act.put]
  refine wpAnyG_take (i := 1) (v := ?v1) hS rfl (by kernel_rfl) (by kernel_rfl) (by kernel_rfl) (by kernel_rfl) (fun _ _ _ h => h) (Or.inl ⟨by rfl, ?hy1⟩) ?rest1
  case hy1 => (intro w' hw'; (try dsimp only at hw'); go_simp; try with_reducible rfl)
  try simp only [Act.put]
  refine wpAnyG_take (i := 3) (v := ?v2) hS rfl (by kernel_rfl) (by kernel_rfl) (by kernel_rfl) (by kernel_rfl) (fun _ _ _ h => h) (Or.inl ⟨by rfl, ?hy2⟩) ?rest2
  case hy2 => (intro w' hw'; (try dsimp only at hw'); go_simp; try with_reducible rfl)
  try simp only [Act.put]
  refine wpAnyG_take (i := 4) (v := ?v3) hS rfl (by kernel_rfl) (by kernel_rfl) (by kernel_rfl) (by kernel_rfl) (fun _ _ _ h => h) (Or.inl ⟨by rfl, ?hy3⟩) ?rest3
  case hy3 => (intro w' hw'; (try dsimp only at hw'); go_simp; try with_reducible rfl)
  try simp only [Act.put]
  refine wpAnyG_one (i := 2) rfl (by kernel_rfl) (fun K4 hK4 => ?_)
  go_simp
  have ga : Gr W (W.alloc (.cells #[] 3)) := (Gr.refl _).alloc _
  refine hK4.out _ _ (fun _ => ⟨ga.cellv c0, ga.cellv c1⟩) ?_
  clear hK4 K4
  try simp only [Act.put]
  refine wpAnyG_one (i := 5) rfl (by kernel_rfl) (fun K5 hK5 => ?_)
  refine step_copy_i (wr := W) rfl _ _ rfl (ys := vals) (by first | rfl | (rw [hz]; rfl) | (simp only [hz]; rfl)) rfl (by first | exact Or.inl rfl | exact Or.inr rfl) HSRC.out HII.out HB.out ?_
  intro pa pc w3 hown3 g3
  replace c0 := g3.cellv c0
  replace c1 := g3.cellv c1
  replace d0 := g3.cellv d0
  replace d1 := g3.cellv d1
  replace e0 := (g3.frozen (p := ⟨w.heap.size + 1, 0, none⟩) (by dsimp only; omega)).trans e0
  replace e1 := (g3.frozen (p := ⟨w.heap.size + 1, 1, none⟩) (by dsimp only; omega)).trans e1
  have GW := Lib.hid (gw.trans g3)
  have HP := Lib.hid (hown3.priv.wide (lo' := w.heap.size + 1 + 1) (hi' := w3.heap.size) (by omega) (Nat.le_refl _))
  have hz3 : w.heap.size + 1 + 1 ≤ w3.heap.size := by have := g3.size; omega
  refine hK5.out _ _ (fun _ => ⟨c0, c1⟩) ?_
  clear hK5 K5 hS hown3 g3 gw hz ga HSRC
  try simp only [Act.put]
  refine wpAnyG_one (i := 6) rfl (by kernel_rfl) (fun K5 hK5 => ?_)
  go_simp
  refine hK5.out _ _ (fun _ => ⟨c0, c1⟩) ?_
  clear hK5 K5
  try simp only [Act.put]
  refine wpAnyG_one (i := 7) rfl (by kernel_rfl) (fun K6 hK6 => ?_)
  go_simp
  refine hK6.out _ _ (fun h => absurd rfl h) ?_
  clear hK6 K6
  try simp only [Act.put]
  refine wpAnyG_done (by kernel_rfl) ?_ _
  go_wp2_with fail
  refine bodyPost_ret (v := .agg #[.int .i64 id, .slice pa vals.length pc]) (by simp [results, Tryz.results26, go_sem, *]) rfl ⟨_, rfl, (by repeat' (first | with_reducible exact GW.out | with_reducible refine Gr.setCell ?_ ?_ _ | (dsimp only; omega))), ?_⟩
  exact (HP.out.loc (lo' := w.heap.size + 1 + 1) fr_int (by repeat' (first | with_reducible exact Loc.refl _ _ | with_reducible refine Loc.setCell ?_ ?_ _ | (dsimp only; omega))) (Nat.le_refl _)).wide (by omega) (by simp [World.setCell])
def rTo (xs : List DRow) (k : Nat) : List DRow := xs.take k
theorem rTo_succ {xs : List DRow} {k : Nat} (h : k < xs.length) : rTo xs (k + 1) = rTo xs k ++ [xs[k]] := List.take_succ_eq_append_getElem h
theorem rTo_len {xs : List DRow} {k : Nat} (h : k ≤ xs.length) : (rTo xs k).length = k := by unfold rTo; rw [List.length_take]; omega
theorem rTo_all (xs : List DRow) : rTo xs xs.length = xs := List.take_length
set_option maxRecDepth 100000 in
set_option maxHeartbeats 1000000 in
theorem impl_copyRows (v : Value) (xs : List DRow) (w : World) (hv : RRows w v xs) (hb : totL totRow xs ≤ 4294967296) :
    Calls Tryz.prog 48 #[v] w fun e w' => ∃ u, e = .returned u ∧ Gr w w' ∧ PRows (In w.heap.size w'.heap.size) w' u xs := by
  have hbs : xs.length ≤ 4294967296 ∧ ∀ k (h : k < xs.length), xs[k].vals.length ≤ 4294967296 := by
    refine ⟨by unfold totL at hb; omega, fun k h => ?_⟩
    have h2 := sumT_mem totRow xs k h
    unfold totL at hb
    simp only [totRow] at h2
    omega
  have HBS := Lib.hid hbs
  clear hbs
  obtain ⟨a, cap, rfl, hl, hm, hx3⟩ := hv
  have g0 : Gr w (w.alloc (.cells #[] 36)) := (Gr.refl w).alloc _
  have HST : Hid (PRows (In w.heap.size (w.alloc (.cells #[] 36)).heap.size) (w.alloc (.cells #[] 36)) (.slice (some ⟨w.heap.size, 0, none⟩) 0 0) (rTo xs 0)) := Lib.hid (OSl.made w ⟨Nat.le_refl _, by simp⟩)
  go_enter Tryz.func48, Tryz.ntmps48
  go_wp2
  go_loopw [3, 9] (fun out i wr => ∃ (k : Nat) (b : Option Addr) (c : Nat), k ≤ xs.length ∧ i = .int .i64 k ∧ out = .slice b (rTo xs k).length c ∧ Hid (PRows (In w.heap.size wr.heap.size) wr out (rTo xs k)) ∧ Gr w wr) (fun _ i _ => xs.length - (intOf i).toNat)
  case atStart => exact ⟨0, _, _, Nat.zero_le _, rfl, rfl, HST, g0⟩
  case round =>
    obtain ⟨k, bo, co, hk, rfl, rfl, ho, hgr⟩ := hrel
    by_cases hlt : k < xs.length
    · obtain ⟨b3, off3, cs3, rfl, hlen3, ⟨u_vals3, rfl, i_id3, h_vals3⟩, hc3⟩ := hx3 k hlt
      have c0 := hgr.cellv (hc3 0 (by simp))
      have c1 := hgr.cellv (hc3 1 (by simp))
      simp only [Nat.add_zero, List.getElem_cons_zero, List.getElem_cons_succ] at c0 c1
      clear hc3 hlen3
      obtain ⟨va, vn, vc, rfl⟩ := RSlice.isSl h_vals3
      have gq : Gr wr (wr.alloc (.cells #[.int .i64 xs[k].id, .slice va vn vc] 36)) := (Gr.refl _).alloc _
      have hgq := hgr.trans gq
      have HI3 := Lib.hid i_id3
      have HC3 := Lib.hid (RSlice.mono keeps_int hgq h_vals3)
      have HS := Lib.hid (rTo_succ hlt)
      have HB : Hid (((rTo xs k).length + 1) * 32 ≤ 140737488355328) := Lib.hid (by rw [rTo_len hk]; have := HBS.out.1; omega)
      have HSZ := Lib.hid hgr.size
      have HSQ := Lib.hid gq.size
      clear h_vals3
      go_wp2_with fail
      refine (impl_copyRow xs[k] _ _ HC3.out (HBS.out.2 k hlt)).mono ?_
      rintro e w2 ⟨u2, rfl, g2, hc2⟩
      obtain ⟨ca, cc, rfl⟩ := hc2.form
      have HQ2 : Hid (PRow (In (wr.alloc (.cells #[.int .i64 xs[k].id, .slice va vn vc] 36)).heap.size w2.heap.size) w2 [.int .i64 xs[k].id, .slice ca xs[k].vals.length cc] xs[k]) := Lib.hid ⟨_, rfl, HI3.out, hc2⟩
      have gr2 := gq.trans g2
      clear hc2 g2
      go_wp2_with (at_builtin; refine push_o (w0 := wr) (wr := w2) (la := (wr.alloc (.cells #[.int .i64 xs[k].id, .slice va vn vc] 36)).heap.size) (hb := w2.heap.size) (lo := w.heap.size) 28 36 2 32 Tryz.underlying28 (z := .agg #[.int .i64 0, .slice none 0 0]) (by kernel_rfl) rfl (by decide) (by decide) rfl _ _ rfl fr_row xs[k] [.int .i64 xs[k].id, .slice ca xs[k].vals.length cc] rfl rfl rfl ho.out HSZ.out gr2 HQ2.out HSQ.out (Nat.le_refl _) rfl (by simp [Value.oneCell']) HB.out ?_; intro g4 cap4 w4 hown4 hb4)
      go_roundw
      case rel => exact ⟨k + 1, _, _, by omega, by go_num, by rw [HS.out, List.length_append, List.length_singleton], Lib.hid (by have h := hown4; rw [List.length_append, List.length_singleton] at h; rw [HS.out]; exact h), (hgr.trans gr2).trans' hb4⟩
      case measure => simp [intOf]; omega
    · obtain rfl : k = xs.length := by omega
      rw [rTo_all] at ho
      go_wp2_with fail
      go_ret
      exact ⟨_, rfl, hgr, by rw [rTo_all]; exact ho.out⟩
end Go.Proofs.YtcdcpfcmhmhdjaaGreatDoor
