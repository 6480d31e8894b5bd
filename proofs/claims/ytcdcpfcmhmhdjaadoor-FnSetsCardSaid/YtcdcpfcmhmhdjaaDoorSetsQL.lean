/- FnSets: the walk of the law. -/
import Derived.Test.YtcdcpfcmhmhdjaaDoorSetsQ
import Derived.Test.YtcdcpfcmhmhdjaaDoorDrawS
import Derived.Test.YtcdcpfcmhmhdjaaDoorSameI
import Derived.Test.YtcdcpfcmhmhdjaaDoorPSetJ
import Derived.Test.YtcdcpfcmhmhdjaaDoorSetsRU
import Derived.Test.YtcdcpfcmhmhdjaaDoorSetsRM
import Derived.Test.YtcdcpfcmhmhdjaaDoorSetsRS
namespace Go.Proofs.YtcdcpfcmhmhdjaaDoor
open Go.RowKit Go.ChangeShapes Go.WideShapes Go.Deep
theorem unite_len (a b : List Int) : (uniteL a b).length ≤ 24 := by unfold uniteL; split <;> simp [pickL_len]
theorem meet_len (a b : List Int) : (meetL a b).length ≤ 24 := by unfold meetL; split <;> simp [pickL_len]
theorem sub_len (a b : List Int) : (subL a b).length ≤ 24 := by unfold subL; split <;> simp [pickL_len]
set_option maxRecDepth 100000 in
set_option maxHeartbeats 4000000 in
theorem lawl_FnSets (w : World) (hT : Tens Tryd.prog w) (hS : ErrS Tryd.prog w) (hR : ErrR Tryd.prog w) (hM : MaxL w) (v : Value) (bs : List Int) (hv : RBytes w v bs) : Calls Tryd.prog 3 #[v] w fun e w' => e = .returned (.bool true) ∧ Gr w w' := by
  have HT := Lib.hid hT
  have HE := Lib.hid hS
  have HR := Lib.hid hR
  have HM := Lib.hid hM
  have HV := Lib.hid hv
  obtain ⟨va, vc, rfl⟩ := hv.form
  clear hT hS hR hM hv
  go_enter Tryd.func3, Tryd.ntmps3
  go_wp2_with fail
  by_cases hbig : (bs.length : Int) > 1048576
  · refine (laws_big_yes hbig va vc _).mono ?_
    rintro e w1 ⟨rfl, rfl⟩
    go_wp2_with fail
    go_ret
    exact ⟨rfl, Gr.refl _⟩
  · refine (laws_big_no hbig va vc _).mono ?_
    rintro e W ⟨rfl, rfl⟩
    clear hbig
    go_wp2_with fail
    refine (spec_DrawUniteSets _ bs _ HV.out).mono ?_
    rintro e w1 ⟨ba, na, ca, bb, nb, cb, a, b, rfl, hla, hlb, ha, hb, hg1⟩
    obtain rfl := hla.out.1
    obtain rfl := hlb.out.1
    have al : Hid (a.length ≤ 7) := Lib.hid hla.out.2
    have bl : Hid (b.length ≤ 7) := Lib.hid hlb.out.2
    clear hla hlb
    go_wp2_with fail
    refine (impl_UniteSets _ a _ b _ ha.out hb.out).mono ?_
    rintro e w2 ⟨u, rfl, g2, hu⟩
    obtain ⟨ua, uc, rfl⟩ := (rd_pints hu).form
    replace hu := Lib.hid (rd_pints hu)
    replace g2 := Lib.hid g2
    have ha2 := Lib.hid (ha.out.mono g2.out)
    have hb2 := Lib.hid (hb.out.mono g2.out)
    have HG2 := Lib.hid (hg1.out.trans g2.out)
    clear ha hb g2 hg1
    obtain ⟨U, hU⟩ : ∃ U, U = uniteL a b := ⟨_, rfl⟩
    rw [← hU] at hu
    rw [← hU]
    have HU := Lib.hid hU
    clear hU
    go_wp2_with fail
    refine (impl_MeetSets _ a _ b _ ha2.out hb2.out).mono ?_
    rintro e w3 ⟨m, rfl, g3, hm⟩
    obtain ⟨ma, mc, rfl⟩ := (rd_pints hm).form
    replace hm := Lib.hid (rd_pints hm)
    have ha3 := Lib.hid (ha2.out.mono g3)
    have hb3 := Lib.hid (hb2.out.mono g3)
    have hu3 := Lib.hid (hu.out.mono g3)
    have HG3 := Lib.hid (HG2.out.trans g3)
    clear ha2 hb2 g3 hu HG2
    obtain ⟨M, hMM⟩ : ∃ M, M = meetL a b := ⟨_, rfl⟩
    rw [← hMM] at hm
    rw [← hMM]
    have HMM := Lib.hid hMM
    clear hMM
    go_wp2_with fail
    refine (impl_SubtractSets _ a _ b _ ha3.out hb3.out).mono ?_
    rintro e w4 ⟨d, rfl, g4, hd⟩
    obtain ⟨da, dc, rfl⟩ := (rd_pints hd).form
    replace hd := Lib.hid (rd_pints hd)
    have ha4 := Lib.hid (ha3.out.mono g4)
    have hb4 := Lib.hid (hb3.out.mono g4)
    have hu4 := Lib.hid (hu3.out.mono g4)
    have hm4 := Lib.hid (hm.out.mono g4)
    have HG4 := Lib.hid (HG3.out.trans g4)
    clear ha3 hb3 g4 hu3 hm HG3
    obtain ⟨D, hDD⟩ : ∃ D, D = subL a b := ⟨_, rfl⟩
    rw [← hDD] at hd
    rw [← hDD]
    have HDD := Lib.hid hDD
    clear hDD
    go_wp2_with fail
    refine (spec_UniteSets _ a _ b _ ha4.out hb4.out).mono ?_
    rintro e w5 ⟨t, rfl, ht, g5⟩
    obtain ⟨ta, tc, rfl⟩ := ht.form
    rw [← HU.out] at ht
    rw [← HU.out]
    have ht5 := Lib.hid ht
    have ha5 := Lib.hid (ha4.out.mono g5)
    have hb5 := Lib.hid (hb4.out.mono g5)
    have hu5 := Lib.hid (hu4.out.mono g5)
    have hm5 := Lib.hid (hm4.out.mono g5)
    have hd5 := Lib.hid (hd.out.mono g5)
    have HG5 := Lib.hid (HG4.out.trans g5)
    clear ha4 hb4 g5 hu4 hm4 hd ht HG4
    go_wp2_with fail
    refine (laws_sameInts_self _ _ _ hu5.out ht5.out).mono ?_
    rintro e w6 ⟨rfl, g6⟩
    have ha6 := Lib.hid (ha5.out.mono g6)
    have hb6 := Lib.hid (hb5.out.mono g6)
    have hu6 := Lib.hid (hu5.out.mono g6)
    have hm6 := Lib.hid (hm5.out.mono g6)
    have hd6 := Lib.hid (hd5.out.mono g6)
    have HG6 := Lib.hid (HG5.out.trans g6)
    clear ha5 hb5 g6 hu5 hm5 hd5 ht5 HG5
    go_wp2_with fail
    refine (spec_MeetSets _ a _ b _ ha6.out hb6.out).mono ?_
    rintro e w7 ⟨t, rfl, ht, g7⟩
    obtain ⟨ta, tc, rfl⟩ := ht.form
    rw [← HMM.out] at ht
    rw [← HMM.out]
    have ht7 := Lib.hid ht
    have ha7 := Lib.hid (ha6.out.mono g7)
    have hb7 := Lib.hid (hb6.out.mono g7)
    have hu7 := Lib.hid (hu6.out.mono g7)
    have hm7 := Lib.hid (hm6.out.mono g7)
    have hd7 := Lib.hid (hd6.out.mono g7)
    have HG7 := Lib.hid (HG6.out.trans g7)
    clear ha6 hb6 g7 hu6 hm6 hd6 ht HG6
    go_wp2_with fail
    refine (laws_sameInts_self _ _ _ hm7.out ht7.out).mono ?_
    rintro e w8 ⟨rfl, g8⟩
    have ha8 := Lib.hid (ha7.out.mono g8)
    have hb8 := Lib.hid (hb7.out.mono g8)
    have hu8 := Lib.hid (hu7.out.mono g8)
    have hm8 := Lib.hid (hm7.out.mono g8)
    have hd8 := Lib.hid (hd7.out.mono g8)
    have HG8 := Lib.hid (HG7.out.trans g8)
    clear ha7 hb7 g8 hu7 hm7 hd7 ht7 HG7
    go_wp2_with fail
    refine (spec_SubtractSets _ a _ b _ ha8.out hb8.out).mono ?_
    rintro e w9 ⟨t, rfl, ht, g9⟩
    obtain ⟨ta, tc, rfl⟩ := ht.form
    rw [← HDD.out] at ht
    rw [← HDD.out]
    have ht9 := Lib.hid ht
    have ha9 := Lib.hid (ha8.out.mono g9)
    have hb9 := Lib.hid (hb8.out.mono g9)
    have hu9 := Lib.hid (hu8.out.mono g9)
    have hm9 := Lib.hid (hm8.out.mono g9)
    have hd9 := Lib.hid (hd8.out.mono g9)
    have HG9 := Lib.hid (HG8.out.trans g9)
    clear ha8 hb8 g9 hu8 hm8 hd8 ht HG8
    go_wp2_with fail
    refine (laws_sameInts_self _ _ _ hd9.out ht9.out).mono ?_
    rintro e w10 ⟨rfl, g10⟩
    have ha0 := Lib.hid (ha9.out.mono g10)
    have hb0 := Lib.hid (hb9.out.mono g10)
    have hu0 := Lib.hid (hu9.out.mono g10)
    have hm0 := Lib.hid (hm9.out.mono g10)
    have hd0 := Lib.hid (hd9.out.mono g10)
    have HG0 := Lib.hid (HG9.out.trans g10)
    clear ha9 hb9 g10 hu9 hm9 hd9 ht9 HG9
    obtain ⟨pa, hpa⟩ : ∃ pa, isSetB a = pa := ⟨_, rfl⟩
    obtain ⟨S, hSS⟩ : ∃ S, S = setText a := ⟨_, rfl⟩
    have HPA := Lib.hid hpa
    have HSS := Lib.hid hSS
    have HSl : Hid (S.length ≤ 1048576) := Lib.hid (by rw [hSS]; exact Nat.le_trans setText_len (by decide))
    clear hpa hSS
    go_wp2_with fail
    refine (impl_IsSet_of HPA.out _ _ ha0.out).mono ?_
    rintro e w11 ⟨rfl, g11⟩
    have ha1 := Lib.hid (ha0.out.mono g11)
    have HG1 := Lib.hid (HG0.out.trans g11)
    have HGA := Lib.hid g11
    clear ha0 g11 HG0
    go_wp2_with fail
    refine (spec_IsSet_of HPA.out _ _ ha1.out).mono ?_
    rintro e w12 ⟨rfl, g12⟩
    have ha2 := Lib.hid (ha1.out.mono g12)
    have HG2 := Lib.hid (HG1.out.trans g12)
    have HGB := Lib.hid (HGA.out.trans g12)
    have hpp : (pa != pa) = false := by cases pa <;> rfl
    clear ha1 g12 HG1 HGA
    go_wp2_with fail
    refine (impl_FormatSet_any _ a _ (tab_gr HT.out HG2.out) ha2.out).mono ?_
    rintro e w13 ⟨rfl, g13⟩
    rw [← HSS.out]
    have ha3 := Lib.hid (ha2.out.mono g13)
    have HG3 := Lib.hid (HG2.out.trans g13)
    have HGC := Lib.hid (HGB.out.trans g13)
    clear ha2 g13 HG2 HGB
    go_wp2_with fail
    refine (impl_ParseSet S _ HSl.out (tab_gr HT.out HG3.out) (errS_gr HE.out HG3.out) (errR_gr HR.out HG3.out) (maxL_gr HM.out HG3.out)).mono ?_
    rintro e w14 ⟨r, rfl, g14, hr⟩
    obtain ⟨ra, rc, rfl⟩ := (rd_pints hr).form
    have HI : Hid (implSet S = if pa = true then some a else none) := Lib.hid (by rw [HSS.out, implSet_text, HPA.out])
    have ha4 := Lib.hid (ha3.out.mono g14)
    have HG4 := Lib.hid (HG3.out.trans g14)
    have HGD := Lib.hid (HGC.out.trans g14)
    replace hr := rd_pints hr
    rw [HI.out] at hr
    rw [HI.out]
    have hr4 := Lib.hid hr
    clear ha3 g14 HG3 HGC hr
    have HB : Hid (RInts w14 (.slice (some ⟨bb, 0, none⟩) b.length cb) b ∧ RInts w14 (.slice ua U.length uc) U ∧ RInts w14 (.slice ma M.length mc) M ∧ RInts w14 (.slice da D.length dc) D) := Lib.hid ⟨hb0.out.mono HGD.out, hu0.out.mono HGD.out, hm0.out.mono HGD.out, hd0.out.mono HGD.out⟩
    clear hb0 hu0 hm0 hd0 HGD
    cases pa with
    | false =>
      have HNO : Hid (U = [] ∧ M = [] ∧ D = []) := Lib.hid (by rw [HU.out, HMM.out, HDD.out]; exact sets_no (by unfold bothSets; rw [HPA.out]; rfl))
      obtain ⟨rfl, rfl, rfl⟩ := HNO.out
      simp only [Bool.false_eq_true, if_false, Option.isSome_none, Option.getD_none] at hr4 ⊢
      go_wp2_with fail
      refine (spec_FormatSet _ a _ ha4.out (by have := al.out; omega)).mono ?_
      rintro e w15 ⟨rfl, g15⟩
      rw [← HSS.out]
      have ha5 := Lib.hid (ha4.out.mono g15)
      have HG5 := Lib.hid (HG4.out.trans g15)
      clear ha4 g15 HG4
      go_wp2_with fail
      refine (spec_IsSet_of HPA.out _ _ ha5.out).mono ?_
      rintro e w16 ⟨rfl, g16⟩
      have ha6 := Lib.hid (ha5.out.mono g16)
      have HG6 := Lib.hid (HG5.out.trans g16)
      clear ha5 g16 HG5
      go_wp2_with fail
      refine (spec_IsSet_of HPA.out _ _ ha6.out).mono ?_
      rintro e w17 ⟨rfl, g17⟩
      have HG7 := Lib.hid (HG6.out.trans g17)
      go_wp2_with fail
      go_ret
      exact ⟨rfl, HG7.out⟩
    | true =>
      simp only [if_true, Option.isSome_some, Option.getD_some] at hr4 ⊢
      go_wp2_with fail
      refine (spec_FormatSet _ a _ ha4.out (by have := al.out; omega)).mono ?_
      rintro e w15 ⟨rfl, g15⟩
      rw [← HSS.out]
      have ha5 := Lib.hid (ha4.out.mono g15)
      have hr5 := Lib.hid (hr4.out.mono g15)
      have HG5 := Lib.hid (HG4.out.trans g15)
      have HG5' := Lib.hid g15
      clear ha4 g15 HG4 hr4
      go_wp2_with fail
      refine (spec_IsSet_of HPA.out _ _ ha5.out).mono ?_
      rintro e w16 ⟨rfl, g16⟩
      have ha6 := Lib.hid (ha5.out.mono g16)
      have hr6 := Lib.hid (hr5.out.mono g16)
      have HG6 := Lib.hid (HG5.out.trans g16)
      have HG6' := Lib.hid (HG5'.out.trans g16)
      clear ha5 g16 HG5 hr5 HG5'
      go_wp2_with fail
      refine (laws_sameInts_self _ _ _ hr6.out ha6.out).mono ?_
      rintro e w17 ⟨rfl, g17⟩
      have ha7 := Lib.hid (ha6.out.mono g17)
      have HG7 := Lib.hid (HG6.out.trans g17)
      have HG7' := Lib.hid (HG6'.out.trans g17)
      clear ha6 g17 HG6 hr6 HG6'
      go_wp2_with fail
      refine (spec_IsSet_of HPA.out _ _ ha7.out).mono ?_
      rintro e w18 ⟨rfl, g18⟩
      have ha8 := Lib.hid (ha7.out.mono g18)
      have HG8 := Lib.hid (HG7.out.trans g18)
      have HG8' := Lib.hid (HG7'.out.trans g18)
      clear ha7 g18 HG7 HG7'
      have hb8 := Lib.hid (HB.out.1.mono HG8'.out)
      obtain ⟨pb, hpb⟩ : ∃ pb, isSetB b = pb := ⟨_, rfl⟩
      have HPB := Lib.hid hpb
      clear hpb
      go_wp2_with fail
      refine (spec_IsSet_of HPB.out _ _ hb8.out).mono ?_
      rintro e w19 ⟨rfl, g19⟩
      have ha9 := Lib.hid (ha8.out.mono g19)
      have hb9 := Lib.hid (hb8.out.mono g19)
      have HG9 := Lib.hid (HG8.out.trans g19)
      have HG9' := Lib.hid (HG8'.out.trans g19)
      clear ha8 hb8 g19 HG8 HG8'
      cases pb with
      | false =>
        have HNO : Hid (U = [] ∧ M = [] ∧ D = []) := Lib.hid (by rw [HU.out, HMM.out, HDD.out]; exact sets_no (by unfold bothSets; rw [HPA.out, HPB.out]; rfl))
        obtain ⟨rfl, rfl, rfl⟩ := HNO.out
        go_wp2_with fail
        go_ret
        exact ⟨rfl, HG9.out⟩
      | true =>
        have HBB : Hid (bothSets a b = true) := Lib.hid (by unfold bothSets; rw [HPA.out, HPB.out]; rfl)
        have hu9 := Lib.hid (HB.out.2.1.mono HG9'.out)
        have hm9 := Lib.hid (HB.out.2.2.1.mono HG9'.out)
        have hd9 := Lib.hid (HB.out.2.2.2.mono HG9'.out)
        have ul : (U.length : Int) ≤ 24 := by have := unite_len a b; rw [← HU.out] at this; omega
        have ml : (M.length : Int) ≤ 24 := by have := meet_len a b; rw [← HMM.out] at this; omega
        have al' : (a.length : Int) ≤ 7 := by have := al.out; omega
        have bl' : (b.length : Int) ≤ 7 := by have := bl.out; omega
        have HLEN : Hid ((U.length : Int) + (M.length : Int) = (a.length : Int) + (b.length : Int)) := Lib.hid (by have := sets_len HBB.out; rw [← HU.out, ← HMM.out] at this; omega)
        clear HB HG9'
        go_wp2_with fail
        go_loopw [11] (fun vi wr => ∃ k : Nat, k ≤ 24 ∧ vi = .int .i64 k ∧ Hid (Gr w19 wr)) (fun vi _ => 24 - (intOf vi).toNat)
        case atStart => exact ⟨0, by omega, rfl, Lib.hid (Gr.refl _)⟩
        case round =>
          obtain ⟨k, hk, rfl, hgr⟩ := hrel
          by_cases hlt : k < 24
          · have hlz : (k : Int) < 24 := by omega
            have hH := sets_has HBB.out hlt
            rw [← HU.out, ← HMM.out, ← HDD.out] at hH
            have ha := Lib.hid (ha9.out.mono hgr.out)
            have hb := Lib.hid (hb9.out.mono hgr.out)
            have hu := Lib.hid (hu9.out.mono hgr.out)
            have hm := Lib.hid (hm9.out.mono hgr.out)
            have hd := Lib.hid (hd9.out.mono hgr.out)
            cases hp : hasB a (k : Int) <;> cases hq : hasB b (k : Int)
            all_goals
              rw [hp, hq] at hH
              have HH := Lib.hid hH
              have HP := Lib.hid hp
              have HQ := Lib.hid hq
              clear hH hp hq
              go_wp2_with fail
              refine (impl_HasMember_of HP.out _ _ ha.out).mono ?_
              rintro e wx ⟨rfl, rfl⟩
              go_wp2_with fail
              refine (impl_HasMember_of HQ.out _ _ hb.out).mono ?_
              rintro e wx ⟨rfl, rfl⟩
              go_wp2_with fail
              refine (laws_has_of HH.out.1 _ _ hu.out).mono ?_
              rintro e wx ⟨rfl, rfl⟩
              go_wp2_with fail
              refine (laws_has_of HH.out.2.1 _ _ hm.out).mono ?_
              rintro e wx ⟨rfl, rfl⟩
              go_wp2_with fail
              refine (laws_has_of HH.out.2.2 _ _ hd.out).mono ?_
              rintro e wx ⟨rfl, rfl⟩
              go_wp2_with fail
              go_roundw
              case rel => exact ⟨k + 1, by omega, by go_num, hgr⟩
              case measure => simp [intOf]; omega
          · have hlz : ¬ (k : Int) < 24 := by omega
            have hl2 := HLEN.out
            go_wp2_with fail
            refine (impl_IsSet_of (b := true) (by rw [HU.out]; exact sets_unite HBB.out) _ _ (hu9.out.mono hgr.out)).mono ?_
            rintro e wx ⟨rfl, gx⟩
            go_wp2_with fail
            go_ret
            exact ⟨rfl, HG9.out.trans (hgr.out.trans gx)⟩
theorem law_FnSets (w : World) (hT : Tens Tryd.prog w) (hS : ∃ p, w.var? Tryd.prog "strconv.ErrSyntax" = some #[.iface 143 p]) (hR : ∃ p, w.var? Tryd.prog "strconv.ErrRange" = some #[.iface 143 p]) (hSh : w.ShapedOpen Tryd.prog) (v : Value) (bs : List Int) (hv : RBytes w v bs) : Calls Tryd.prog 3 #[v] w fun e w' => e = .returned (.bool true) ∧ Gr w w' :=
  lawl_FnSets w hT (by obtain ⟨p, h⟩ := hS; exact ⟨_, p, h⟩) (by obtain ⟨p, h⟩ := hR; exact ⟨_, p, h⟩) (Tryd.laysM146.s1_3 w hSh) v bs hv
end Go.Proofs.YtcdcpfcmhmhdjaaDoor
