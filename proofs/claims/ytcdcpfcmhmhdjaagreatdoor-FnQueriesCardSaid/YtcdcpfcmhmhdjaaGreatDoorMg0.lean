/- The drawing of values: lists of rows. -/
import Derived.Test.YtcdcpfcmhmhdjaaGreatDoorDrawU
import Derived.Test.YtcdcpfcmhmhdjaaGreatDoorDrawG
import Derived.Test.YtcdcpfcmhmhdjaaGreatDoorDrawA
namespace Go.Proofs.YtcdcpfcmhmhdjaaGreatDoor
open Go.RowKit Go.ChangeShapes Go.WideShapes Go.Deep
set_option maxRecDepth 100000 in
set_option maxHeartbeats 2000000 in
theorem spec_l3AnyRows (g : Nat) (w : World) (hc : Cur w g) : Calls Tryz.prog 24 #[.pointer (some ⟨g, 0, none⟩)] w fun e w' => ∃ (b : Option Addr) (n c : Nat) (rs : List DRow), e = .returned (.slice b n c) ∧ Hid (n = rs.length ∧ rs.length ≤ 9 ∧ ∀ r ∈ rs, totRow r ≤ 4) ∧ Hid (PRows (In w.heap.size w'.heap.size) w' (.slice b n c) rs) ∧ Hid (Cur w' g ∧ Dr g w w') := by
  have HC := Lib.hid hc
  have HGW : Hid (g < w.heap.size) := Lib.hid hc.lt
  clear hc
  go_enter Tryz.func24, Tryz.ntmps24
  go_wp2_with fail
  refine (spec_l3Rows g 8 _ HC.out (by decide)).mono ?_
  rintro e w1 ⟨b, n, c, rs, rfl, hl, ho, hk1⟩
  obtain rfl := hl.out.1
  have HL : Hid (rs.length ≤ 8 ∧ ∀ r ∈ rs, totRow r ≤ 4) := Lib.hid hl.out.2
  clear hl
  go_wp2_with fail
  refine (spec_l1Once g 6 _ hk1.out.1 (by decide) (by decide)).mono ?_
  rintro e w2 ⟨t, rfl, hk2⟩
  have HO2 := Lib.hid ((osl_dr fr_row ho.out HGW.out hk2.out.2).wide (Nat.le_refl _) hk2.out.2.size)
  have HD2 := Lib.hid (hk1.out.2.trans hk2.out.2)
  have HK2 := Lib.hid hk2.out.1
  clear ho hk1 hk2
  cases t with
  | false =>
    go_wp2_with fail
    go_ret
    exact ⟨_, _, _, rs, rfl, Lib.hid ⟨rfl, by have := HL.out.1; omega, HL.out.2⟩, HO2, Lib.hid ⟨HK2.out, HD2.out⟩⟩
  | true =>
    go_wp2_with fail
    refine (spec_l3Any g _ HK2.out).mono ?_
    rintro e w3 ⟨u, id, vs, rfl, hi, htw, hk3⟩
    obtain ⟨ua, uc, rfl⟩ := htw.out.reads.form
    have HS3 : Hid (w2.heap.size ≤ w3.heap.size ∧ w.heap.size ≤ w3.heap.size) := Lib.hid ⟨hk3.out.2.size, Nat.le_trans HD2.out.size hk3.out.2.size⟩
    have HO3 := Lib.hid (osl_trunc fr_row (osl_dr fr_row HO2.out HGW.out hk3.out.2) HS3.out.1)
    have HT3 : Hid (w.heap.size ≤ (trunc w3 w2.heap.size).heap.size ∧ Gr (trunc w3 w2.heap.size) w3 ∧ (trunc w3 w2.heap.size).heap.size ≤ w2.heap.size) := Lib.hid ⟨by rw [trunc_size HS3.out.1]; exact HD2.out.size, gr_trunc HS3.out.1, by rw [trunc_size HS3.out.1]; exact Nat.le_refl _⟩
    have HPQ : Hid (PRow (In w2.heap.size w3.heap.size) w3 [.int .i64 id, .slice ua vs.length uc] ⟨id, vs⟩) := Lib.hid ⟨_, rfl, hi.out.1, htw.out.priv.wide (Nat.le_succ _) (Nat.le_refl _)⟩
    have HD3 := Lib.hid (HD2.out.trans hk3.out.2)
    have HK3 := Lib.hid hk3.out.1
    clear hk3 htw HO2
    go_wp2_with (at_builtin; refine push_o (w0 := trunc w3 w2.heap.size) (wr := w3) (la := w2.heap.size) (hb := w3.heap.size) (lo := w.heap.size) 28 36 2 32 Tryz.underlying28 (z := .agg #[.int .i64 0, .slice none 0 0]) (by kernel_rfl) rfl (by decide) (by decide) rfl _ _ rfl fr_row ⟨id, vs⟩ [.int .i64 id, .slice ua vs.length uc] rfl rfl rfl HO3.out HT3.out.1 HT3.out.2.1 HPQ.out HT3.out.2.2 (Nat.le_refl _) rfl (by simp [Value.oneCell']) (by have := HL.out.1; omega) ?_; intro g4 cap4 w4 hO4 hB4; obtain ⟨X, hX⟩ : ∃ X, X = rs ++ [⟨id, vs⟩] := ⟨_, rfl⟩; rw [← hX] at hO4; rw [← hX]; have HX := Lib.hid hX; have HO4 := Lib.hid hO4; have HC4 := Lib.hid (HK3.out.below HGW.out hB4); have HD4 := Lib.hid (HD3.out.belowT hB4 (Nat.le_refl _)); clear hO4 hB4 hX)
    go_ret
    exact ⟨_, _, _, X, rfl, Lib.hid ⟨rfl, by rw [HX.out]; have := HL.out.1; simp; omega, fun r hr => by
      rw [HX.out] at hr
      rcases List.mem_append.1 hr with h | h
      · exact HL.out.2 r h
      · rw [List.mem_singleton.1 h]; exact hi.out.2⟩, HO4, Lib.hid ⟨HC4.out, HD4.out⟩⟩
end Go.Proofs.YtcdcpfcmhmhdjaaGreatDoor

/- The drawing of values: a query and rows. (Printed by gen_drawy.py.) -/
namespace Go.Proofs.YtcdcpfcmhmhdjaaGreatDoor
open Go.RowKit Go.ChangeShapes Go.WideShapes Go.Deep
set_option maxRecDepth 100000 in
set_option maxHeartbeats 4000000 in
theorem spec_DrawAnswerAlone (v : Value) (bs : List Int) (w : World) (hv : RBytes w v bs) : Calls Tryz.prog 5 #[v] w fun e w' => ∃ (qu qx : Value) (qid ten : Int) (cs : List DCond) (os : List Int) (rb : Option Addr) (rn rc : Nat) (rs : List DRow), e = .returned (.tuple #[.agg #[.int .i64 qid, .int .i64 ten, qu, qx], .slice rb rn rc]) ∧ Hid (I64 qid ∧ I64 ten ∧ cs.length ≤ 4 ∧ os.length ≤ 4) ∧ Hid (RConds w' qu cs ∧ RInts w' qx os) ∧ Hid (rn = rs.length ∧ rs.length ≤ 9 ∧ ∀ r ∈ rs, totRow r ≤ 4) ∧ Hid (RRows w' (.slice rb rn rc) rs) ∧ Hid (Gr w w') := by
  obtain ⟨W0, hW0⟩ : ∃ W0, W0 = (w).alloc (.cells #[.int .i64 0, .int .i64 0, .slice none 0 0, .slice none 0 0] 27) := ⟨_, rfl⟩
  have HW0 : Hid (Gr w W0 ∧ W0.heap.size = w.heap.size + 1 ∧ Std 27 w.heap.size #[.int .i64 0, .int .i64 0, .slice none 0 0, .slice none 0 0] W0) := Lib.hid (by
    rw [hW0]
    exact ⟨(Gr.refl w).alloc _, by simp, Std.new _⟩)
  have HV := Lib.hid (RSlice.mono keeps_byte HW0.out.1 hv)
  clear hv
  go_enter Tryz.func5, Tryz.ntmps5
  go_wp2_with fail
  rw [← hW0]
  clear hW0
  refine (spec_l1New v bs _ HV.out).mono ?_
  rintro e w1 ⟨g, rfl, hg⟩
  have HG : Hid (w.heap.size + 1 ≤ g ∧ g < w1.heap.size) := Lib.hid ⟨by have := HW0.out.2.1; have := hg.out.1; omega, hg.out.2.1.lt⟩
  have HGG : Hid (∀ wx, Dr g w1 wx → Gr w wx) := Lib.hid fun wx k => HW0.out.1.trans (hg.out.2.2.trans' (k.below (fun b hb => by rw [hb]; exact hg.out.1) hg.out.2.2.size))
  have HC_1 := Lib.hid hg.out.2.1
  have HD_1 : Hid (Dr g w1 w1) := Lib.hid (Chg.refl _ _)
  have SR0_1 : Hid (Std 27 w.heap.size #[.int .i64 0, .int .i64 0, .slice none 0 0, .slice none 0 0] w1) := Lib.hid (HW0.out.2.2.gr hg.out.2.2)
  clear hg HV HW0
  go_wp2_with fail
  refine (spec_l4Any g _ HC_1.out).mono ?_
  rintro e w2 ⟨qu, qx, qid, ten, cs, os, rfl, hl2, ho2, hk2⟩
  obtain ⟨ca, cn, cc, rfl⟩ := ho2.out.fresh1.1.reads.isSl
  obtain ⟨xa, xn, xc, rfl⟩ := ho2.out.fresh1.2.reads.isSl
  have HL0 : Hid (I64 qid ∧ I64 ten ∧ cs.length ≤ 4 ∧ os.length ≤ 4) := Lib.hid hl2.out
  have HSZ2 : Hid (w1.heap.size ≤ w1.heap.size) := Lib.hid HD_1.out.size
  have FC_2 : Hid (Fresh w1.heap.size RConds w2 (.slice ca cn cc) cs) := Lib.hid ((ho2.out.fresh1.1).le HSZ2.out)
  have FX_2 : Hid (Fresh w1.heap.size RInts w2 (.slice xa xn xc) os) := Lib.hid ((ho2.out.fresh1.2).le HSZ2.out)
  have HC_2 := Lib.hid hk2.out.1
  have HD_2 := Lib.hid (HD_1.out.trans hk2.out.2)
  have SR0_2 : Hid (Std 27 w.heap.size #[.int .i64 0, .int .i64 0, .slice none 0 0, .slice none 0 0] w2) := Lib.hid (SR0_1.out.dr (by have := HG.out; omega) hk2.out.2)
  clear HC_1 HD_1 SR0_1
  clear hl2 ho2 hk2
  obtain ⟨B0, hB0⟩ : ∃ B, B = w2.heap.size := ⟨_, rfl⟩
  obtain ⟨W3, hW3⟩ : ∃ W, W = w2.alloc (.cells #[.int .i64 qid, .int .i64 ten, .slice ca cn cc, .slice xa xn xc] 27) := ⟨_, rfl⟩
  have G3 : Gr w2 W3 := by rw [hW3]; exact (Gr.refl _).alloc _
  have HB0 : Hid (w1.heap.size ≤ B0) := Lib.hid (by rw [hB0]; exact HD_2.out.size)
  have SB0_3 : Hid (Std 27 B0 #[.int .i64 qid, .int .i64 ten, .slice ca cn cc, .slice xa xn xc] W3) := Lib.hid (by rw [hW3, hB0]; exact Std.new _)
  have HC_3 : Hid (Cur W3 g) := Lib.hid (HC_2.out.gr G3)
  have HD_3 : Hid (Dr g w1 W3) := Lib.hid (HD_2.out.belowT G3 HD_2.out.size)
  have SR0_3 : Hid (Std 27 w.heap.size #[.int .i64 0, .int .i64 0, .slice none 0 0, .slice none 0 0] W3) := Lib.hid (SR0_2.out.gr G3)
  have FC_3 : Hid (Fresh w1.heap.size RConds W3 (.slice ca cn cc) cs) := Lib.hid (FC_2.out.mono G3)
  have FX_3 : Hid (Fresh w1.heap.size RInts W3 (.slice xa xn xc) os) := Lib.hid (FX_2.out.mono G3)
  clear HC_2 HD_2 SR0_2 FC_2 FX_2
  clear G3
  go_wp2_with fail
  rw [← hW3, ← hB0]
  clear hW3 hB0
  obtain ⟨WD, hWD⟩ : ∃ WD, WD = W3.drew := ⟨_, rfl⟩
  have GD : Gr W3 WD := by rw [hWD]; exact (Gr.refl _).drew
  have HC_D : Hid (Cur WD g) := Lib.hid (HC_3.out.gr GD)
  have HD_D : Hid (Dr g w1 WD) := Lib.hid (HD_3.out.belowT GD HD_3.out.size)
  have SR0_D : Hid (Std 27 w.heap.size #[.int .i64 0, .int .i64 0, .slice none 0 0, .slice none 0 0] WD) := Lib.hid (SR0_3.out.gr GD)
  have SB0_D : Hid (Std 27 B0 #[.int .i64 qid, .int .i64 ten, .slice ca cn cc, .slice xa xn xc] WD) := Lib.hid (SB0_3.out.gr GD)
  have FC_D : Hid (Fresh w1.heap.size RConds WD (.slice ca cn cc) cs) := Lib.hid (FC_3.out.mono GD)
  have FX_D : Hid (Fresh w1.heap.size RInts WD (.slice xa xn xc) os) := Lib.hid (FX_3.out.mono GD)
  refine wp_region_G (S := fun w' => Std 27 B0 #[.int .i64 qid, .int .i64 ten, .slice ca cn cc, .slice xa xn xc] w') (m := 4) (by kernel_rfl) ?_
  rw [← hWD]
  clear hWD GD HC_3 HD_3 SR0_3 SB0_3 FC_3 FX_3
  have hS : (fun w' : World => Std 27 B0 #[.int .i64 qid, .int .i64 ten, .slice ca cn cc, .slice xa xn xc] w') WD := SB0_D.out
  refine wpAnyG_take (i := 0) (v := ?v0) hS rfl (by kernel_rfl) (by kernel_rfl) (by kernel_rfl) (by kernel_rfl) (fun _ _ _ h => h) (Or.inl ⟨by rfl, ?hy0⟩) ?rest0
  case hy0 => (intro w' hw'; have c0 := hw'.cell (k := 0) rfl; have c1 := hw'.cell (k := 1) rfl; have c2 := hw'.cell (k := 2) rfl; have c3 := hw'.cell (k := 3) rfl; go_simp; try with_reducible rfl)
  try simp only [Act.put]
  refine wpAnyG_take (i := 1) (v := ?v1) hS rfl (by kernel_rfl) (by kernel_rfl) (by kernel_rfl) (by kernel_rfl) (fun _ _ _ h => h) (Or.inl ⟨by rfl, ?hy1⟩) ?rest1
  case hy1 => (intro w' hw'; go_simp; try with_reducible rfl)
  try simp only [Act.put]
  refine wpAnyG_one (i := 2) rfl (by kernel_rfl) (fun K2 hK2 => ?_)
  go_simp
  refine (spec_l3AnyRows g _ HC_D.out).mono ?_
  rintro e wE ⟨rb, rn, rc, rs, rfl, hlE, hoE, hkE⟩
  have HLE : Hid (rn = rs.length ∧ rs.length ≤ 9 ∧ ∀ r ∈ rs, totRow r ≤ 4) := Lib.hid hlE.out
  have FR_E : Hid (Fresh w1.heap.size RRows wE (.slice rb rn rc) rs) := Lib.hid ((PRows.fresh1 hoE.out).le HD_D.out.size)
  have HD_E := Lib.hid (HD_D.out.trans hkE.out.2)
  have SR0_E : Hid (Std 27 w.heap.size #[.int .i64 0, .int .i64 0, .slice none 0 0, .slice none 0 0] wE) := Lib.hid (SR0_D.out.dr (by have := HG.out; omega) hkE.out.2)
  have SB0_E : Hid (Std 27 B0 #[.int .i64 qid, .int .i64 ten, .slice ca cn cc, .slice xa xn xc] wE) := Lib.hid (SB0_D.out.dr (by have := HG.out; have := HB0.out; omega) hkE.out.2)
  have FC_E : Hid (Fresh w1.heap.size RConds wE (.slice ca cn cc) cs) := Lib.hid (FC_D.out.dr HG.out.2 hkE.out.2)
  have FX_E : Hid (Fresh w1.heap.size RInts wE (.slice xa xn xc) os) := Lib.hid (FX_D.out.dr HG.out.2 hkE.out.2)
  clear hlE hoE hkE hS HC_D HD_D SR0_D SB0_D FC_D FX_D
  go_simp
  refine hK2.out _ _ (fun _ => SB0_E.out) ?_
  clear hK2 K2
  try simp only [Act.put]
  refine wpAnyG_one (i := 3) rfl (by kernel_rfl) (fun K3 hK3 => ?_)
  have r0_0 := SR0_E.out.cell (k := 0) rfl
  have f0_0 := SR0_E.out.frz 0
  have r0_1 := SR0_E.out.cell (k := 1) rfl
  have f0_1 := SR0_E.out.frz 1
  have r0_2 := SR0_E.out.cell (k := 2) rfl
  have f0_2 := SR0_E.out.frz 2
  have r0_3 := SR0_E.out.cell (k := 3) rfl
  have f0_3 := SR0_E.out.frz 3
  go_simp
  obtain ⟨wS0, hwS0⟩ : ∃ W, W = ((((wE.setCell ⟨w.heap.size, 0, none⟩ (.int .i64 qid)).setCell ⟨w.heap.size, 1, none⟩ (.int .i64 ten)).setCell ⟨w.heap.size, 2, none⟩ (.slice ca cn cc)).setCell ⟨w.heap.size, 3, none⟩ (.slice xa xn xc)) := ⟨_, rfl⟩
  have SR0_S0 : Hid (Std 27 w.heap.size #[.int .i64 qid, .int .i64 ten, .slice ca cn cc, .slice xa xn xc] wS0) := Lib.hid (by rw [hwS0]; exact (Std.put (bc' := #[.int .i64 qid, .int .i64 ten, .slice ca cn cc, .slice xa xn xc]) (k := 3) (Std.put (bc' := #[.int .i64 qid, .int .i64 ten, .slice ca cn cc, .slice none 0 0]) (k := 2) (Std.put (bc' := #[.int .i64 qid, .int .i64 ten, .slice none 0 0, .slice none 0 0]) (k := 1) (Std.put (bc' := #[.int .i64 qid, .int .i64 0, .slice none 0 0, .slice none 0 0]) (k := 0) SR0_E.out rfl) rfl) rfl) rfl))
  have SB0_S0 : Hid (Std 27 B0 #[.int .i64 qid, .int .i64 ten, .slice ca cn cc, .slice xa xn xc] wS0) := Lib.hid (by rw [hwS0]; exact (Std.set (Std.set (Std.set (Std.set SB0_E.out (p := ⟨w.heap.size, 0, none⟩) (by have := HG.out; have := HB0.out; dsimp only; omega) _) (p := ⟨w.heap.size, 1, none⟩) (by have := HG.out; have := HB0.out; dsimp only; omega) _) (p := ⟨w.heap.size, 2, none⟩) (by have := HG.out; have := HB0.out; dsimp only; omega) _) (p := ⟨w.heap.size, 3, none⟩) (by have := HG.out; have := HB0.out; dsimp only; omega) _))
  have FC_S0 : Hid (Fresh w1.heap.size RConds wS0 (.slice ca cn cc) cs) := Lib.hid (by rw [hwS0]; exact (Fresh.set (Fresh.set (Fresh.set (Fresh.set FC_E.out (p := ⟨w.heap.size, 0, none⟩) (by have := HG.out; dsimp only; omega) _) (p := ⟨w.heap.size, 1, none⟩) (by have := HG.out; dsimp only; omega) _) (p := ⟨w.heap.size, 2, none⟩) (by have := HG.out; dsimp only; omega) _) (p := ⟨w.heap.size, 3, none⟩) (by have := HG.out; dsimp only; omega) _))
  have FX_S0 : Hid (Fresh w1.heap.size RInts wS0 (.slice xa xn xc) os) := Lib.hid (by rw [hwS0]; exact (Fresh.set (Fresh.set (Fresh.set (Fresh.set FX_E.out (p := ⟨w.heap.size, 0, none⟩) (by have := HG.out; dsimp only; omega) _) (p := ⟨w.heap.size, 1, none⟩) (by have := HG.out; dsimp only; omega) _) (p := ⟨w.heap.size, 2, none⟩) (by have := HG.out; dsimp only; omega) _) (p := ⟨w.heap.size, 3, none⟩) (by have := HG.out; dsimp only; omega) _))
  have FR_S0 : Hid (Fresh w1.heap.size RRows wS0 (.slice rb rn rc) rs) := Lib.hid (by rw [hwS0]; exact (Fresh.set (Fresh.set (Fresh.set (Fresh.set FR_E.out (p := ⟨w.heap.size, 0, none⟩) (by have := HG.out; dsimp only; omega) _) (p := ⟨w.heap.size, 1, none⟩) (by have := HG.out; dsimp only; omega) _) (p := ⟨w.heap.size, 2, none⟩) (by have := HG.out; dsimp only; omega) _) (p := ⟨w.heap.size, 3, none⟩) (by have := HG.out; dsimp only; omega) _))
  have HGW_S0 : Hid (Gr w wS0) := Lib.hid (by rw [hwS0]; exact (Below.setCell (Below.setCell (Below.setCell (Below.setCell (HGG.out _ HD_E.out) (p := ⟨w.heap.size, 0, none⟩) (by dsimp only; omega) _) (p := ⟨w.heap.size, 1, none⟩) (by dsimp only; omega) _) (p := ⟨w.heap.size, 2, none⟩) (by dsimp only; omega) _) (p := ⟨w.heap.size, 3, none⟩) (by dsimp only; omega) _))
  rw [← hwS0]
  clear hwS0 r0_0 f0_0 r0_1 f0_1 r0_2 f0_2 r0_3 f0_3 SR0_E SB0_E FC_E FX_E FR_E HD_E
  refine hK3.out _ _ (fun _ => SB0_S0.out) ?_
  clear hK3 K3
  try simp only [Act.put]
  refine wpAnyG_one (i := 4) rfl (by kernel_rfl) (fun K4 hK4 => ?_)
  go_simp
  refine hK4.out _ _ (fun h => absurd rfl h) ?_
  clear hK4 K4
  try simp only [Act.put]
  refine wpAnyG_done (by kernel_rfl) ?_ _
  have r0_0 := SR0_S0.out.cell (k := 0) rfl
  have r0_1 := SR0_S0.out.cell (k := 1) rfl
  have r0_2 := SR0_S0.out.cell (k := 2) rfl
  have r0_3 := SR0_S0.out.cell (k := 3) rfl
  go_wp2_with fail
  refine bodyPost_ret (v := .tuple #[.agg #[.int .i64 qid, .int .i64 ten, .slice ca cn cc, .slice xa xn xc], .slice rb rn rc]) (by simp [results, Tryz.results5, go_sem, *]) rfl ⟨_, _, qid, ten, cs, os, _, _, _, rs, rfl, HL0, Lib.hid ⟨FC_S0.out.reads, FX_S0.out.reads⟩, HLE, Lib.hid FR_S0.out.reads, HGW_S0⟩
set_option maxRecDepth 100000 in
set_option maxHeartbeats 4000000 in
theorem spec_DrawProjectRow (v : Value) (bs : List Int) (w : World) (hv : RBytes w v bs) : Calls Tryz.prog 13 #[v] w fun e w' => ∃ (qu qx : Value) (qid ten : Int) (cs : List DCond) (os : List Int) (u : Value) (id : Int) (vs : List Int), e = .returned (.tuple #[.agg #[.int .i64 qid, .int .i64 ten, qu, qx], .agg #[.int .i64 id, u]]) ∧ Hid (I64 qid ∧ I64 ten ∧ cs.length ≤ 4 ∧ os.length ≤ 4) ∧ Hid (RConds w' qu cs ∧ RInts w' qx os) ∧ Hid (I64 id ∧ vs.length ≤ 4) ∧ Hid (RInts w' u vs) ∧ Hid (Gr w w') := by
  obtain ⟨W0, hW0⟩ : ∃ W0, W0 = ((w).alloc (.cells #[.int .i64 0, .int .i64 0, .slice none 0 0, .slice none 0 0] 27)).alloc (.cells #[.int .i64 0, .slice none 0 0] 36) := ⟨_, rfl⟩
  have HW0 : Hid (Gr w W0 ∧ W0.heap.size = w.heap.size + 2 ∧ Std 27 w.heap.size #[.int .i64 0, .int .i64 0, .slice none 0 0, .slice none 0 0] W0 ∧ Std 36 (w.heap.size + 1) #[.int .i64 0, .slice none 0 0] W0) := Lib.hid (by
    rw [hW0]
    have e : (w.alloc (.cells #[.int .i64 0, .int .i64 0, .slice none 0 0, .slice none 0 0] 27)).heap.size = w.heap.size + 1 := by simp
    exact ⟨((Gr.refl w).alloc _).alloc _, by simp, (Std.new _).gr ((Gr.refl _).alloc _), by rw [← e]; exact Std.new _⟩)
  have HV := Lib.hid (RSlice.mono keeps_byte HW0.out.1 hv)
  clear hv
  go_enter Tryz.func13, Tryz.ntmps13
  go_wp2_with fail
  rw [← hW0]
  clear hW0
  refine (spec_l1New v bs _ HV.out).mono ?_
  rintro e w1 ⟨g, rfl, hg⟩
  have HG : Hid (w.heap.size + 2 ≤ g ∧ g < w1.heap.size) := Lib.hid ⟨by have := HW0.out.2.1; have := hg.out.1; omega, hg.out.2.1.lt⟩
  have HGG : Hid (∀ wx, Dr g w1 wx → Gr w wx) := Lib.hid fun wx k => HW0.out.1.trans (hg.out.2.2.trans' (k.below (fun b hb => by rw [hb]; exact hg.out.1) hg.out.2.2.size))
  have HC_1 := Lib.hid hg.out.2.1
  have HD_1 : Hid (Dr g w1 w1) := Lib.hid (Chg.refl _ _)
  have SR0_1 : Hid (Std 27 w.heap.size #[.int .i64 0, .int .i64 0, .slice none 0 0, .slice none 0 0] w1) := Lib.hid (HW0.out.2.2.1.gr hg.out.2.2)
  have SR1_1 : Hid (Std 36 (w.heap.size + 1) #[.int .i64 0, .slice none 0 0] w1) := Lib.hid (HW0.out.2.2.2.gr hg.out.2.2)
  clear hg HV HW0
  go_wp2_with fail
  refine (spec_l4Any g _ HC_1.out).mono ?_
  rintro e w2 ⟨qu, qx, qid, ten, cs, os, rfl, hl2, ho2, hk2⟩
  obtain ⟨ca, cn, cc, rfl⟩ := ho2.out.fresh1.1.reads.isSl
  obtain ⟨xa, xn, xc, rfl⟩ := ho2.out.fresh1.2.reads.isSl
  have HL0 : Hid (I64 qid ∧ I64 ten ∧ cs.length ≤ 4 ∧ os.length ≤ 4) := Lib.hid hl2.out
  have HSZ2 : Hid (w1.heap.size ≤ w1.heap.size) := Lib.hid HD_1.out.size
  have FC_2 : Hid (Fresh w1.heap.size RConds w2 (.slice ca cn cc) cs) := Lib.hid ((ho2.out.fresh1.1).le HSZ2.out)
  have FX_2 : Hid (Fresh w1.heap.size RInts w2 (.slice xa xn xc) os) := Lib.hid ((ho2.out.fresh1.2).le HSZ2.out)
  have HC_2 := Lib.hid hk2.out.1
  have HD_2 := Lib.hid (HD_1.out.trans hk2.out.2)
  have SR0_2 : Hid (Std 27 w.heap.size #[.int .i64 0, .int .i64 0, .slice none 0 0, .slice none 0 0] w2) := Lib.hid (SR0_1.out.dr (by have := HG.out; omega) hk2.out.2)
  have SR1_2 : Hid (Std 36 (w.heap.size + 1) #[.int .i64 0, .slice none 0 0] w2) := Lib.hid (SR1_1.out.dr (by have := HG.out; omega) hk2.out.2)
  clear HC_1 HD_1 SR0_1 SR1_1
  clear hl2 ho2 hk2
  obtain ⟨B0, hB0⟩ : ∃ B, B = w2.heap.size := ⟨_, rfl⟩
  obtain ⟨W3, hW3⟩ : ∃ W, W = w2.alloc (.cells #[.int .i64 qid, .int .i64 ten, .slice ca cn cc, .slice xa xn xc] 27) := ⟨_, rfl⟩
  have G3 : Gr w2 W3 := by rw [hW3]; exact (Gr.refl _).alloc _
  have HB0 : Hid (w1.heap.size ≤ B0) := Lib.hid (by rw [hB0]; exact HD_2.out.size)
  have SB0_3 : Hid (Std 27 B0 #[.int .i64 qid, .int .i64 ten, .slice ca cn cc, .slice xa xn xc] W3) := Lib.hid (by rw [hW3, hB0]; exact Std.new _)
  have HC_3 : Hid (Cur W3 g) := Lib.hid (HC_2.out.gr G3)
  have HD_3 : Hid (Dr g w1 W3) := Lib.hid (HD_2.out.belowT G3 HD_2.out.size)
  have SR0_3 : Hid (Std 27 w.heap.size #[.int .i64 0, .int .i64 0, .slice none 0 0, .slice none 0 0] W3) := Lib.hid (SR0_2.out.gr G3)
  have SR1_3 : Hid (Std 36 (w.heap.size + 1) #[.int .i64 0, .slice none 0 0] W3) := Lib.hid (SR1_2.out.gr G3)
  have FC_3 : Hid (Fresh w1.heap.size RConds W3 (.slice ca cn cc) cs) := Lib.hid (FC_2.out.mono G3)
  have FX_3 : Hid (Fresh w1.heap.size RInts W3 (.slice xa xn xc) os) := Lib.hid (FX_2.out.mono G3)
  clear HC_2 HD_2 SR0_2 SR1_2 FC_2 FX_2
  clear G3
  go_wp2_with fail
  rw [← hW3, ← hB0]
  clear hW3 hB0
  obtain ⟨WD, hWD⟩ : ∃ WD, WD = W3.drew := ⟨_, rfl⟩
  have GD : Gr W3 WD := by rw [hWD]; exact (Gr.refl _).drew
  have HC_D : Hid (Cur WD g) := Lib.hid (HC_3.out.gr GD)
  have HD_D : Hid (Dr g w1 WD) := Lib.hid (HD_3.out.belowT GD HD_3.out.size)
  have SR0_D : Hid (Std 27 w.heap.size #[.int .i64 0, .int .i64 0, .slice none 0 0, .slice none 0 0] WD) := Lib.hid (SR0_3.out.gr GD)
  have SR1_D : Hid (Std 36 (w.heap.size + 1) #[.int .i64 0, .slice none 0 0] WD) := Lib.hid (SR1_3.out.gr GD)
  have SB0_D : Hid (Std 27 B0 #[.int .i64 qid, .int .i64 ten, .slice ca cn cc, .slice xa xn xc] WD) := Lib.hid (SB0_3.out.gr GD)
  have FC_D : Hid (Fresh w1.heap.size RConds WD (.slice ca cn cc) cs) := Lib.hid (FC_3.out.mono GD)
  have FX_D : Hid (Fresh w1.heap.size RInts WD (.slice xa xn xc) os) := Lib.hid (FX_3.out.mono GD)
  refine wp_region_G (S := fun w' => Std 27 B0 #[.int .i64 qid, .int .i64 ten, .slice ca cn cc, .slice xa xn xc] w') (m := 4) (by kernel_rfl) ?_
  rw [← hWD]
  clear hWD GD HC_3 HD_3 SR0_3 SR1_3 SB0_3 FC_3 FX_3
  have hS : (fun w' : World => Std 27 B0 #[.int .i64 qid, .int .i64 ten, .slice ca cn cc, .slice xa xn xc] w') WD := SB0_D.out
  refine wpAnyG_take (i := 0) (v := ?v0) hS rfl (by kernel_rfl) (by kernel_rfl) (by kernel_rfl) (by kernel_rfl) (fun _ _ _ h => h) (Or.inl ⟨by rfl, ?hy0⟩) ?rest0
  case hy0 => (intro w' hw'; have c0 := hw'.cell (k := 0) rfl; have c1 := hw'.cell (k := 1) rfl; have c2 := hw'.cell (k := 2) rfl; have c3 := hw'.cell (k := 3) rfl; go_simp; try with_reducible rfl)
  try simp only [Act.put]
  refine wpAnyG_take (i := 1) (v := ?v1) hS rfl (by kernel_rfl) (by kernel_rfl) (by kernel_rfl) (by kernel_rfl) (fun _ _ _ h => h) (Or.inl ⟨by rfl, ?hy1⟩) ?rest1
  case hy1 => (intro w' hw'; go_simp; try with_reducible rfl)
  try simp only [Act.put]
  refine wpAnyG_one (i := 2) rfl (by kernel_rfl) (fun K2 hK2 => ?_)
  go_simp
  refine (spec_l3Any g _ HC_D.out).mono ?_
  rintro e wE ⟨u, id, vs, rfl, hlE, hoE, hkE⟩
  obtain ⟨ua, un, uc, rfl⟩ := hoE.out.reads.isSl
  have HLE : Hid (I64 id ∧ vs.length ≤ 4) := Lib.hid hlE.out
  have FV_E : Hid (Fresh w1.heap.size RInts wE (.slice ua un uc) vs) := Lib.hid (((hoE.out.fresh1).le (Nat.le_succ _)).le HD_D.out.size)
  have HD_E := Lib.hid (HD_D.out.trans hkE.out.2)
  have SR0_E : Hid (Std 27 w.heap.size #[.int .i64 0, .int .i64 0, .slice none 0 0, .slice none 0 0] wE) := Lib.hid (SR0_D.out.dr (by have := HG.out; omega) hkE.out.2)
  have SR1_E : Hid (Std 36 (w.heap.size + 1) #[.int .i64 0, .slice none 0 0] wE) := Lib.hid (SR1_D.out.dr (by have := HG.out; omega) hkE.out.2)
  have SB0_E : Hid (Std 27 B0 #[.int .i64 qid, .int .i64 ten, .slice ca cn cc, .slice xa xn xc] wE) := Lib.hid (SB0_D.out.dr (by have := HG.out; have := HB0.out; omega) hkE.out.2)
  have FC_E : Hid (Fresh w1.heap.size RConds wE (.slice ca cn cc) cs) := Lib.hid (FC_D.out.dr HG.out.2 hkE.out.2)
  have FX_E : Hid (Fresh w1.heap.size RInts wE (.slice xa xn xc) os) := Lib.hid (FX_D.out.dr HG.out.2 hkE.out.2)
  clear hlE hoE hkE hS HC_D HD_D SR0_D SR1_D SB0_D FC_D FX_D
  go_simp
  refine hK2.out _ _ (fun _ => SB0_E.out) ?_
  clear hK2 K2
  try simp only [Act.put]
  refine wpAnyG_one (i := 3) rfl (by kernel_rfl) (fun K3 hK3 => ?_)
  have r0_0 := SR0_E.out.cell (k := 0) rfl
  have f0_0 := SR0_E.out.frz 0
  have r0_1 := SR0_E.out.cell (k := 1) rfl
  have f0_1 := SR0_E.out.frz 1
  have r0_2 := SR0_E.out.cell (k := 2) rfl
  have f0_2 := SR0_E.out.frz 2
  have r0_3 := SR0_E.out.cell (k := 3) rfl
  have f0_3 := SR0_E.out.frz 3
  go_simp
  obtain ⟨wS0, hwS0⟩ : ∃ W, W = ((((wE.setCell ⟨w.heap.size, 0, none⟩ (.int .i64 qid)).setCell ⟨w.heap.size, 1, none⟩ (.int .i64 ten)).setCell ⟨w.heap.size, 2, none⟩ (.slice ca cn cc)).setCell ⟨w.heap.size, 3, none⟩ (.slice xa xn xc)) := ⟨_, rfl⟩
  have SR0_S0 : Hid (Std 27 w.heap.size #[.int .i64 qid, .int .i64 ten, .slice ca cn cc, .slice xa xn xc] wS0) := Lib.hid (by rw [hwS0]; exact (Std.put (bc' := #[.int .i64 qid, .int .i64 ten, .slice ca cn cc, .slice xa xn xc]) (k := 3) (Std.put (bc' := #[.int .i64 qid, .int .i64 ten, .slice ca cn cc, .slice none 0 0]) (k := 2) (Std.put (bc' := #[.int .i64 qid, .int .i64 ten, .slice none 0 0, .slice none 0 0]) (k := 1) (Std.put (bc' := #[.int .i64 qid, .int .i64 0, .slice none 0 0, .slice none 0 0]) (k := 0) SR0_E.out rfl) rfl) rfl) rfl))
  have SR1_S0 : Hid (Std 36 (w.heap.size + 1) #[.int .i64 0, .slice none 0 0] wS0) := Lib.hid (by rw [hwS0]; exact (Std.set (Std.set (Std.set (Std.set SR1_E.out (p := ⟨w.heap.size, 0, none⟩) (by have := HG.out; dsimp only; omega) _) (p := ⟨w.heap.size, 1, none⟩) (by have := HG.out; dsimp only; omega) _) (p := ⟨w.heap.size, 2, none⟩) (by have := HG.out; dsimp only; omega) _) (p := ⟨w.heap.size, 3, none⟩) (by have := HG.out; dsimp only; omega) _))
  have SB0_S0 : Hid (Std 27 B0 #[.int .i64 qid, .int .i64 ten, .slice ca cn cc, .slice xa xn xc] wS0) := Lib.hid (by rw [hwS0]; exact (Std.set (Std.set (Std.set (Std.set SB0_E.out (p := ⟨w.heap.size, 0, none⟩) (by have := HG.out; have := HB0.out; dsimp only; omega) _) (p := ⟨w.heap.size, 1, none⟩) (by have := HG.out; have := HB0.out; dsimp only; omega) _) (p := ⟨w.heap.size, 2, none⟩) (by have := HG.out; have := HB0.out; dsimp only; omega) _) (p := ⟨w.heap.size, 3, none⟩) (by have := HG.out; have := HB0.out; dsimp only; omega) _))
  have FC_S0 : Hid (Fresh w1.heap.size RConds wS0 (.slice ca cn cc) cs) := Lib.hid (by rw [hwS0]; exact (Fresh.set (Fresh.set (Fresh.set (Fresh.set FC_E.out (p := ⟨w.heap.size, 0, none⟩) (by have := HG.out; dsimp only; omega) _) (p := ⟨w.heap.size, 1, none⟩) (by have := HG.out; dsimp only; omega) _) (p := ⟨w.heap.size, 2, none⟩) (by have := HG.out; dsimp only; omega) _) (p := ⟨w.heap.size, 3, none⟩) (by have := HG.out; dsimp only; omega) _))
  have FX_S0 : Hid (Fresh w1.heap.size RInts wS0 (.slice xa xn xc) os) := Lib.hid (by rw [hwS0]; exact (Fresh.set (Fresh.set (Fresh.set (Fresh.set FX_E.out (p := ⟨w.heap.size, 0, none⟩) (by have := HG.out; dsimp only; omega) _) (p := ⟨w.heap.size, 1, none⟩) (by have := HG.out; dsimp only; omega) _) (p := ⟨w.heap.size, 2, none⟩) (by have := HG.out; dsimp only; omega) _) (p := ⟨w.heap.size, 3, none⟩) (by have := HG.out; dsimp only; omega) _))
  have FV_S0 : Hid (Fresh w1.heap.size RInts wS0 (.slice ua un uc) vs) := Lib.hid (by rw [hwS0]; exact (Fresh.set (Fresh.set (Fresh.set (Fresh.set FV_E.out (p := ⟨w.heap.size, 0, none⟩) (by have := HG.out; dsimp only; omega) _) (p := ⟨w.heap.size, 1, none⟩) (by have := HG.out; dsimp only; omega) _) (p := ⟨w.heap.size, 2, none⟩) (by have := HG.out; dsimp only; omega) _) (p := ⟨w.heap.size, 3, none⟩) (by have := HG.out; dsimp only; omega) _))
  have HGW_S0 : Hid (Gr w wS0) := Lib.hid (by rw [hwS0]; exact (Below.setCell (Below.setCell (Below.setCell (Below.setCell (HGG.out _ HD_E.out) (p := ⟨w.heap.size, 0, none⟩) (by dsimp only; omega) _) (p := ⟨w.heap.size, 1, none⟩) (by dsimp only; omega) _) (p := ⟨w.heap.size, 2, none⟩) (by dsimp only; omega) _) (p := ⟨w.heap.size, 3, none⟩) (by dsimp only; omega) _))
  rw [← hwS0]
  clear hwS0 r0_0 f0_0 r0_1 f0_1 r0_2 f0_2 r0_3 f0_3 SR0_E SR1_E SB0_E FC_E FX_E FV_E HD_E
  refine hK3.out _ _ (fun _ => SB0_S0.out) ?_
  clear hK3 K3
  try simp only [Act.put]
  refine wpAnyG_one (i := 4) rfl (by kernel_rfl) (fun K4 hK4 => ?_)
  have r1_0 := SR1_S0.out.cell (k := 0) rfl
  have f1_0 := SR1_S0.out.frz 0
  have r1_1 := SR1_S0.out.cell (k := 1) rfl
  have f1_1 := SR1_S0.out.frz 1
  go_simp
  obtain ⟨wS1, hwS1⟩ : ∃ W, W = ((wS0.setCell ⟨(w.heap.size + 1), 0, none⟩ (.int .i64 id)).setCell ⟨(w.heap.size + 1), 1, none⟩ (.slice ua un uc)) := ⟨_, rfl⟩
  have SR0_S1 : Hid (Std 27 w.heap.size #[.int .i64 qid, .int .i64 ten, .slice ca cn cc, .slice xa xn xc] wS1) := Lib.hid (by rw [hwS1]; exact (Std.set (Std.set SR0_S0.out (p := ⟨(w.heap.size + 1), 0, none⟩) (by have := HG.out; dsimp only; omega) _) (p := ⟨(w.heap.size + 1), 1, none⟩) (by have := HG.out; dsimp only; omega) _))
  have SR1_S1 : Hid (Std 36 (w.heap.size + 1) #[.int .i64 id, .slice ua un uc] wS1) := Lib.hid (by rw [hwS1]; exact (Std.put (bc' := #[.int .i64 id, .slice ua un uc]) (k := 1) (Std.put (bc' := #[.int .i64 id, .slice none 0 0]) (k := 0) SR1_S0.out rfl) rfl))
  have SB0_S1 : Hid (Std 27 B0 #[.int .i64 qid, .int .i64 ten, .slice ca cn cc, .slice xa xn xc] wS1) := Lib.hid (by rw [hwS1]; exact (Std.set (Std.set SB0_S0.out (p := ⟨(w.heap.size + 1), 0, none⟩) (by have := HG.out; have := HB0.out; dsimp only; omega) _) (p := ⟨(w.heap.size + 1), 1, none⟩) (by have := HG.out; have := HB0.out; dsimp only; omega) _))
  have FC_S1 : Hid (Fresh w1.heap.size RConds wS1 (.slice ca cn cc) cs) := Lib.hid (by rw [hwS1]; exact (Fresh.set (Fresh.set FC_S0.out (p := ⟨(w.heap.size + 1), 0, none⟩) (by have := HG.out; dsimp only; omega) _) (p := ⟨(w.heap.size + 1), 1, none⟩) (by have := HG.out; dsimp only; omega) _))
  have FX_S1 : Hid (Fresh w1.heap.size RInts wS1 (.slice xa xn xc) os) := Lib.hid (by rw [hwS1]; exact (Fresh.set (Fresh.set FX_S0.out (p := ⟨(w.heap.size + 1), 0, none⟩) (by have := HG.out; dsimp only; omega) _) (p := ⟨(w.heap.size + 1), 1, none⟩) (by have := HG.out; dsimp only; omega) _))
  have FV_S1 : Hid (Fresh w1.heap.size RInts wS1 (.slice ua un uc) vs) := Lib.hid (by rw [hwS1]; exact (Fresh.set (Fresh.set FV_S0.out (p := ⟨(w.heap.size + 1), 0, none⟩) (by have := HG.out; dsimp only; omega) _) (p := ⟨(w.heap.size + 1), 1, none⟩) (by have := HG.out; dsimp only; omega) _))
  have HGW_S1 : Hid (Gr w wS1) := Lib.hid (by rw [hwS1]; exact (Below.setCell (Below.setCell HGW_S0.out (p := ⟨(w.heap.size + 1), 0, none⟩) (by dsimp only; omega) _) (p := ⟨(w.heap.size + 1), 1, none⟩) (by dsimp only; omega) _))
  rw [← hwS1]
  clear hwS1 r1_0 f1_0 r1_1 f1_1 SR0_S0 SR1_S0 SB0_S0 FC_S0 FX_S0 FV_S0 HGW_S0
  refine hK4.out _ _ (fun h => absurd rfl h) ?_
  clear hK4 K4
  try simp only [Act.put]
  refine wpAnyG_done (by kernel_rfl) ?_ _
  have r0_0 := SR0_S1.out.cell (k := 0) rfl
  have r0_1 := SR0_S1.out.cell (k := 1) rfl
  have r0_2 := SR0_S1.out.cell (k := 2) rfl
  have r0_3 := SR0_S1.out.cell (k := 3) rfl
  have r1_0 := SR1_S1.out.cell (k := 0) rfl
  have r1_1 := SR1_S1.out.cell (k := 1) rfl
  go_wp2_with fail
  refine bodyPost_ret (v := .tuple #[.agg #[.int .i64 qid, .int .i64 ten, .slice ca cn cc, .slice xa xn xc], .agg #[.int .i64 id, .slice ua un uc]]) (by simp [results, Tryz.results13, go_sem, *]) rfl ⟨_, _, qid, ten, cs, os, _, id, vs, rfl, HL0, Lib.hid ⟨FC_S1.out.reads, FX_S1.out.reads⟩, HLE, Lib.hid FV_S1.out.reads, HGW_S1⟩
end Go.Proofs.YtcdcpfcmhmhdjaaGreatDoor
