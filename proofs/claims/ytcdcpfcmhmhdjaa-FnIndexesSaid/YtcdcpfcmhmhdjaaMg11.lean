/- The drawing of values: an index, rows, an order. (Printed by gen_drawy.py.) -/
import Derived.Test.YtcdcpfcmhmhdjaaMg5
import Derived.Test.YtcdcpfcmhmhdjaaMg6
import Derived.Test.YtcdcpfcmhmhdjaaMg10
namespace Go.Proofs.Ytcdcpfcmhmhdjaa
open Go.RowKit Go.ChangeShapes Go.WideShapes Go.Deep
set_option maxRecDepth 100000 in
set_option maxHeartbeats 4000000 in
theorem spec_DrawMatchSet (v : Value) (bs : List Int) (w : World) (hv : RBytes w v bs) : Calls Try.prog 12 #[v] w fun e w' => ∃ (vq vf : Value) (x : DIndex) (u : Value) (id : Int) (vs : List Int), e = .returned (.tuple #[.agg #[vq, vf], .agg #[.int .i64 id, u]]) ∧ Hid (totIndex x ≤ 8000 ∧ x.queries.length ≤ 7) ∧ Hid (RQueries w' vq x.queries ∧ RSpanss w' vf x.fields) ∧ Hid (I64 id ∧ vs.length ≤ 4) ∧ Hid (RInts w' u vs) ∧ Hid (Gr w w') := by
  obtain ⟨W0, hW0⟩ : ∃ W0, W0 = ((w).alloc (.cells #[.slice none 0 0, .slice none 0 0] 27)).alloc (.cells #[.int .i64 0, .slice none 0 0] 30) := ⟨_, rfl⟩
  have HW0 : Hid (Gr w W0 ∧ W0.heap.size = w.heap.size + 2 ∧ Std 27 w.heap.size #[.slice none 0 0, .slice none 0 0] W0 ∧ Std 30 (w.heap.size + 1) #[.int .i64 0, .slice none 0 0] W0) := Lib.hid (by
    rw [hW0]
    have e : (w.alloc (.cells #[.slice none 0 0, .slice none 0 0] 27)).heap.size = w.heap.size + 1 := by simp
    exact ⟨((Gr.refl w).alloc _).alloc _, by simp, (Std.new _).gr ((Gr.refl _).alloc _), by rw [← e]; exact Std.new _⟩)
  have HV := Lib.hid (RSlice.mono keeps_byte HW0.out.1 hv)
  clear hv
  go_enter Try.func12, Try.ntmps12
  go_wp2_with fail
  rw [← hW0]
  clear hW0
  refine (spec_l1New v bs _ HV.out).mono ?_
  rintro e w1 ⟨g, rfl, hg⟩
  have HG : Hid (w.heap.size + 2 ≤ g ∧ g < w1.heap.size) := Lib.hid ⟨by have := HW0.out.2.1; have := hg.out.1; omega, hg.out.2.1.lt⟩
  have HGG : Hid (∀ wx, Dr g w1 wx → Gr w wx) := Lib.hid fun wx k => HW0.out.1.trans (hg.out.2.2.trans' (k.below (fun b hb => by rw [hb]; exact hg.out.1) hg.out.2.2.size))
  have HC_1 := Lib.hid hg.out.2.1
  have HD_1 : Hid (Dr g w1 w1) := Lib.hid (Chg.refl _ _)
  have SR0_1 : Hid (Std 27 w.heap.size #[.slice none 0 0, .slice none 0 0] w1) := Lib.hid (HW0.out.2.2.1.gr hg.out.2.2)
  have SR1_1 : Hid (Std 30 (w.heap.size + 1) #[.int .i64 0, .slice none 0 0] w1) := Lib.hid (HW0.out.2.2.2.gr hg.out.2.2)
  clear hg HV HW0
  go_wp2_with fail
  refine (spec_l6Index g _ HC_1.out).mono ?_
  rintro e w2 ⟨vq, vf, x, rfl, hl2, hq2, hf2, hk2⟩
  obtain ⟨qa, qn, qc, rfl⟩ := hq2.out.reads.isSl
  obtain ⟨fa, fn, fc, rfl⟩ := hf2.out.reads.isSl
  have HL0 : Hid (totIndex x ≤ 8000 ∧ x.queries.length ≤ 7) := Lib.hid hl2.out
  have HSZ2 : Hid (w1.heap.size ≤ w1.heap.size) := Lib.hid HD_1.out.size
  have FQ_2 : Hid (Fresh w1.heap.size RQueries w2 (.slice qa qn qc) x.queries) := Lib.hid ((hq2.out).le HSZ2.out)
  have FF_2 : Hid (Fresh w1.heap.size RSpanss w2 (.slice fa fn fc) x.fields) := Lib.hid ((hf2.out).le HSZ2.out)
  have HC_2 := Lib.hid hk2.out.1
  have HD_2 := Lib.hid (HD_1.out.trans hk2.out.2)
  have SR0_2 : Hid (Std 27 w.heap.size #[.slice none 0 0, .slice none 0 0] w2) := Lib.hid (SR0_1.out.dr (by have := HG.out; omega) hk2.out.2)
  have SR1_2 : Hid (Std 30 (w.heap.size + 1) #[.int .i64 0, .slice none 0 0] w2) := Lib.hid (SR1_1.out.dr (by have := HG.out; omega) hk2.out.2)
  clear HC_1 HD_1 SR0_1 SR1_1
  clear hl2 hq2 hf2 hk2
  obtain ⟨B0, hB0⟩ : ∃ B, B = w2.heap.size := ⟨_, rfl⟩
  obtain ⟨W3, hW3⟩ : ∃ W, W = w2.alloc (.cells #[.slice qa qn qc, .slice fa fn fc] 27) := ⟨_, rfl⟩
  have G3 : Gr w2 W3 := by rw [hW3]; exact (Gr.refl _).alloc _
  have HB0 : Hid (w1.heap.size ≤ B0) := Lib.hid (by rw [hB0]; exact HD_2.out.size)
  have SB0_3 : Hid (Std 27 B0 #[.slice qa qn qc, .slice fa fn fc] W3) := Lib.hid (by rw [hW3, hB0]; exact Std.new _)
  have HC_3 : Hid (Cur W3 g) := Lib.hid (HC_2.out.gr G3)
  have HD_3 : Hid (Dr g w1 W3) := Lib.hid (HD_2.out.belowT G3 HD_2.out.size)
  have SR0_3 : Hid (Std 27 w.heap.size #[.slice none 0 0, .slice none 0 0] W3) := Lib.hid (SR0_2.out.gr G3)
  have SR1_3 : Hid (Std 30 (w.heap.size + 1) #[.int .i64 0, .slice none 0 0] W3) := Lib.hid (SR1_2.out.gr G3)
  have FQ_3 : Hid (Fresh w1.heap.size RQueries W3 (.slice qa qn qc) x.queries) := Lib.hid (FQ_2.out.mono G3)
  have FF_3 : Hid (Fresh w1.heap.size RSpanss W3 (.slice fa fn fc) x.fields) := Lib.hid (FF_2.out.mono G3)
  clear HC_2 HD_2 SR0_2 SR1_2 FQ_2 FF_2
  clear G3
  go_wp2_with fail
  rw [← hW3, ← hB0]
  clear hW3 hB0
  obtain ⟨WD, hWD⟩ : ∃ WD, WD = W3.drew := ⟨_, rfl⟩
  have GD : Gr W3 WD := by rw [hWD]; exact (Gr.refl _).drew
  have HC_D : Hid (Cur WD g) := Lib.hid (HC_3.out.gr GD)
  have HD_D : Hid (Dr g w1 WD) := Lib.hid (HD_3.out.belowT GD HD_3.out.size)
  have SR0_D : Hid (Std 27 w.heap.size #[.slice none 0 0, .slice none 0 0] WD) := Lib.hid (SR0_3.out.gr GD)
  have SR1_D : Hid (Std 30 (w.heap.size + 1) #[.int .i64 0, .slice none 0 0] WD) := Lib.hid (SR1_3.out.gr GD)
  have SB0_D : Hid (Std 27 B0 #[.slice qa qn qc, .slice fa fn fc] WD) := Lib.hid (SB0_3.out.gr GD)
  have FQ_D : Hid (Fresh w1.heap.size RQueries WD (.slice qa qn qc) x.queries) := Lib.hid (FQ_3.out.mono GD)
  have FF_D : Hid (Fresh w1.heap.size RSpanss WD (.slice fa fn fc) x.fields) := Lib.hid (FF_3.out.mono GD)
  refine wp_region_G (S := fun w' => Std 27 B0 #[.slice qa qn qc, .slice fa fn fc] w') (m := 4) (by kernel_rfl) ?_
  rw [← hWD]
  clear hWD GD HC_3 HD_3 SR0_3 SR1_3 SB0_3 FQ_3 FF_3
  have hS : (fun w' : World => Std 27 B0 #[.slice qa qn qc, .slice fa fn fc] w') WD := SB0_D.out
  refine wpAnyG_take (i := 0) (v := ?v0) hS rfl (by kernel_rfl) (by kernel_rfl) (by kernel_rfl) (by kernel_rfl) (fun _ _ _ h => h) (Or.inl ⟨by rfl, ?hy0⟩) ?rest0
  case hy0 => (intro w' hw'; have c0 := hw'.cell (k := 0) rfl; have c1 := hw'.cell (k := 1) rfl; go_simp; try with_reducible rfl)
  try simp only [Act.put]
  refine wpAnyG_take (i := 1) (v := ?v1) hS rfl (by kernel_rfl) (by kernel_rfl) (by kernel_rfl) (by kernel_rfl) (fun _ _ _ h => h) (Or.inl ⟨by rfl, ?hy1⟩) ?rest1
  case hy1 => (intro w' hw'; go_simp; try with_reducible rfl)
  try simp only [Act.put]
  refine wpAnyG_one (i := 2) rfl (by kernel_rfl) (fun K2 hK2 => ?_)
  go_simp
  refine (spec_l3Any g _ HC_D.out).mono ?_
  rintro e wE ⟨u, id, vs, rfl, hlE, hoE, hkE⟩
  obtain ⟨ua, un, uc, rfl⟩ := hoE.out.reads.isSl
  have HLE : Hid (I64 id ∧ vs.length ≤ 4) := Lib.hid hlE.out
  have FV_E : Hid (Fresh w1.heap.size RInts wE (.slice ua un uc) vs) := Lib.hid (((hoE.out.fresh1).le (Nat.le_succ _)).le HD_D.out.size)
  have HD_E := Lib.hid (HD_D.out.trans hkE.out.2)
  have SR0_E : Hid (Std 27 w.heap.size #[.slice none 0 0, .slice none 0 0] wE) := Lib.hid (SR0_D.out.dr (by have := HG.out; omega) hkE.out.2)
  have SR1_E : Hid (Std 30 (w.heap.size + 1) #[.int .i64 0, .slice none 0 0] wE) := Lib.hid (SR1_D.out.dr (by have := HG.out; omega) hkE.out.2)
  have SB0_E : Hid (Std 27 B0 #[.slice qa qn qc, .slice fa fn fc] wE) := Lib.hid (SB0_D.out.dr (by have := HG.out; have := HB0.out; omega) hkE.out.2)
  have FQ_E : Hid (Fresh w1.heap.size RQueries wE (.slice qa qn qc) x.queries) := Lib.hid (FQ_D.out.dr HG.out.2 hkE.out.2)
  have FF_E : Hid (Fresh w1.heap.size RSpanss wE (.slice fa fn fc) x.fields) := Lib.hid (FF_D.out.dr HG.out.2 hkE.out.2)
  clear hlE hoE hkE hS HC_D HD_D SR0_D SR1_D SB0_D FQ_D FF_D
  go_simp
  refine hK2.out _ _ (fun _ => SB0_E.out) ?_
  clear hK2 K2
  try simp only [Act.put]
  refine wpAnyG_one (i := 3) rfl (by kernel_rfl) (fun K3 hK3 => ?_)
  have r0_0 := SR0_E.out.cell (k := 0) rfl
  have f0_0 := SR0_E.out.frz 0
  have r0_1 := SR0_E.out.cell (k := 1) rfl
  have f0_1 := SR0_E.out.frz 1
  go_simp
  obtain ⟨wS0, hwS0⟩ : ∃ W, W = ((wE.setCell ⟨w.heap.size, 0, none⟩ (.slice qa qn qc)).setCell ⟨w.heap.size, 1, none⟩ (.slice fa fn fc)) := ⟨_, rfl⟩
  have SR0_S0 : Hid (Std 27 w.heap.size #[.slice qa qn qc, .slice fa fn fc] wS0) := Lib.hid (by rw [hwS0]; exact (Std.put (bc' := #[.slice qa qn qc, .slice fa fn fc]) (k := 1) (Std.put (bc' := #[.slice qa qn qc, .slice none 0 0]) (k := 0) SR0_E.out rfl) rfl))
  have SR1_S0 : Hid (Std 30 (w.heap.size + 1) #[.int .i64 0, .slice none 0 0] wS0) := Lib.hid (by rw [hwS0]; exact (Std.set (Std.set SR1_E.out (p := ⟨w.heap.size, 0, none⟩) (by have := HG.out; dsimp only; omega) _) (p := ⟨w.heap.size, 1, none⟩) (by have := HG.out; dsimp only; omega) _))
  have SB0_S0 : Hid (Std 27 B0 #[.slice qa qn qc, .slice fa fn fc] wS0) := Lib.hid (by rw [hwS0]; exact (Std.set (Std.set SB0_E.out (p := ⟨w.heap.size, 0, none⟩) (by have := HG.out; have := HB0.out; dsimp only; omega) _) (p := ⟨w.heap.size, 1, none⟩) (by have := HG.out; have := HB0.out; dsimp only; omega) _))
  have FQ_S0 : Hid (Fresh w1.heap.size RQueries wS0 (.slice qa qn qc) x.queries) := Lib.hid (by rw [hwS0]; exact (Fresh.set (Fresh.set FQ_E.out (p := ⟨w.heap.size, 0, none⟩) (by have := HG.out; dsimp only; omega) _) (p := ⟨w.heap.size, 1, none⟩) (by have := HG.out; dsimp only; omega) _))
  have FF_S0 : Hid (Fresh w1.heap.size RSpanss wS0 (.slice fa fn fc) x.fields) := Lib.hid (by rw [hwS0]; exact (Fresh.set (Fresh.set FF_E.out (p := ⟨w.heap.size, 0, none⟩) (by have := HG.out; dsimp only; omega) _) (p := ⟨w.heap.size, 1, none⟩) (by have := HG.out; dsimp only; omega) _))
  have FV_S0 : Hid (Fresh w1.heap.size RInts wS0 (.slice ua un uc) vs) := Lib.hid (by rw [hwS0]; exact (Fresh.set (Fresh.set FV_E.out (p := ⟨w.heap.size, 0, none⟩) (by have := HG.out; dsimp only; omega) _) (p := ⟨w.heap.size, 1, none⟩) (by have := HG.out; dsimp only; omega) _))
  have HGW_S0 : Hid (Gr w wS0) := Lib.hid (by rw [hwS0]; exact (Below.setCell (Below.setCell (HGG.out _ HD_E.out) (p := ⟨w.heap.size, 0, none⟩) (by dsimp only; omega) _) (p := ⟨w.heap.size, 1, none⟩) (by dsimp only; omega) _))
  rw [← hwS0]
  clear hwS0 r0_0 f0_0 r0_1 f0_1 SR0_E SR1_E SB0_E FQ_E FF_E FV_E HD_E
  refine hK3.out _ _ (fun _ => SB0_S0.out) ?_
  clear hK3 K3
  try simp only [Act.put]
  refine wpAnyG_one (i := 4) rfl (by kernel_rfl) (fun K4 hK4 => ?_)
  have r1_0 := SR1_S0.out.cell (k := 0) rfl
  have f1_0 := SR1_S0.out.frz 0
  have r1_1 := SR1_S0.out.cell (k := 1) rfl
  have f1_1 := SR1_S0.out.frz 1
  go_simp
  obtain ⟨wS1, hwS1⟩ : ∃ W, W = ((wS0.setCell ⟨(w.heap.size + 1), 0, none⟩ (.int .i64 id)).setCell ⟨(w.heap.size + 1), 1, none⟩ (.slice ua un uc)) := ⟨_, rfl⟩
  have SR0_S1 : Hid (Std 27 w.heap.size #[.slice qa qn qc, .slice fa fn fc] wS1) := Lib.hid (by rw [hwS1]; exact (Std.set (Std.set SR0_S0.out (p := ⟨(w.heap.size + 1), 0, none⟩) (by have := HG.out; dsimp only; omega) _) (p := ⟨(w.heap.size + 1), 1, none⟩) (by have := HG.out; dsimp only; omega) _))
  have SR1_S1 : Hid (Std 30 (w.heap.size + 1) #[.int .i64 id, .slice ua un uc] wS1) := Lib.hid (by rw [hwS1]; exact (Std.put (bc' := #[.int .i64 id, .slice ua un uc]) (k := 1) (Std.put (bc' := #[.int .i64 id, .slice none 0 0]) (k := 0) SR1_S0.out rfl) rfl))
  have SB0_S1 : Hid (Std 27 B0 #[.slice qa qn qc, .slice fa fn fc] wS1) := Lib.hid (by rw [hwS1]; exact (Std.set (Std.set SB0_S0.out (p := ⟨(w.heap.size + 1), 0, none⟩) (by have := HG.out; have := HB0.out; dsimp only; omega) _) (p := ⟨(w.heap.size + 1), 1, none⟩) (by have := HG.out; have := HB0.out; dsimp only; omega) _))
  have FQ_S1 : Hid (Fresh w1.heap.size RQueries wS1 (.slice qa qn qc) x.queries) := Lib.hid (by rw [hwS1]; exact (Fresh.set (Fresh.set FQ_S0.out (p := ⟨(w.heap.size + 1), 0, none⟩) (by have := HG.out; dsimp only; omega) _) (p := ⟨(w.heap.size + 1), 1, none⟩) (by have := HG.out; dsimp only; omega) _))
  have FF_S1 : Hid (Fresh w1.heap.size RSpanss wS1 (.slice fa fn fc) x.fields) := Lib.hid (by rw [hwS1]; exact (Fresh.set (Fresh.set FF_S0.out (p := ⟨(w.heap.size + 1), 0, none⟩) (by have := HG.out; dsimp only; omega) _) (p := ⟨(w.heap.size + 1), 1, none⟩) (by have := HG.out; dsimp only; omega) _))
  have FV_S1 : Hid (Fresh w1.heap.size RInts wS1 (.slice ua un uc) vs) := Lib.hid (by rw [hwS1]; exact (Fresh.set (Fresh.set FV_S0.out (p := ⟨(w.heap.size + 1), 0, none⟩) (by have := HG.out; dsimp only; omega) _) (p := ⟨(w.heap.size + 1), 1, none⟩) (by have := HG.out; dsimp only; omega) _))
  have HGW_S1 : Hid (Gr w wS1) := Lib.hid (by rw [hwS1]; exact (Below.setCell (Below.setCell HGW_S0.out (p := ⟨(w.heap.size + 1), 0, none⟩) (by dsimp only; omega) _) (p := ⟨(w.heap.size + 1), 1, none⟩) (by dsimp only; omega) _))
  rw [← hwS1]
  clear hwS1 r1_0 f1_0 r1_1 f1_1 SR0_S0 SR1_S0 SB0_S0 FQ_S0 FF_S0 FV_S0 HGW_S0
  refine hK4.out _ _ (fun h => absurd rfl h) ?_
  clear hK4 K4
  try simp only [Act.put]
  refine wpAnyG_done (by kernel_rfl) ?_ _
  have r0_0 := SR0_S1.out.cell (k := 0) rfl
  have r0_1 := SR0_S1.out.cell (k := 1) rfl
  have r1_0 := SR1_S1.out.cell (k := 0) rfl
  have r1_1 := SR1_S1.out.cell (k := 1) rfl
  go_wp2_with fail
  refine bodyPost_ret (v := .tuple #[.agg #[.slice qa qn qc, .slice fa fn fc], .agg #[.int .i64 id, .slice ua un uc]]) (by simp [results, Try.results12, go_sem, *]) rfl ⟨_, _, x, _, id, vs, rfl, HL0, Lib.hid ⟨FQ_S1.out.reads, FF_S1.out.reads⟩, HLE, Lib.hid FV_S1.out.reads, HGW_S1⟩
set_option maxRecDepth 100000 in
set_option maxHeartbeats 4000000 in
theorem spec_DrawBestOrder (v : Value) (bs : List Int) (w : World) (hv : RBytes w v bs) : Calls Try.prog 16 #[v] w fun e w' => ∃ (vq vf : Value) (x : DIndex) (rb : Option Addr) (rn rc : Nat) (rs : List DRow), e = .returned (.tuple #[.agg #[vq, vf], .slice rb rn rc]) ∧ Hid (totIndex x ≤ 8000 ∧ x.queries.length ≤ 7) ∧ Hid (RQueries w' vq x.queries ∧ RSpanss w' vf x.fields) ∧ Hid (rn = rs.length ∧ rs.length ≤ 9 ∧ ∀ r ∈ rs, totRow r ≤ 4) ∧ Hid (RRows w' (.slice rb rn rc) rs) ∧ Hid (Gr w w') := by
  obtain ⟨W0, hW0⟩ : ∃ W0, W0 = (w).alloc (.cells #[.slice none 0 0, .slice none 0 0] 27) := ⟨_, rfl⟩
  have HW0 : Hid (Gr w W0 ∧ W0.heap.size = w.heap.size + 1 ∧ Std 27 w.heap.size #[.slice none 0 0, .slice none 0 0] W0) := Lib.hid (by
    rw [hW0]
    exact ⟨(Gr.refl w).alloc _, by simp, Std.new _⟩)
  have HV := Lib.hid (RSlice.mono keeps_byte HW0.out.1 hv)
  clear hv
  go_enter Try.func16, Try.ntmps16
  go_wp2_with fail
  rw [← hW0]
  clear hW0
  refine (spec_l1New v bs _ HV.out).mono ?_
  rintro e w1 ⟨g, rfl, hg⟩
  have HG : Hid (w.heap.size + 1 ≤ g ∧ g < w1.heap.size) := Lib.hid ⟨by have := HW0.out.2.1; have := hg.out.1; omega, hg.out.2.1.lt⟩
  have HGG : Hid (∀ wx, Dr g w1 wx → Gr w wx) := Lib.hid fun wx k => HW0.out.1.trans (hg.out.2.2.trans' (k.below (fun b hb => by rw [hb]; exact hg.out.1) hg.out.2.2.size))
  have HC_1 := Lib.hid hg.out.2.1
  have HD_1 : Hid (Dr g w1 w1) := Lib.hid (Chg.refl _ _)
  have SR0_1 : Hid (Std 27 w.heap.size #[.slice none 0 0, .slice none 0 0] w1) := Lib.hid (HW0.out.2.2.gr hg.out.2.2)
  clear hg HV HW0
  go_wp2_with fail
  refine (spec_l6Index g _ HC_1.out).mono ?_
  rintro e w2 ⟨vq, vf, x, rfl, hl2, hq2, hf2, hk2⟩
  obtain ⟨qa, qn, qc, rfl⟩ := hq2.out.reads.isSl
  obtain ⟨fa, fn, fc, rfl⟩ := hf2.out.reads.isSl
  have HL0 : Hid (totIndex x ≤ 8000 ∧ x.queries.length ≤ 7) := Lib.hid hl2.out
  have HSZ2 : Hid (w1.heap.size ≤ w1.heap.size) := Lib.hid HD_1.out.size
  have FQ_2 : Hid (Fresh w1.heap.size RQueries w2 (.slice qa qn qc) x.queries) := Lib.hid ((hq2.out).le HSZ2.out)
  have FF_2 : Hid (Fresh w1.heap.size RSpanss w2 (.slice fa fn fc) x.fields) := Lib.hid ((hf2.out).le HSZ2.out)
  have HC_2 := Lib.hid hk2.out.1
  have HD_2 := Lib.hid (HD_1.out.trans hk2.out.2)
  have SR0_2 : Hid (Std 27 w.heap.size #[.slice none 0 0, .slice none 0 0] w2) := Lib.hid (SR0_1.out.dr (by have := HG.out; omega) hk2.out.2)
  clear HC_1 HD_1 SR0_1
  clear hl2 hq2 hf2 hk2
  obtain ⟨B0, hB0⟩ : ∃ B, B = w2.heap.size := ⟨_, rfl⟩
  obtain ⟨W3, hW3⟩ : ∃ W, W = w2.alloc (.cells #[.slice qa qn qc, .slice fa fn fc] 27) := ⟨_, rfl⟩
  have G3 : Gr w2 W3 := by rw [hW3]; exact (Gr.refl _).alloc _
  have HB0 : Hid (w1.heap.size ≤ B0) := Lib.hid (by rw [hB0]; exact HD_2.out.size)
  have SB0_3 : Hid (Std 27 B0 #[.slice qa qn qc, .slice fa fn fc] W3) := Lib.hid (by rw [hW3, hB0]; exact Std.new _)
  have HC_3 : Hid (Cur W3 g) := Lib.hid (HC_2.out.gr G3)
  have HD_3 : Hid (Dr g w1 W3) := Lib.hid (HD_2.out.belowT G3 HD_2.out.size)
  have SR0_3 : Hid (Std 27 w.heap.size #[.slice none 0 0, .slice none 0 0] W3) := Lib.hid (SR0_2.out.gr G3)
  have FQ_3 : Hid (Fresh w1.heap.size RQueries W3 (.slice qa qn qc) x.queries) := Lib.hid (FQ_2.out.mono G3)
  have FF_3 : Hid (Fresh w1.heap.size RSpanss W3 (.slice fa fn fc) x.fields) := Lib.hid (FF_2.out.mono G3)
  clear HC_2 HD_2 SR0_2 FQ_2 FF_2
  clear G3
  go_wp2_with fail
  rw [← hW3, ← hB0]
  clear hW3 hB0
  obtain ⟨WD, hWD⟩ : ∃ WD, WD = W3.drew := ⟨_, rfl⟩
  have GD : Gr W3 WD := by rw [hWD]; exact (Gr.refl _).drew
  have HC_D : Hid (Cur WD g) := Lib.hid (HC_3.out.gr GD)
  have HD_D : Hid (Dr g w1 WD) := Lib.hid (HD_3.out.belowT GD HD_3.out.size)
  have SR0_D : Hid (Std 27 w.heap.size #[.slice none 0 0, .slice none 0 0] WD) := Lib.hid (SR0_3.out.gr GD)
  have SB0_D : Hid (Std 27 B0 #[.slice qa qn qc, .slice fa fn fc] WD) := Lib.hid (SB0_3.out.gr GD)
  have FQ_D : Hid (Fresh w1.heap.size RQueries WD (.slice qa qn qc) x.queries) := Lib.hid (FQ_3.out.mono GD)
  have FF_D : Hid (Fresh w1.heap.size RSpanss WD (.slice fa fn fc) x.fields) := Lib.hid (FF_3.out.mono GD)
  refine wp_region_G (S := fun w' => Std 27 B0 #[.slice qa qn qc, .slice fa fn fc] w') (m := 4) (by kernel_rfl) ?_
  rw [← hWD]
  clear hWD GD HC_3 HD_3 SR0_3 SB0_3 FQ_3 FF_3
  have hS : (fun w' : World => Std 27 B0 #[.slice qa qn qc, .slice fa fn fc] w') WD := SB0_D.out
  refine wpAnyG_take (i := 0) (v := ?v0) hS rfl (by kernel_rfl) (by kernel_rfl) (by kernel_rfl) (by kernel_rfl) (fun _ _ _ h => h) (Or.inl ⟨by rfl, ?hy0⟩) ?rest0
  case hy0 => (intro w' hw'; have c0 := hw'.cell (k := 0) rfl; have c1 := hw'.cell (k := 1) rfl; go_simp; try with_reducible rfl)
  try simp only [Act.put]
  refine wpAnyG_take (i := 1) (v := ?v1) hS rfl (by kernel_rfl) (by kernel_rfl) (by kernel_rfl) (by kernel_rfl) (fun _ _ _ h => h) (Or.inl ⟨by rfl, ?hy1⟩) ?rest1
  case hy1 => (intro w' hw'; go_simp; try with_reducible rfl)
  try simp only [Act.put]
  refine wpAnyG_one (i := 2) rfl (by kernel_rfl) (fun K2 hK2 => ?_)
  go_simp
  refine (spec_l3AnyRows g _ HC_D.out).mono ?_
  rintro e wE ⟨rb, rn, rc, rs, rfl, hlE, hoE, hkE⟩
  have HLE : Hid (rn = rs.length ∧ rs.length ≤ 9 ∧ ∀ r ∈ rs, totRow r ≤ 4) := Lib.hid hlE.out
  have FR_E : Hid (Fresh w1.heap.size RRows wE (.slice rb rn rc) rs) := Lib.hid ((PRows.fresh1 hoE.out).le HD_D.out.size)
  have HD_E := Lib.hid (HD_D.out.trans hkE.out.2)
  have SR0_E : Hid (Std 27 w.heap.size #[.slice none 0 0, .slice none 0 0] wE) := Lib.hid (SR0_D.out.dr (by have := HG.out; omega) hkE.out.2)
  have SB0_E : Hid (Std 27 B0 #[.slice qa qn qc, .slice fa fn fc] wE) := Lib.hid (SB0_D.out.dr (by have := HG.out; have := HB0.out; omega) hkE.out.2)
  have FQ_E : Hid (Fresh w1.heap.size RQueries wE (.slice qa qn qc) x.queries) := Lib.hid (FQ_D.out.dr HG.out.2 hkE.out.2)
  have FF_E : Hid (Fresh w1.heap.size RSpanss wE (.slice fa fn fc) x.fields) := Lib.hid (FF_D.out.dr HG.out.2 hkE.out.2)
  clear hlE hoE hkE hS HC_D HD_D SR0_D SB0_D FQ_D FF_D
  go_simp
  refine hK2.out _ _ (fun _ => SB0_E.out) ?_
  clear hK2 K2
  try simp only [Act.put]
  refine wpAnyG_one (i := 3) rfl (by kernel_rfl) (fun K3 hK3 => ?_)
  have r0_0 := SR0_E.out.cell (k := 0) rfl
  have f0_0 := SR0_E.out.frz 0
  have r0_1 := SR0_E.out.cell (k := 1) rfl
  have f0_1 := SR0_E.out.frz 1
  go_simp
  obtain ⟨wS0, hwS0⟩ : ∃ W, W = ((wE.setCell ⟨w.heap.size, 0, none⟩ (.slice qa qn qc)).setCell ⟨w.heap.size, 1, none⟩ (.slice fa fn fc)) := ⟨_, rfl⟩
  have SR0_S0 : Hid (Std 27 w.heap.size #[.slice qa qn qc, .slice fa fn fc] wS0) := Lib.hid (by rw [hwS0]; exact (Std.put (bc' := #[.slice qa qn qc, .slice fa fn fc]) (k := 1) (Std.put (bc' := #[.slice qa qn qc, .slice none 0 0]) (k := 0) SR0_E.out rfl) rfl))
  have SB0_S0 : Hid (Std 27 B0 #[.slice qa qn qc, .slice fa fn fc] wS0) := Lib.hid (by rw [hwS0]; exact (Std.set (Std.set SB0_E.out (p := ⟨w.heap.size, 0, none⟩) (by have := HG.out; have := HB0.out; dsimp only; omega) _) (p := ⟨w.heap.size, 1, none⟩) (by have := HG.out; have := HB0.out; dsimp only; omega) _))
  have FQ_S0 : Hid (Fresh w1.heap.size RQueries wS0 (.slice qa qn qc) x.queries) := Lib.hid (by rw [hwS0]; exact (Fresh.set (Fresh.set FQ_E.out (p := ⟨w.heap.size, 0, none⟩) (by have := HG.out; dsimp only; omega) _) (p := ⟨w.heap.size, 1, none⟩) (by have := HG.out; dsimp only; omega) _))
  have FF_S0 : Hid (Fresh w1.heap.size RSpanss wS0 (.slice fa fn fc) x.fields) := Lib.hid (by rw [hwS0]; exact (Fresh.set (Fresh.set FF_E.out (p := ⟨w.heap.size, 0, none⟩) (by have := HG.out; dsimp only; omega) _) (p := ⟨w.heap.size, 1, none⟩) (by have := HG.out; dsimp only; omega) _))
  have FR_S0 : Hid (Fresh w1.heap.size RRows wS0 (.slice rb rn rc) rs) := Lib.hid (by rw [hwS0]; exact (Fresh.set (Fresh.set FR_E.out (p := ⟨w.heap.size, 0, none⟩) (by have := HG.out; dsimp only; omega) _) (p := ⟨w.heap.size, 1, none⟩) (by have := HG.out; dsimp only; omega) _))
  have HGW_S0 : Hid (Gr w wS0) := Lib.hid (by rw [hwS0]; exact (Below.setCell (Below.setCell (HGG.out _ HD_E.out) (p := ⟨w.heap.size, 0, none⟩) (by dsimp only; omega) _) (p := ⟨w.heap.size, 1, none⟩) (by dsimp only; omega) _))
  rw [← hwS0]
  clear hwS0 r0_0 f0_0 r0_1 f0_1 SR0_E SB0_E FQ_E FF_E FR_E HD_E
  refine hK3.out _ _ (fun _ => SB0_S0.out) ?_
  clear hK3 K3
  try simp only [Act.put]
  refine wpAnyG_one (i := 4) rfl (by kernel_rfl) (fun K4 hK4 => ?_)
  go_simp
  refine hK4.out _ _ (fun h => absurd rfl h) ?_
  clear hK4 K4
  try simp only [Act.put]
  refine wpAnyG_done (by kernel_rfl) ?_ _
  have r0_0 := SR0_S0.out.cell (k := 0) rfl
  have r0_1 := SR0_S0.out.cell (k := 1) rfl
  go_wp2_with fail
  refine bodyPost_ret (v := .tuple #[.agg #[.slice qa qn qc, .slice fa fn fc], .slice rb rn rc]) (by simp [results, Try.results16, go_sem, *]) rfl ⟨_, _, x, _, _, _, rs, rfl, HL0, Lib.hid ⟨FQ_S0.out.reads, FF_S0.out.reads⟩, HLE, Lib.hid FR_S0.out.reads, HGW_S0⟩
set_option maxRecDepth 100000 in
set_option maxHeartbeats 4000000 in
theorem spec_DrawProbeSet (v : Value) (bs : List Int) (w : World) (hv : RBytes w v bs) : Calls Try.prog 5 #[v] w fun e w' => ∃ (vq vf : Value) (x : DIndex) (u : Value) (id : Int) (vs : List Int) (b : Option Addr) (n c : Nat) (os : List Int), e = .returned (.tuple #[.agg #[vq, vf], .agg #[.int .i64 id, u], .slice b n c]) ∧ Hid (totIndex x ≤ 8000 ∧ x.queries.length ≤ 7) ∧ Hid (RQueries w' vq x.queries ∧ RSpanss w' vf x.fields) ∧ Hid (I64 id ∧ vs.length ≤ 4) ∧ Hid (RInts w' u vs) ∧ Hid (n = os.length ∧ os.length = 3) ∧ Hid (RInts w' (.slice b n c) os) ∧ Hid (Gr w w') := by
  obtain ⟨W0, hW0⟩ : ∃ W0, W0 = ((w).alloc (.cells #[.slice none 0 0, .slice none 0 0] 27)).alloc (.cells #[.int .i64 0, .slice none 0 0] 30) := ⟨_, rfl⟩
  have HW0 : Hid (Gr w W0 ∧ W0.heap.size = w.heap.size + 2 ∧ Std 27 w.heap.size #[.slice none 0 0, .slice none 0 0] W0 ∧ Std 30 (w.heap.size + 1) #[.int .i64 0, .slice none 0 0] W0) := Lib.hid (by
    rw [hW0]
    have e : (w.alloc (.cells #[.slice none 0 0, .slice none 0 0] 27)).heap.size = w.heap.size + 1 := by simp
    exact ⟨((Gr.refl w).alloc _).alloc _, by simp, (Std.new _).gr ((Gr.refl _).alloc _), by rw [← e]; exact Std.new _⟩)
  have HV := Lib.hid (RSlice.mono keeps_byte HW0.out.1 hv)
  clear hv
  go_enter Try.func5, Try.ntmps5
  go_wp2_with fail
  rw [← hW0]
  clear hW0
  refine (spec_l1New v bs _ HV.out).mono ?_
  rintro e w1 ⟨g, rfl, hg⟩
  have HG : Hid (w.heap.size + 2 ≤ g ∧ g < w1.heap.size) := Lib.hid ⟨by have := HW0.out.2.1; have := hg.out.1; omega, hg.out.2.1.lt⟩
  have HGG : Hid (∀ wx, Dr g w1 wx → Gr w wx) := Lib.hid fun wx k => HW0.out.1.trans (hg.out.2.2.trans' (k.below (fun b hb => by rw [hb]; exact hg.out.1) hg.out.2.2.size))
  have HC_1 := Lib.hid hg.out.2.1
  have HD_1 : Hid (Dr g w1 w1) := Lib.hid (Chg.refl _ _)
  have SR0_1 : Hid (Std 27 w.heap.size #[.slice none 0 0, .slice none 0 0] w1) := Lib.hid (HW0.out.2.2.1.gr hg.out.2.2)
  have SR1_1 : Hid (Std 30 (w.heap.size + 1) #[.int .i64 0, .slice none 0 0] w1) := Lib.hid (HW0.out.2.2.2.gr hg.out.2.2)
  clear hg HV HW0
  go_wp2_with fail
  refine (spec_l6Index g _ HC_1.out).mono ?_
  rintro e w2 ⟨vq, vf, x, rfl, hl2, hq2, hf2, hk2⟩
  obtain ⟨qa, qn, qc, rfl⟩ := hq2.out.reads.isSl
  obtain ⟨fa, fn, fc, rfl⟩ := hf2.out.reads.isSl
  have HL0 : Hid (totIndex x ≤ 8000 ∧ x.queries.length ≤ 7) := Lib.hid hl2.out
  have HSZ2 : Hid (w1.heap.size ≤ w1.heap.size) := Lib.hid HD_1.out.size
  have FQ_2 : Hid (Fresh w1.heap.size RQueries w2 (.slice qa qn qc) x.queries) := Lib.hid ((hq2.out).le HSZ2.out)
  have FF_2 : Hid (Fresh w1.heap.size RSpanss w2 (.slice fa fn fc) x.fields) := Lib.hid ((hf2.out).le HSZ2.out)
  have HC_2 := Lib.hid hk2.out.1
  have HD_2 := Lib.hid (HD_1.out.trans hk2.out.2)
  have SR0_2 : Hid (Std 27 w.heap.size #[.slice none 0 0, .slice none 0 0] w2) := Lib.hid (SR0_1.out.dr (by have := HG.out; omega) hk2.out.2)
  have SR1_2 : Hid (Std 30 (w.heap.size + 1) #[.int .i64 0, .slice none 0 0] w2) := Lib.hid (SR1_1.out.dr (by have := HG.out; omega) hk2.out.2)
  clear HC_1 HD_1 SR0_1 SR1_1
  clear hl2 hq2 hf2 hk2
  obtain ⟨B0, hB0⟩ : ∃ B, B = w2.heap.size := ⟨_, rfl⟩
  obtain ⟨W3, hW3⟩ : ∃ W, W = w2.alloc (.cells #[.slice qa qn qc, .slice fa fn fc] 27) := ⟨_, rfl⟩
  have G3 : Gr w2 W3 := by rw [hW3]; exact (Gr.refl _).alloc _
  have HB0 : Hid (w1.heap.size ≤ B0) := Lib.hid (by rw [hB0]; exact HD_2.out.size)
  have SB0_3 : Hid (Std 27 B0 #[.slice qa qn qc, .slice fa fn fc] W3) := Lib.hid (by rw [hW3, hB0]; exact Std.new _)
  have HC_3 : Hid (Cur W3 g) := Lib.hid (HC_2.out.gr G3)
  have HD_3 : Hid (Dr g w1 W3) := Lib.hid (HD_2.out.belowT G3 HD_2.out.size)
  have SR0_3 : Hid (Std 27 w.heap.size #[.slice none 0 0, .slice none 0 0] W3) := Lib.hid (SR0_2.out.gr G3)
  have SR1_3 : Hid (Std 30 (w.heap.size + 1) #[.int .i64 0, .slice none 0 0] W3) := Lib.hid (SR1_2.out.gr G3)
  have FQ_3 : Hid (Fresh w1.heap.size RQueries W3 (.slice qa qn qc) x.queries) := Lib.hid (FQ_2.out.mono G3)
  have FF_3 : Hid (Fresh w1.heap.size RSpanss W3 (.slice fa fn fc) x.fields) := Lib.hid (FF_2.out.mono G3)
  clear HC_2 HD_2 SR0_2 SR1_2 FQ_2 FF_2
  clear G3
  go_wp2_with fail
  rw [← hW3, ← hB0]
  clear hW3 hB0
  refine (spec_l3Any g _ HC_3.out).mono ?_
  rintro e w4 ⟨u, id, vs, rfl, hl4, ho4, hk4⟩
  obtain ⟨ua, un, uc, rfl⟩ := ho4.out.reads.isSl
  have HL1 : Hid (I64 id ∧ vs.length ≤ 4) := Lib.hid hl4.out
  have HSZ4 : Hid (w1.heap.size ≤ W3.heap.size) := Lib.hid HD_3.out.size
  have FV_4 : Hid (Fresh w1.heap.size RInts w4 (.slice ua un uc) vs) := Lib.hid (((ho4.out.fresh1).le (Nat.le_succ _)).le HSZ4.out)
  have HC_4 := Lib.hid hk4.out.1
  have HD_4 := Lib.hid (HD_3.out.trans hk4.out.2)
  have SR0_4 : Hid (Std 27 w.heap.size #[.slice none 0 0, .slice none 0 0] w4) := Lib.hid (SR0_3.out.dr (by have := HG.out; omega) hk4.out.2)
  have SR1_4 : Hid (Std 30 (w.heap.size + 1) #[.int .i64 0, .slice none 0 0] w4) := Lib.hid (SR1_3.out.dr (by have := HG.out; omega) hk4.out.2)
  have SB0_4 : Hid (Std 27 B0 #[.slice qa qn qc, .slice fa fn fc] w4) := Lib.hid (SB0_3.out.dr (by have := HG.out; have := HB0.out; omega) hk4.out.2)
  have FQ_4 : Hid (Fresh w1.heap.size RQueries w4 (.slice qa qn qc) x.queries) := Lib.hid (FQ_3.out.dr HG.out.2 hk4.out.2)
  have FF_4 : Hid (Fresh w1.heap.size RSpanss w4 (.slice fa fn fc) x.fields) := Lib.hid (FF_3.out.dr HG.out.2 hk4.out.2)
  clear HC_3 HD_3 SR0_3 SR1_3 SB0_3 FQ_3 FF_3
  clear hl4 ho4 hk4
  obtain ⟨B1, hB1⟩ : ∃ B, B = w4.heap.size := ⟨_, rfl⟩
  obtain ⟨W5, hW5⟩ : ∃ W, W = w4.alloc (.cells #[.int .i64 id, .slice ua un uc] 30) := ⟨_, rfl⟩
  have G5 : Gr w4 W5 := by rw [hW5]; exact (Gr.refl _).alloc _
  have HB1 : Hid (w1.heap.size ≤ B1) := Lib.hid (by rw [hB1]; exact HD_4.out.size)
  have SB1_5 : Hid (Std 30 B1 #[.int .i64 id, .slice ua un uc] W5) := Lib.hid (by rw [hW5, hB1]; exact Std.new _)
  have HC_5 : Hid (Cur W5 g) := Lib.hid (HC_4.out.gr G5)
  have HD_5 : Hid (Dr g w1 W5) := Lib.hid (HD_4.out.belowT G5 HD_4.out.size)
  have SR0_5 : Hid (Std 27 w.heap.size #[.slice none 0 0, .slice none 0 0] W5) := Lib.hid (SR0_4.out.gr G5)
  have SR1_5 : Hid (Std 30 (w.heap.size + 1) #[.int .i64 0, .slice none 0 0] W5) := Lib.hid (SR1_4.out.gr G5)
  have SB0_5 : Hid (Std 27 B0 #[.slice qa qn qc, .slice fa fn fc] W5) := Lib.hid (SB0_4.out.gr G5)
  have FQ_5 : Hid (Fresh w1.heap.size RQueries W5 (.slice qa qn qc) x.queries) := Lib.hid (FQ_4.out.mono G5)
  have FF_5 : Hid (Fresh w1.heap.size RSpanss W5 (.slice fa fn fc) x.fields) := Lib.hid (FF_4.out.mono G5)
  have FV_5 : Hid (Fresh w1.heap.size RInts W5 (.slice ua un uc) vs) := Lib.hid (FV_4.out.mono G5)
  clear HC_4 HD_4 SR0_4 SR1_4 SB0_4 FQ_4 FF_4 FV_4
  clear G5
  go_wp2_with fail
  rw [← hW5, ← hB1]
  clear hW5 hB1
  obtain ⟨WD, hWD⟩ : ∃ WD, WD = W5.drew := ⟨_, rfl⟩
  have GD : Gr W5 WD := by rw [hWD]; exact (Gr.refl _).drew
  have HC_D : Hid (Cur WD g) := Lib.hid (HC_5.out.gr GD)
  have HD_D : Hid (Dr g w1 WD) := Lib.hid (HD_5.out.belowT GD HD_5.out.size)
  have SR0_D : Hid (Std 27 w.heap.size #[.slice none 0 0, .slice none 0 0] WD) := Lib.hid (SR0_5.out.gr GD)
  have SR1_D : Hid (Std 30 (w.heap.size + 1) #[.int .i64 0, .slice none 0 0] WD) := Lib.hid (SR1_5.out.gr GD)
  have SB0_D : Hid (Std 27 B0 #[.slice qa qn qc, .slice fa fn fc] WD) := Lib.hid (SB0_5.out.gr GD)
  have SB1_D : Hid (Std 30 B1 #[.int .i64 id, .slice ua un uc] WD) := Lib.hid (SB1_5.out.gr GD)
  have FQ_D : Hid (Fresh w1.heap.size RQueries WD (.slice qa qn qc) x.queries) := Lib.hid (FQ_5.out.mono GD)
  have FF_D : Hid (Fresh w1.heap.size RSpanss WD (.slice fa fn fc) x.fields) := Lib.hid (FF_5.out.mono GD)
  have FV_D : Hid (Fresh w1.heap.size RInts WD (.slice ua un uc) vs) := Lib.hid (FV_5.out.mono GD)
  refine wp_region_G (S := fun w' => Std 27 B0 #[.slice qa qn qc, .slice fa fn fc] w' ∧ Std 30 B1 #[.int .i64 id, .slice ua un uc] w') (m := 6) (by kernel_rfl) ?_
  rw [← hWD]
  clear hWD GD HC_5 HD_5 SR0_5 SR1_5 SB0_5 SB1_5 FQ_5 FF_5 FV_5
  have hS : (fun w' : World => Std 27 B0 #[.slice qa qn qc, .slice fa fn fc] w' ∧ Std 30 B1 #[.int .i64 id, .slice ua un uc] w') WD := ⟨SB0_D.out, SB1_D.out⟩
  refine wpAnyG_take (i := 0) (v := ?v0) hS rfl (by kernel_rfl) (by kernel_rfl) (by kernel_rfl) (by kernel_rfl) (fun _ _ _ h => h) (Or.inl ⟨by rfl, ?hy0⟩) ?rest0
  case hy0 => (intro w' hw'; have c0 := hw'.1.cell (k := 0) rfl; have c1 := hw'.1.cell (k := 1) rfl; go_simp; try with_reducible rfl)
  try simp only [Act.put]
  refine wpAnyG_take (i := 1) (v := ?v1) hS rfl (by kernel_rfl) (by kernel_rfl) (by kernel_rfl) (by kernel_rfl) (fun _ _ _ h => h) (Or.inl ⟨by rfl, ?hy1⟩) ?rest1
  case hy1 => (intro w' hw'; have c0 := hw'.2.cell (k := 0) rfl; have c1 := hw'.2.cell (k := 1) rfl; go_simp; try with_reducible rfl)
  try simp only [Act.put]
  refine wpAnyG_take (i := 2) (v := ?v2) hS rfl (by kernel_rfl) (by kernel_rfl) (by kernel_rfl) (by kernel_rfl) (fun _ _ _ h => h) (Or.inl ⟨by rfl, ?hy2⟩) ?rest2
  case hy2 => (intro w' hw'; go_simp; try with_reducible rfl)
  try simp only [Act.put]
  refine wpAnyG_one (i := 3) rfl (by kernel_rfl) (fun K3 hK3 => ?_)
  go_simp
  refine (spec_l6DrawOrder g _ HC_D.out).mono ?_
  rintro e wE ⟨b, n, c, os, rfl, hlE, hoE, hkE⟩
  have HLE : Hid (n = os.length ∧ os.length = 3) := Lib.hid hlE.out
  have FO_E : Hid (Fresh w1.heap.size RInts wE (.slice b n c) os) := Lib.hid ((hoE.out.fresh1).le HD_D.out.size)
  have HD_E := Lib.hid (HD_D.out.trans hkE.out.2)
  have SR0_E : Hid (Std 27 w.heap.size #[.slice none 0 0, .slice none 0 0] wE) := Lib.hid (SR0_D.out.dr (by have := HG.out; omega) hkE.out.2)
  have SR1_E : Hid (Std 30 (w.heap.size + 1) #[.int .i64 0, .slice none 0 0] wE) := Lib.hid (SR1_D.out.dr (by have := HG.out; omega) hkE.out.2)
  have SB0_E : Hid (Std 27 B0 #[.slice qa qn qc, .slice fa fn fc] wE) := Lib.hid (SB0_D.out.dr (by have := HG.out; have := HB0.out; omega) hkE.out.2)
  have SB1_E : Hid (Std 30 B1 #[.int .i64 id, .slice ua un uc] wE) := Lib.hid (SB1_D.out.dr (by have := HG.out; have := HB1.out; omega) hkE.out.2)
  have FQ_E : Hid (Fresh w1.heap.size RQueries wE (.slice qa qn qc) x.queries) := Lib.hid (FQ_D.out.dr HG.out.2 hkE.out.2)
  have FF_E : Hid (Fresh w1.heap.size RSpanss wE (.slice fa fn fc) x.fields) := Lib.hid (FF_D.out.dr HG.out.2 hkE.out.2)
  have FV_E : Hid (Fresh w1.heap.size RInts wE (.slice ua un uc) vs) := Lib.hid (FV_D.out.dr HG.out.2 hkE.out.2)
  clear hlE hoE hkE hS HC_D HD_D SR0_D SR1_D SB0_D SB1_D FQ_D FF_D FV_D
  go_simp
  refine hK3.out _ _ (fun _ => ⟨SB0_E.out, SB1_E.out⟩) ?_
  clear hK3 K3
  try simp only [Act.put]
  refine wpAnyG_one (i := 4) rfl (by kernel_rfl) (fun K4 hK4 => ?_)
  have r0_0 := SR0_E.out.cell (k := 0) rfl
  have f0_0 := SR0_E.out.frz 0
  have r0_1 := SR0_E.out.cell (k := 1) rfl
  have f0_1 := SR0_E.out.frz 1
  go_simp
  obtain ⟨wS0, hwS0⟩ : ∃ W, W = ((wE.setCell ⟨w.heap.size, 0, none⟩ (.slice qa qn qc)).setCell ⟨w.heap.size, 1, none⟩ (.slice fa fn fc)) := ⟨_, rfl⟩
  have SR0_S0 : Hid (Std 27 w.heap.size #[.slice qa qn qc, .slice fa fn fc] wS0) := Lib.hid (by rw [hwS0]; exact (Std.put (bc' := #[.slice qa qn qc, .slice fa fn fc]) (k := 1) (Std.put (bc' := #[.slice qa qn qc, .slice none 0 0]) (k := 0) SR0_E.out rfl) rfl))
  have SR1_S0 : Hid (Std 30 (w.heap.size + 1) #[.int .i64 0, .slice none 0 0] wS0) := Lib.hid (by rw [hwS0]; exact (Std.set (Std.set SR1_E.out (p := ⟨w.heap.size, 0, none⟩) (by have := HG.out; dsimp only; omega) _) (p := ⟨w.heap.size, 1, none⟩) (by have := HG.out; dsimp only; omega) _))
  have SB0_S0 : Hid (Std 27 B0 #[.slice qa qn qc, .slice fa fn fc] wS0) := Lib.hid (by rw [hwS0]; exact (Std.set (Std.set SB0_E.out (p := ⟨w.heap.size, 0, none⟩) (by have := HG.out; have := HB0.out; dsimp only; omega) _) (p := ⟨w.heap.size, 1, none⟩) (by have := HG.out; have := HB0.out; dsimp only; omega) _))
  have SB1_S0 : Hid (Std 30 B1 #[.int .i64 id, .slice ua un uc] wS0) := Lib.hid (by rw [hwS0]; exact (Std.set (Std.set SB1_E.out (p := ⟨w.heap.size, 0, none⟩) (by have := HG.out; have := HB1.out; dsimp only; omega) _) (p := ⟨w.heap.size, 1, none⟩) (by have := HG.out; have := HB1.out; dsimp only; omega) _))
  have FQ_S0 : Hid (Fresh w1.heap.size RQueries wS0 (.slice qa qn qc) x.queries) := Lib.hid (by rw [hwS0]; exact (Fresh.set (Fresh.set FQ_E.out (p := ⟨w.heap.size, 0, none⟩) (by have := HG.out; dsimp only; omega) _) (p := ⟨w.heap.size, 1, none⟩) (by have := HG.out; dsimp only; omega) _))
  have FF_S0 : Hid (Fresh w1.heap.size RSpanss wS0 (.slice fa fn fc) x.fields) := Lib.hid (by rw [hwS0]; exact (Fresh.set (Fresh.set FF_E.out (p := ⟨w.heap.size, 0, none⟩) (by have := HG.out; dsimp only; omega) _) (p := ⟨w.heap.size, 1, none⟩) (by have := HG.out; dsimp only; omega) _))
  have FV_S0 : Hid (Fresh w1.heap.size RInts wS0 (.slice ua un uc) vs) := Lib.hid (by rw [hwS0]; exact (Fresh.set (Fresh.set FV_E.out (p := ⟨w.heap.size, 0, none⟩) (by have := HG.out; dsimp only; omega) _) (p := ⟨w.heap.size, 1, none⟩) (by have := HG.out; dsimp only; omega) _))
  have FO_S0 : Hid (Fresh w1.heap.size RInts wS0 (.slice b n c) os) := Lib.hid (by rw [hwS0]; exact (Fresh.set (Fresh.set FO_E.out (p := ⟨w.heap.size, 0, none⟩) (by have := HG.out; dsimp only; omega) _) (p := ⟨w.heap.size, 1, none⟩) (by have := HG.out; dsimp only; omega) _))
  have HGW_S0 : Hid (Gr w wS0) := Lib.hid (by rw [hwS0]; exact (Below.setCell (Below.setCell (HGG.out _ HD_E.out) (p := ⟨w.heap.size, 0, none⟩) (by dsimp only; omega) _) (p := ⟨w.heap.size, 1, none⟩) (by dsimp only; omega) _))
  rw [← hwS0]
  clear hwS0 r0_0 f0_0 r0_1 f0_1 SR0_E SR1_E SB0_E SB1_E FQ_E FF_E FV_E FO_E HD_E
  refine hK4.out _ _ (fun _ => ⟨SB0_S0.out, SB1_S0.out⟩) ?_
  clear hK4 K4
  try simp only [Act.put]
  refine wpAnyG_one (i := 5) rfl (by kernel_rfl) (fun K5 hK5 => ?_)
  have r1_0 := SR1_S0.out.cell (k := 0) rfl
  have f1_0 := SR1_S0.out.frz 0
  have r1_1 := SR1_S0.out.cell (k := 1) rfl
  have f1_1 := SR1_S0.out.frz 1
  go_simp
  obtain ⟨wS1, hwS1⟩ : ∃ W, W = ((wS0.setCell ⟨(w.heap.size + 1), 0, none⟩ (.int .i64 id)).setCell ⟨(w.heap.size + 1), 1, none⟩ (.slice ua un uc)) := ⟨_, rfl⟩
  have SR0_S1 : Hid (Std 27 w.heap.size #[.slice qa qn qc, .slice fa fn fc] wS1) := Lib.hid (by rw [hwS1]; exact (Std.set (Std.set SR0_S0.out (p := ⟨(w.heap.size + 1), 0, none⟩) (by have := HG.out; dsimp only; omega) _) (p := ⟨(w.heap.size + 1), 1, none⟩) (by have := HG.out; dsimp only; omega) _))
  have SR1_S1 : Hid (Std 30 (w.heap.size + 1) #[.int .i64 id, .slice ua un uc] wS1) := Lib.hid (by rw [hwS1]; exact (Std.put (bc' := #[.int .i64 id, .slice ua un uc]) (k := 1) (Std.put (bc' := #[.int .i64 id, .slice none 0 0]) (k := 0) SR1_S0.out rfl) rfl))
  have SB0_S1 : Hid (Std 27 B0 #[.slice qa qn qc, .slice fa fn fc] wS1) := Lib.hid (by rw [hwS1]; exact (Std.set (Std.set SB0_S0.out (p := ⟨(w.heap.size + 1), 0, none⟩) (by have := HG.out; have := HB0.out; dsimp only; omega) _) (p := ⟨(w.heap.size + 1), 1, none⟩) (by have := HG.out; have := HB0.out; dsimp only; omega) _))
  have SB1_S1 : Hid (Std 30 B1 #[.int .i64 id, .slice ua un uc] wS1) := Lib.hid (by rw [hwS1]; exact (Std.set (Std.set SB1_S0.out (p := ⟨(w.heap.size + 1), 0, none⟩) (by have := HG.out; have := HB1.out; dsimp only; omega) _) (p := ⟨(w.heap.size + 1), 1, none⟩) (by have := HG.out; have := HB1.out; dsimp only; omega) _))
  have FQ_S1 : Hid (Fresh w1.heap.size RQueries wS1 (.slice qa qn qc) x.queries) := Lib.hid (by rw [hwS1]; exact (Fresh.set (Fresh.set FQ_S0.out (p := ⟨(w.heap.size + 1), 0, none⟩) (by have := HG.out; dsimp only; omega) _) (p := ⟨(w.heap.size + 1), 1, none⟩) (by have := HG.out; dsimp only; omega) _))
  have FF_S1 : Hid (Fresh w1.heap.size RSpanss wS1 (.slice fa fn fc) x.fields) := Lib.hid (by rw [hwS1]; exact (Fresh.set (Fresh.set FF_S0.out (p := ⟨(w.heap.size + 1), 0, none⟩) (by have := HG.out; dsimp only; omega) _) (p := ⟨(w.heap.size + 1), 1, none⟩) (by have := HG.out; dsimp only; omega) _))
  have FV_S1 : Hid (Fresh w1.heap.size RInts wS1 (.slice ua un uc) vs) := Lib.hid (by rw [hwS1]; exact (Fresh.set (Fresh.set FV_S0.out (p := ⟨(w.heap.size + 1), 0, none⟩) (by have := HG.out; dsimp only; omega) _) (p := ⟨(w.heap.size + 1), 1, none⟩) (by have := HG.out; dsimp only; omega) _))
  have FO_S1 : Hid (Fresh w1.heap.size RInts wS1 (.slice b n c) os) := Lib.hid (by rw [hwS1]; exact (Fresh.set (Fresh.set FO_S0.out (p := ⟨(w.heap.size + 1), 0, none⟩) (by have := HG.out; dsimp only; omega) _) (p := ⟨(w.heap.size + 1), 1, none⟩) (by have := HG.out; dsimp only; omega) _))
  have HGW_S1 : Hid (Gr w wS1) := Lib.hid (by rw [hwS1]; exact (Below.setCell (Below.setCell HGW_S0.out (p := ⟨(w.heap.size + 1), 0, none⟩) (by dsimp only; omega) _) (p := ⟨(w.heap.size + 1), 1, none⟩) (by dsimp only; omega) _))
  rw [← hwS1]
  clear hwS1 r1_0 f1_0 r1_1 f1_1 SR0_S0 SR1_S0 SB0_S0 SB1_S0 FQ_S0 FF_S0 FV_S0 FO_S0 HGW_S0
  refine hK5.out _ _ (fun _ => ⟨SB0_S1.out, SB1_S1.out⟩) ?_
  clear hK5 K5
  try simp only [Act.put]
  refine wpAnyG_one (i := 6) rfl (by kernel_rfl) (fun K6 hK6 => ?_)
  go_simp
  refine hK6.out _ _ (fun h => absurd rfl h) ?_
  clear hK6 K6
  try simp only [Act.put]
  refine wpAnyG_done (by kernel_rfl) ?_ _
  have r0_0 := SR0_S1.out.cell (k := 0) rfl
  have r0_1 := SR0_S1.out.cell (k := 1) rfl
  have r1_0 := SR1_S1.out.cell (k := 0) rfl
  have r1_1 := SR1_S1.out.cell (k := 1) rfl
  go_wp2_with fail
  refine bodyPost_ret (v := .tuple #[.agg #[.slice qa qn qc, .slice fa fn fc], .agg #[.int .i64 id, .slice ua un uc], .slice b n c]) (by simp [results, Try.results5, go_sem, *]) rfl ⟨_, _, x, _, id, vs, _, _, _, os, rfl, HL0, Lib.hid ⟨FQ_S1.out.reads, FF_S1.out.reads⟩, HL1, Lib.hid FV_S1.out.reads, HLE, Lib.hid FO_S1.out.reads, HGW_S1⟩
set_option maxRecDepth 100000 in
set_option maxHeartbeats 4000000 in
theorem spec_DrawWorkOf (v : Value) (bs : List Int) (w : World) (hv : RBytes w v bs) : Calls Try.prog 19 #[v] w fun e w' => ∃ (vq vf : Value) (x : DIndex) (rb : Option Addr) (rn rc : Nat) (rs : List DRow) (b : Option Addr) (n c : Nat) (os : List Int), e = .returned (.tuple #[.agg #[vq, vf], .slice rb rn rc, .slice b n c]) ∧ Hid (totIndex x ≤ 8000 ∧ x.queries.length ≤ 7) ∧ Hid (RQueries w' vq x.queries ∧ RSpanss w' vf x.fields) ∧ Hid (rn = rs.length ∧ rs.length ≤ 9 ∧ ∀ r ∈ rs, totRow r ≤ 4) ∧ Hid (RRows w' (.slice rb rn rc) rs) ∧ Hid (n = os.length ∧ os.length = 3) ∧ Hid (RInts w' (.slice b n c) os) ∧ Hid (Gr w w') := by
  obtain ⟨W0, hW0⟩ : ∃ W0, W0 = (w).alloc (.cells #[.slice none 0 0, .slice none 0 0] 27) := ⟨_, rfl⟩
  have HW0 : Hid (Gr w W0 ∧ W0.heap.size = w.heap.size + 1 ∧ Std 27 w.heap.size #[.slice none 0 0, .slice none 0 0] W0) := Lib.hid (by
    rw [hW0]
    exact ⟨(Gr.refl w).alloc _, by simp, Std.new _⟩)
  have HV := Lib.hid (RSlice.mono keeps_byte HW0.out.1 hv)
  clear hv
  go_enter Try.func19, Try.ntmps19
  go_wp2_with fail
  rw [← hW0]
  clear hW0
  refine (spec_l1New v bs _ HV.out).mono ?_
  rintro e w1 ⟨g, rfl, hg⟩
  have HG : Hid (w.heap.size + 1 ≤ g ∧ g < w1.heap.size) := Lib.hid ⟨by have := HW0.out.2.1; have := hg.out.1; omega, hg.out.2.1.lt⟩
  have HGG : Hid (∀ wx, Dr g w1 wx → Gr w wx) := Lib.hid fun wx k => HW0.out.1.trans (hg.out.2.2.trans' (k.below (fun b hb => by rw [hb]; exact hg.out.1) hg.out.2.2.size))
  have HC_1 := Lib.hid hg.out.2.1
  have HD_1 : Hid (Dr g w1 w1) := Lib.hid (Chg.refl _ _)
  have SR0_1 : Hid (Std 27 w.heap.size #[.slice none 0 0, .slice none 0 0] w1) := Lib.hid (HW0.out.2.2.gr hg.out.2.2)
  clear hg HV HW0
  go_wp2_with fail
  refine (spec_l6Index g _ HC_1.out).mono ?_
  rintro e w2 ⟨vq, vf, x, rfl, hl2, hq2, hf2, hk2⟩
  obtain ⟨qa, qn, qc, rfl⟩ := hq2.out.reads.isSl
  obtain ⟨fa, fn, fc, rfl⟩ := hf2.out.reads.isSl
  have HL0 : Hid (totIndex x ≤ 8000 ∧ x.queries.length ≤ 7) := Lib.hid hl2.out
  have HSZ2 : Hid (w1.heap.size ≤ w1.heap.size) := Lib.hid HD_1.out.size
  have FQ_2 : Hid (Fresh w1.heap.size RQueries w2 (.slice qa qn qc) x.queries) := Lib.hid ((hq2.out).le HSZ2.out)
  have FF_2 : Hid (Fresh w1.heap.size RSpanss w2 (.slice fa fn fc) x.fields) := Lib.hid ((hf2.out).le HSZ2.out)
  have HC_2 := Lib.hid hk2.out.1
  have HD_2 := Lib.hid (HD_1.out.trans hk2.out.2)
  have SR0_2 : Hid (Std 27 w.heap.size #[.slice none 0 0, .slice none 0 0] w2) := Lib.hid (SR0_1.out.dr (by have := HG.out; omega) hk2.out.2)
  clear HC_1 HD_1 SR0_1
  clear hl2 hq2 hf2 hk2
  obtain ⟨B0, hB0⟩ : ∃ B, B = w2.heap.size := ⟨_, rfl⟩
  obtain ⟨W3, hW3⟩ : ∃ W, W = w2.alloc (.cells #[.slice qa qn qc, .slice fa fn fc] 27) := ⟨_, rfl⟩
  have G3 : Gr w2 W3 := by rw [hW3]; exact (Gr.refl _).alloc _
  have HB0 : Hid (w1.heap.size ≤ B0) := Lib.hid (by rw [hB0]; exact HD_2.out.size)
  have SB0_3 : Hid (Std 27 B0 #[.slice qa qn qc, .slice fa fn fc] W3) := Lib.hid (by rw [hW3, hB0]; exact Std.new _)
  have HC_3 : Hid (Cur W3 g) := Lib.hid (HC_2.out.gr G3)
  have HD_3 : Hid (Dr g w1 W3) := Lib.hid (HD_2.out.belowT G3 HD_2.out.size)
  have SR0_3 : Hid (Std 27 w.heap.size #[.slice none 0 0, .slice none 0 0] W3) := Lib.hid (SR0_2.out.gr G3)
  have FQ_3 : Hid (Fresh w1.heap.size RQueries W3 (.slice qa qn qc) x.queries) := Lib.hid (FQ_2.out.mono G3)
  have FF_3 : Hid (Fresh w1.heap.size RSpanss W3 (.slice fa fn fc) x.fields) := Lib.hid (FF_2.out.mono G3)
  clear HC_2 HD_2 SR0_2 FQ_2 FF_2
  clear G3
  go_wp2_with fail
  rw [← hW3, ← hB0]
  clear hW3 hB0
  refine (spec_l3AnyRows g _ HC_3.out).mono ?_
  rintro e w4 ⟨rb, rn, rc, rs, rfl, hl4, ho4, hk4⟩
  have HL1 : Hid (rn = rs.length ∧ rs.length ≤ 9 ∧ ∀ r ∈ rs, totRow r ≤ 4) := Lib.hid hl4.out
  have HSZ4 : Hid (w1.heap.size ≤ W3.heap.size) := Lib.hid HD_3.out.size
  have FR_4 : Hid (Fresh w1.heap.size RRows w4 (.slice rb rn rc) rs) := Lib.hid ((PRows.fresh1 ho4.out).le HSZ4.out)
  have HC_4 := Lib.hid hk4.out.1
  have HD_4 := Lib.hid (HD_3.out.trans hk4.out.2)
  have SR0_4 : Hid (Std 27 w.heap.size #[.slice none 0 0, .slice none 0 0] w4) := Lib.hid (SR0_3.out.dr (by have := HG.out; omega) hk4.out.2)
  have SB0_4 : Hid (Std 27 B0 #[.slice qa qn qc, .slice fa fn fc] w4) := Lib.hid (SB0_3.out.dr (by have := HG.out; have := HB0.out; omega) hk4.out.2)
  have FQ_4 : Hid (Fresh w1.heap.size RQueries w4 (.slice qa qn qc) x.queries) := Lib.hid (FQ_3.out.dr HG.out.2 hk4.out.2)
  have FF_4 : Hid (Fresh w1.heap.size RSpanss w4 (.slice fa fn fc) x.fields) := Lib.hid (FF_3.out.dr HG.out.2 hk4.out.2)
  clear HC_3 HD_3 SR0_3 SB0_3 FQ_3 FF_3
  clear hl4 ho4 hk4
  go_wp2_with fail
  obtain ⟨WD, hWD⟩ : ∃ WD, WD = w4.drew := ⟨_, rfl⟩
  have GD : Gr w4 WD := by rw [hWD]; exact (Gr.refl _).drew
  have HC_D : Hid (Cur WD g) := Lib.hid (HC_4.out.gr GD)
  have HD_D : Hid (Dr g w1 WD) := Lib.hid (HD_4.out.belowT GD HD_4.out.size)
  have SR0_D : Hid (Std 27 w.heap.size #[.slice none 0 0, .slice none 0 0] WD) := Lib.hid (SR0_4.out.gr GD)
  have SB0_D : Hid (Std 27 B0 #[.slice qa qn qc, .slice fa fn fc] WD) := Lib.hid (SB0_4.out.gr GD)
  have FQ_D : Hid (Fresh w1.heap.size RQueries WD (.slice qa qn qc) x.queries) := Lib.hid (FQ_4.out.mono GD)
  have FF_D : Hid (Fresh w1.heap.size RSpanss WD (.slice fa fn fc) x.fields) := Lib.hid (FF_4.out.mono GD)
  have FR_D : Hid (Fresh w1.heap.size RRows WD (.slice rb rn rc) rs) := Lib.hid (FR_4.out.mono GD)
  refine wp_region_G (S := fun w' => Std 27 B0 #[.slice qa qn qc, .slice fa fn fc] w') (m := 6) (by kernel_rfl) ?_
  rw [← hWD]
  clear hWD GD HC_4 HD_4 SR0_4 SB0_4 FQ_4 FF_4 FR_4
  have hS : (fun w' : World => Std 27 B0 #[.slice qa qn qc, .slice fa fn fc] w') WD := SB0_D.out
  refine wpAnyG_take (i := 0) (v := ?v0) hS rfl (by kernel_rfl) (by kernel_rfl) (by kernel_rfl) (by kernel_rfl) (fun _ _ _ h => h) (Or.inl ⟨by rfl, ?hy0⟩) ?rest0
  case hy0 => (intro w' hw'; have c0 := hw'.cell (k := 0) rfl; have c1 := hw'.cell (k := 1) rfl; go_simp; try with_reducible rfl)
  try simp only [Act.put]
  refine wpAnyG_take (i := 1) (v := ?v1) hS rfl (by kernel_rfl) (by kernel_rfl) (by kernel_rfl) (by kernel_rfl) (fun _ _ _ h => h) (Or.inl ⟨by rfl, ?hy1⟩) ?rest1
  case hy1 => (intro w' hw'; go_simp; try with_reducible rfl)
  try simp only [Act.put]
  refine wpAnyG_take (i := 2) (v := ?v2) hS rfl (by kernel_rfl) (by kernel_rfl) (by kernel_rfl) (by kernel_rfl) (fun _ _ _ h => h) (Or.inl ⟨by rfl, ?hy2⟩) ?rest2
  case hy2 => (intro w' hw'; go_simp; try with_reducible rfl)
  try simp only [Act.put]
  refine wpAnyG_one (i := 3) rfl (by kernel_rfl) (fun K3 hK3 => ?_)
  go_simp
  refine (spec_l6DrawOrder g _ HC_D.out).mono ?_
  rintro e wE ⟨b, n, c, os, rfl, hlE, hoE, hkE⟩
  have HLE : Hid (n = os.length ∧ os.length = 3) := Lib.hid hlE.out
  have FO_E : Hid (Fresh w1.heap.size RInts wE (.slice b n c) os) := Lib.hid ((hoE.out.fresh1).le HD_D.out.size)
  have HD_E := Lib.hid (HD_D.out.trans hkE.out.2)
  have SR0_E : Hid (Std 27 w.heap.size #[.slice none 0 0, .slice none 0 0] wE) := Lib.hid (SR0_D.out.dr (by have := HG.out; omega) hkE.out.2)
  have SB0_E : Hid (Std 27 B0 #[.slice qa qn qc, .slice fa fn fc] wE) := Lib.hid (SB0_D.out.dr (by have := HG.out; have := HB0.out; omega) hkE.out.2)
  have FQ_E : Hid (Fresh w1.heap.size RQueries wE (.slice qa qn qc) x.queries) := Lib.hid (FQ_D.out.dr HG.out.2 hkE.out.2)
  have FF_E : Hid (Fresh w1.heap.size RSpanss wE (.slice fa fn fc) x.fields) := Lib.hid (FF_D.out.dr HG.out.2 hkE.out.2)
  have FR_E : Hid (Fresh w1.heap.size RRows wE (.slice rb rn rc) rs) := Lib.hid (FR_D.out.dr HG.out.2 hkE.out.2)
  clear hlE hoE hkE hS HC_D HD_D SR0_D SB0_D FQ_D FF_D FR_D
  go_simp
  refine hK3.out _ _ (fun _ => SB0_E.out) ?_
  clear hK3 K3
  try simp only [Act.put]
  refine wpAnyG_one (i := 4) rfl (by kernel_rfl) (fun K4 hK4 => ?_)
  have r0_0 := SR0_E.out.cell (k := 0) rfl
  have f0_0 := SR0_E.out.frz 0
  have r0_1 := SR0_E.out.cell (k := 1) rfl
  have f0_1 := SR0_E.out.frz 1
  go_simp
  obtain ⟨wS0, hwS0⟩ : ∃ W, W = ((wE.setCell ⟨w.heap.size, 0, none⟩ (.slice qa qn qc)).setCell ⟨w.heap.size, 1, none⟩ (.slice fa fn fc)) := ⟨_, rfl⟩
  have SR0_S0 : Hid (Std 27 w.heap.size #[.slice qa qn qc, .slice fa fn fc] wS0) := Lib.hid (by rw [hwS0]; exact (Std.put (bc' := #[.slice qa qn qc, .slice fa fn fc]) (k := 1) (Std.put (bc' := #[.slice qa qn qc, .slice none 0 0]) (k := 0) SR0_E.out rfl) rfl))
  have SB0_S0 : Hid (Std 27 B0 #[.slice qa qn qc, .slice fa fn fc] wS0) := Lib.hid (by rw [hwS0]; exact (Std.set (Std.set SB0_E.out (p := ⟨w.heap.size, 0, none⟩) (by have := HG.out; have := HB0.out; dsimp only; omega) _) (p := ⟨w.heap.size, 1, none⟩) (by have := HG.out; have := HB0.out; dsimp only; omega) _))
  have FQ_S0 : Hid (Fresh w1.heap.size RQueries wS0 (.slice qa qn qc) x.queries) := Lib.hid (by rw [hwS0]; exact (Fresh.set (Fresh.set FQ_E.out (p := ⟨w.heap.size, 0, none⟩) (by have := HG.out; dsimp only; omega) _) (p := ⟨w.heap.size, 1, none⟩) (by have := HG.out; dsimp only; omega) _))
  have FF_S0 : Hid (Fresh w1.heap.size RSpanss wS0 (.slice fa fn fc) x.fields) := Lib.hid (by rw [hwS0]; exact (Fresh.set (Fresh.set FF_E.out (p := ⟨w.heap.size, 0, none⟩) (by have := HG.out; dsimp only; omega) _) (p := ⟨w.heap.size, 1, none⟩) (by have := HG.out; dsimp only; omega) _))
  have FR_S0 : Hid (Fresh w1.heap.size RRows wS0 (.slice rb rn rc) rs) := Lib.hid (by rw [hwS0]; exact (Fresh.set (Fresh.set FR_E.out (p := ⟨w.heap.size, 0, none⟩) (by have := HG.out; dsimp only; omega) _) (p := ⟨w.heap.size, 1, none⟩) (by have := HG.out; dsimp only; omega) _))
  have FO_S0 : Hid (Fresh w1.heap.size RInts wS0 (.slice b n c) os) := Lib.hid (by rw [hwS0]; exact (Fresh.set (Fresh.set FO_E.out (p := ⟨w.heap.size, 0, none⟩) (by have := HG.out; dsimp only; omega) _) (p := ⟨w.heap.size, 1, none⟩) (by have := HG.out; dsimp only; omega) _))
  have HGW_S0 : Hid (Gr w wS0) := Lib.hid (by rw [hwS0]; exact (Below.setCell (Below.setCell (HGG.out _ HD_E.out) (p := ⟨w.heap.size, 0, none⟩) (by dsimp only; omega) _) (p := ⟨w.heap.size, 1, none⟩) (by dsimp only; omega) _))
  rw [← hwS0]
  clear hwS0 r0_0 f0_0 r0_1 f0_1 SR0_E SB0_E FQ_E FF_E FR_E FO_E HD_E
  refine hK4.out _ _ (fun _ => SB0_S0.out) ?_
  clear hK4 K4
  try simp only [Act.put]
  refine wpAnyG_one (i := 5) rfl (by kernel_rfl) (fun K5 hK5 => ?_)
  go_simp
  refine hK5.out _ _ (fun _ => SB0_S0.out) ?_
  clear hK5 K5
  try simp only [Act.put]
  refine wpAnyG_one (i := 6) rfl (by kernel_rfl) (fun K6 hK6 => ?_)
  go_simp
  refine hK6.out _ _ (fun h => absurd rfl h) ?_
  clear hK6 K6
  try simp only [Act.put]
  refine wpAnyG_done (by kernel_rfl) ?_ _
  have r0_0 := SR0_S0.out.cell (k := 0) rfl
  have r0_1 := SR0_S0.out.cell (k := 1) rfl
  go_wp2_with fail
  refine bodyPost_ret (v := .tuple #[.agg #[.slice qa qn qc, .slice fa fn fc], .slice rb rn rc, .slice b n c]) (by simp [results, Try.results19, go_sem, *]) rfl ⟨_, _, x, _, _, _, rs, _, _, _, os, rfl, HL0, Lib.hid ⟨FQ_S0.out.reads, FF_S0.out.reads⟩, HL1, Lib.hid FR_S0.out.reads, HLE, Lib.hid FO_S0.out.reads, HGW_S0⟩
end Go.Proofs.Ytcdcpfcmhmhdjaa
