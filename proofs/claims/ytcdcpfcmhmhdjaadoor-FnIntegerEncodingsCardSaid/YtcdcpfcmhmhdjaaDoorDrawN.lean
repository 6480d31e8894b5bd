/- The drawing of values: numbers and texts. -/
import Derived.Test.YtcdcpfcmhmhdjaaDoorDraw
import Derived.Test.YtcdcpfcmhmhdjaaDoorOwn
import Derived.Test.YtcdcpfcmhmhdjaaDoorIncP
namespace Go.Proofs.YtcdcpfcmhmhdjaaDoor
open Go.RowKit Go.ChangeShapes Go.WideShapes Go.Deep
theorem Chg.belowT {F : Nat → Prop} {w w1 w2 : World} {lo : Nat} (h : Chg F w w1) (k : Below lo w1 w2) (hl : w.heap.size ≤ lo) : Chg F w w2 :=
  ⟨k.os.trans h.os, k.tape.trans h.tape, k.output.trans h.output, Nat.le_trans h.size k.size, fun b hb hn => (k.block b (by omega)).trans (h.block b hb hn)⟩
theorem own_dr {w w' : World} {g lo t sz n : Nat} {v : Value} {cs : List Value} (h : w.ownsRow lo t sz v n cs) (hg : g < lo) (k : Dr g w w') : w'.ownsRow lo t sz v n cs := by
  obtain ⟨h1, h2⟩ := h
  refine ⟨h1, ?_⟩
  rcases h2 with h0 | ⟨b, cap, cur, hv, hb, hgg, r⟩
  · exact Or.inl h0
  · exact Or.inr ⟨b, cap, cur, hv, hb, by rw [k.block b (Array.getElem?_eq_some_iff.1 hgg).1 (by omega)]; exact hgg, r⟩
def numPicks : List Int := [-1, 0, 127, 128, 255, 256, 16383, 16384, 65535, 65536, 562949953421311, 562949953421312, 999999999, 1000000000, -999999999, 9223372036854775807, -9223372036854775808]
theorem numPicks_i64 : ∀ x ∈ numPicks, I64 x := by
  intro x hx
  simp only [numPicks, List.mem_cons, List.not_mem_nil, or_false] at hx
  unfold I64
  omega
set_option maxRecDepth 100000 in
set_option maxHeartbeats 1000000 in
theorem spec_l1Num (g : Nat) (w : World) (hc : Cur w g) : Calls Tryd.prog 59 #[.pointer (some ⟨g, 0, none⟩)] w fun e w' => ∃ x : Int, e = .returned (.int .i64 x) ∧ Hid (I64 x) ∧ Hid (Cur w' g ∧ Dr g w w') := by
  have HC := Lib.hid hc
  clear hc
  go_enter Tryd.func59, Tryd.ntmps59
  go_wp2_with fail
  refine (spec_l1Below g 8 _ HC.out (by decide) (by decide)).mono ?_
  rintro e w1 ⟨x, rfl, hx, hk1⟩
  by_cases x0 : x = 0
  · have e0 : (x == 0) = true := by simp [x0]
    have X := Lib.hid x0
    clear x0
    have HK : Hid (Cur (w1.alloc (.cells (numPicks.map (Value.int .i64)).toArray 3)) g) := Lib.hid (hk1.out.1.gr ((Gr.refl _).alloc _))
    have HV : Hid (∀ w', Dr g (w1.alloc (.cells (numPicks.map (Value.int .i64)).toArray 3)) w' → RInts w' (.slice (some ⟨w1.heap.size, 0, none⟩) 17 17) numPicks) := Lib.hid fun w' k => lit_ints hk1.out.1.lt numPicks numPicks_i64 (by decide) k
    go_wp2_with fail
    refine (spec_l1PickInt g _ numPicks _ HK.out HV.out (by decide)).mono ?_
    rintro e w2 ⟨y, rfl, hy, hk2⟩
    go_wp2_with fail
    go_ret
    exact ⟨_, rfl, Lib.hid (numPicks_i64 _ hy.out), Lib.hid ⟨hk2.out.1, (hk1.out.2.alloc _).trans hk2.out.2⟩⟩
  · have e0 : (x == 0) = false := by simp [x0]
    by_cases x1 : x = 1
    · have e1 : (x == 1) = true := by simp [x1]
      have X := Lib.hid (And.intro x0 x1)
      clear x0 x1
      go_wp2_with fail
      refine (spec_l1Below g 1000000000 _ hk1.out.1 (by decide) (by decide)).mono ?_
      rintro e w2 ⟨y, rfl, hy, hk2⟩
      go_wp2_with fail
      refine (spec_l1Below g 1000000000 _ hk2.out.1 (by decide) (by decide)).mono ?_
      rintro e w3 ⟨z, rfl, hz, hk3⟩
      have hyz : Hid (0 ≤ y * z ∧ y * z ≤ 1000000000000000000) := Lib.hid (by
        have h1 := hy.out; have h2 := hz.out
        refine ⟨Int.mul_nonneg h1.1 h2.1, ?_⟩
        have h3 : y * z ≤ 1000000000 * z := Int.mul_le_mul_of_nonneg_right (by omega) h2.1
        omega)
      have yz0 := hyz.out.1
      have yz1 := hyz.out.2
      go_wp2_with fail
      go_ret
      exact ⟨_, rfl, Lib.hid (by unfold I64; omega), Lib.hid ⟨hk3.out.1, (hk1.out.2.trans hk2.out.2).trans hk3.out.2⟩⟩
    · have e1 : (x == 1) = false := by simp [x1]
      by_cases x2 : x = 2
      · have e2 : (x == 2) = true := by simp [x2]
        have X := Lib.hid (And.intro x0 (And.intro x1 x2))
        clear x0 x1 x2
        go_wp2_with fail
        refine (spec_l1Below g 100000 _ hk1.out.1 (by decide) (by decide)).mono ?_
        rintro e w2 ⟨y, rfl, hy, hk2⟩
        have y0 := hy.out.1
        have y1 := hy.out.2
        go_wp2_with fail
        go_ret
        exact ⟨_, rfl, Lib.hid (by unfold I64; omega), Lib.hid ⟨hk2.out.1, hk1.out.2.trans hk2.out.2⟩⟩
      · have e2 : (x == 2) = false := by simp [x2]
        have X := Lib.hid (And.intro x0 (And.intro x1 x2))
        clear x0 x1 x2
        go_wp2_with fail
        refine (spec_l1Below g 70000 _ hk1.out.1 (by decide) (by decide)).mono ?_
        rintro e w2 ⟨y, rfl, hy, hk2⟩
        have y0 := hy.out.1
        have y1 := hy.out.2
        go_wp2_with fail
        go_ret
        exact ⟨_, rfl, Lib.hid (by unfold I64; omega), Lib.hid ⟨hk2.out.1, hk1.out.2.trans hk2.out.2⟩⟩
set_option maxRecDepth 100000 in
set_option maxHeartbeats 2000000 in
theorem spec_l1Text (g M : Nat) (w : World) (hc : Cur w g) (hM : M ≤ 1000) : Calls Tryd.prog 60 #[.pointer (some ⟨g, 0, none⟩), .int .i64 M] w fun e w' => ∃ s : ByteArray, e = .returned (.string s) ∧ Hid (s.size ≤ M) ∧ Hid (Cur w' g ∧ Dr g w w') := by
  have HC := Lib.hid hc
  have hM' : (M : Int) ≤ 1000 := by omega
  have hM0 : (0 : Int) ≤ (M : Int) := Int.natCast_nonneg _
  obtain ⟨W0, hW0⟩ : ∃ W0, W0 = w.alloc (.cells #[] 5) := ⟨_, rfl⟩
  have HW0 : Hid (Gr w W0 ∧ W0.heap.size = w.heap.size + 1 ∧ Cur W0 g ∧ Dr g w W0) := Lib.hid (by rw [hW0]; exact ⟨(Gr.refl w).alloc _, by simp, hc.gr ((Gr.refl w).alloc _), (Chg.refl _ _).alloc _⟩)
  have HO0 : Hid (W0.ownsRow w.heap.size 5 1 (.slice (some ⟨w.heap.size, 0, none⟩) 0 0) 0 []) := Lib.hid (by rw [hW0]; exact own_empty w _ _ _ (Nat.le_refl _))
  have HGW : Hid (g < w.heap.size) := Lib.hid hc.lt
  clear hc
  go_enter Tryd.func60, Tryd.ntmps60
  go_wp2_with fail
  rw [← hW0]
  clear hW0
  refine (spec_l1Below g 4 _ HW0.out.2.2.1 (by decide) (by decide)).mono ?_
  rintro e w1 ⟨st, rfl, hst, hk1⟩
  have HD1 := Lib.hid (HW0.out.2.2.2.trans hk1.out.2)
  have HO1 := Lib.hid (own_dr HO0.out HGW.out hk1.out.2)
  go_wp2_with fail
  refine (spec_l1Below g ((M : Int) + 1) _ hk1.out.1 (by omega) (by omega)).mono ?_
  rintro e w2 ⟨n, rfl, hn, hk2⟩
  obtain ⟨N, hN⟩ := Int.eq_ofNat_of_zero_le hn.out.1
  subst hN
  have HD2 := Lib.hid (HD1.out.trans hk2.out.2)
  have HO2 := Lib.hid (own_dr HO1.out HGW.out hk2.out.2)
  have HN : Hid (N ≤ M) := Lib.hid (by have := hn.out.2; omega)
  go_wp2_with fail
  go_loopw [5, 7] (fun out vn wr => ∃ (k b cap : Nat) (ns : List Int), vn = .int .i64 k ∧ out = .slice (some ⟨b, 0, none⟩) ns.length cap ∧ Hid (wr.ownsRow w.heap.size 5 1 out ns.length (ns.map (Value.int .u8))) ∧ Hid (ns.length + k ≤ M) ∧ Hid (Cur wr g ∧ Dr g w wr)) (fun _ vn _ => (intOf vn).toNat)
  case atStart => exact ⟨N, w.heap.size, 0, [], rfl, rfl, HO2, Lib.hid (by have := HN.out; simpa using this), Lib.hid ⟨hk2.out.1, HD2.out⟩⟩
  case round =>
    obtain ⟨k, b, cap, ns, rfl, rfl, HO, HL, HK⟩ := hrel
    by_cases hk0 : 0 < k
    · have hkz : (0 : Int) < (k : Int) := by omega
      have hkm : (k : Int) ≤ 1000 := by have := HL.out; omega
      go_wp2_with fail
      refine (spec_l1Byte g _ HK.out.1).mono ?_
      rintro e w3 ⟨y, rfl, hy, hk3⟩
      have y0 := hy.out.1
      have y1 := hy.out.2
      have HD3 := Lib.hid (HK.out.2.trans hk3.out.2)
      have HO3 := Lib.hid (own_dr HO.out HGW.out hk3.out.2)
      have HS3 : Hid (w.heap.size ≤ w3.heap.size) := Lib.hid HD3.out.size
      by_cases s1 : st = 1
      · have e1 : (st == 1) = true := by simp [s1]
        subst s1
        go_wp2_with (at_builtin; refine push_b rfl _ _ rfl ns _ rfl rfl rfl HO3.out (by have := HL.out; omega) HS3.out ?_; intro g5 c5 w5 hO5 hB5; have HO5 := Lib.hid hO5; have HB5 := Lib.hid hB5; clear hO5 hB5)
        go_roundw
        case rel => exact ⟨k - 1, g5, c5, ns ++ [_], by go_num, by simp, by simpa using HO5, Lib.hid (by have := HL.out; simp; omega), Lib.hid ⟨hk3.out.1.below HGW.out HB5.out, HD3.out.belowT HB5.out (Nat.le_refl _)⟩⟩
        case measure => simp [intOf]; omega
      · have e1 : (st == 1) = false := by simp [s1]
        by_cases s2 : st = 2
        · have e2 : (st == 2) = true := by simp [s2]
          subst s2
          go_wp2_with (at_builtin; refine push_b rfl _ _ rfl ns _ rfl rfl rfl HO3.out (by have := HL.out; omega) HS3.out ?_; intro g5 c5 w5 hO5 hB5; have HO5 := Lib.hid hO5; have HB5 := Lib.hid hB5; clear hO5 hB5)
          go_roundw
          case rel => exact ⟨k - 1, g5, c5, ns ++ [_], by go_num, by simp, by simpa using HO5, Lib.hid (by have := HL.out; simp; omega), Lib.hid ⟨hk3.out.1.below HGW.out HB5.out, HD3.out.belowT HB5.out (Nat.le_refl _)⟩⟩
          case measure => simp [intOf]; omega
        · have e2 : (st == 2) = false := by simp [s2]
          have S12 := Lib.hid (And.intro s1 s2)
          clear s1 s2
          go_wp2_with (at_builtin; refine push_b rfl _ _ rfl ns _ rfl rfl rfl HO3.out (by have := HL.out; omega) HS3.out ?_; intro g5 c5 w5 hO5 hB5; have HO5 := Lib.hid hO5; have HB5 := Lib.hid hB5; clear hO5 hB5)
          go_roundw
          case rel => exact ⟨k - 1, g5, c5, ns ++ [_], by go_num, by simp, by simpa using HO5, Lib.hid (by have := HL.out; simp; omega), Lib.hid ⟨hk3.out.1.below HGW.out HB5.out, HD3.out.belowT HB5.out (Nat.le_refl _)⟩⟩
          case measure => simp [intOf]; omega
    · have hkz : ¬ (0 : Int) < (k : Int) := by omega
      have hcv := conv_b HO.out rfl
      go_wp2_with fail
      go_ret
      exact ⟨_, rfl, Lib.hid (by rw [size_str]; have := HL.out; omega), HK⟩
set_option maxRecDepth 100000 in
theorem spec_DrawEncodeVarint (v : Value) (bs : List Int) (w : World) (hv : RBytes w v bs) : Calls Tryd.prog 22 #[v] w fun e w' => ∃ x : Int, e = .returned (.int .i64 x) ∧ Hid (I64 x) ∧ Hid (Gr w w') := by
  have HV := Lib.hid hv
  clear hv
  go_enter Tryd.func22, Tryd.ntmps22
  go_wp2_with fail
  refine (spec_l1New v bs _ HV.out).mono ?_
  rintro e w1 ⟨g, rfl, hg⟩
  go_wp2_with fail
  refine (spec_l1Num g _ hg.out.2.1).mono ?_
  rintro e w2 ⟨x, rfl, hx, hk⟩
  go_wp2_with fail
  go_ret
  exact ⟨_, rfl, hx, Lib.hid (hg.out.2.2.trans' (hk.out.2.below (fun b hb => by rw [hb]; exact hg.out.1) hg.out.2.2.size))⟩
set_option maxRecDepth 100000 in
theorem spec_DrawEncodeHex (v : Value) (bs : List Int) (w : World) (hv : RBytes w v bs) : Calls Tryd.prog 23 #[v] w fun e w' => ∃ s : ByteArray, e = .returned (.string s) ∧ Hid (s.size ≤ 40) ∧ Hid (Gr w w') := by
  have HV := Lib.hid hv
  clear hv
  go_enter Tryd.func23, Tryd.ntmps23
  go_wp2_with fail
  refine (spec_l1New v bs _ HV.out).mono ?_
  rintro e w1 ⟨g, rfl, hg⟩
  go_wp2_with fail
  refine (spec_l1Text g 40 _ hg.out.2.1 (by decide)).mono ?_
  rintro e w2 ⟨x, rfl, hx, hk⟩
  go_wp2_with fail
  go_ret
  exact ⟨_, rfl, hx, Lib.hid (hg.out.2.2.trans' (hk.out.2.below (fun b hb => by rw [hb]; exact hg.out.1) hg.out.2.2.size))⟩
set_option maxRecDepth 100000 in
theorem spec_DrawEncodeFixed (v : Value) (bs : List Int) (w : World) (hv : RBytes w v bs) : Calls Tryd.prog 26 #[v] w fun e w' => ∃ x y : Int, e = .returned (.tuple #[.int .i64 x, .int .i64 y]) ∧ Hid (I64 x ∧ I64 y) ∧ Hid (Gr w w') := by
  have HV := Lib.hid hv
  clear hv
  go_enter Tryd.func26, Tryd.ntmps26
  go_wp2_with fail
  refine (spec_l1New v bs _ HV.out).mono ?_
  rintro e w1 ⟨g, rfl, hg⟩
  go_wp2_with fail
  refine (spec_l1Num g _ hg.out.2.1).mono ?_
  rintro e w2 ⟨x, rfl, hx, hk⟩
  go_wp2_with fail
  refine (spec_l1Below g 10 _ hk.out.1 (by decide) (by decide)).mono ?_
  rintro e w3 ⟨y, rfl, hy, hk3⟩
  have y0 := hy.out.1
  have y1 := hy.out.2
  go_wp2_with fail
  go_ret2
  exact ⟨_, _, rfl, Lib.hid ⟨hx.out, by unfold I64; omega⟩, Lib.hid (hg.out.2.2.trans' ((hk.out.2.trans hk3.out.2).below (fun b hb => by rw [hb]; exact hg.out.1) hg.out.2.2.size))⟩
end Go.Proofs.YtcdcpfcmhmhdjaaDoor
