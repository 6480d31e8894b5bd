/- The drawing of values: sets. -/
import Derived.Test.YtcdcpfcmhmhdjaaDoorDrawC
import Derived.Test.YtcdcpfcmhmhdjaaDoorInts
namespace Go.Proofs.YtcdcpfcmhmhdjaaDoor
open Go.RowKit Go.ChangeShapes Go.WideShapes Go.Deep
theorem oints_dr {w w' : World} {g lo : Nat} {v : Value} {xs : List Int} (h : OInts lo w v xs) (hg : g < lo) (k : Dr g w w') : OInts lo w' v xs := ⟨own_dr h.1 hg k, h.2⟩
theorem mul_small {a b : Int} (ha : 0 ≤ a ∧ a < 3) (hb : 0 ≤ b ∧ b < 2) : 0 ≤ a * b ∧ a * b ≤ 2 := by
  refine ⟨Int.mul_nonneg ha.1 hb.1, ?_⟩
  have : a * b ≤ 2 * b := Int.mul_le_mul_of_nonneg_right (by omega) hb.1
  omega
set_option maxRecDepth 100000 in
set_option maxHeartbeats 2000000 in
theorem spec_l2Set (g : Nat) (w : World) (hc : Cur w g) : Calls Tryd.prog 93 #[.pointer (some ⟨g, 0, none⟩)] w fun e w' => ∃ (b n c : Nat) (xs : List Int), e = .returned (.slice (some ⟨b, 0, none⟩) n c) ∧ Hid (n = xs.length ∧ xs.length ≤ 6) ∧ Hid (OInts w.heap.size w' (.slice (some ⟨b, 0, none⟩) n c) xs) ∧ Hid (Cur w' g ∧ Dr g w w') := by
  have HC := Lib.hid hc
  obtain ⟨W0, hW0⟩ : ∃ W0, W0 = w.alloc (.cells #[] 3) := ⟨_, rfl⟩
  have HW0 : Hid (Cur W0 g ∧ Dr g w W0) := Lib.hid (by rw [hW0]; exact ⟨hc.gr ((Gr.refl w).alloc _), (Chg.refl _ _).alloc _⟩)
  have HO0 : Hid (W0.ownsRow w.heap.size 3 1 (.slice (some ⟨w.heap.size, 0, none⟩) 0 0) 0 []) := Lib.hid (by rw [hW0]; exact own_empty w _ _ _ (Nat.le_refl _))
  have HGW : Hid (g < w.heap.size) := Lib.hid hc.lt
  clear hc
  go_enter Tryd.func93, Tryd.ntmps93
  go_wp2_with fail
  rw [← hW0]
  clear hW0
  refine (spec_l1Below g 3 _ HW0.out.1 (by decide) (by decide)).mono ?_
  rintro e w1 ⟨x, rfl, hx, hk1⟩
  have HD1 := Lib.hid (HW0.out.2.trans hk1.out.2)
  have HO1 := Lib.hid (own_dr HO0.out HGW.out hk1.out.2)
  go_wp2_with fail
  refine (spec_l1Below g 7 _ hk1.out.1 (by decide) (by decide)).mono ?_
  rintro e w2 ⟨n, rfl, hn, hk2⟩
  obtain ⟨N, hN⟩ := Int.eq_ofNat_of_zero_le hn.out.1
  subst hN
  have HD2 := Lib.hid (HD1.out.trans hk2.out.2)
  have HO2 := Lib.hid (own_dr HO1.out HGW.out hk2.out.2)
  have HN : Hid (N ≤ 6) := Lib.hid (by have := hn.out.2; omega)
  go_wp2_with fail
  go_loopw [3, 4, 5] (fun out vx vn wr => ∃ (k b cap : Nat) (y : Int) (ns : List Int), vn = .int .i64 k ∧ vx = .int .i64 y ∧ out = .slice (some ⟨b, 0, none⟩) ns.length cap ∧ Hid (wr.ownsRow w.heap.size 3 1 out ns.length (ns.map (Value.int .i64)) ∧ ∀ z ∈ ns, I64 z) ∧ Hid (ns.length + k ≤ 6) ∧ Hid (0 ≤ y ∧ y ≤ 30) ∧ Hid (Cur wr g ∧ Dr g w wr)) (fun _ _ vn _ => (intOf vn).toNat)
  case atStart => exact ⟨N, w.heap.size, 0, x, [], rfl, rfl, rfl, Lib.hid ⟨HO2.out, by simp⟩, Lib.hid (by have := HN.out; simpa using this), Lib.hid (by have := hx.out; omega), Lib.hid ⟨hk2.out.1, HD2.out⟩⟩
  case round =>
    obtain ⟨k, b, cap, y, ns, rfl, rfl, rfl, HO, HL, HY, HK⟩ := hrel
    have y0 := HY.out.1
    have y1 := HY.out.2
    by_cases hk0 : 0 < k
    · have hkz : (0 : Int) < (k : Int) := by omega
      have hkm : (k : Int) ≤ 1000 := by have := HL.out; omega
      by_cases hy : y < 24
      · have HS : Hid (w.heap.size ≤ wr.heap.size) := Lib.hid HK.out.2.size
        go_wp2_with (at_builtin; refine push_i rfl _ _ rfl ns y rfl rfl rfl HO.out.1 (by have := HL.out; omega) HS.out ?_; intro g5 c5 w5 hO5 hB5; have HO5 := Lib.hid hO5; have HB5 := Lib.hid hB5; clear hO5 hB5)
        have HC5 := Lib.hid (HK.out.1.below HGW.out HB5.out)
        have HD5 := Lib.hid (HK.out.2.belowT HB5.out (Nat.le_refl _))
        refine (spec_l1Below g 3 _ HC5.out (by decide) (by decide)).mono ?_
        rintro e w6 ⟨p, rfl, hp, hk6⟩
        have HO6 := Lib.hid (own_dr HO5.out HGW.out hk6.out.2)
        go_wp2_with fail
        refine (spec_l1Below g 2 _ hk6.out.1 (by decide) (by decide)).mono ?_
        rintro e w7 ⟨q, rfl, hq, hk7⟩
        have HO7 := Lib.hid (own_dr HO6.out HGW.out hk7.out.2)
        have pq := mul_small hp.out hq.out
        have pq0 := pq.1
        have pq1 := pq.2
        clear pq
        go_wp2_with fail
        go_roundw
        case rel => exact ⟨k - 1, g5, c5, y + 1 + p * q, ns ++ [y], by go_num, rfl, by simp, Lib.hid ⟨by simpa using HO7.out, fun z hz => by
          rcases List.mem_append.1 hz with h | h
          · exact HO.out.2 z h
          · rw [List.mem_singleton.1 h]; unfold I64; omega⟩, Lib.hid (by have := HL.out; simp; omega), Lib.hid (by omega), Lib.hid ⟨hk7.out.1, (HD5.out.trans hk6.out.2).trans hk7.out.2⟩⟩
        case measure => simp [intOf]; omega
      · go_wp2_with fail
        go_ret
        exact ⟨_, _, _, rfl, ns, Lib.hid ⟨rfl, by have := HL.out; omega⟩, HO, HK⟩
    · have hkz : ¬ (0 : Int) < (k : Int) := by omega
      go_wp2_with fail
      go_ret
      exact ⟨_, _, _, rfl, ns, Lib.hid ⟨rfl, by have := HL.out; omega⟩, HO, HK⟩
def setPicks : List Int := [-1, 0, 23, 24]
theorem setPicks_i64 : ∀ x ∈ setPicks, I64 x := by
  intro x hx
  simp only [setPicks, List.mem_cons, List.not_mem_nil, or_false] at hx
  unfold I64
  omega
set_option maxRecDepth 100000 in
set_option maxHeartbeats 2000000 in
theorem spec_l2Any (g : Nat) (w : World) (hc : Cur w g) : Calls Tryd.prog 75 #[.pointer (some ⟨g, 0, none⟩)] w fun e w' => ∃ (b n c : Nat) (xs : List Int), e = .returned (.slice (some ⟨b, 0, none⟩) n c) ∧ Hid (n = xs.length ∧ xs.length ≤ 7) ∧ Hid (OInts w.heap.size w' (.slice (some ⟨b, 0, none⟩) n c) xs) ∧ Hid (Cur w' g ∧ Dr g w w') := by
  have HC := Lib.hid hc
  have HGW : Hid (g < w.heap.size) := Lib.hid hc.lt
  clear hc
  go_enter Tryd.func75, Tryd.ntmps75
  go_wp2_with fail
  refine (spec_l2Set g _ HC.out).mono ?_
  rintro e w1 ⟨b, n, c, xs, rfl, hl, ho, hk1⟩
  obtain rfl := hl.out.1
  go_wp2_with fail
  refine (spec_l1Once g 8 _ hk1.out.1 (by decide) (by decide)).mono ?_
  rintro e w2 ⟨t, rfl, hk2⟩
  have HD2 := Lib.hid (hk1.out.2.trans hk2.out.2)
  have HO2 := Lib.hid (oints_dr ho.out HGW.out hk2.out.2)
  cases t with
  | false =>
    go_wp2_with fail
    go_ret
    exact ⟨_, _, _, xs, rfl, Lib.hid ⟨rfl, by have := hl.out.2; omega⟩, HO2, Lib.hid ⟨hk2.out.1, HD2.out⟩⟩
  | true =>
    have HK : Hid (Cur (w2.alloc (.cells (setPicks.map (Value.int .i64)).toArray 3)) g) := Lib.hid (hk2.out.1.gr ((Gr.refl _).alloc _))
    have HV : Hid (∀ w', Dr g (w2.alloc (.cells (setPicks.map (Value.int .i64)).toArray 3)) w' → RInts w' (.slice (some ⟨w2.heap.size, 0, none⟩) 4 4) setPicks) := Lib.hid fun w' k => lit_ints hk2.out.1.lt setPicks setPicks_i64 (by decide) k
    go_wp2_with fail
    refine (spec_l1PickInt g _ setPicks _ HK.out HV.out (by decide)).mono ?_
    rintro e w3 ⟨y, rfl, hy, hk3⟩
    have HD3 := Lib.hid ((HD2.out.alloc (.cells (setPicks.map (Value.int .i64)).toArray 3)).trans hk3.out.2)
    have HO3 := Lib.hid (oints_dr (HO2.out.mono ((Gr.refl _).alloc (.cells (setPicks.map (Value.int .i64)).toArray 3))) HGW.out hk3.out.2)
    have HS : Hid (w.heap.size ≤ w3.heap.size) := Lib.hid HD3.out.size
    go_wp2_with (at_builtin; refine push_i rfl _ _ rfl xs y rfl rfl rfl HO3.out.1 (by have := hl.out.2; omega) HS.out ?_; intro g5 c5 w5 hO5 hB5; have HO5 := Lib.hid hO5; have HB5 := Lib.hid hB5; clear hO5 hB5)
    go_ret
    exact ⟨_, _, _, xs ++ [y], rfl, Lib.hid ⟨by simp, by have := hl.out.2; simp; omega⟩, Lib.hid ⟨by simpa using HO5.out, fun z hz => by
      rcases List.mem_append.1 hz with h | h
      · exact ho.out.2 z h
      · rw [List.mem_singleton.1 h]; exact setPicks_i64 _ hy.out⟩, Lib.hid ⟨hk3.out.1.below HGW.out HB5.out, HD3.out.belowT HB5.out (Nat.le_refl _)⟩⟩
set_option maxRecDepth 100000 in
set_option maxHeartbeats 1000000 in
theorem spec_l2Two (v : Value) (bs : List Int) (w : World) (hv : RBytes w v bs) : Calls Tryd.prog 47 #[v] w fun e w' => ∃ (b n c b' n' c' : Nat) (xs ys : List Int), e = .returned (.tuple #[.slice (some ⟨b, 0, none⟩) n c, .slice (some ⟨b', 0, none⟩) n' c']) ∧ Hid (n = xs.length ∧ xs.length ≤ 7) ∧ Hid (n' = ys.length ∧ ys.length ≤ 7) ∧ Hid (RInts w' (.slice (some ⟨b, 0, none⟩) n c) xs) ∧ Hid (RInts w' (.slice (some ⟨b', 0, none⟩) n' c') ys) ∧ Hid (Gr w w') := by
  have HV := Lib.hid hv
  clear hv
  go_enter Tryd.func47, Tryd.ntmps47
  go_wp2_with fail
  refine (spec_l1New v bs _ HV.out).mono ?_
  rintro e w1 ⟨g, rfl, hg⟩
  go_wp2_with fail
  refine (spec_l2Any g _ hg.out.2.1).mono ?_
  rintro e w2 ⟨b, n, c, xs, rfl, hl, ho, hk2⟩
  go_wp2_with fail
  refine (spec_l2Any g _ hk2.out.1).mono ?_
  rintro e w3 ⟨b', n', c', ys, rfl, hl', ho', hk3⟩
  go_wp2_with fail
  go_ret2
  exact ⟨_, _, _, _, _, _, xs, ys, rfl, hl, hl', Lib.hid (oints_dr ho.out hg.out.2.1.lt hk3.out.2).reads, Lib.hid ho'.out.reads, Lib.hid (hg.out.2.2.trans' ((hk2.out.2.trans hk3.out.2).below (fun b hb => by rw [hb]; exact hg.out.1) hg.out.2.2.size))⟩
set_option maxRecDepth 100000 in
theorem spec_DrawUniteSets (v : Value) (bs : List Int) (w : World) (hv : RBytes w v bs) : Calls Tryd.prog 7 #[v] w fun e w' => ∃ (b n c b' n' c' : Nat) (xs ys : List Int), e = .returned (.tuple #[.slice (some ⟨b, 0, none⟩) n c, .slice (some ⟨b', 0, none⟩) n' c']) ∧ Hid (n = xs.length ∧ xs.length ≤ 7) ∧ Hid (n' = ys.length ∧ ys.length ≤ 7) ∧ Hid (RInts w' (.slice (some ⟨b, 0, none⟩) n c) xs) ∧ Hid (RInts w' (.slice (some ⟨b', 0, none⟩) n' c') ys) ∧ Hid (Gr w w') := by
  have HV := Lib.hid hv
  clear hv
  go_enter Tryd.func7, Tryd.ntmps7
  go_wp2_with fail
  refine (spec_l2Two v bs _ HV.out).mono ?_
  rintro e w1 ⟨b, n, c, b', n', c', xs, ys, rfl, h1, h2, h3, h4, h5⟩
  go_wp2_with fail
  go_ret2
  exact ⟨_, _, _, _, _, _, xs, ys, rfl, h1, h2, h3, h4, h5⟩
end Go.Proofs.YtcdcpfcmhmhdjaaDoor
