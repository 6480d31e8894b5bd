/- The drawing of values: rows. -/
import Derived.Test.YtcdcpfcmhmhdjaaGreatDoorDrawR
import Derived.Test.YtcdcpfcmhmhdjaaGreatDoorDrawL
import Derived.Test.YtcdcpfcmhmhdjaaGreatDoorLawE2
namespace Go.Proofs.YtcdcpfcmhmhdjaaGreatDoor
open Go.RowKit Go.ChangeShapes Go.WideShapes Go.Deep
def RsTo (rs : List DRow) (y : Int) : Prop := (∀ r ∈ rs, isRowB r = true ∧ r.id < y) ∧ rs.Pairwise (fun a b => a.id < b.id)
theorem RsTo.nil (y : Int) : RsTo [] y := ⟨by simp, List.Pairwise.nil⟩
theorem RsTo.push {rs : List DRow} {y z : Int} (h : RsTo rs y) {r : DRow} (hr : isRowB r = true) (e : r.id = y) (hz : y < z) : RsTo (rs ++ [r]) z := by
  refine ⟨fun p hp => ?_, ?_⟩
  · rcases List.mem_append.1 hp with h1 | h1
    · exact ⟨(h.1 p h1).1, by have := (h.1 p h1).2; omega⟩
    · rw [List.mem_singleton.1 h1]; exact ⟨hr, by omega⟩
  · rw [List.pairwise_append]
    exact ⟨h.2, List.pairwise_singleton _ _, fun a ha b hb => by rw [List.mem_singleton.1 hb, e]; exact (h.1 a ha).2⟩
theorem row_three {r : DRow} (h : isRowB r = true) : totRow r = 3 := by
  unfold isRowB at h
  simp only [Bool.and_eq_true, decide_eq_true_eq] at h
  exact h.2.2
set_option maxRecDepth 100000 in
set_option maxHeartbeats 2000000 in
theorem spec_l3Rows (g M : Nat) (w : World) (hc : Cur w g) (hM : M ≤ 8) : Calls Tryz.prog 55 #[.pointer (some ⟨g, 0, none⟩), .int .i64 M] w fun e w' => ∃ (b : Option Addr) (n c : Nat) (rs : List DRow), e = .returned (.slice b n c) ∧ Hid (n = rs.length ∧ rs.length ≤ M ∧ ∀ r ∈ rs, totRow r ≤ 4) ∧ Hid (PRows (In w.heap.size w'.heap.size) w' (.slice b n c) rs) ∧ Hid (Cur w' g ∧ Dr g w w') := by
  have HC := Lib.hid hc
  have hM' : (M : Int) ≤ 8 := by omega
  have hM0 : (0 : Int) ≤ (M : Int) := Int.natCast_nonneg _
  obtain ⟨W0, hW0⟩ : ∃ W0, W0 = w.alloc (.cells #[] 36) := ⟨_, rfl⟩
  have HW0 : Hid (Cur W0 g ∧ Dr g w W0 ∧ PRows (In w.heap.size W0.heap.size) W0 (.slice (some ⟨w.heap.size, 0, none⟩) 0 0) []) := Lib.hid (by rw [hW0]; exact ⟨hc.gr ((Gr.refl w).alloc _), (Chg.refl _ _).alloc _, OSl.made w ⟨Nat.le_refl _, by simp⟩⟩)
  have HGW : Hid (g < w.heap.size) := Lib.hid hc.lt
  clear hc
  go_enter Tryz.func55, Tryz.ntmps55
  go_wp2_with fail
  rw [← hW0]
  clear hW0
  refine (spec_l1Below g 3 _ HW0.out.1 (by decide) (by decide)).mono ?_
  rintro e w1 ⟨y, rfl, hy, hk1⟩
  have HO1 := Lib.hid (osl_dr fr_row HW0.out.2.2 HGW.out hk1.out.2)
  have HD1 := Lib.hid (HW0.out.2.1.trans hk1.out.2)
  have HY := Lib.hid hy.out
  clear hy
  go_wp2_with fail
  refine (spec_l1Below g ((M : Int) + 1) _ hk1.out.1 (by omega) (by omega)).mono ?_
  rintro e w2 ⟨n, rfl, hn, hk2⟩
  obtain ⟨N, hN⟩ := Int.eq_ofNat_of_zero_le hn.out.1
  subst hN
  have HN : Hid (N ≤ M) := Lib.hid (by have := hn.out.2; omega)
  have HO2 := Lib.hid (osl_dr fr_row HO1.out HGW.out hk2.out.2)
  have HD2 := Lib.hid (HD1.out.trans hk2.out.2)
  have HS2 : Hid (W0.heap.size ≤ w2.heap.size) := Lib.hid (Nat.le_trans hk1.out.2.size hk2.out.2.size)
  have HK2 := Lib.hid hk2.out.1
  clear hn hk1 hk2 HO1 HD1
  go_wp2_with fail
  go_loopw [5, 6, 7] (fun out vy vn wr => ∃ (k c : Nat) (b : Option Addr) (y : Int) (rs : List DRow), vn = .int .i64 k ∧ vy = .int .i64 y ∧ out = .slice b rs.length c ∧ Hid (RsTo rs y ∧ rs.length + k ≤ M ∧ 0 ≤ y ∧ y + 3 * k ≤ 30) ∧ Hid (PRows (In w.heap.size wr.heap.size) wr (.slice b rs.length c) rs) ∧ Hid (Cur wr g ∧ Dr g w wr)) (fun _ _ vn _ => (intOf vn).toNat)
  case atStart => exact ⟨N, 0, some ⟨w.heap.size, 0, none⟩, y, [], rfl, rfl, rfl, Lib.hid ⟨RsTo.nil _, by have := HN.out; simpa using this, HY.out.1, by have := HY.out.2; have := HN.out; omega⟩, Lib.hid (HO2.out.wide (Nat.le_refl _) HS2.out), Lib.hid ⟨HK2.out, HD2.out⟩⟩
  case round =>
    obtain ⟨k, c, b, y, rs, rfl, rfl, rfl, HQ, HO, HK⟩ := hrel
    have k6 : (k : Int) ≤ 8 := by have := HQ.out.2.1; omega
    have y0 := HQ.out.2.2.1
    have y13 : y ≤ 30 := by have := HQ.out.2.2.2; omega
    by_cases hk0 : 0 < k
    · have hkz : (0 : Int) < (k : Int) := by omega
      go_wp2_with fail
      refine (spec_l3Row g y _ HK.out.1).mono ?_
      rintro e w3 ⟨bv, nv, cv, vs, rfl, hl, ho, hk3⟩
      obtain rfl := hl.out.1
      have HR : Hid (isRowB ⟨y, vs⟩ = true) := Lib.hid (drawn_row (by omega) hl.out.2.2 hl.out.2.1)
      have HS3 : Hid (wr.heap.size ≤ w3.heap.size ∧ w.heap.size ≤ w3.heap.size) := Lib.hid ⟨hk3.out.2.size, Nat.le_trans HK.out.2.size hk3.out.2.size⟩
      have HO3 := Lib.hid (osl_trunc fr_row (osl_dr fr_row HO.out HGW.out hk3.out.2) HS3.out.1)
      have HT3 : Hid (w.heap.size ≤ (trunc w3 wr.heap.size).heap.size ∧ Gr (trunc w3 wr.heap.size) w3 ∧ (trunc w3 wr.heap.size).heap.size ≤ wr.heap.size) := Lib.hid ⟨by rw [trunc_size HS3.out.1]; exact HK.out.2.size, gr_trunc HS3.out.1, by rw [trunc_size HS3.out.1]; exact Nat.le_refl _⟩
      have HPQ : Hid (PRow (In wr.heap.size w3.heap.size) w3 [.int .i64 y, .slice bv vs.length cv] ⟨y, vs⟩) := Lib.hid ⟨_, rfl, by unfold I64; dsimp only; omega, ho.out.priv.wide (Nat.le_succ _) (Nat.le_refl _)⟩
      have HD3 := Lib.hid (HK.out.2.trans hk3.out.2)
      have HK3 := Lib.hid hk3.out.1
      clear hk3 ho HO HK
      go_wp2_with (at_builtin; refine push_o (w0 := trunc w3 wr.heap.size) (wr := w3) (la := wr.heap.size) (hb := w3.heap.size) (lo := w.heap.size) 28 36 2 32 Tryz.underlying28 (z := .agg #[.int .i64 0, .slice none 0 0]) (by kernel_rfl) rfl (by decide) (by decide) rfl _ _ rfl fr_row ⟨y, vs⟩ [.int .i64 y, .slice bv vs.length cv] rfl rfl rfl HO3.out HT3.out.1 HT3.out.2.1 HPQ.out HT3.out.2.2 (Nat.le_refl _) rfl (by simp [Value.oneCell']) (by have := HQ.out.2.1; omega) ?_; intro g4 cap4 w4 hO4 hB4; obtain ⟨X, hX⟩ : ∃ X, X = rs ++ [⟨y, vs⟩] := ⟨_, rfl⟩; rw [← hX] at hO4; rw [← hX]; have HX := Lib.hid hX; have HO4 := Lib.hid hO4; have HC4 := Lib.hid (HK3.out.below HGW.out hB4); have HD4 := Lib.hid (HD3.out.belowT hB4 (Nat.le_refl _)); clear hO4 hB4 hX)
      refine (spec_l1Below g 3 _ HC4.out (by decide) (by decide)).mono ?_
      rintro e w5 ⟨d, rfl, hd, hk5⟩
      have HO5 := Lib.hid ((osl_dr fr_row HO4.out HGW.out hk5.out.2).wide (Nat.le_refl _) hk5.out.2.size)
      have d0 := hd.out.1
      have d1 := hd.out.2
      go_wp2_with fail
      go_roundw
      case rel => exact ⟨k - 1, cap4, some ⟨g4, 0, none⟩, y + 1 + d, X, by go_num, rfl, rfl, Lib.hid ⟨by rw [HX.out]; exact HQ.out.1.push HR.out rfl (by omega), by rw [HX.out]; have := HQ.out.2.1; simp; omega, by omega, by have := HQ.out.2.2.2; omega⟩, HO5, Lib.hid ⟨hk5.out.1, HD4.out.trans hk5.out.2⟩⟩
      case measure => simp [intOf]; omega
    · have hkz : ¬ (0 : Int) < (k : Int) := by omega
      go_wp2_with fail
      go_ret
      exact ⟨_, _, _, rfl, rs, Lib.hid ⟨rfl, by have := HQ.out.2.1; omega, fun r hr => by have := row_three (HQ.out.1.1 r hr).1; omega⟩, HO, HK⟩
end Go.Proofs.YtcdcpfcmhmhdjaaGreatDoor
