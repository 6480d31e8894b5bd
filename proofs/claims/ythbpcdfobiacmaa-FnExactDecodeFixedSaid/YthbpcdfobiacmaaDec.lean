/- DecodeFixed and its law. -/
import Derived.Test.YthbpcdfobiacmaaSc
import Derived.Test.YthbpcdfobiacmaaOwn
namespace Go.Proofs.Ythbpcdfobiacmaa
open Go.RowKit
/-- The number of the first k bytes, the highest first. -/
def decF (s : ByteArray) : Nat → Nat
  | 0 => 0
  | k + 1 => decF s k * 256 + (s.data.toList.getD k 0).toNat
theorem decF_le (s : ByteArray) (k : Nat) : decF s k < 256 ^ k := by
  induction k with
  | zero => simp [decF]
  | succ k ih =>
    have : (s.data.toList.getD k 0).toNat < 256 := UInt8.toNat_lt _
    simp only [decF, Nat.pow_succ]; omega
theorem decF_6 (s : ByteArray) (k : Nat) (h : k ≤ 6) : decF s k < 281474976710656 :=
  Nat.lt_of_lt_of_le (decF_le s k) (Nat.le_trans (Nat.pow_le_pow_right (by decide) h) (by decide))
theorem byte_at {s : ByteArray} {k : Nat} (h : k < s.size) : s.data.toList.getD k 0 = s[k] := by
  rw [List.getD_eq_getElem?_getD, List.getElem?_eq_getElem (by simpa using h)]; rfl
def decFixed (s : ByteArray) (w : Int) : Int := if 1 ≤ w ∧ w ≤ 7 ∧ w ≤ s.size then (decF s w.toNat : Int) else 0
def decFixedOk (s : ByteArray) (w : Int) : Bool := decide (1 ≤ w ∧ w ≤ 7 ∧ w ≤ s.size)
theorem ret_int_bool {a b : Int} {c d : Bool} (h : a = b) (h' : c = d) : Ending.returned (.tuple #[.int .i64 a, .bool c]) = .returned (.tuple #[.int .i64 b, .bool d]) := by rw [h, h']
set_option maxRecDepth 100000 in
set_option maxHeartbeats 400000 in
theorem impl_DecodeFixed (s : ByteArray) (width : Int) (w : World) (hs : s.size ≤ 9223372036854775807) :
    Calls Try.prog 21 #[.string s, .int .i64 width] w fun e w' => e = .returned (.tuple #[.int .i64 (decFixed s width), .bool (decFixedOk s width)]) ∧ w = w' := by
  by_cases h1 : width < 1
  · have HF := Lib.hid (show decFixed s width = 0 ∧ decFixedOk s width = false from by unfold decFixed decFixedOk; simp; omega)
    go_enter Try.func21, Try.ntmps21
    go_wp2
    go_ret2
    exact ⟨ret_int_bool HF.out.1.symm HF.out.2.symm, rfl⟩
  · by_cases h7 : 7 < width
    · have HF := Lib.hid (show decFixed s width = 0 ∧ decFixedOk s width = false from by unfold decFixed decFixedOk; simp; omega)
      go_enter Try.func21, Try.ntmps21
      go_wp2
      go_ret2
      exact ⟨ret_int_bool HF.out.1.symm HF.out.2.symm, rfl⟩
    · by_cases hl : (s.size : Int) < width
      · have HF := Lib.hid (show decFixed s width = 0 ∧ decFixedOk s width = false from by unfold decFixed decFixedOk; simp; omega)
        go_enter Try.func21, Try.ntmps21
        go_wp2
        go_ret2
        exact ⟨ret_int_bool HF.out.1.symm HF.out.2.symm, rfl⟩
      · obtain ⟨W, rfl⟩ := Int.eq_ofNat_of_zero_le (show 0 ≤ width from by omega)
        have HF := Lib.hid (show decFixed s W = (decF s W : Int) ∧ decFixedOk s W = true from by unfold decFixed decFixedOk; simp; omega)
        go_enter Try.func21, Try.ntmps21
        go_wp2
        go_loop [6, 7] (fun n i => ∃ k m : Nat, k ≤ W ∧ i = .int .i64 k ∧ n = .int .i64 m ∧ Hid (m = decF s k)) (fun _ i => W - (intOf i).toNat)
        case atStart => exact ⟨0, 0, Nat.zero_le _, rfl, rfl, Lib.hid rfl⟩
        case round =>
          obtain ⟨k, m, hk, rfl, rfl, hm⟩ := hrel
          by_cases hlt : k < W
          · have hmb : m ≤ 281474976710655 := by have := hm.out; have := decF_6 s k (by omega); omega
            have hks : k < s.size := by omega
            have hby : s[k].toNat ≤ 255 := by have := UInt8.toNat_lt s[k]; omega
            go_wp2
            go_round
            case rel => exact ⟨k + 1, m * 256 + s[k].toNat, by omega, by go_num, by go_num, Lib.hid (by rw [decF, ← hm.out, byte_at hks])⟩
            case measure => simp [intOf]; omega
          · obtain rfl : k = W := by omega
            go_wp2
            go_ret2
            exact ⟨ret_int_bool (by rw [HF.out.1, hm.out]) HF.out.2.symm, rfl⟩
set_option maxRecDepth 100000 in
set_option maxHeartbeats 400000 in
theorem spec_DecodeFixed (s : ByteArray) (width : Int) (w : World) (hs : s.size ≤ 9223372036854775807) :
    Calls Try.prog 20 #[.string s, .int .i64 width] w fun e w' => e = .returned (.tuple #[.int .i64 (decFixed s width), .bool (decFixedOk s width)]) ∧ w = w' := by
  by_cases hin : inB width 1 7 = true
  · obtain ⟨h1, h7⟩ := inB_true hin
    by_cases hl : (s.size : Int) < width
    · have HF := Lib.hid (show decFixed s width = 0 ∧ decFixedOk s width = false from by unfold decFixed decFixedOk; simp; omega)
      go_enter Try.func20, Try.ntmps20
      go_wp2_with fail
      refine (spec_l1In _ _ _ _).mono ?_
      rintro e w' ⟨rfl, rfl⟩
      rw [hin]
      go_wp2_with fail
      go_ret2
      exact ⟨ret_int_bool HF.out.1.symm HF.out.2.symm, rfl⟩
    · obtain ⟨W, rfl⟩ := Int.eq_ofNat_of_zero_le (show 0 ≤ width from by omega)
      have HF := Lib.hid (show decFixed s W = (decF s W : Int) ∧ decFixedOk s W = true from by unfold decFixed decFixedOk; simp; omega)
      go_enter Try.func20, Try.ntmps20
      go_wp2_with fail
      refine (spec_l1In _ _ _ _).mono ?_
      rintro e w' ⟨rfl, rfl⟩
      rw [hin]
      go_wp2_with fail
      go_loop [6, 7] (fun n i => ∃ k m : Nat, k ≤ W ∧ i = .int .i64 k ∧ n = .int .i64 m ∧ Hid (m = decF s k)) (fun _ i => W - (intOf i).toNat)
      case atStart => exact ⟨0, 0, Nat.zero_le _, rfl, rfl, Lib.hid rfl⟩
      case round =>
        obtain ⟨k, m, hk, rfl, rfl, hm⟩ := hrel
        by_cases hlt : k < W
        · have hmb : m ≤ 281474976710655 := by have := hm.out; have := decF_6 s k (by omega); omega
          have hks : k < s.size := by omega
          have hby : s[k].toNat ≤ 255 := by have := UInt8.toNat_lt s[k]; omega
          go_wp2
          go_round
          case rel => exact ⟨k + 1, m * 256 + s[k].toNat, by omega, by go_num, by go_num, Lib.hid (by rw [decF, ← hm.out, byte_at hks])⟩
          case measure => simp [intOf]; omega
        · obtain rfl : k = W := by omega
          go_wp2
          go_ret2
          exact ⟨ret_int_bool (by rw [HF.out.1, hm.out]) HF.out.2.symm, rfl⟩
  · have hin' : inB width 1 7 = false := by simpa using hin
    have HF := Lib.hid (show decFixed s width = 0 ∧ decFixedOk s width = false from by have := inB_false hin'; unfold decFixed decFixedOk; simp; omega)
    go_enter Try.func20, Try.ntmps20
    go_wp2_with fail
    refine (spec_l1In _ _ _ _).mono ?_
    rintro e w' ⟨rfl, rfl⟩
    rw [hin']
    go_wp2_with fail
    go_ret2
    exact ⟨ret_int_bool HF.out.1.symm HF.out.2.symm, rfl⟩
set_option maxRecDepth 100000 in
set_option maxHeartbeats 400000 in
theorem law_FnExactDecodeFixed (w : World) (s : ByteArray) (hs : s.size ≤ 9223372036854775807) (m : Int) (_ : I64 m) : Calls Try.prog 6 #[.string s, .int .i64 m] w fun e w' => e = .returned (.bool true) ∧ Gr w w' := by
  by_cases hlen : s.size ≤ 1048576
  · have hb : (decFixedOk s m != decFixedOk s m) = false := by simp
    go_enter Try.func6, Try.ntmps6
    go_wp2_with fail
    refine (spec_DecodeFixed s m _ hs).mono ?_
    rintro e w1 ⟨rfl, rfl⟩
    go_wp2_with fail
    refine (impl_DecodeFixed s m _ hs).mono ?_
    rintro e w2 ⟨rfl, rfl⟩
    go_wp2_with fail
    go_ret
    exact ⟨rfl, Gr.refl _⟩
  · go_enter Try.func6, Try.ntmps6
    go_wp2
    go_ret
    exact ⟨rfl, Gr.refl _⟩
end Go.Proofs.Ythbpcdfobiacmaa
