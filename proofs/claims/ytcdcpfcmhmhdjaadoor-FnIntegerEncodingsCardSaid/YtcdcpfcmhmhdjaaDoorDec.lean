/- DecodeFixed and its law. -/
import Derived.Test.YtcdcpfcmhmhdjaaDoorSc
import Derived.Test.YtcdcpfcmhmhdjaaDoorOwn
namespace Go.Proofs.YtcdcpfcmhmhdjaaDoor
open Go.RowKit
/-- The number of the first k bytes, the highest first. -/
def decF (s : ByteArray) : Nat → Nat
  | 0 => 0
  | k + 1 => decF s k * 256 + (s.data.toList.getD k 0).toNat
theorem decF_le (s : ByteArray) (k : Nat) : decF s k < 256 ^ k := by
  induction k with
  | zero => simp [decF]
  | succ k ih =>
    have : (s.data.toList.getD k 0).toNat < 256 := UInt8.toNat_lt _
    simp only [decF, Nat.pow_succ]; omega
theorem decF_6 (s : ByteArray) (k : Nat) (h : k ≤ 6) : decF s k < 281474976710656 :=
  Nat.lt_of_lt_of_le (decF_le s k) (Nat.le_trans (Nat.pow_le_pow_right (by decide) h) (by decide))
theorem byte_at {s : ByteArray} {k : Nat} (h : k < s.size) : s.data.toList.getD k 0 = s[k] := by
  rw [List.getD_eq_getElem?_getD, List.getElem?_eq_getElem (by simpa using h)]; rfl
def decFixed (s : ByteArray) (w : Int) : Int := if 1 ≤ w ∧ w ≤ 7 ∧ w ≤ s.size then (decF s w.toNat : Int) else 0
def decFixedOk (s : ByteArray) (w : Int) : Bool := decide (1 ≤ w ∧ w ≤ 7 ∧ w ≤ s.size)
theorem ret_int_bool {a b : Int} {c d : Bool} (h : a = b) (h' : c = d) : Ending.returned (.tuple #[.int .i64 a, .bool c]) = .returned (.tuple #[.int .i64 b, .bool d]) := by rw [h, h']
set_option maxRecDepth 100000 in
set_option maxHeartbeats 400000 in
theorem impl_DecodeFixed (s : ByteArray) (width : Int) (w : World) (hs : s.size ≤ 9223372036854775807) :
    Calls Tryd.prog 28 #[.string s, .int .i64 width] w fun e w' => e = .returned (.tuple #[.int .i64 (decFixed s width), .bool (decFixedOk s width)]) ∧ w = w' := by
  by_cases h1 : width < 1
  · have HF := Lib.hid (show decFixed s width = 0 ∧ decFixedOk s width = false from by unfold decFixed decFixedOk; simp; omega)
    go_enter Tryd.func28, Tryd.ntmps28
    go_wp2
    go_ret2
    exact ⟨ret_int_bool HF.out.1.symm HF.out.2.symm, rfl⟩
  · by_cases h7 : 7 < width
    · have HF := Lib.hid (show decFixed s width = 0 ∧ decFixedOk s width = false from by unfold decFixed decFixedOk; simp; omega)
      go_enter Tryd.func28, Tryd.ntmps28
      go_wp2
      go_ret2
      exact ⟨ret_int_bool HF.out.1.symm HF.out.2.symm, rfl⟩
    · by_cases hl : (s.size : Int) < width
      · have HF := Lib.hid (show decFixed s width = 0 ∧ decFixedOk s width = false from by unfold decFixed decFixedOk; simp; omega)
        go_enter Tryd.func28, Tryd.ntmps28
        go_wp2
        go_ret2
        exact ⟨ret_int_bool HF.out.1.symm HF.out.2.symm, rfl⟩
      · obtain ⟨W, rfl⟩ := Int.eq_ofNat_of_zero_le (show 0 ≤ width from by omega)
        have HF := Lib.hid (show decFixed s W = (decF s W : Int) ∧ decFixedOk s W = true from by unfold decFixed decFixedOk; simp; omega)
        go_enter Tryd.func28, Tryd.ntmps28
        go_wp2
        go_loop [6, 7] (fun n i => ∃ k m : Nat, k ≤ W ∧ i = .int .i64 k ∧ n = .int .i64 m ∧ Hid (m = decF s k)) (fun _ i => W - (intOf i).toNat)
        case atStart => exact ⟨0, 0, Nat.zero_le _, rfl, rfl, Lib.hid rfl⟩
        case round =>
          obtain ⟨k, m, hk, rfl, rfl, hm⟩ := hrel
          by_cases hlt : k < W
          · have hmb : m ≤ 281474976710655 := by have := hm.out; have := decF_6 s k (by omega); omega
            have hks : k < s.size := by omega
            have hby : s[k].toNat ≤ 255 := by have := UInt8.toNat_lt s[k]; omega
            go_wp2
            go_round
            case rel => exact ⟨k + 1, m * 256 + s[k].toNat, by omega, by go_num, by go_num, Lib.hid (by rw [decF, ← hm.out, byte_at hks])⟩
            case measure => simp [intOf]; omega
          · obtain rfl : k = W := by omega
            go_wp2
            go_ret2
            exact ⟨ret_int_bool (by rw [HF.out.1, hm.out]) HF.out.2.symm, rfl⟩
end Go.Proofs.YtcdcpfcmhmhdjaaDoor
