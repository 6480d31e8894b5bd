/- DecodeHex and its law. -/
import Derived.Test.YtcdcpfcmhmhdjaaDoorHex
import Derived.Lib.Bytealg
namespace Go.Proofs.YtcdcpfcmhmhdjaaDoor
open Go.RowKit
/-- The number of a digit's code, or -1. -/
def fromHex (b : Nat) : Int := if 48 ≤ b ∧ b ≤ 57 then (b : Int) - 48 else if 97 ≤ b ∧ b ≤ 102 then (b : Int) - 87 else -1
theorem fromHex_le (b : Nat) : -1 ≤ fromHex b ∧ fromHex b ≤ 15 := by unfold fromHex; split <;> (try split) <;> omega
theorem fromHex_hexD : ∀ k : Nat, k < 16 → fromHex (hexD k).toNat = k
  | 0, _ => by decide
  | 1, _ => by decide
  | 2, _ => by decide
  | 3, _ => by decide
  | 4, _ => by decide
  | 5, _ => by decide
  | 6, _ => by decide
  | 7, _ => by decide
  | 8, _ => by decide
  | 9, _ => by decide
  | 10, _ => by decide
  | 11, _ => by decide
  | 12, _ => by decide
  | 13, _ => by decide
  | 14, _ => by decide
  | 15, _ => by decide
  | n + 16, h => absurd h (by omega)
theorem hexD_nonneg : ∀ k : Nat, k < 16 → 0 ≤ hexD k
  | 0, _ => by decide
  | 1, _ => by decide
  | 2, _ => by decide
  | 3, _ => by decide
  | 4, _ => by decide
  | 5, _ => by decide
  | 6, _ => by decide
  | 7, _ => by decide
  | 8, _ => by decide
  | 9, _ => by decide
  | 10, _ => by decide
  | 11, _ => by decide
  | 12, _ => by decide
  | 13, _ => by decide
  | 14, _ => by decide
  | 15, _ => by decide
  | n + 16, h => absurd h (by omega)
theorem fromHex_hit {k b : Nat} (hk : k < 16) (h : (hexD k == (b : Int)) = true) : fromHex b = k := by
  have e : hexD k = (b : Int) := by simpa using h
  rw [← fromHex_hexD k hk, e]; rfl
theorem fromHex_miss {b : Nat} (h : ∀ j, j < 16 → (hexD j == (b : Int)) = false) : fromHex b = -1 := by
  have h0 := h 0 (by omega); have h1 := h 1 (by omega); have h2 := h 2 (by omega); have h3 := h 3 (by omega); have h4 := h 4 (by omega); have h5 := h 5 (by omega); have h6 := h 6 (by omega); have h7 := h 7 (by omega)
  have h8 := h 8 (by omega); have h9 := h 9 (by omega); have h10 := h 10 (by omega); have h11 := h 11 (by omega); have h12 := h 12 (by omega); have h13 := h 13 (by omega); have h14 := h 14 (by omega); have h15 := h 15 (by omega)
  simp [hexD] at h0 h1 h2 h3 h4 h5 h6 h7 h8 h9 h10 h11 h12 h13 h14 h15
  unfold fromHex
  split
  · omega
  · split
    · omega
    · rfl
theorem indexByte_hex (b : Nat) (h : b < 256) : Lib.indexByte [48, 49, 50, 51, 52, 53, 54, 55, 56, 57, 97, 98, 99, 100, 101, 102] ((b : Int).toNat.toUInt8) = fromHex b := by
  have : ∀ b : Fin 256, Lib.indexByte [48, 49, 50, 51, 52, 53, 54, 55, 56, 57, 97, 98, 99, 100, 101, 102] (((b.val : Int)).toNat.toUInt8) = fromHex b.val := by decide +kernel
  exact this ⟨b, h⟩
def at_ (s : ByteArray) (i : Nat) : Nat := (nums s).getD i 0
theorem at_eq {s : ByteArray} {i : Nat} (h : i < s.size) : at_ s i = s[i].toNat := by
  unfold at_; rw [List.getD_eq_getElem?_getD, nums_get h]; rfl
def hexGood (s : ByteArray) (j : Nat) : Bool := decide (0 ≤ fromHex (at_ s (2 * j))) && decide (0 ≤ fromHex (at_ s (2 * j + 1)))
def hexVal (s : ByteArray) (j : Nat) : Int := 16 * fromHex (at_ s (2 * j)) + fromHex (at_ s (2 * j + 1))
def hexOk (s : ByteArray) : Bool := decide (s.size % 2 = 0) && allB (s.size / 2) (hexGood s)
def hexOut (s : ByteArray) : ByteArray := if hexOk s = true then strOfNums ((List.range (s.size / 2)).map (hexVal s)) else ByteArray.empty
theorem hex_odd {s : ByteArray} (h : s.size % 2 ≠ 0) : hexOut s = ByteArray.empty ∧ hexOk s = false := by
  have : hexOk s = false := by simp [hexOk, h]
  exact ⟨by simp [hexOut, this], this⟩
theorem hex_bad {s : ByteArray} {j : Nat} (hj : j < s.size / 2) (h : hexGood s j = false) : hexOut s = ByteArray.empty ∧ hexOk s = false := by
  have : hexOk s = false := by simp only [hexOk, Bool.and_eq_false_iff]; exact Or.inr (allB_false j hj h)
  exact ⟨by simp [hexOut, this], this⟩
theorem hex_all {s : ByteArray} (h0 : s.size % 2 = 0) (h : ∀ j, j < s.size / 2 → hexGood s j = true) : hexOut s = strOfNums ((List.range (s.size / 2)).map (hexVal s)) ∧ hexOk s = true := by
  have : hexOk s = true := by simp only [hexOk, Bool.and_eq_true]; exact ⟨by simpa using h0, allB_true h⟩
  exact ⟨by simp [hexOut, this], this⟩
set_option maxRecDepth 100000 in
set_option maxHeartbeats 400000 in
theorem strings_IndexByte (s : ByteArray) (c : Int) (w : World) :
    Calls Tryd.prog 62 #[.string s, .int .u8 c] w fun e w' => e = .returned (.int .i64 (Lib.indexByte s.data.toList c.toNat.toUInt8)) ∧ w = w' := by
  have hx : ∀ w : World, (callFunc 100 #[.string s, .int .u8 c]).run Tryd.prog w = .ok (.value (.int .i64 (Lib.indexByte s.data.toList c.toNat.toUInt8))) w := fun w => by
    rw [run_callFunc_extern (e := Extern.BytealgIndexByte.indexByte) Tryd.func100 (by kernel_rfl) (by kernel_rfl) (by kernel_rfl) (by kernel_rfl), Lib.run_indexByteString]; rfl
  generalize Lib.indexByte s.data.toList c.toNat.toUInt8 = r at *
  go_enter Tryd.func62, Tryd.ntmps62
  go_wp2
  go_ret
  exact ⟨rfl, rfl⟩
set_option maxRecDepth 100000 in
set_option maxHeartbeats 1000000 in
theorem impl_DecodeHex (s : ByteArray) (w : World) (hs : s.size ≤ 1048576) :
    Calls Tryd.prog 31 #[.string s] w fun e w' => e = .returned (.tuple #[.string (hexOut s), .bool (hexOk s)]) ∧ Gr w w' := by
  by_cases ho : s.size % 2 = 0
  · have hd : (((s.size : Int) % 2) != 0) = false := by simp; omega
    have HO := Lib.hid ho
    have ho2 : s.size / 2 + s.size / 2 = s.size := by omega
    clear ho
    have HO2 := Lib.hid ho2
    clear ho2
    go_enter Tryd.func31, Tryd.ntmps31
    go_wp2
    clear hd
    go_loopw [4, 5] (fun out i wr => ∃ (k g cap : Nat) (ns : List Int), k ≤ s.size / 2 ∧ i = .int .i64 (2 * (k : Int)) ∧ out = .slice (some ⟨g, 0, none⟩) ns.length cap ∧ wr.ownsRow w.heap.size 5 1 out ns.length (ns.map (Value.int .u8)) ∧ Gr w wr ∧ ns.length ≤ k ∧ Hid (ns = (List.range k).map (hexVal s)) ∧ Hid (∀ j, j < k → hexGood s j = true)) (fun _ i _ => s.size - (intOf i).toNat)
    case atStart => exact ⟨0, _, 0, [], Nat.zero_le _, rfl, rfl, own_empty w _ _ _ (Nat.le_refl _), (Gr.refl _).alloc _, by simp, Lib.hid (by simp), Lib.hid (fun j h => absurd h (by omega))⟩
    case round =>
      obtain ⟨k, g, cap, ns, hk, rfl, rfl, hown, hgr, hlen, hns, hgood⟩ := hrel
      by_cases hlt : k < s.size / 2
      · have k0 : 2 * k < s.size := by omega
        have k1 : 2 * k + 1 < s.size := by omega
        have e0 := at_eq k0
        have e1 := at_eq k1
        have b0 : at_ s (2 * k) < 256 := by rw [e0]; exact UInt8.toNat_lt _
        have b1 : at_ s (2 * k + 1) < 256 := by rw [e1]; exact UInt8.toNat_lt _
        have n0 : (2 * (k : Int)).toNat = 2 * k := by omega
        have n1 : (2 * (k : Int) + 1).toNat = 2 * k + 1 := by omega
        have s0 : (s[2 * k].toNat : Int) = (at_ s (2 * k) : Int) := by rw [e0]
        have s1 : (s[2 * k + 1].toNat : Int) = (at_ s (2 * k + 1) : Int) := by rw [e1]
        have c0 : ∀ w' : World, Calls Tryd.prog 62 #[.string { data := #[48, 49, 50, 51, 52, 53, 54, 55, 56, 57, 97, 98, 99, 100, 101, 102] }, .int .u8 (s[2 * k].toNat : Int)] w' fun e w'' => e = .returned (.int .i64 (fromHex (at_ s (2 * k)))) ∧ w' = w'' := fun w' => by rw [s0]; exact (strings_IndexByte _ _ w').mono (fun e w'' h => ⟨by rw [h.1]; exact congrArg _ (congrArg _ (indexByte_hex _ b0)), h.2⟩)
        have c1 : ∀ w' : World, Calls Tryd.prog 62 #[.string { data := #[48, 49, 50, 51, 52, 53, 54, 55, 56, 57, 97, 98, 99, 100, 101, 102] }, .int .u8 (s[2 * k + 1].toNat : Int)] w' fun e w'' => e = .returned (.int .i64 (fromHex (at_ s (2 * k + 1)))) ∧ w' = w'' := fun w' => by rw [s1]; exact (strings_IndexByte _ _ w').mono (fun e w'' h => ⟨by rw [h.1]; exact congrArg _ (congrArg _ (indexByte_hex _ b1)), h.2⟩)
        have HC0 := Lib.hid c0
        have HC1 := Lib.hid c1
        have r0 := fromHex_le (at_ s (2 * k))
        have r1 := fromHex_le (at_ s (2 * k + 1))
        have hgd : hexGood s k = (decide (0 ≤ fromHex (at_ s (2 * k))) && decide (0 ≤ fromHex (at_ s (2 * k + 1)))) := rfl
        have hvl : hexVal s k = 16 * fromHex (at_ s (2 * k)) + fromHex (at_ s (2 * k + 1)) := rfl
        generalize fromHex (at_ s (2 * k)) = A0 at *
        generalize fromHex (at_ s (2 * k + 1)) = A1 at *
        have HG := Lib.hid hgd
        have HV := Lib.hid hvl
        obtain ⟨r00, r01⟩ := r0
        obtain ⟨r10, r11⟩ := r1
        clear hgd hvl e0 e1 b0 b1 n0 n1 s0 s1 c0 c1
        by_cases h0 : A0 < 0
        · go_wp2_with (first | (go_at_call 62; (with_reducible refine (HC0.out _).mono ?_); rintro e w' ⟨rfl, rfl⟩) | (go_at_call 62; (with_reducible refine (HC1.out _).mono ?_); rintro e w' ⟨rfl, rfl⟩))
          go_ret2
          have hb := hex_bad hlt (by rw [HG.out]; simp; omega)
          exact ⟨ret_str_bool hb.1.symm hb.2.symm, hgr⟩
        · by_cases h1 : A1 < 0
          · go_wp2_with (first | (go_at_call 62; (with_reducible refine (HC0.out _).mono ?_); rintro e w' ⟨rfl, rfl⟩) | (go_at_call 62; (with_reducible refine (HC1.out _).mono ?_); rintro e w' ⟨rfl, rfl⟩))
            go_ret2
            have hb := hex_bad hlt (by rw [HG.out]; simp; omega)
            exact ⟨ret_str_bool hb.1.symm hb.2.symm, hgr⟩
          · go_wp2_with (first | (go_at_call 62; (with_reducible refine (HC0.out _).mono ?_); rintro e w' ⟨rfl, rfl⟩) | (go_at_call 62; (with_reducible refine (HC1.out _).mono ?_); rintro e w' ⟨rfl, rfl⟩) | (at_builtin; refine push_b rfl _ _ rfl ns _ rfl rfl rfl hown (by omega) hgr.size ?_; intro g1 cap1 w1 hown1 hb1))
            go_roundw
            case rel => exact ⟨k + 1, g1, cap1, ns ++ [16 * A0 + A1], by omega, by go_num, by simp, by simpa using hown1, hgr.trans' hb1, by simp; omega, Lib.hid (by rw [hns.out, List.range_succ, List.map_append, ← HV.out]; rfl), Lib.hid (below_succ hgood.out (by rw [HG.out]; simp; omega))⟩
            case measure => simp [intOf]; omega
      · obtain rfl : k = s.size / 2 := by omega
        have hcv := conv_b hown rfl
        have he : ¬ (2 * ((s.size / 2 : Nat) : Int) < (s.size : Int)) := by have := HO2.out; omega
        go_wp2
        go_ret2
        have hb := hex_all HO.out hgood.out
        exact ⟨ret_str_bool (by rw [hb.1, hns.out]) hb.2.symm, hgr⟩
  · have hd : (((s.size : Int) % 2) != 0) = true := by rw [bne_iff_ne]; omega
    have HB := Lib.hid (hex_odd ho)
    clear ho
    go_enter Tryd.func31, Tryd.ntmps31
    go_wp2
    go_ret2
    exact ⟨ret_str_bool HB.out.1.symm HB.out.2.symm, Gr.refl _⟩
end Go.Proofs.YtcdcpfcmhmhdjaaDoor
