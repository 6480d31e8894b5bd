/- EncodeHex, DecodeHex, and their laws. -/
import Derived.Test.YthbpcdfobiacmaaOwn
import Derived.Test.YthbpcdfobiacmaaStr
import Derived.Test.YthbpcdfobiacmaaSc
namespace Go.Proofs.Ythbpcdfobiacmaa
open Go.RowKit
/-- The digits' codes. -/
def hexD (k : Nat) : Int := ([48, 49, 50, 51, 52, 53, 54, 55, 56, 57, 97, 98, 99, 100, 101, 102] : List Int).getD k 0
theorem hexC : ∀ (i : Nat), i < 16 → ∀ (hb : i < ({ data := #[48, 49, 50, 51, 52, 53, 54, 55, 56, 57, 97, 98, 99, 100, 101, 102] } : ByteArray).size), (((({ data := #[48, 49, 50, 51, 52, 53, 54, 55, 56, 57, 97, 98, 99, 100, 101, 102] } : ByteArray)[i]'hb).toNat : Nat) : Int) = hexD i
  | 0, _, _ => rfl
  | 1, _, _ => rfl
  | 2, _, _ => rfl
  | 3, _, _ => rfl
  | 4, _, _ => rfl
  | 5, _, _ => rfl
  | 6, _, _ => rfl
  | 7, _, _ => rfl
  | 8, _, _ => rfl
  | 9, _, _ => rfl
  | 10, _, _ => rfl
  | 11, _, _ => rfl
  | 12, _, _ => rfl
  | 13, _, _ => rfl
  | 14, _, _ => rfl
  | 15, _, _ => rfl
  | n + 16, h, _ => absurd h (by omega)
/-- Two digits for each byte. -/
def hexL (l : List Nat) : List Int := l.flatMap fun b => [hexD (b / 16), hexD (b % 16)]
theorem hexL_snoc {s : ByteArray} {k : Nat} (h : k < s.size) : hexL ((nums s).take (k + 1)) = hexL ((nums s).take k) ++ [hexD (s[k].toNat / 16), hexD (s[k].toNat % 16)] := by
  rw [take_snoc (nums_get h)]; simp [hexL]
theorem hexL_all (s : ByteArray) : hexL ((nums s).take s.size) = hexL (nums s) := by rw [List.take_of_length_le (by rw [nums_len]; omega)]
theorem hex_index (w : World) (k : IntKind) : ∀ d : Nat, d < 16 → (Instr.index 9 (.string { data := #[48, 49, 50, 51, 52, 53, 54, 55, 56, 57, 97, 98, 99, 100, 101, 102] }) (.int k d)).run Try.prog w = .ok (.int .u8 (hexD d)) w
  | 0, _ => by cases k <;> kernel_rfl
  | 1, _ => by cases k <;> kernel_rfl
  | 2, _ => by cases k <;> kernel_rfl
  | 3, _ => by cases k <;> kernel_rfl
  | 4, _ => by cases k <;> kernel_rfl
  | 5, _ => by cases k <;> kernel_rfl
  | 6, _ => by cases k <;> kernel_rfl
  | 7, _ => by cases k <;> kernel_rfl
  | 8, _ => by cases k <;> kernel_rfl
  | 9, _ => by cases k <;> kernel_rfl
  | 10, _ => by cases k <;> kernel_rfl
  | 11, _ => by cases k <;> kernel_rfl
  | 12, _ => by cases k <;> kernel_rfl
  | 13, _ => by cases k <;> kernel_rfl
  | 14, _ => by cases k <;> kernel_rfl
  | 15, _ => by cases k <;> kernel_rfl
  | n + 16, h => absurd h (by omega)
set_option maxRecDepth 100000 in
set_option maxHeartbeats 400000 in
theorem spec_l1Digit (k : Nat) (w : World) (hk : k < 16) :
    Calls Try.prog 46 #[.int .i64 k] w fun e w' => e = .returned (.int .u8 (hexD k)) ∧ w = w' := by
  have hix := fun w : World => hex_index w .i64 k hk
  go_enter Try.func46, Try.ntmps46
  go_wp2
  go_ret
  exact ⟨rfl, rfl⟩
set_option maxRecDepth 100000 in
set_option maxHeartbeats 1000000 in
theorem impl_EncodeHex (s : ByteArray) (w : World) (hs : s.size ≤ 1048576) :
    Calls Try.prog 16 #[.string s] w fun e w' => e = .returned (.string (strOfNums (hexL (nums s)))) ∧ Gr w w' := by
  go_enter Try.func16, Try.ntmps16
  go_wp2
  go_loopw [3, 4] (fun out i wr => ∃ (k g cap : Nat) (ns : List Int), k ≤ s.size ∧ i = .int .i64 k ∧ out = .slice (some ⟨g, 0, none⟩) ns.length cap ∧ wr.ownsRow w.heap.size 5 1 out ns.length (ns.map (Value.int .u8)) ∧ Gr w wr ∧ ns.length ≤ 2 * k ∧ Hid (ns = hexL ((nums s).take k))) (fun _ i _ => s.size - (intOf i).toNat)
  case atStart => exact ⟨0, _, 0, [], Nat.zero_le _, rfl, rfl, own_empty w _ _ _ (Nat.le_refl _), (Gr.refl _).alloc _, by simp, Lib.hid (by simp [hexL])⟩
  case round =>
    obtain ⟨k, g, cap, ns, hk, rfl, rfl, hown, hgr, hlen, hns⟩ := hrel
    by_cases hlt : k < s.size
    · have i0 : (0 : Int) ≤ (k : Int) := by omega
      have i1 : (k : Int) < (s.size : Int) := by omega
      have hby : s[k].toNat ≤ 255 := by have := UInt8.toNat_lt s[k]; omega
      have q1 : IntKind.u8.wrap ((s[k].toNat : Int) / 16) = (s[k].toNat : Int) / 16 := IntWalk.u8_in _ (by omega)
      have q2 : IntKind.u8.wrap ((s[k].toNat : Int) % 16) = (s[k].toNat : Int) % 16 := IntWalk.u8_in _ (by omega)
      have q3 : (s[k].toNat : Int).tmod 16 = (s[k].toNat : Int) % 16 := IntWalk.rem_in _ _ (by omega)
      have d0 : (0 : Int) ≤ (s[k].toNat : Int) / 16 := by omega
      have d1 : (s[k].toNat : Int) / 16 < 16 := by omega
      have d2 : (0 : Int) ≤ (s[k].toNat : Int) % 16 := by omega
      have d3 : (s[k].toNat : Int) % 16 < 16 := by omega
      have t1 : ((s[k].toNat : Int) / 16).toNat = s[k].toNat / 16 := by omega
      have t2 : ((s[k].toNat : Int) % 16).toNat = s[k].toNat % 16 := by omega
      go_wp2
      go_region_held3 (fun _ => True) (trivial) ((refine step_push_b rfl _ _ rfl ns _ _ rfl rfl rfl hown (by omega) hgr.size ?_; intro g1 cap1 w1 hown1 hb1))
      all_goals
        have hown2 : w1.ownsRow w.heap.size 5 1 (.slice (some ⟨g1, 0, none⟩) (ns ++ [hexD (s[k].toNat / 16), hexD (s[k].toNat % 16)]).length cap1) (ns ++ [hexD (s[k].toNat / 16), hexD (s[k].toNat % 16)]).length ((ns ++ [hexD (s[k].toNat / 16), hexD (s[k].toNat % 16)]).map (Value.int .u8)) := by
          have := hown1
          simpa only [hexC _ (show s[k].toNat / 16 < 16 by omega), hexC _ (show s[k].toNat % 16 < 16 by omega), List.length_append, List.length_cons, List.length_nil] using this
        clear hown1
        have hgr1 : Gr w w1 := hgr.trans' hb1
        go_wp2
        go_roundw
        case rel => exact ⟨k + 1, g1, cap1, ns ++ [hexD (s[k].toNat / 16), hexD (s[k].toNat % 16)], by omega, by go_num, by simp, by simpa using hown2, hgr1, by simp; omega, Lib.hid (by rw [hns.out, hexL_snoc hlt])⟩
        case measure => simp [intOf]; omega
    · obtain rfl : k = s.size := by omega
      have hcv := conv_b hown rfl
      go_wp2
      go_ret
      exact ⟨ret_str (by rw [hns.out, hexL_all]), hgr⟩
theorem spec_l1Digit' (n : Int) (k : Nat) (w : World) (hn : n = k) (hk : k < 16) : Calls Try.prog 46 #[.int .i64 n] w fun e w' => e = .returned (.int .u8 (hexD k)) ∧ w = w' := by
  subst hn; exact spec_l1Digit k w hk
set_option maxRecDepth 100000 in
set_option maxHeartbeats 1000000 in
theorem spec_EncodeHex (s : ByteArray) (w : World) (hs : s.size ≤ 1048576) :
    Calls Try.prog 15 #[.string s] w fun e w' => e = .returned (.string (strOfNums (hexL (nums s)))) ∧ Gr w w' := by
  go_enter Try.func15, Try.ntmps15
  go_wp2
  go_loopw [3, 4] (fun out i wr => ∃ (k g cap : Nat) (ns : List Int), k ≤ s.size ∧ i = .int .i64 k ∧ out = .slice (some ⟨g, 0, none⟩) ns.length cap ∧ wr.ownsRow w.heap.size 5 1 out ns.length (ns.map (Value.int .u8)) ∧ Gr w wr ∧ ns.length ≤ 2 * k ∧ Hid (ns = hexL ((nums s).take k))) (fun _ i _ => s.size - (intOf i).toNat)
  case atStart => exact ⟨0, _, 0, [], Nat.zero_le _, rfl, rfl, own_empty w _ _ _ (Nat.le_refl _), (Gr.refl _).alloc _, by simp, Lib.hid (by simp [hexL])⟩
  case round =>
    obtain ⟨k, g, cap, ns, hk, rfl, rfl, hown, hgr, hlen, hns⟩ := hrel
    by_cases hlt : k < s.size
    · have i0 : (0 : Int) ≤ (k : Int) := by omega
      have i1 : (k : Int) < (s.size : Int) := by omega
      have hby : s[k].toNat ≤ 255 := by have := UInt8.toNat_lt s[k]; omega
      have q1 : IntKind.i64.wrap ((s[k].toNat : Int) / 16) = (s[k].toNat : Int) / 16 := IntWalk.i64_in _ (by omega)
      have q2 : IntKind.i64.wrap ((s[k].toNat : Int) % 16) = (s[k].toNat : Int) % 16 := IntWalk.i64_in _ (by omega)
      have q3 : (s[k].toNat : Int).tmod 16 = (s[k].toNat : Int) % 16 := IntWalk.rem_in _ _ (by omega)
      have q4 : IntKind.i64.wrap (s[k].toNat : Int) = (s[k].toNat : Int) := IntWalk.i64_in _ (by omega)
      have l1 := fun w' : World => spec_l1Digit' ((s[k].toNat : Int) / 16) (s[k].toNat / 16) w' (by omega) (by omega)
      have l2 := fun w' : World => spec_l1Digit' ((s[k].toNat : Int) % 16) (s[k].toNat % 16) w' (by omega) (by omega)
      go_wp2
      go_region_held3 (fun _ => True) (trivial) (first | (go_at_call 46; refine (l1 _).mono ?_; rintro e w' ⟨rfl, rfl⟩) | (go_at_call 46; refine (l2 _).mono ?_; rintro e w' ⟨rfl, rfl⟩) | (refine step_push_b rfl _ _ rfl ns _ _ rfl rfl rfl hown (by omega) hgr.size ?_; intro g1 cap1 w1 hown1 hb1))
      all_goals
        have hown2 : w1.ownsRow w.heap.size 5 1 (.slice (some ⟨g1, 0, none⟩) (ns ++ [hexD (s[k].toNat / 16), hexD (s[k].toNat % 16)]).length cap1) (ns ++ [hexD (s[k].toNat / 16), hexD (s[k].toNat % 16)]).length ((ns ++ [hexD (s[k].toNat / 16), hexD (s[k].toNat % 16)]).map (Value.int .u8)) := by
          have := hown1
          simpa only [List.length_append, List.length_cons, List.length_nil] using this
        clear hown1
        have hgr1 : Gr w w1 := hgr.trans' hb1
        go_wp2
        go_roundw
        case rel => exact ⟨k + 1, g1, cap1, ns ++ [hexD (s[k].toNat / 16), hexD (s[k].toNat % 16)], by omega, by go_num, by simp, by simpa using hown2, hgr1, by simp; omega, Lib.hid (by rw [hns.out, hexL_snoc hlt])⟩
        case measure => simp [intOf]; omega
    · obtain rfl : k = s.size := by omega
      have hcv := conv_b hown rfl
      go_wp2
      go_ret
      exact ⟨ret_str (by rw [hns.out, hexL_all]), hgr⟩
set_option maxRecDepth 100000 in
set_option maxHeartbeats 400000 in
theorem law_FnExactEncodeHex (w : World) (s : ByteArray) (hs : s.size ≤ 9223372036854775807) : Calls Try.prog 4 #[.string s] w fun e w' => e = .returned (.bool true) ∧ Gr w w' := by
  by_cases hlen : s.size ≤ 1048576
  · go_enter Try.func4, Try.ntmps4
    go_wp2_with fail
    refine (spec_EncodeHex s _ hlen).mono ?_
    rintro e w1 ⟨rfl, g1⟩
    go_wp2_with fail
    refine (impl_EncodeHex s _ hlen).mono ?_
    rintro e w2 ⟨rfl, g2⟩
    go_wp2_with fail
    go_ret
    exact ⟨rfl, g1.trans g2⟩
  · go_enter Try.func4, Try.ntmps4
    go_wp2
    go_ret
    exact ⟨rfl, Gr.refl _⟩
end Go.Proofs.Ythbpcdfobiacmaa
