/- EncodeVarint, EncodeFixed, DecodeFixed, and their laws. -/
import Derived.Test.YtcdcpfcmhmhdjaaDoorSc
import Derived.Test.YtcdcpfcmhmhdjaaDoorOwn
namespace Go.Proofs.YtcdcpfcmhmhdjaaDoor
open Go.RowKit
/-- A number in groups of seven bits, the lowest first; all but the last are raised by 128. -/
def encV (n : Nat) : List Int := if h : n < 128 then [(n : Int)] else ((n % 128 + 128 : Nat) : Int) :: encV (n / 128)
termination_by n
decreasing_by omega
theorem encV_small {n : Nat} (h : n < 128) : encV n = [(n : Int)] := by rw [encV, dif_pos h]
theorem encV_big {n : Nat} (h : ¬ n < 128) : encV n = ((n % 128 + 128 : Nat) : Int) :: encV (n / 128) := by rw [encV, dif_neg h]
def encVarint (n : Int) : ByteArray := if 0 ≤ n ∧ n ≤ 562949953421311 then strOfNums (encV n.toNat) else ByteArray.empty
set_option maxRecDepth 100000 in
set_option maxHeartbeats 400000 in
theorem impl_EncodeVarint (n : Int) (w : World) :
    Calls Tryd.prog 24 #[.int .i64 n] w fun e w' => e = .returned (.string (encVarint n)) ∧ Gr w w' := by
  by_cases hr : inB n 0 562949953421311 = true
  · obtain ⟨h0, h1⟩ := inB_true hr
    obtain ⟨N, rfl⟩ := Int.eq_ofNat_of_zero_le h0
    have HF := Lib.hid (show encVarint (N : Int) = strOfNums (encV N) from by unfold encVarint; rw [if_pos ⟨h0, h1⟩]; rfl)
    have HN := Lib.hid h1
    have HR := Lib.hid hr
    clear h0 h1 hr
    go_enter Tryd.func24, Tryd.ntmps24
    have hb : (N : Int) ≤ 562949953421311 := HN.out
    go_wp2_with fail
    clear hb
    go_loopw [0, 3] (fun n out wr => ∃ (m g cap : Nat) (ns : List Int), n = .int .i64 m ∧ m ≤ N ∧ out = .slice (some ⟨g, 0, none⟩) ns.length cap ∧ wr.ownsRow w.heap.size 5 1 out ns.length (ns.map (Value.int .u8)) ∧ Gr w wr ∧ Hid (ns.length * 127 + m ≤ N) ∧ Hid (encV N = ns ++ encV m)) (fun n _ _ => (intOf n).toNat)
    case atStart => exact ⟨N, _, 0, [], rfl, Nat.le_refl _, rfl, own_empty w _ _ _ (Nat.le_refl _), (Gr.refl _).alloc _, Lib.hid (by simp), Lib.hid rfl⟩
    case round =>
      obtain ⟨m, g, cap, ns, rfl, hm, rfl, hown, hgr, hlen, henc⟩ := hrel
      have hmb : (m : Int) ≤ 9007199254740991 := by have := HN.out; omega
      by_cases hlt : m < 128
      · go_wp2_with (at_builtin; refine push_b rfl _ _ rfl ns m rfl rfl rfl hown (by have := HN.out; have := hlen.out; omega) hgr.size ?_; intro g1 cap1 w1 hown1 hb1; have hcv := conv_b hown1 (by simp))
        go_ret
        exact ⟨ret_str (by rw [HF.out, henc.out, encV_small hlt]), hgr.trans' hb1⟩
      · go_wp2_with (at_builtin; refine push_b rfl _ _ rfl ns _ rfl rfl rfl hown (by have := HN.out; have := hlen.out; omega) hgr.size ?_; intro g1 cap1 w1 hown1 hb1)
        go_roundw
        case rel => exact ⟨m / 128, g1, cap1, ns ++ [(m : Int) % 128 + 128], by go_num, by omega, by simp, by simpa using hown1, hgr.trans' hb1, Lib.hid (by have := hlen.out; simp; omega), Lib.hid (by rw [henc.out, encV_big hlt]; simp)⟩
        case measure => simp [intOf]; omega
  · have HF := Lib.hid (show encVarint n = ByteArray.empty from by unfold encVarint; rw [if_neg (fun h => hr (inB_mk h.1 h.2))])
    have HR := Lib.hid (show inB n 0 562949953421311 = false from by simpa using hr)
    clear hr
    by_cases hneg : n < 0
    · go_enter Tryd.func24, Tryd.ntmps24
      go_wp2
      go_ret
      exact ⟨ret_str HF.out.symm, Gr.refl _⟩
    · have hbig : 562949953421311 < n := by have := inB_false HR.out; omega
      go_enter Tryd.func24, Tryd.ntmps24
      go_wp2
      go_ret
      exact ⟨ret_str HF.out.symm, Gr.refl _⟩
end Go.Proofs.YtcdcpfcmhmhdjaaDoor
