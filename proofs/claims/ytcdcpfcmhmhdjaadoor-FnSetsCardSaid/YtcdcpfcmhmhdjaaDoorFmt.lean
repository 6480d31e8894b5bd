/- FormatInt: the reference's walk; the program's is the library's contract. -/
import Derived.Test.YtcdcpfcmhmhdjaaDoorNumP
import Derived.Test.YtcdcpfcmhmhdjaaDoorOwn
import Derived.Test.YtcdcpfcmhmhdjaaDoorDoorW
import Derived.Test.YtcdcpfcmhmhdjaaDoorShelf
namespace Go.Proofs.YtcdcpfcmhmhdjaaDoor
open Go.RowKit
theorem tmod_cases (m : Int) : m.tmod 10 = ((m.natAbs % 10 : Nat) : Int) ∨ (m.tmod 10 = -((m.natAbs % 10 : Nat) : Int) ∧ 0 < m.natAbs % 10) := by
  by_cases h : m < 0
  · obtain ⟨u, rfl⟩ : ∃ u : Nat, m = -(u : Int) := ⟨m.natAbs, by omega⟩
    have e : (-(u : Int)).tmod 10 = -((u % 10 : Nat) : Int) := by rw [Int.neg_tmod]; rfl
    rw [e, Int.natAbs_neg, Int.natAbs_natCast]
    by_cases h0 : u % 10 = 0
    · left; rw [h0]; rfl
    · right; exact ⟨rfl, by omega⟩
  · obtain ⟨u, rfl⟩ : ∃ u : Nat, m = (u : Int) := ⟨m.natAbs, by omega⟩
    left; rfl
theorem tdiv_natAbs (m : Int) : (m.tdiv 10).natAbs = m.natAbs / 10 := by rw [Int.natAbs_tdiv]; rfl
theorem str_cons (d : Nat) (out : List UInt8) : strOfNums [48 + (d : Int)] ++ ⟨out.toArray⟩ = (⟨(dgB d :: out).toArray⟩ : ByteArray) := by
  have e : (48 + (d : Int)).toNat = 48 + d := by omega
  have h := ba_append [dgB d] out
  rw [← show strOfNums [48 + (d : Int)] = ⟨[dgB d].toArray⟩ by simp only [strOfNums, List.map_cons, List.map_nil, e]; rfl] at h
  exact h
theorem tdiv_i64 {m : Int} (h : I64 m) : I64 (m.tdiv 10) := by
  have := tdiv_natAbs m
  unfold I64 at *
  omega
theorem impl_FormatInt (n : Int) (w : World) (hn : I64 n) (hT : Tens Tryd.prog w) : Calls Tryd.prog 32 #[.int .i64 n] w fun e w' => e = .returned (.string ⟨(Lib.itoa n).toArray⟩) ∧ Gr w w' := by
  have HT := Lib.hid hT
  have HN := Lib.hid hn
  go_enter Tryd.func32, Tryd.ntmps32
  go_wp2_with fail
  refine (Tryd.strconv_Itoa n HN.out.1 HN.out.2 w HT.out).mono ?_
  rintro e w1 ⟨rfl, k, os, rfl⟩
  go_wp2_with fail
  go_ret
  exact ⟨rfl, grown_gr w k os⟩
set_option maxRecDepth 100000 in
theorem spec_FormatInt (n : Int) (w : World) (hn : I64 n) : Calls Tryd.prog 34 #[.int .i64 n] w fun e w' => e = .returned (.string ⟨(Lib.itoa n).toArray⟩) ∧ Gr w w' := by
  by_cases h0 : n = 0
  · subst h0
    go_enter Tryd.func34, Tryd.ntmps34
    go_wp2_with fail
    go_ret
    exact ⟨ret_str (by decide +kernel), Gr.refl w⟩
  · have hd0 : (n == 0) = false := by simpa using h0
    have HI := Lib.hid hn
    have H0 := Lib.hid h0
    clear h0
    go_enter Tryd.func34, Tryd.ntmps34
    go_wp2_with fail
    go_loopw [0, 3] (fun v o wr => ∃ (m : Int) (out : List UInt8), v = .int .i64 m ∧ o = .string ⟨out.toArray⟩ ∧ Hid (I64 m ∧ Lib.decDigits n.natAbs = decNZ m.natAbs ++ out) ∧ Gr w wr) (fun v _ _ => (intOf v).natAbs)
    case atStart => exact ⟨n, [], rfl, rfl, Lib.hid ⟨HI.out, by rw [decNZ_pos (by have := H0.out; omega)]; simp⟩, Gr.refl _⟩
    case round =>
      obtain ⟨m, out, rfl, rfl, hh, hg⟩ := hrel
      by_cases hm : m = 0
      · subst hm
        have H1 := Lib.hid (show Lib.decDigits n.natAbs = out by have := hh.out.2; simpa [decNZ] using this)
        clear hh
        by_cases hneg : n < 0
        · have HN := Lib.hid hneg
          have hlen : ¬ 9223372036854775807 < 1 + out.length := by
            have h1 := congrArg List.length H1.out
            rw [Lib.decDigits_length] at h1
            have h2 := Lib.nDigits_le20 n.natAbs (by have := HI.out; unfold I64 at this; omega)
            omega
          go_wp2_with fail
          go_ret
          exact ⟨ret_str (by rw [← H1.out]; unfold Lib.itoa; rw [if_pos HN.out]; exact ba_append [45] _), hg⟩
        · have HN := Lib.hid hneg
          go_wp2_with fail
          go_ret
          exact ⟨ret_str (by rw [← H1.out]; unfold Lib.itoa; rw [if_neg (by have := HN.out; omega), show n.toNat = n.natAbs from by have := HN.out; omega]), hg⟩
      · have hm0 : (m == 0) = false := by simpa using hm
        have hr := hh.out.1
        unfold I64 at hr
        obtain ⟨D, hD⟩ : ∃ D, D = m.natAbs % 10 := ⟨_, rfl⟩
        have hD9 : D < 10 := by omega
        have hst := Lib.hid (show Lib.decDigits n.natAbs = decNZ (m.natAbs / 10) ++ (dgB D :: out) by have := hh.out.2; rw [decNZ_step (by omega), ← hD] at this; simpa using this)
        have hcv := fun x => conv_b (w := wr.alloc (.cells #[.int .u8 x] 5)) (lo := wr.heap.size) (n := 1) (ns := [x]) ⟨by simp, Or.inr ⟨wr.heap.size, 1, #[.int .u8 x], rfl, Nat.le_refl _, heap_alloc_new wr _, Nat.le_refl _, by simp [maxLen], by simp, by simp⟩⟩ rfl
        have hnm := Lib.hid (tdiv_natAbs m)
        have hlen : ¬ 9223372036854775807 < (strOfNums [48 + (D : Int)]).size + out.length := by
          have h1 := congrArg List.length hst.out
          rw [Lib.decDigits_length] at h1
          have h2 := Lib.nDigits_le20 n.natAbs (by have := HI.out; unfold I64 at this; omega)
          rw [strOfNums_size]
          simp at h1 ⊢
          omega
        rcases tmod_cases m with h10 | ⟨h10, hp⟩
        · rw [← hD] at h10
          have HM := Lib.hid hm
          clear hm hD
          go_wp2_with fail
          refine ⟨⟨m.tdiv 10, dgB D :: out, rfl, by rw [str_cons], Lib.hid ⟨tdiv_i64 hh.out.1, by rw [hnm.out]; exact hst.out⟩, hg.alloc _⟩, ?_⟩
          have h1 := hnm.out
          have h2 := HM.out
          simp only [intOf]
          omega
        · rw [← hD] at h10 hp
          have HM := Lib.hid hm
          clear hm hD
          go_wp2_with fail
          refine ⟨⟨m.tdiv 10, dgB D :: out, rfl, by rw [str_cons], Lib.hid ⟨tdiv_i64 hh.out.1, by rw [hnm.out]; exact hst.out⟩, hg.alloc _⟩, ?_⟩
          have h1 := hnm.out
          have h2 := HM.out
          simp only [intOf]
          omega
end Go.Proofs.YtcdcpfcmhmhdjaaDoor
