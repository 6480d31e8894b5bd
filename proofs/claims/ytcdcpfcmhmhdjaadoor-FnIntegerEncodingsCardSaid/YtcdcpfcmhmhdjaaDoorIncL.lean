/- FnIntegerEncodings: the walk of the law. -/
import Derived.Test.YtcdcpfcmhmhdjaaDoorDrawN
import Derived.Test.YtcdcpfcmhmhdjaaDoorParseI
import Derived.Deep.DeepCutAuto
namespace Go.Proofs.YtcdcpfcmhmhdjaaDoor
open Go.RowKit Go.ChangeShapes Go.WideShapes Go.Deep
theorem laws_big (a : Option Addr) (n c : Nat) (w : World) : Calls Tryd.prog 6 #[.slice a n c] w fun e w' => e = .returned (.bool (decide ((n : Int) > 1048576))) ∧ w' = w := by
  go_enter Tryd.func6, Tryd.ntmps6
  go_wp2_with fail
  go_ret
  exact ⟨ret_bool (by simp), rfl⟩
theorem laws_big_yes {n : Nat} (h : (n : Int) > 1048576) (a : Option Addr) (c : Nat) (w : World) : Calls Tryd.prog 6 #[.slice a n c] w fun e w' => e = .returned (.bool true) ∧ w' = w := by
  have := laws_big a n c w
  rwa [decide_eq_true h] at this
theorem laws_big_no {n : Nat} (h : ¬ (n : Int) > 1048576) (a : Option Addr) (c : Nat) (w : World) : Calls Tryd.prog 6 #[.slice a n c] w fun e w' => e = .returned (.bool false) ∧ w' = w := by
  have := laws_big a n c w
  rwa [decide_eq_false h] at this
theorem varint_size {n : Int} : (encVarint n).size ≤ 7 := by
  by_cases h : 0 ≤ n ∧ n ≤ 562949953421311
  · rw [varint_in h, size_str]
    exact encV_len 6 _ (by have : (128 : Nat) ^ (6 + 1) = 562949953421312 := by decide
                           rw [this]; omega)
  · rw [varint_out h]; decide
theorem fixed_size {n y : Int} : (encFixed n y).size ≤ 7 := by
  by_cases h : encFixed n y = ByteArray.empty
  · rw [h]; decide
  · obtain ⟨W, N, _, _, _, h2, _, h4⟩ := fixed_yes h
    rw [h4, size_str, encF_len]; exact h2
theorem str_some {s : ByteArray} (h : s ≠ ByteArray.empty) : s.toList.isEmpty = false ∧ ¬ s.toList = [] := by
  have hn : ¬ s.toList = [] := fun e => h (bytes_inj (by rw [← ByteArray.toList_eq, e]; rfl))
  exact ⟨by simpa using hn, hn⟩
theorem str_none {s : ByteArray} (h : s = ByteArray.empty) : s.toList.isEmpty = true ∧ s.toList = [] := by
  subst h; exact ⟨by rw [ByteArray.toList_eq]; rfl, by rw [ByteArray.toList_eq]; rfl⟩
set_option maxRecDepth 100000 in
set_option maxHeartbeats 2000000 in
theorem law_FnIntegerEncodings (w : World) (hT : Tens Tryd.prog w) (hS : ∃ p, w.var? Tryd.prog "strconv.ErrSyntax" = some #[.iface 143 p]) (hR : ∃ p, w.var? Tryd.prog "strconv.ErrRange" = some #[.iface 143 p]) (_ : w.ShapedOpen Tryd.prog) (v : Value) (bs : List Int) (hv : RBytes w v bs) : Calls Tryd.prog 4 #[v] w fun e w' => e = .returned (.bool true) ∧ Gr w w' := by
  have HT := Lib.hid hT
  have HE : Hid (ErrS Tryd.prog w) := Lib.hid (by obtain ⟨p, h⟩ := hS; exact ⟨_, p, h⟩)
  have HR : Hid (ErrR Tryd.prog w) := Lib.hid (by obtain ⟨p, h⟩ := hR; exact ⟨_, p, h⟩)
  have HV := Lib.hid hv
  obtain ⟨va, vc, rfl⟩ := hv.form
  clear hT hS hR hv
  go_enter Tryd.func4, Tryd.ntmps4
  go_wp2_with fail
  by_cases hbig : (bs.length : Int) > 1048576
  · refine (laws_big_yes hbig va vc _).mono ?_
    rintro e w1 ⟨rfl, rfl⟩
    go_wp2_with fail
    go_ret
    exact ⟨rfl, Gr.refl _⟩
  · refine (laws_big_no hbig va vc _).mono ?_
    rintro e w1 ⟨rfl, rfl⟩
    clear hbig
    go_wp2_with fail
    refine (spec_DrawEncodeVarint _ bs _ HV.out).mono ?_
    rintro e w1 ⟨n, rfl, hn, hg1⟩
    go_wp2_with fail
    refine (spec_DrawEncodeHex _ bs _ (RSlice.mono keeps_byte hg1.out HV.out)).mono ?_
    rintro e w2 ⟨tail, rfl, htl, hg2⟩
    go_wp2_with fail
    refine (impl_EncodeVarint n _).mono ?_
    rintro e w3 ⟨rfl, hg3⟩
    have HG3 := Lib.hid (hg1.out.trans (hg2.out.trans hg3))
    clear hg1 hg2 hg3
    obtain ⟨s, hs⟩ : ∃ s, s = encVarint n := ⟨_, rfl⟩
    rw [← hs]
    have s7 : s.size ≤ 7 := by rw [hs]; exact varint_size
    have t40 := htl.out
    have HS := Lib.hid hs
    clear hs
    go_wp2_with fail
    refine (impl_DecodeVarint (s ++ tail) _ (by rw [size_append]; omega)).mono ?_
    rintro e w4 ⟨a, b, rfl, hd, rfl⟩
    have HAB : Hid ((0 ≤ n ∧ n ≤ 562949953421311) → a = n ∧ b = s.size) := Lib.hid fun h => by rw [HS.out] at hd; rw [HS.out]; exact varint_back h hd.out
    clear hd
    go_upto_region 7 with fail
    go_cut [57] (fun c wx => c = .bool false ∧ wx = w3)
    case first =>
      by_cases hin : 0 ≤ n ∧ n ≤ 562949953421311
      · obtain ⟨rfl, rfl⟩ := HAB.out hin
        obtain ⟨h0, h1⟩ := hin
        obtain ⟨z0, z1⟩ := str_some (s := s) (by rw [HS.out]; exact varint_ne ⟨h0, h1⟩)
        clear HAB
        go_wp2_with fail
        go_meet
        exact ⟨rfl, rfl⟩
      · obtain ⟨z0, z1⟩ := str_none (s := s) (by rw [HS.out]; exact varint_out hin)
        clear HAB
        by_cases h0 : 0 ≤ n
        · have h1 : ¬ n ≤ 562949953421311 := fun h => hin ⟨h0, h⟩
          clear hin
          go_wp2_with fail
          go_meet
          exact ⟨rfl, rfl⟩
        · clear hin
          go_wp2_with fail
          go_meet
          exact ⟨rfl, rfl⟩
    case rest =>
      obtain ⟨rfl, rfl⟩ := hcut
      go_wp2_with fail
      refine (spec_DrawEncodeFixed _ bs _ (RSlice.mono keeps_byte HG3.out HV.out)).mono ?_
      rintro e w4 ⟨x, y, rfl, hxy, hg4⟩
      go_wp2_with fail
      refine (impl_EncodeFixed x y _ hxy.out.1).mono ?_
      rintro e w5 ⟨rfl, hg5⟩
      have HG5 := Lib.hid (HG3.out.trans (hg4.out.trans hg5))
      clear hg4 hg5 HAB s7 HS
      obtain ⟨f, hf⟩ : ∃ f, f = encFixed x y := ⟨_, rfl⟩
      rw [← hf]
      have f7 : f.size ≤ 7 := by rw [hf]; exact fixed_size
      have HF := Lib.hid hf
      clear hf
      go_wp2_with fail
      refine (impl_DecodeFixed (f ++ tail) y _ (by rw [size_append]; omega)).mono ?_
      rintro e w6 ⟨rfl, rfl⟩
      obtain ⟨dv, hdv⟩ : ∃ dv, dv = decFixed (f ++ tail) y := ⟨_, rfl⟩
      obtain ⟨dk, hdk⟩ : ∃ dk, dk = decFixedOk (f ++ tail) y := ⟨_, rfl⟩
      rw [← hdv, ← hdk]
      have HDV : Hid (f ≠ ByteArray.empty → dv = x ∧ dk = true ∧ (f.size : Int) = y) := Lib.hid fun h => by rw [hdv, hdk, HF.out] at *; exact fixed_back h tail
      clear hdv hdk
      go_upto_region 12 with fail
      go_cut [99] (fun c wx => c = .bool false ∧ Hid (Gr w5 wx))
      case first =>
        by_cases hfe : f = ByteArray.empty
        · obtain ⟨z0, z1⟩ := str_none hfe
          have HFE := Lib.hid hfe
          clear hfe
          go_wp2_with fail
          refine (spec_EncodeFixed x y _ hxy.out.1).mono ?_
          rintro e w6 ⟨rfl, hg6⟩
          rw [← HF.out]
          go_wp2_with fail
          go_meet
          exact ⟨rfl, Lib.hid hg6⟩
        · obtain ⟨z0, z1⟩ := str_some hfe
          obtain ⟨rfl, rfl, rfl⟩ := HDV.out hfe
          have HFE := Lib.hid hfe
          clear hfe HDV
          go_wp2_with fail
          refine (spec_EncodeFixed _ _ _ hxy.out.1).mono ?_
          rintro e w6 ⟨rfl, hg6⟩
          rw [← HF.out]
          go_wp2_with fail
          go_meet
          exact ⟨rfl, Lib.hid hg6⟩
      case rest =>
        obtain ⟨rfl, HG6⟩ := hcut
        have HGW := Lib.hid (HG5.out.trans HG6.out)
        clear HDV HF f7 HG6
        go_wp2_with fail
        refine (impl_EncodeHex tail _ (by omega)).mono ?_
        rintro e w7 ⟨rfl, hg7⟩
        have HG7 := Lib.hid (HGW.out.trans hg7)
        clear hg7
        obtain ⟨h, hh⟩ : ∃ h, h = strOfNums (hexL (nums tail)) := ⟨_, rfl⟩
        rw [← hh]
        have HB : Hid (hexOut h = tail ∧ hexOk h = true ∧ h.size = 2 * tail.size) := Lib.hid (by rw [hh]; exact hex_back tail)
        clear hh
        have hsz : (h.size : Int) = 2 * (tail.size : Int) := by have := HB.out.2.2; omega
        have hsm : h.size ≤ 80 := by have := HB.out.2.2; omega
        go_wp2_with fail
        refine (impl_DecodeHex h _ (by omega)).mono ?_
        rintro e w8 ⟨rfl, hg8⟩
        rw [HB.out.1, HB.out.2.1]
        have HG8 := Lib.hid (HG7.out.trans hg8)
        clear hg8
        go_wp2_with fail
        refine (impl_FormatInt x _ hxy.out.1 (tab_gr HT.out HG8.out)).mono ?_
        rintro e w9 ⟨rfl, hg9⟩
        have HG9 := Lib.hid (HG8.out.trans hg9)
        clear hg9
        obtain ⟨D, hD⟩ : ∃ D, D = Lib.itoa x := ⟨_, rfl⟩
        rw [← hD]
        have HDD := Lib.hid hD
        have HDl : Hid (D.length ≤ 1048576) := Lib.hid (by rw [hD]; exact Nat.le_trans (Lib.itoa_length_le x hxy.out.1.1 hxy.out.1.2) (by decide))
        clear hD
        go_wp2_with fail
        refine (impl_ParseInt D HDl.out _ (tab_gr HT.out HG9.out) (errS_gr HE.out HG9.out) (errR_gr HR.out HG9.out)).mono ?_
        rintro e w10 ⟨rfl, hg10⟩
        have HG10 := Lib.hid (HG9.out.trans hg10)
        clear hg10
        by_cases hr : -1000000000 < x ∧ x < 1000000000
        · rw [show parseI D = some x by rw [HDD.out]; exact parse_yes hr]
          obtain ⟨r0, r1⟩ := hr
          simp only [pairI]
          go_wp2_with fail
          refine (spec_FormatInt x _ hxy.out.1).mono ?_
          rintro e w11 ⟨rfl, hg11⟩
          rw [← HDD.out]
          have HG11 := Lib.hid (HG10.out.trans hg11)
          clear hg11
          go_wp2_with fail
          go_ret
          exact ⟨rfl, HG11.out⟩
        · rw [show parseI D = none by rw [HDD.out]; exact parse_no hr]
          simp only [pairI]
          by_cases r0 : -1000000000 < x
          · have r1 : ¬ x < 1000000000 := fun h => hr ⟨r0, h⟩
            clear hr
            go_wp2_with fail
            refine (spec_FormatInt x _ hxy.out.1).mono ?_
            rintro e w11 ⟨rfl, hg11⟩
            rw [← HDD.out]
            have HG11 := Lib.hid (HG10.out.trans hg11)
            clear hg11
            go_wp2_with fail
            go_ret
            exact ⟨ret_bool (by simp [r1]), HG11.out⟩
          · clear hr
            go_wp2_with fail
            refine (spec_FormatInt x _ hxy.out.1).mono ?_
            rintro e w11 ⟨rfl, hg11⟩
            rw [← HDD.out]
            have HG11 := Lib.hid (HG10.out.trans hg11)
            clear hg11
            go_wp2_with fail
            go_ret
            exact ⟨rfl, HG11.out⟩
end Go.Proofs.YtcdcpfcmhmhdjaaDoor
