/- ParseQuery: small contracts. -/
import Derived.Test.YtjeffagejbdjkaaDoorPQryP
import Derived.Test.YtjeffagejbdjkaaDoorPRowI
namespace Go.Proofs.YtjeffagejbdjkaaDoor
open Go.RowKit
theorem aftS_no {c : UInt8} {p : List UInt8} (h : p.length < 2 ∨ p.head? ≠ some c) : aftS c p = -100000 := by unfold aftS; exact if_pos h
theorem aftS_yes {c : UInt8} {p : List UInt8} (h : ¬ (p.length < 2 ∨ p.head? ≠ some c)) : aftS c p = numV (p.drop 1) := by unfold aftS; exact if_neg h
theorem ext_tail (p : List UInt8) (i : Nat) : ({ data := p.toArray } : ByteArray).extract i p.length = ⟨(p.drop i).toArray⟩ := by
  rw [ba_list (({ data := p.toArray } : ByteArray).extract i p.length), Lib.extract_data]
  congr 2
  exact List.take_of_length_le (by simp)
theorem ext_head (p : List UInt8) (i : Nat) : ({ data := p.toArray } : ByteArray).extract 0 i = ⟨(p.take i).toArray⟩ := by
  rw [ba_list (({ data := p.toArray } : ByteArray).extract 0 i), Lib.extract_data]
  simp
theorem ext_two (p : List UInt8) (i : Nat) : ({ data := p.toArray } : ByteArray).extract i (i + 2) = ⟨((p.drop i).take 2).toArray⟩ := by
  rw [ba_list (({ data := p.toArray } : ByteArray).extract i (i + 2)), Lib.extract_data]
  simp [show i + 2 - i = 2 from by omega]
def noDots (p : List UInt8) (i : Nat) : Prop := ∀ j, j < i → Lib.occAt p [46, 46] j = false
theorem rngS_hit {p : List UInt8} {i : Nat} (hi : i + 1 < p.length) (h : (p.drop i).take 2 = [46, 46]) (hn : noDots p i) : rngS p = (numV (p.take i), numV (p.drop (i + 2))) := by
  have ho : Lib.occAt p [46, 46] i = true := by rw [Lib.occAt_iff_take p [46, 46] i (by simp; omega)]; simp [h]
  have hx := Lib.index_first (by omega) ho hn
  have hc : Lib.cut p [46, 46] = (p.take i, p.drop (i + 2), true) := by
    unfold Lib.cut; rw [hx, if_pos (Int.natCast_nonneg _)]; simp
  unfold rngS; rw [hc]; rfl
theorem rngS_none {p : List UInt8} {i : Nat} (hi : ¬ i + 1 < p.length) (hn : noDots p i) : rngS p = (-100000, -100000) := by
  have hx : Lib.index p [46, 46] = -1 := Lib.index_none (fun j hj => by
    by_cases h : j < i
    · exact hn j h
    · cases ho : Lib.occAt p [46, 46] j with
      | false => rfl
      | true =>
        rcases Lib.occAt_room ho with h2 | h2
        · simp at h2; omega
        · simp at h2)
  have hc : Lib.cut p [46, 46] = (p, [], false) := by unfold Lib.cut; rw [hx]; rfl
  unfold rngS; rw [hc]; rfl
theorem noDots_next {p : List UInt8} {i : Nat} (hi : i + 1 < p.length) (h : (p.drop i).take 2 ≠ [46, 46]) (hn : noDots p i) : noDots p (i + 1) := fun j hj => by
  by_cases h1 : j < i
  · exact hn j h1
  · obtain rfl : j = i := by omega
    rw [Lib.occAt_iff_take p [46, 46] j (by simp; omega)]
    simpa using h
set_option maxRecDepth 100000 in
theorem spec_l4After (p : List UInt8) (c : UInt8) (hp : p.length ≤ 1048576) (w : World) : Calls Tryd.prog 71 #[.string ⟨p.toArray⟩, .int .u8 c.toNat] w fun e w' => e = .returned (.int .i64 (aftS c p)) ∧ Gr w w' := by
  have HL := Lib.hid hp
  clear hp
  by_cases h2 : p.length < 2
  · have HE := Lib.hid (aftS_no (c := c) (Or.inl h2))
    have i1 : (p.length : Int) < 2 := by omega
    have d2 : decide ((p.length : Int) < 2) = true := decide_eq_true i1
    clear h2
    go_enter Tryd.func71, Tryd.ntmps71
    go_wp2_with fail
    go_ret
    exact ⟨by rw [HE.out]; rfl, Gr.refl _⟩
  · have H0 := Lib.hid h2
    have i1 : (2 : Int) ≤ (p.length : Int) := by omega
    have d2 : decide ((p.length : Int) < 2) = false := decide_eq_false (by omega)
    have i0 : (0 : Int) < (p.length : Int) := by omega
    have iz : (1 : Int) ≤ (p.length : Int) := by omega
    have i2 : (p.length : Int) ≤ 1048576 := by have := HL.out; omega
    have hlt : 0 < p.length := by omega
    have hb : ((⟨p.toArray⟩ : ByteArray)[0]'(by simpa [ByteArray.size] using hlt)).toNat = p[0].toNat := rfl
    have hh : p.head? = some p[0] := by rw [List.head?_eq_getElem?]; exact List.getElem?_eq_getElem hlt
    by_cases hc : p[0] = c
    · have h1 : ((p[0].toNat : Int) != (c.toNat : Int)) = false := by rw [hc]; simp
      have HE := Lib.hid (aftS_yes (c := c) (p := p) (by rw [hh, hc]; simpa using h2))
      have HD : Hid ((p.drop 1).length ≤ 1048576) := Lib.hid (by rw [List.length_drop]; have := HL.out; omega)
      clear h2 hc hh
      go_enter Tryd.func71, Tryd.ntmps71
      go_wp2_with fail
      rw [ext_tail p 1]
      refine (spec_l2Num (p.drop 1) HD.out _).mono ?_
      rintro e w1 ⟨rfl, g1⟩
      go_wp2_with fail
      go_ret
      exact ⟨by rw [HE.out, List.drop_one]; rfl, g1⟩
    · have h1 : ((p[0].toNat : Int) != (c.toNat : Int)) = true := by
        simp only [bne_iff_ne, ne_eq, Int.natCast_inj]
        intro h; exact hc (UInt8.toNat_inj.1 h)
      have HE := Lib.hid (aftS_no (c := c) (p := p) (Or.inr (by rw [hh]; intro h; exact hc (Option.some.inj h))))
      clear h2 hc hh
      go_enter Tryd.func71, Tryd.ntmps71
      go_wp2_with fail
      go_ret
      exact ⟨by rw [HE.out]; rfl, Gr.refl _⟩
set_option maxRecDepth 100000 in
theorem spec_l4Range (p : List UInt8) (hp : p.length ≤ 1048576) (w : World) : Calls Tryd.prog 72 #[.string ⟨p.toArray⟩] w fun e w' => e = .returned (.tuple #[.int .i64 (rngS p).1, .int .i64 (rngS p).2]) ∧ Gr w w' := by
  have HL := Lib.hid hp
  clear hp
  go_enter Tryd.func72, Tryd.ntmps72
  go_wp2_with fail
  go_loopw [4] (fun iv wr => ∃ (i : Nat), i ≤ p.length ∧ iv = .int .i64 i ∧ Hid (noDots p i) ∧ Gr w wr) (fun i _ => p.length - (intOf i).toNat)
  case atStart => exact ⟨0, Nat.zero_le _, rfl, Lib.hid (fun j hj => absurd hj (Nat.not_lt_zero _)), Gr.refl _⟩
  case round =>
    obtain ⟨i, hi, rfl, hn, hg⟩ := hrel
    have i0 : (0 : Int) ≤ (i : Int) := Int.natCast_nonneg _
    have i2 : (p.length : Int) ≤ 1048576 := by have := HL.out; omega
    have i3 : (i : Int) ≤ (p.length : Int) := by omega
    by_cases hlt : i + 1 < p.length
    · have i1 : (i : Int) + 1 < (p.length : Int) := by omega
      have i4 : (i : Int) + 2 ≤ (p.length : Int) := by omega
      have HLT := Lib.hid hlt
      have HI := Lib.hid hi
      have hex := ext_two p i
      by_cases hd : (p.drop i).take 2 = [46, 46]
      · have HR := Lib.hid (rngS_hit hlt hd hn.out)
        have h1 : ((p.drop i).take 2 == [46, 46]) = true := by rw [hd]; rfl
        have H1 : Hid ((p.take i).length ≤ 1048576) := Lib.hid (by rw [List.length_take]; have := HL.out; omega)
        have H2 : Hid ((p.drop (i + 2)).length ≤ 1048576) := Lib.hid (by rw [List.length_drop]; have := HL.out; omega)
        clear hd hi hlt
        go_wp2_with fail
        refine wp_region_ext (by kernel_rfl) (by kernel_rfl) ?_
        repeat (go_big_quiet_step ((go_at_call 67; first | (rw [ext_head]; exact quiet_ext (spec_l2Num (p.take i) H1.out _)) | (rw [ext_tail]; exact quiet_ext (spec_l2Num (p.drop (i + 2)) H2.out _)))))
        refine wpQuiet_nil ?_
        intro w2 hw2
        have g2 := Ext.out hw2
        clear hw2
        go_wp2_with fail
        go_ret2
        exact ⟨by rw [HR.out]; rfl, hg.trans g2⟩
      · have HN := Lib.hid (noDots_next hlt hd hn.out)
        have h1 : ((p.drop i).take 2 == [46, 46]) = false := by rw [beq_eq_false_iff_ne]; exact hd
        clear hd hi hlt
        go_wp2_with fail
        go_roundw
        case rel => exact ⟨i + 1, by have := HLT.out; omega, by go_num, HN, hg⟩
        case measure => have := HLT.out; simp only [intOf]; omega
    · have i1 : (p.length : Int) ≤ (i : Int) + 1 := by omega
      have HR := Lib.hid (rngS_none hlt hn.out)
      clear hlt hi
      go_wp2_with fail
      go_ret2
      exact ⟨by rw [HR.out]; rfl, hg⟩
set_option maxRecDepth 100000 in
theorem impl_parseAfter (p : List UInt8) (c : UInt8) (hp : p.length ≤ 1048576) (w : World) (hT : Tens Tryd.prog w) (hS : ErrS Tryd.prog w) (hR : ErrR Tryd.prog w) : Calls Tryd.prog 73 #[.string ⟨p.toArray⟩, .string ⟨#[c]⟩] w fun e w' => e = .returned (.tuple #[.int .i64 (aV c p), .bool (aB c p)]) ∧ Gr w w' := by
  have HL := Lib.hid hp
  have HT := Lib.hid hT
  have HES := Lib.hid hS
  have HER := Lib.hid hR
  clear hp hT hS hR
  obtain ⟨r, HRr⟩ : ∃ r, Hid (Lib.trimPrefix p [c] = r) := ⟨_, Lib.hid rfl⟩
  have HLr : Hid (r.length ≤ 1048576) := Lib.hid (by rw [← HRr.out]; unfold Lib.trimPrefix; split; (rw [List.length_drop]; have := HL.out; omega); exact HL.out)
  have hcp : Calls Tryd.prog 91 #[.string ⟨p.toArray⟩, .string ⟨#[c]⟩] w fun e w' => e = .returned (.tuple #[.string ⟨r.toArray⟩, .bool (Lib.hasPrefix p [c])]) ∧ w' = w := by
    rw [← HRr.out]; exact Tryd.strings_CutPrefix ⟨p.toArray⟩ ⟨#[c]⟩ w
  have HCP := Lib.hid hcp
  clear hcp
  cases hpre : Lib.hasPrefix p [c] with
  | false =>
    have HPR := Lib.hid hpre
    clear hpre
    cases hq : parseI r with
    | none =>
      have HQ := Lib.hid hq
      have HV : Hid (aV c p = 0 ∧ aB c p = false) := Lib.hid (by unfold aV aB pV pB; rw [HRr.out, hq, HPR.out]; exact ⟨rfl, rfl⟩)
      clear hq
      go_enter Tryd.func73, Tryd.ntmps73
      go_wp2_with fail
      refine (Calls.mono HCP.out fun e w' h => by rw [HPR.out] at h; exact h).mono ?_
      rintro e w1 ⟨rfl, rfl⟩
      go_wp2_with fail
      refine (impl_ParseInt_no HQ.out HLr.out _ HT.out HES.out HER.out).mono ?_
      rintro e w2 ⟨rfl, g2⟩
      go_wp2_with fail
      go_ret2
      exact ⟨by rw [HV.out.1, HV.out.2]; rfl, g2⟩
    | some n =>
      have HQ := Lib.hid hq
      have HV : Hid (aV c p = n ∧ aB c p = false) := Lib.hid (by unfold aV aB pV pB; rw [HRr.out, hq, HPR.out]; exact ⟨rfl, rfl⟩)
      clear hq
      go_enter Tryd.func73, Tryd.ntmps73
      go_wp2_with fail
      refine (Calls.mono HCP.out fun e w' h => by rw [HPR.out] at h; exact h).mono ?_
      rintro e w1 ⟨rfl, rfl⟩
      go_wp2_with fail
      refine (impl_ParseInt_yes HQ.out HLr.out _ HT.out HES.out HER.out).mono ?_
      rintro e w2 ⟨rfl, g2⟩
      go_wp2_with fail
      go_ret2
      exact ⟨by rw [HV.out.1, HV.out.2]; rfl, g2⟩
  | true =>
    have HPR := Lib.hid hpre
    clear hpre
    cases hq : parseI r with
    | none =>
      have HQ := Lib.hid hq
      have HV : Hid (aV c p = 0 ∧ aB c p = false) := Lib.hid (by unfold aV aB pV pB; rw [HRr.out, hq, HPR.out]; exact ⟨rfl, rfl⟩)
      clear hq
      go_enter Tryd.func73, Tryd.ntmps73
      go_wp2_with fail
      refine (Calls.mono HCP.out fun e w' h => by rw [HPR.out] at h; exact h).mono ?_
      rintro e w1 ⟨rfl, rfl⟩
      go_wp2_with fail
      refine (impl_ParseInt_no HQ.out HLr.out _ HT.out HES.out HER.out).mono ?_
      rintro e w2 ⟨rfl, g2⟩
      go_wp2_with fail
      go_ret2
      exact ⟨by rw [HV.out.1, HV.out.2]; rfl, g2⟩
    | some n =>
      have HQ := Lib.hid hq
      have HV : Hid (aV c p = n ∧ aB c p = true) := Lib.hid (by unfold aV aB pV pB; rw [HRr.out, hq, HPR.out]; exact ⟨rfl, rfl⟩)
      clear hq
      go_enter Tryd.func73, Tryd.ntmps73
      go_wp2_with fail
      refine (Calls.mono HCP.out fun e w' h => by rw [HPR.out] at h; exact h).mono ?_
      rintro e w1 ⟨rfl, rfl⟩
      go_wp2_with fail
      refine (impl_ParseInt_yes HQ.out HLr.out _ HT.out HES.out HER.out).mono ?_
      rintro e w2 ⟨rfl, g2⟩
      go_wp2_with fail
      go_ret2
      exact ⟨by rw [HV.out.1, HV.out.2]; rfl, g2⟩
theorem impl_pInt (l : List UInt8) (hs : l.length ≤ 1048576) (w : World) (hT : Tens Tryd.prog w) (hS : ErrS Tryd.prog w) (hR : ErrR Tryd.prog w) : Calls Tryd.prog 34 #[.string ⟨l.toArray⟩] w fun e w' => e = .returned (.tuple #[.int .i64 (pV l), .bool (pB l)]) ∧ Gr w w' := by
  unfold pV pB
  cases h : parseI l with
  | none => exact impl_ParseInt_no h hs w hT hS hR
  | some n => exact impl_ParseInt_yes h hs w hT hS hR
theorem impl_dots (l : List UInt8) (w : World) (hM : MaxL w) (hl : l.length ≤ 1048576) : Calls Tryd.prog 68 #[.string ⟨l.toArray⟩, .string ⟨#[46, 46]⟩] w fun e w' => e = .returned (.tuple #[.string ⟨(Lib.cut l [46, 46]).1.toArray⟩, .string ⟨(Lib.cut l [46, 46]).2.1.toArray⟩, .bool (Lib.cut l [46, 46]).2.2]) ∧ Gr w w' := by
  obtain ⟨m, hm⟩ := hM
  have hsz : (⟨l.toArray⟩ : ByteArray).size < 4294967281 := by simp only [ByteArray.size, List.size_toArray]; omega
  refine (Tryd.strings_Cut ⟨l.toArray⟩ ⟨#[46, 46]⟩ m w hsz hm).mono ?_
  rintro e w' ⟨rfl, n, rfl⟩
  exact ⟨rfl, (Gr.refl w).drewN n⟩
end Go.Proofs.YtjeffagejbdjkaaDoor
