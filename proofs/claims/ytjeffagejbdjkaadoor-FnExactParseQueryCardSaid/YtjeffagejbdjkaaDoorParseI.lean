/- ParseInt: both walks and the law. -/
import Derived.Test.YtjeffagejbdjkaaDoorFmt
import Derived.Lib.AtoiErrMem
namespace Go.Proofs.YtjeffagejbdjkaaDoor
open Go.RowKit
/-- What ParseInt hands back. -/
def pairI (o : Option Int) : Value := match o with
  | some n => .tuple #[.int .i64 n, .bool true]
  | none => .tuple #[.int .i64 0, .bool false]
/-- The library's two errors lie in their variables. -/
abbrev ErrS (P : Program) (w : World) : Prop := ∃ tp p, w.var? P "strconv.ErrSyntax" = some #[.iface tp p]
abbrev ErrR (P : Program) (w : World) : Prop := ∃ tp p, w.var? P "strconv.ErrRange" = some #[.iface tp p]
theorem errS_gr {P : Program} {w w' : World} (h : ErrS P w) (g : Gr w w') : ErrS P w' := by obtain ⟨a, b, h⟩ := h; exact ⟨a, b, var_gr h g⟩
theorem errR_gr {P : Program} {w w' : World} (h : ErrR P w) (g : Gr w w') : ErrR P w' := by obtain ⟨a, b, h⟩ := h; exact ⟨a, b, var_gr h g⟩
theorem bytesW_gr (w : World) (e : TypeId) (t : ByteArray) : Gr w (Lib.bytesWorld w e t) := Lib.bytesWorld_below w e t
theorem ba_list (s : ByteArray) : s = ⟨s.data.toList.toArray⟩ := by cases s; simp
/-- How Atoi ends, in two. -/
theorem atoi_ok {l : List UInt8} {v : Int} (h : Lib.atoiAll l = .ok v) (hs : l.length ≤ 1048576) (w : World) : Calls Tryd.prog 65 #[.string ⟨l.toArray⟩] w fun e w' => e = .returned (.tuple #[.int .i64 v, .nilIface]) ∧ Gr w w' := by
  have hsz : (⟨l.toArray⟩ : ByteArray).size ≤ 9223372036854775806 := by simp only [ByteArray.size, List.size_toArray]; omega
  refine (Tryd.strconv_Atoi_ok ⟨l.toArray⟩ hsz v (by simpa using h) w).mono ?_
  rintro e w' ⟨rfl, h | ⟨t, h⟩⟩
  · subst h; exact ⟨rfl, Gr.refl _⟩
  · subst h; exact ⟨rfl, bytesW_gr _ _ _⟩
theorem atoi_no {l : List UInt8} (h : ∀ v, Lib.atoiAll l ≠ .ok v) (hs : l.length ≤ 1048576) (w : World) (hS : ErrS Tryd.prog w) (hR : ErrR Tryd.prog w) : Calls Tryd.prog 65 #[.string ⟨l.toArray⟩] w fun e w' => ∃ n N, e = .returned (.tuple #[.int .i64 n, .iface 116 (.pointer (some ⟨N, 0, none⟩))]) ∧ Gr w w' := by
  obtain ⟨a, b, hS⟩ := hS
  obtain ⟨a', b', hR⟩ := hR
  have hsz : (⟨l.toArray⟩ : ByteArray).size ≤ 281474976710656 := by simp only [ByteArray.size, List.size_toArray]; omega
  cases h0 : Lib.atoiAll l with
  | ok v => exact absurd h0 (h v)
  | range =>
    refine (Tryd.strconv_Atoi_range_var ⟨l.toArray⟩ hsz (by simpa using h0) a' b' w hR).mono ?_
    rintro e w' ⟨N, rfl, _, _, g⟩
    exact ⟨_, N, rfl, g⟩
  | _ =>
    refine (Any.strconv_Atoi_syntax_var Tryd.laysC172 ⟨l.toArray⟩ hsz (by simpa using h0) a b w hS).mono ?_
    rintro e w' ⟨N, rfl, _, _, g⟩
    exact ⟨_, N, rfl, g⟩
theorem parseI_ok {l : List UInt8} {v : Int} (h : Lib.atoiAll l = .ok v) (h1 : Lib.itoa v = l) (h2 : -999999999 ≤ v) (h3 : v ≤ 999999999) : parseI l = some v := by unfold parseI; rw [h]; exact if_pos ⟨h1, h2, h3⟩
theorem parseI_bad {l : List UInt8} {v : Int} (h : Lib.atoiAll l = .ok v) (h1 : ¬ (Lib.itoa v = l ∧ -999999999 ≤ v ∧ v ≤ 999999999)) : parseI l = none := by unfold parseI; rw [h]; exact if_neg h1
theorem parseI_fail {l : List UInt8} (h : ∀ v, Lib.atoiAll l ≠ .ok v) : parseI l = none := by
  unfold parseI
  split
  · rename_i n hn; exact absurd hn (h n)
  · rfl
set_option maxRecDepth 100000 in
theorem impl_ParseInt (l : List UInt8) (hs : l.length ≤ 1048576) (w : World) (hT : Tens Tryd.prog w) (hS : ErrS Tryd.prog w) (hR : ErrR Tryd.prog w) : Calls Tryd.prog 34 #[.string ⟨l.toArray⟩] w fun e w' => e = .returned (pairI (parseI l)) ∧ Gr w w' := by
  have HS := Lib.hid hs
  have HT := Lib.hid hT
  have HE := Lib.hid hS
  have HR := Lib.hid hR
  clear hs hT hS hR
  by_cases hok : ∃ v, Lib.atoiAll l = .ok v
  · obtain ⟨v, hv⟩ := hok
    have hb := Lib.atoiAll_bounds hv
    have HV := Lib.hid hv
    have HB := Lib.hid (show I64 v from hb)
    by_cases h1 : Lib.itoa v = l
    · subst h1
      by_cases h2 : -999999999 ≤ v ∧ v ≤ 999999999
      · have HF := Lib.hid (parseI_ok hv rfl h2.1 h2.2)
        obtain ⟨h2, h3⟩ := h2
        clear hv hb
        go_enter Tryd.func34, Tryd.ntmps34
        go_wp2_with fail
        refine (atoi_ok HV.out HS.out w).mono ?_
        rintro e w1 ⟨rfl, g1⟩
        go_wp2_with fail
        refine (impl_FormatInt v _ HB.out (tab_gr HT.out g1)).mono ?_
        rintro e w2 ⟨rfl, g2⟩
        go_wp2_with fail
        go_ret2
        exact ⟨by rw [HF.out]; rfl, g1.trans g2⟩
      · have HF := Lib.hid (parseI_bad hv (fun h => h2 h.2))
        have h4 : v < -999999999 ∨ 999999999 < v := by omega
        clear hv hb h2
        rcases h4 with h4 | h4
        · go_enter Tryd.func34, Tryd.ntmps34
          go_wp2_with fail
          refine (atoi_ok HV.out HS.out w).mono ?_
          rintro e w1 ⟨rfl, g1⟩
          go_wp2_with fail
          refine (impl_FormatInt v _ HB.out (tab_gr HT.out g1)).mono ?_
          rintro e w2 ⟨rfl, g2⟩
          go_wp2_with fail
          go_ret2
          exact ⟨by rw [HF.out]; rfl, g1.trans g2⟩
        · have h5 : ¬ v < -999999999 := by omega
          go_enter Tryd.func34, Tryd.ntmps34
          go_wp2_with fail
          refine (atoi_ok HV.out HS.out w).mono ?_
          rintro e w1 ⟨rfl, g1⟩
          go_wp2_with fail
          refine (impl_FormatInt v _ HB.out (tab_gr HT.out g1)).mono ?_
          rintro e w2 ⟨rfl, g2⟩
          go_wp2_with fail
          go_ret2
          exact ⟨by rw [HF.out]; rfl, g1.trans g2⟩
    · have HF := Lib.hid (parseI_bad hv (fun h => h1 h.1))
      have h4 : (Lib.itoa v == l) = false := by simpa using h1
      clear hv hb h1
      go_enter Tryd.func34, Tryd.ntmps34
      go_wp2_with fail
      refine (atoi_ok HV.out HS.out w).mono ?_
      rintro e w1 ⟨rfl, g1⟩
      go_wp2_with fail
      refine (impl_FormatInt v _ HB.out (tab_gr HT.out g1)).mono ?_
      rintro e w2 ⟨rfl, g2⟩
      go_wp2_with fail
      go_ret2
      exact ⟨by rw [HF.out]; rfl, g1.trans g2⟩
  · have HN : Hid (∀ v, Lib.atoiAll l ≠ .ok v) := Lib.hid fun v hv => hok ⟨v, hv⟩
    clear hok
    have HF := Lib.hid (parseI_fail HN.out)
    go_enter Tryd.func34, Tryd.ntmps34
    go_wp2_with fail
    refine (atoi_no HN.out HS.out w HE.out HR.out).mono ?_
    rintro e w1 ⟨n, N, rfl, g1⟩
    go_wp2_with fail
    go_ret2
    exact ⟨by rw [HF.out]; rfl, g1⟩
theorem outS {l : List UInt8} {X : Int} {C : Nat} (hX : scanI l = X) (hC : C = scanK (l.take 11)) :
    (Hid (parseI l = none) ∧ (9 : Int) < (C : Int)) ∨ (Hid (parseI l = none) ∧ ¬ (9 : Int) < (C : Int) ∧ (10 : Int) < (l.length : Int)) ∨
    (Hid (parseI l = none) ∧ ¬ (9 : Int) < (C : Int) ∧ ¬ (10 : Int) < (l.length : Int) ∧ (Lib.itoa X == l) = false) ∨ (Hid (parseI l = some X) ∧ ¬ (9 : Int) < (C : Int) ∧ ¬ (10 : Int) < (l.length : Int) ∧ (Lib.itoa X == l) = true) := by
  rw [← parseS_eq]
  unfold parseS
  rw [hX, ← hC]
  by_cases h1 : 9 < C
  · exact Or.inl ⟨Lib.hid (if_pos (Or.inl h1)), by omega⟩
  · by_cases h2 : 10 < l.length
    · exact Or.inr (Or.inl ⟨Lib.hid (if_pos (Or.inr (Or.inl h2))), by omega, by omega⟩)
    · by_cases h3 : Lib.itoa X = l
      · refine Or.inr (Or.inr (Or.inr ⟨Lib.hid (if_neg ?_), by omega, by omega, by simpa using h3⟩))
        rintro (h | h | h)
        · exact h1 h
        · exact h2 h
        · exact h h3
      · exact Or.inr (Or.inr (Or.inl ⟨Lib.hid (if_pos (Or.inr (Or.inr h3))), by omega, by omega, by simpa using h3⟩))
set_option maxRecDepth 100000 in
theorem spec_ParseInt (l : List UInt8) (hs : l.length ≤ 1048576) (w : World) : Calls Tryd.prog 33 #[.string ⟨l.toArray⟩] w fun e w' => e = .returned (pairI (parseI l)) ∧ Gr w w' := by
  have HS := Lib.hid hs
  clear hs
  go_enter Tryd.func33, Tryd.ntmps33
  go_wp2_with fail
  go_loopw [4, 5, 6] (fun n c i wr => ∃ k N C : Nat, k ≤ l.length ∧ k ≤ 11 ∧ i = .int .i64 k ∧ n = .int .i64 N ∧ c = .int .i64 C ∧ Hid (N = scanV 0 (l.take k) ∧ C = scanK (l.take k)) ∧ Gr w wr) (fun _ _ i _ => 11 - (intOf i).toNat)
  case atStart => exact ⟨0, 0, 0, Nat.zero_le _, by decide, rfl, rfl, rfl, Lib.hid ⟨rfl, rfl⟩, Gr.refl _⟩
  case round =>
    obtain ⟨k, N, C, hk, hk2, rfl, rfl, rfl, hh, hg⟩ := hrel
    by_cases hl : k < l.length ∧ k < 11
    · obtain ⟨h1, h2⟩ := hl
      have i0 : (0 : Int) ≤ (k : Int) := Int.natCast_nonneg _
      have i1 : (k : Int) < (l.length : Int) := by omega
      have i2 : (k : Int) < 11 := by omega
      have hb : ((⟨l.toArray⟩ : ByteArray)[k]'(by simpa [ByteArray.size] using h1)).toNat = l[k].toNat := rfl
      have hN : N < 100000000000 := by
        have h := scanV_lt (l.take k) 0
        have h3 := Nat.pow_le_pow_right (n := 10) (by decide) (show scanK (l.take k) ≤ 11 from Nat.le_trans (scanK_le _) (by simp; omega))
        have e : (10 : Nat) ^ 11 = 100000000000 := by decide
        have := hh.out.1
        omega
      have hC : C ≤ 11 := by
        have h := scanK_le (l.take k)
        have := hh.out.2
        simp at h; omega
      have hN' : (N : Int) < 100000000000 := by omega
      have hC' : (C : Int) ≤ 11 := by omega
      have HT1 : ∀ {q : Bool}, isDg l[k] = q → Hid (scanV 0 (l.take (k + 1)) = (if q then N * 10 + (l[k].toNat - 48) else N) ∧ scanK (l.take (k + 1)) = C + (if q then 1 else 0)) := fun {q} hq => Lib.hid (by
        rw [List.take_succ_eq_append_getElem h1, scanV_snoc, scanK_snoc, hq, ← hh.out.1, ← hh.out.2]
        exact ⟨rfl, rfl⟩)
      by_cases hd : 48 ≤ l[k].toNat ∧ l[k].toNat ≤ 57
      · have hst := HT1 (show isDg l[k] = true by unfold isDg; simp; exact hd)
        obtain ⟨d1, d2⟩ := hd
        have d1' : (48 : Int) ≤ (l[k].toNat : Int) := by omega
        have d2' : (l[k].toNat : Int) ≤ 57 := by omega
        clear HT1
        go_wp2_with fail
        refine ⟨⟨k + 1, N * 10 + (l[k].toNat - 48), C + 1, h1, h2, rfl, by congr 1; omega, rfl, Lib.hid ⟨hst.out.1.symm, hst.out.2.symm⟩, hg⟩, ?_⟩
        simp only [intOf]
        omega
      · have hst := HT1 (show isDg l[k] = false by unfold isDg; simp; omega)
        clear HT1
        have hor : l[k].toNat < 48 ∨ 57 < l[k].toNat := by omega
        clear hd
        rcases hor with hd | hd
        · have d1' : ¬ (48 : Int) ≤ (l[k].toNat : Int) := by omega
          go_wp2_with fail
          refine ⟨⟨k + 1, N, C, h1, h2, rfl, rfl, rfl, Lib.hid ⟨hst.out.1.symm, hst.out.2.symm⟩, hg⟩, ?_⟩
          simp only [intOf]
          omega
        · have d1' : (48 : Int) ≤ (l[k].toNat : Int) := by omega
          have d2' : ¬ (l[k].toNat : Int) ≤ 57 := by omega
          go_wp2_with fail
          refine ⟨⟨k + 1, N, C, h1, h2, rfl, rfl, rfl, Lib.hid ⟨hst.out.1.symm, hst.out.2.symm⟩, hg⟩, ?_⟩
          simp only [intOf]
          omega
    · have hfin : N = scanV 0 (l.take 11) ∧ C = scanK (l.take 11) := by
        have h := hh.out
        by_cases h3 : k = 11
        · rw [h3] at h; exact h
        · have h4 : l.take k = l.take 11 := by rw [List.take_of_length_le (by omega), List.take_of_length_le (by omega)]
          rw [h4] at h; exact h
      have hN : N < 100000000000 := by
        have h := scanV_lt (l.take 11) 0
        have h3 := Nat.pow_le_pow_right (n := 10) (by decide) (show scanK (l.take 11) ≤ 11 from Nat.le_trans (scanK_le _) (by simp; omega))
        have e : (10 : Nat) ^ 11 = 100000000000 := by decide
        have := hfin.1
        omega
      have hN0 : (0 : Int) ≤ (N : Int) := Int.natCast_nonneg _
      have hN' : (N : Int) < 100000000000 := by omega
      have hor : ¬ (k : Int) < (l.length : Int) ∨ ((k : Int) < (l.length : Int) ∧ ¬ (k : Int) < 11) := by omega
      clear hh hl hk hk2
      by_cases h0 : l = []
      · subst h0
        obtain ⟨rfl, rfl⟩ : N = 0 ∧ C = 0 := hfin
        have he : (Lib.itoa 0 == []) = false := by decide +kernel
        clear hor hN hN0 hN'
        go_wp2_with fail
        refine (spec_FormatInt 0 _ (by unfold I64; omega)).mono ?_
        rintro e w2 ⟨rfl, g2⟩
        go_wp2_with fail
        go_ret2
        exact ⟨rfl, hg.trans g2⟩
      · have hl0 : 0 < l.length := List.length_pos_iff.2 h0
        have hl1 : (0 : Int) < (l.length : Int) := by omega
        have hb : ((⟨l.toArray⟩ : ByteArray)[0]'(by simpa [ByteArray.size] using hl0)).toNat = l[0].toNat := rfl
        by_cases h45 : l[0].toNat = 45
        · have hX : scanI l = -(N : Int) := by
            unfold scanI; rw [if_pos, hfin.1]
            rw [List.head?_eq_getElem?, List.getElem?_eq_getElem hl0, UInt8.toNat_inj.1 (show l[0].toNat = (45 : UInt8).toNat from h45)]
          have hout := outS hX hfin.2
          have HX := Lib.hid (show I64 (-(N : Int)) by unfold I64; omega)
          have h46 : ((l[0].toNat : Int) == 45) = true := by simp; omega
          clear hfin hX h45
          rcases hor with hor | ⟨hor, hor2⟩
          · rcases hout with ⟨HF, c1⟩ | ⟨HF, c1, c2⟩ | ⟨HF, c1, c2, c3⟩ | ⟨HF, c1, c2, c3⟩
            · go_wp2_with fail
              go_ret2
              exact ⟨by rw [HF.out]; rfl, hg⟩
            · go_wp2_with fail
              go_ret2
              exact ⟨by rw [HF.out]; rfl, hg⟩
            · go_wp2_with fail
              refine (spec_FormatInt (-(N : Int)) _ HX.out).mono ?_
              rintro e w2 ⟨rfl, g2⟩
              go_wp2_with fail
              go_ret2
              exact ⟨by rw [HF.out]; rfl, hg.trans g2⟩
            · go_wp2_with fail
              refine (spec_FormatInt (-(N : Int)) _ HX.out).mono ?_
              rintro e w2 ⟨rfl, g2⟩
              go_wp2_with fail
              go_ret2
              exact ⟨by rw [HF.out]; rfl, hg.trans g2⟩
          · rcases hout with ⟨HF, c1⟩ | ⟨HF, c1, c2⟩ | ⟨HF, c1, c2, c3⟩ | ⟨HF, c1, c2, c3⟩
            · go_wp2_with fail
              go_ret2
              exact ⟨by rw [HF.out]; rfl, hg⟩
            · go_wp2_with fail
              go_ret2
              exact ⟨by rw [HF.out]; rfl, hg⟩
            · go_wp2_with fail
              refine (spec_FormatInt (-(N : Int)) _ HX.out).mono ?_
              rintro e w2 ⟨rfl, g2⟩
              go_wp2_with fail
              go_ret2
              exact ⟨by rw [HF.out]; rfl, hg.trans g2⟩
            · go_wp2_with fail
              refine (spec_FormatInt (-(N : Int)) _ HX.out).mono ?_
              rintro e w2 ⟨rfl, g2⟩
              go_wp2_with fail
              go_ret2
              exact ⟨by rw [HF.out]; rfl, hg.trans g2⟩
        · have hX : scanI l = (N : Int) := by
            unfold scanI; rw [if_neg, hfin.1]
            rw [List.head?_eq_getElem?, List.getElem?_eq_getElem hl0]
            intro h
            exact h45 (by rw [Option.some.inj h]; rfl)
          have hout := outS hX hfin.2
          have HX := Lib.hid (show I64 (N : Int) by unfold I64; omega)
          have h46 : ((l[0].toNat : Int) == 45) = false := by simp; omega
          clear hfin hX h45
          rcases hor with hor | ⟨hor, hor2⟩
          · rcases hout with ⟨HF, c1⟩ | ⟨HF, c1, c2⟩ | ⟨HF, c1, c2, c3⟩ | ⟨HF, c1, c2, c3⟩
            · go_wp2_with fail
              go_ret2
              exact ⟨by rw [HF.out]; rfl, hg⟩
            · go_wp2_with fail
              go_ret2
              exact ⟨by rw [HF.out]; rfl, hg⟩
            · go_wp2_with fail
              refine (spec_FormatInt (N : Int) _ HX.out).mono ?_
              rintro e w2 ⟨rfl, g2⟩
              go_wp2_with fail
              go_ret2
              exact ⟨by rw [HF.out]; rfl, hg.trans g2⟩
            · go_wp2_with fail
              refine (spec_FormatInt (N : Int) _ HX.out).mono ?_
              rintro e w2 ⟨rfl, g2⟩
              go_wp2_with fail
              go_ret2
              exact ⟨by rw [HF.out]; rfl, hg.trans g2⟩
          · rcases hout with ⟨HF, c1⟩ | ⟨HF, c1, c2⟩ | ⟨HF, c1, c2, c3⟩ | ⟨HF, c1, c2, c3⟩
            · go_wp2_with fail
              go_ret2
              exact ⟨by rw [HF.out]; rfl, hg⟩
            · go_wp2_with fail
              go_ret2
              exact ⟨by rw [HF.out]; rfl, hg⟩
            · go_wp2_with fail
              refine (spec_FormatInt (N : Int) _ HX.out).mono ?_
              rintro e w2 ⟨rfl, g2⟩
              go_wp2_with fail
              go_ret2
              exact ⟨by rw [HF.out]; rfl, hg.trans g2⟩
            · go_wp2_with fail
              refine (spec_FormatInt (N : Int) _ HX.out).mono ?_
              rintro e w2 ⟨rfl, g2⟩
              go_wp2_with fail
              go_ret2
              exact ⟨by rw [HF.out]; rfl, hg.trans g2⟩
set_option maxRecDepth 100000 in
theorem law_FnExactParseInt (w : World) (hT : Tens Tryd.prog w) (hS : ∃ p, w.var? Tryd.prog "strconv.ErrSyntax" = some #[.iface 147 p]) (hR : ∃ p, w.var? Tryd.prog "strconv.ErrRange" = some #[.iface 147 p]) (_ : w.ShapedOpen Tryd.prog) (s : ByteArray) (hs : s.size ≤ 9223372036854775807) : Calls Tryd.prog 8 #[.string s] w fun e w' => e = .returned (.bool true) ∧ Gr w w' := by
  obtain ⟨l, rfl⟩ : ∃ l : List UInt8, s = ⟨l.toArray⟩ := ⟨_, ba_list s⟩
  have HT := Lib.hid hT
  have HE : Hid (ErrS Tryd.prog w) := Lib.hid (by obtain ⟨p, h⟩ := hS; exact ⟨_, p, h⟩)
  have HR : Hid (ErrR Tryd.prog w) := Lib.hid (by obtain ⟨p, h⟩ := hR; exact ⟨_, p, h⟩)
  clear hT hS hR hs
  by_cases hl : (l.length : Int) ≤ 1048576
  · have HL := Lib.hid (show l.length ≤ 1048576 by omega)
    cases hp : parseI l with
    | none =>
      have HP := Lib.hid hp
      clear hp
      go_enter Tryd.func8, Tryd.ntmps8
      go_wp2_with fail
      refine (spec_ParseInt l HL.out _).mono ?_
      rintro e w1 ⟨rfl, g1⟩
      rw [HP.out]
      simp only [pairI]
      go_wp2_with fail
      refine (impl_ParseInt l HL.out _ (tab_gr HT.out g1) (errS_gr HE.out g1) (errR_gr HR.out g1)).mono ?_
      rintro e w2 ⟨rfl, g2⟩
      rw [HP.out]
      simp only [pairI]
      go_wp2_with fail
      go_ret
      exact ⟨rfl, g1.trans g2⟩
    | some n =>
      have HP := Lib.hid hp
      clear hp
      go_enter Tryd.func8, Tryd.ntmps8
      go_wp2_with fail
      refine (spec_ParseInt l HL.out _).mono ?_
      rintro e w1 ⟨rfl, g1⟩
      rw [HP.out]
      simp only [pairI]
      go_wp2_with fail
      refine (impl_ParseInt l HL.out _ (tab_gr HT.out g1) (errS_gr HE.out g1) (errR_gr HR.out g1)).mono ?_
      rintro e w2 ⟨rfl, g2⟩
      rw [HP.out]
      simp only [pairI]
      go_wp2_with fail
      go_ret
      exact ⟨rfl, g1.trans g2⟩
  · go_enter Tryd.func8, Tryd.ntmps8
    go_wp2_with fail
    go_ret
    exact ⟨rfl, Gr.refl _⟩
end Go.Proofs.YtjeffagejbdjkaaDoor
