/- ParseInt: both walks and the law. -/
import Derived.Test.YtcdcpfcmhmhdjaaDoorFmt
import Derived.Lib.AtoiErrMem
namespace Go.Proofs.YtcdcpfcmhmhdjaaDoor
open Go.RowKit
/-- What ParseInt hands back. -/
def pairI (o : Option Int) : Value := match o with
  | some n => .tuple #[.int .i64 n, .bool true]
  | none => .tuple #[.int .i64 0, .bool false]
/-- The library's two errors lie in their variables. -/
abbrev ErrS (P : Program) (w : World) : Prop := ∃ tp p, w.var? P "strconv.ErrSyntax" = some #[.iface tp p]
abbrev ErrR (P : Program) (w : World) : Prop := ∃ tp p, w.var? P "strconv.ErrRange" = some #[.iface tp p]
theorem errS_gr {P : Program} {w w' : World} (h : ErrS P w) (g : Gr w w') : ErrS P w' := by obtain ⟨a, b, h⟩ := h; exact ⟨a, b, var_gr h g⟩
theorem errR_gr {P : Program} {w w' : World} (h : ErrR P w) (g : Gr w w') : ErrR P w' := by obtain ⟨a, b, h⟩ := h; exact ⟨a, b, var_gr h g⟩
theorem bytesW_gr (w : World) (e : TypeId) (t : ByteArray) : Gr w (Lib.bytesWorld w e t) := Lib.bytesWorld_below w e t
theorem ba_list (s : ByteArray) : s = ⟨s.data.toList.toArray⟩ := by cases s; simp
/-- How Atoi ends, in two. -/
theorem atoi_ok {l : List UInt8} {v : Int} (h : Lib.atoiAll l = .ok v) (hs : l.length ≤ 1048576) (w : World) : Calls Tryd.prog 64 #[.string ⟨l.toArray⟩] w fun e w' => e = .returned (.tuple #[.int .i64 v, .nilIface]) ∧ Gr w w' := by
  have hsz : (⟨l.toArray⟩ : ByteArray).size ≤ 9223372036854775806 := by simp only [ByteArray.size, List.size_toArray]; omega
  refine (Tryd.strconv_Atoi_ok ⟨l.toArray⟩ hsz v (by simpa using h) w).mono ?_
  rintro e w' ⟨rfl, h | ⟨t, h⟩⟩
  · subst h; exact ⟨rfl, Gr.refl _⟩
  · subst h; exact ⟨rfl, bytesW_gr _ _ _⟩
theorem atoi_no {l : List UInt8} (h : ∀ v, Lib.atoiAll l ≠ .ok v) (hs : l.length ≤ 1048576) (w : World) (hS : ErrS Tryd.prog w) (hR : ErrR Tryd.prog w) : Calls Tryd.prog 64 #[.string ⟨l.toArray⟩] w fun e w' => ∃ n N, e = .returned (.tuple #[.int .i64 n, .iface 110 (.pointer (some ⟨N, 0, none⟩))]) ∧ Gr w w' := by
  obtain ⟨a, b, hS⟩ := hS
  obtain ⟨a', b', hR⟩ := hR
  have hsz : (⟨l.toArray⟩ : ByteArray).size ≤ 281474976710656 := by simp only [ByteArray.size, List.size_toArray]; omega
  cases h0 : Lib.atoiAll l with
  | ok v => exact absurd h0 (h v)
  | range =>
    refine (Tryd.strconv_Atoi_range_var ⟨l.toArray⟩ hsz (by simpa using h0) a' b' w hR).mono ?_
    rintro e w' ⟨N, rfl, _, _, g⟩
    exact ⟨_, N, rfl, g⟩
  | _ =>
    refine (Any.strconv_Atoi_syntax_var Tryd.laysC172 ⟨l.toArray⟩ hsz (by simpa using h0) a b w hS).mono ?_
    rintro e w' ⟨N, rfl, _, _, g⟩
    exact ⟨_, N, rfl, g⟩
theorem parseI_ok {l : List UInt8} {v : Int} (h : Lib.atoiAll l = .ok v) (h1 : Lib.itoa v = l) (h2 : -999999999 ≤ v) (h3 : v ≤ 999999999) : parseI l = some v := by unfold parseI; rw [h]; exact if_pos ⟨h1, h2, h3⟩
theorem parseI_bad {l : List UInt8} {v : Int} (h : Lib.atoiAll l = .ok v) (h1 : ¬ (Lib.itoa v = l ∧ -999999999 ≤ v ∧ v ≤ 999999999)) : parseI l = none := by unfold parseI; rw [h]; exact if_neg h1
theorem parseI_fail {l : List UInt8} (h : ∀ v, Lib.atoiAll l ≠ .ok v) : parseI l = none := by
  unfold parseI
  split
  · rename_i n hn; exact absurd hn (h n)
  · rfl
set_option maxRecDepth 100000 in
theorem impl_ParseInt (l : List UInt8) (hs : l.length ≤ 1048576) (w : World) (hT : Tens Tryd.prog w) (hS : ErrS Tryd.prog w) (hR : ErrR Tryd.prog w) : Calls Tryd.prog 33 #[.string ⟨l.toArray⟩] w fun e w' => e = .returned (pairI (parseI l)) ∧ Gr w w' := by
  have HS := Lib.hid hs
  have HT := Lib.hid hT
  have HE := Lib.hid hS
  have HR := Lib.hid hR
  clear hs hT hS hR
  by_cases hok : ∃ v, Lib.atoiAll l = .ok v
  · obtain ⟨v, hv⟩ := hok
    have hb := Lib.atoiAll_bounds hv
    have HV := Lib.hid hv
    have HB := Lib.hid (show I64 v from hb)
    by_cases h1 : Lib.itoa v = l
    · subst h1
      by_cases h2 : -999999999 ≤ v ∧ v ≤ 999999999
      · have HF := Lib.hid (parseI_ok hv rfl h2.1 h2.2)
        obtain ⟨h2, h3⟩ := h2
        clear hv hb
        go_enter Tryd.func33, Tryd.ntmps33
        go_wp2_with fail
        refine (atoi_ok HV.out HS.out w).mono ?_
        rintro e w1 ⟨rfl, g1⟩
        go_wp2_with fail
        refine (impl_FormatInt v _ HB.out (tab_gr HT.out g1)).mono ?_
        rintro e w2 ⟨rfl, g2⟩
        go_wp2_with fail
        go_ret2
        exact ⟨by rw [HF.out]; rfl, g1.trans g2⟩
      · have HF := Lib.hid (parseI_bad hv (fun h => h2 h.2))
        have h4 : v < -999999999 ∨ 999999999 < v := by omega
        clear hv hb h2
        rcases h4 with h4 | h4
        · go_enter Tryd.func33, Tryd.ntmps33
          go_wp2_with fail
          refine (atoi_ok HV.out HS.out w).mono ?_
          rintro e w1 ⟨rfl, g1⟩
          go_wp2_with fail
          refine (impl_FormatInt v _ HB.out (tab_gr HT.out g1)).mono ?_
          rintro e w2 ⟨rfl, g2⟩
          go_wp2_with fail
          go_ret2
          exact ⟨by rw [HF.out]; rfl, g1.trans g2⟩
        · have h5 : ¬ v < -999999999 := by omega
          go_enter Tryd.func33, Tryd.ntmps33
          go_wp2_with fail
          refine (atoi_ok HV.out HS.out w).mono ?_
          rintro e w1 ⟨rfl, g1⟩
          go_wp2_with fail
          refine (impl_FormatInt v _ HB.out (tab_gr HT.out g1)).mono ?_
          rintro e w2 ⟨rfl, g2⟩
          go_wp2_with fail
          go_ret2
          exact ⟨by rw [HF.out]; rfl, g1.trans g2⟩
    · have HF := Lib.hid (parseI_bad hv (fun h => h1 h.1))
      have h4 : (Lib.itoa v == l) = false := by simpa using h1
      clear hv hb h1
      go_enter Tryd.func33, Tryd.ntmps33
      go_wp2_with fail
      refine (atoi_ok HV.out HS.out w).mono ?_
      rintro e w1 ⟨rfl, g1⟩
      go_wp2_with fail
      refine (impl_FormatInt v _ HB.out (tab_gr HT.out g1)).mono ?_
      rintro e w2 ⟨rfl, g2⟩
      go_wp2_with fail
      go_ret2
      exact ⟨by rw [HF.out]; rfl, g1.trans g2⟩
  · have HN : Hid (∀ v, Lib.atoiAll l ≠ .ok v) := Lib.hid fun v hv => hok ⟨v, hv⟩
    clear hok
    have HF := Lib.hid (parseI_fail HN.out)
    go_enter Tryd.func33, Tryd.ntmps33
    go_wp2_with fail
    refine (atoi_no HN.out HS.out w HE.out HR.out).mono ?_
    rintro e w1 ⟨n, N, rfl, g1⟩
    go_wp2_with fail
    go_ret2
    exact ⟨by rw [HF.out]; rfl, g1⟩
theorem outS {l : List UInt8} {X : Int} {C : Nat} (hX : scanI l = X) (hC : C = scanK (l.take 11)) :
    (Hid (parseI l = none) ∧ (9 : Int) < (C : Int)) ∨ (Hid (parseI l = none) ∧ ¬ (9 : Int) < (C : Int) ∧ (10 : Int) < (l.length : Int)) ∨
    (Hid (parseI l = none) ∧ ¬ (9 : Int) < (C : Int) ∧ ¬ (10 : Int) < (l.length : Int) ∧ (Lib.itoa X == l) = false) ∨ (Hid (parseI l = some X) ∧ ¬ (9 : Int) < (C : Int) ∧ ¬ (10 : Int) < (l.length : Int) ∧ (Lib.itoa X == l) = true) := by
  rw [← parseS_eq]
  unfold parseS
  rw [hX, ← hC]
  by_cases h1 : 9 < C
  · exact Or.inl ⟨Lib.hid (if_pos (Or.inl h1)), by omega⟩
  · by_cases h2 : 10 < l.length
    · exact Or.inr (Or.inl ⟨Lib.hid (if_pos (Or.inr (Or.inl h2))), by omega, by omega⟩)
    · by_cases h3 : Lib.itoa X = l
      · refine Or.inr (Or.inr (Or.inr ⟨Lib.hid (if_neg ?_), by omega, by omega, by simpa using h3⟩))
        rintro (h | h | h)
        · exact h1 h
        · exact h2 h
        · exact h h3
      · exact Or.inr (Or.inr (Or.inl ⟨Lib.hid (if_pos (Or.inr (Or.inr h3))), by omega, by omega, by simpa using h3⟩))
end Go.Proofs.YtcdcpfcmhmhdjaaDoor
