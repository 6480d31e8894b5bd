/- ParseSet: the program's walk. -/
import Derived.Test.YtcdcpfcmhmhdjaaDoorPSetI
namespace Go.Proofs.YtcdcpfcmhmhdjaaDoor
open Go.RowKit
theorem iw_none {p F R : List UInt8} {IS : Bool} (h : Lib.cut p [45] = (F, R, IS)) (hf : parseI F = none) : implWord p = none := by unfold implWord; rw [h]; simp only [hf]
theorem iw_lone {p F R : List UInt8} {a : Int} (h : Lib.cut p [45] = (F, R, false)) (hf : parseI F = some a) : implWord p = some (a, a) := by unfold implWord; rw [h]; simp only [hf]; rfl
theorem iw_bad {p F R : List UInt8} {a : Int} (h : Lib.cut p [45] = (F, R, true)) (hf : parseI F = some a) (hr : parseI R = none) : implWord p = none := by unfold implWord; rw [h]; simp only [hf, hr]; rfl
theorem iw_two {p F R : List UInt8} {a b : Int} (h : Lib.cut p [45] = (F, R, true)) (hf : parseI F = some a) (hr : parseI R = some b) : implWord p = some (a, b) := by unfold implWord; rw [h]; simp only [hf, hr]; rfl
theorem implAll_go {ps : List (List UInt8)} {k : Nat} {acc : List Int} {a b : Int} (h : k < ps.length) (hw : implWord ps[k] = some (a, b)) (hc : 0 ≤ a ∧ b < 24 ∧ acc.length ≤ 24) : implAll (ps.drop k) acc = implAll (ps.drop (k + 1)) (acc ++ rng a b) := by rw [List.drop_eq_getElem_cons h, implAll, hw]; exact if_pos hc
theorem implAll_no {ps : List (List UInt8)} {k : Nat} {acc : List Int} {a b : Int} (h : k < ps.length) (hw : implWord ps[k] = some (a, b)) (hc : ¬ (0 ≤ a ∧ b < 24 ∧ acc.length ≤ 24)) : implAll (ps.drop k) acc = none := by rw [List.drop_eq_getElem_cons h, implAll, hw]; exact if_neg hc
theorem implAll_bad {ps : List (List UInt8)} {k : Nat} {acc : List Int} (h : k < ps.length) (hw : implWord ps[k] = none) : implAll (ps.drop k) acc = none := by rw [List.drop_eq_getElem_cons h, implAll, hw]
theorem cut_len (p : List UInt8) (c : UInt8) : (Lib.cut p [c]).1.length ≤ p.length ∧ (Lib.cut p [c]).2.1.length ≤ p.length := by
  rcases cut_cut c p with ⟨_, h⟩ | ⟨a, r, h, _, _, h2⟩
  · rw [h]; simp
  · rw [h2, h]; simp; omega
theorem impl_FormatSet_any (v : Value) (xs : List Int) (w : World) (hT : Tens Tryd.prog w) (hv : RInts w v xs) : Calls Tryd.prog 17 #[v] w fun e w' => e = .returned (.string ⟨(setText xs).toArray⟩) ∧ Gr w w' := by
  cases hs : isSetB xs with
  | true => exact impl_FormatSet v xs w hT hv (by have := isSetB_len hs; omega)
  | false =>
    have HS := Lib.hid hs
    have HV := Lib.hid hv
    obtain ⟨a, n, c, rfl⟩ := hv.isSl
    clear hs hv hT
    go_enter Tryd.func17, Tryd.ntmps17
    go_wp2_with fail
    refine (impl_IsSet_of HS.out _ _ HV.out).mono ?_
    rintro e w1 ⟨rfl, g1⟩
    go_wp2_with fail
    go_ret
    exact ⟨ret_str (by rw [setText_no HS.out]), g1⟩
theorem impl_split_of (l : List UInt8) (c : UInt8) (P : List (List UInt8)) (hP : cutL c l = P) (w : World) (hM : MaxL w) (hl : l.length ≤ 1048576) : Calls Tryd.prog 55 #[.string ⟨l.toArray⟩, .string ⟨#[c]⟩] w fun e w' => ∃ g n, e = .returned (.slice (some ⟨g, 0, none⟩) P.length n) ∧ Gr w w' ∧ Hid (StrsAt w' g P ∧ w.heap.size ≤ g) := hP ▸ impl_split l c w hM hl
theorem impl_cut_of (l : List UInt8) (c : UInt8) {F R : List UInt8} {IS : Bool} (h : Lib.cut l [c] = (F, R, IS)) (w : World) (hM : MaxL w) (hl : l.length ≤ 1048576) : Calls Tryd.prog 56 #[.string ⟨l.toArray⟩, .string ⟨#[c]⟩] w fun e w' => e = .returned (.tuple #[.string ⟨F.toArray⟩, .string ⟨R.toArray⟩, .bool IS]) ∧ Gr w w' := by
  have := impl_cut l c w hM hl
  rw [h] at this; exact this
theorem impl_ParseInt_no {l : List UInt8} (h : parseI l = none) (hs : l.length ≤ 1048576) (w : World) (hT : Tens Tryd.prog w) (hS : ErrS Tryd.prog w) (hR : ErrR Tryd.prog w) : Calls Tryd.prog 33 #[.string ⟨l.toArray⟩] w fun e w' => e = .returned (.tuple #[.int .i64 0, .bool false]) ∧ Gr w w' := by
  have := impl_ParseInt l hs w hT hS hR
  rw [h] at this; exact this
theorem impl_ParseInt_yes {l : List UInt8} {n : Int} (h : parseI l = some n) (hs : l.length ≤ 1048576) (w : World) (hT : Tens Tryd.prog w) (hS : ErrS Tryd.prog w) (hR : ErrR Tryd.prog w) : Calls Tryd.prog 33 #[.string ⟨l.toArray⟩] w fun e w' => e = .returned (.tuple #[.int .i64 n, .bool true]) ∧ Gr w w' := by
  have := impl_ParseInt l hs w hT hS hR
  rw [h] at this; exact this
set_option maxRecDepth 100000 in
set_option maxHeartbeats 8000000 in
theorem impl_ParseSet (l : List UInt8) (w : World) (hl : l.length ≤ 1048576) (hT : Tens Tryd.prog w) (hS : ErrS Tryd.prog w) (hR : ErrR Tryd.prog w) (hM : MaxL w) : Calls Tryd.prog 18 #[.string ⟨l.toArray⟩] w fun e w' => ∃ r, e = .returned (.tuple #[r, .bool (implSet l).isSome]) ∧ Gr w w' ∧ PInts (In w.heap.size w'.heap.size) w' r ((implSet l).getD []) := by
  have HL := Lib.hid hl
  have HT := Lib.hid hT
  have HES := Lib.hid hS
  have HER := Lib.hid hR
  have HM := Lib.hid hM
  have hown0 := own_empty w 3 1 w.heap.size (Nat.le_refl _)
  have g0 : Gr w (w.alloc (.cells #[] 3)) := (Gr.refl w).alloc _
  clear hl hT hS hR hM
  by_cases hn : l = noneT
  · have HE := Lib.hid (implSet_none hn)
    have h1 : (l == [110, 111, 110, 101]) = true := by rw [hn]; rfl
    have HR : Hid (PInts (In w.heap.size (w.alloc (.cells #[] 3)).heap.size) (w.alloc (.cells #[] 3)) (.slice (some ⟨w.heap.size, 0, none⟩) 0 0) []) := Lib.hid (own_priv (ns := []) hown0 (by simp))
    clear hn
    go_enter Tryd.func18, Tryd.ntmps18
    go_wp2_with fail
    go_ret2
    exact ⟨_, by rw [HE.out]; rfl, g0, by rw [HE.out]; exact HR.out⟩
  · have HNN := Lib.hid hn
    have h1 : (l == [110, 111, 110, 101]) = false := by rw [beq_eq_false_iff_ne]; exact hn
    clear hn
    go_enter Tryd.func18, Tryd.ntmps18
    go_wp2_with fail
    obtain ⟨P, HP⟩ : ∃ P, Hid (P = cutL 32 l) := ⟨_, Lib.hid rfl⟩
    refine (impl_split_of l 32 P HP.out.symm _ (maxL_gr HM.out g0) HL.out).mono ?_
    rintro e w1 ⟨g, n, rfl, g1, HSt⟩
    have G1 : Gr w w1 := g0.trans g1
    have hown1 := ownsRow_gr hown0 g1
    have HPL : Hid (P.length ≤ 1048577) := Lib.hid (by rw [HP.out]; have := cutL_count 32 l; have := HL.out; omega)
    have HPC0 : Hid (Pcs w1 g P (.slice (some ⟨w.heap.size, 0, none⟩) 0 0)) := Lib.hid ⟨HSt.out.1, fun e => by have h1 := HSt.out.2; have h2 : w.heap.size = g := Option.some.inj e; simp at h1; omega⟩
    have HP0 : Hid (0 < P.length) := Lib.hid (by rw [HP.out]; exact List.length_pos_iff.2 (cutL_ne 32 l))
    clear hown0 g0
    go_wp2_with fail
    go_loopw [4, 23] (fun ov iv wr => ∃ (k : Nat) (acc : List Int) (sa : Option Addr) (sc : Nat), k ≤ P.length ∧ iv = .int .i64 k ∧ ov = .slice sa acc.length sc ∧ OwnI wr w.heap.size ov acc ∧ Hid (implAll P [] = implAll (P.drop k) acc ∧ acc.length ≤ 24 * k ∧ ∀ x ∈ acc, I64 x) ∧ Hid (Pcs wr g P ov) ∧ Gr w wr) (fun _ i _ => P.length - (intOf i).toNat)
    case atStart => exact ⟨0, [], _, _, Nat.zero_le _, rfl, rfl, hown1, Lib.hid ⟨by simp, by simp, by simp⟩, HPC0, G1⟩
    case round =>
      obtain ⟨k, acc, sa, sc, hk, rfl, rfl, hown, hst, hpc, hg⟩ := hrel
      by_cases hlt : k < P.length
      · have HLT := Lib.hid hlt
        have HGO : Hid (∀ a b, implWord P[k] = some (a, b) → (0 ≤ a ∧ b < 24 ∧ acc.length ≤ 24) → implAll (P.drop k) acc = implAll (P.drop (k + 1)) (acc ++ rng a b)) := Lib.hid (fun a b h hc => implAll_go hlt h hc)
        have HNO : Hid (∀ a b, implWord P[k] = some (a, b) → ¬ (0 ≤ a ∧ b < 24 ∧ acc.length ≤ 24) → implAll (P.drop k) acc = none) := Lib.hid (fun a b h hc => implAll_no hlt h hc)
        have HBAD : Hid (implWord P[k] = none → implAll (P.drop k) acc = none) := Lib.hid (fun h => implAll_bad hlt h)
        have c0 : wr.cell? ⟨g, k, none⟩ = some (.string ⟨P[k].toArray⟩) := hpc.out.1 k hlt
        have HpM : Hid (P[k] ∈ P) := Lib.hid (List.getElem_mem hlt)
        generalize P[k] = p at HGO HNO HBAD c0 HpM
        have HpL : Hid (p.length ≤ 1048576) := Lib.hid (by
          have h2 : p ∈ cutL 32 l := by rw [← HP.out]; exact HpM.out
          have := cutL_len 32 l p h2; have := HL.out; omega)
        have i0 : (0 : Int) ≤ (k : Int) := Int.natCast_nonneg _
        have i1 : (k : Int) < (P.length : Int) := by omega
        have i2 : (P.length : Int) ≤ 1048577 := by have := HPL.out; omega
        have HOW := Lib.hid hown
        have HFAIL : Hid (implWord p = none → implSet l = none) := Lib.hid (fun h => implSet_bad HNN.out (by rw [← HP.out, hst.out.1]; exact HBAD.out h))
        obtain ⟨F, R, IS, HC⟩ : ∃ F R IS, Hid (Lib.cut p [45] = (F, R, IS)) := ⟨_, _, _, Lib.hid rfl⟩
        have HFL : Hid (F.length ≤ 1048576) := Lib.hid (by have h := (cut_len p 45).1; rw [HC.out] at h; have := HpL.out; simp only at h; omega)
        have HRL : Hid (R.length ≤ 1048576) := Lib.hid (by have h := (cut_len p 45).2; rw [HC.out] at h; have := HpL.out; simp only at h; omega)
        clear hk hown
        cases hF : parseI F with
        | none =>
          have HF := Lib.hid hF
          have HB := Lib.hid (HFAIL.out (iw_none HC.out hF))
          clear hF
          cases IS with
          | false =>
            go_wp2_with fail
            refine (impl_cut_of p 45 HC.out _ (maxL_gr HM.out hg) HpL.out).mono ?_
            rintro e w2 ⟨rfl, gr2⟩
            have H2 := Lib.hid (hg.trans gr2)
            go_wp2_with fail
            refine (impl_ParseInt_no HF.out HFL.out _ (tab_gr HT.out H2.out) (errS_gr HES.out H2.out) (errR_gr HER.out H2.out)).mono ?_
            rintro e w3 ⟨rfl, gr3⟩
            go_wp2_with fail
            go_ret2
            exact ⟨_, by rw [HB.out]; rfl, H2.out.trans gr3, by rw [HB.out]; exact OSl.nil _⟩
          | true =>
            cases hR : parseI R with
            | none =>
              have HRn := Lib.hid hR
              clear hR
              go_wp2_with fail
              refine (impl_cut_of p 45 HC.out _ (maxL_gr HM.out hg) HpL.out).mono ?_
              rintro e w2 ⟨rfl, gr2⟩
              have H2 := Lib.hid (hg.trans gr2)
              go_wp2_with fail
              refine (impl_ParseInt_no HF.out HFL.out _ (tab_gr HT.out H2.out) (errS_gr HES.out H2.out) (errR_gr HER.out H2.out)).mono ?_
              rintro e w3 ⟨rfl, gr3⟩
              have H3 := Lib.hid (H2.out.trans gr3)
              go_wp2_with fail
              refine (impl_ParseInt_no HRn.out HRL.out _ (tab_gr HT.out H3.out) (errS_gr HES.out H3.out) (errR_gr HER.out H3.out)).mono ?_
              rintro e w4 ⟨rfl, gr4⟩
              go_wp2_with fail
              go_ret2
              exact ⟨_, by rw [HB.out]; rfl, H3.out.trans gr4, by rw [HB.out]; exact OSl.nil _⟩
            | some b =>
              have HRn := Lib.hid hR
              clear hR
              go_wp2_with fail
              refine (impl_cut_of p 45 HC.out _ (maxL_gr HM.out hg) HpL.out).mono ?_
              rintro e w2 ⟨rfl, gr2⟩
              have H2 := Lib.hid (hg.trans gr2)
              go_wp2_with fail
              refine (impl_ParseInt_no HF.out HFL.out _ (tab_gr HT.out H2.out) (errS_gr HES.out H2.out) (errR_gr HER.out H2.out)).mono ?_
              rintro e w3 ⟨rfl, gr3⟩
              have H3 := Lib.hid (H2.out.trans gr3)
              go_wp2_with fail
              refine (impl_ParseInt_yes HRn.out HRL.out _ (tab_gr HT.out H3.out) (errS_gr HES.out H3.out) (errR_gr HER.out H3.out)).mono ?_
              rintro e w4 ⟨rfl, gr4⟩
              go_wp2_with fail
              go_ret2
              exact ⟨_, by rw [HB.out]; rfl, H3.out.trans gr4, by rw [HB.out]; exact OSl.nil _⟩
        | some A =>
          have HF := Lib.hid hF
          clear hF
          cases IS with
          | false =>
            have HW := Lib.hid (iw_lone HC.out HF.out)
            go_wp2_with fail
            refine (impl_cut_of p 45 HC.out _ (maxL_gr HM.out hg) HpL.out).mono ?_
            rintro e w2 ⟨rfl, gr2⟩
            have H2 := Lib.hid (hg.trans gr2)
            go_wp2_with fail
            refine (impl_ParseInt_yes HF.out HFL.out _ (tab_gr HT.out H2.out) (errS_gr HES.out H2.out) (errR_gr HER.out H2.out)).mono ?_
            rintro e w4 ⟨rfl, gr4⟩
            have G4 : Gr wr w4 := gr2.trans gr4
            have HNOB : Hid (¬ (0 ≤ A ∧ A < 24 ∧ acc.length ≤ 24) → implSet l = none) := Lib.hid (fun h => implSet_bad HNN.out (by rw [← HP.out, hst.out.1]; exact HNO.out _ _ HW.out h))
            by_cases k1 : A < 0
            · have HB := Lib.hid (HNOB.out (by omega))
              go_wp2_with fail
              go_ret2
              exact ⟨_, by rw [HB.out]; rfl, hg.trans G4, by rw [HB.out]; exact OSl.nil _⟩
            · by_cases k2 : 24 ≤ A
              · have HB := Lib.hid (HNOB.out (by omega))
                go_wp2_with fail
                go_ret2
                exact ⟨_, by rw [HB.out]; rfl, hg.trans G4, by rw [HB.out]; exact OSl.nil _⟩
              · by_cases k3 : (24 : Int) < (acc.length : Int)
                · have HB := Lib.hid (HNOB.out (by omega))
                  go_wp2_with fail
                  go_ret2
                  exact ⟨_, by rw [HB.out]; rfl, hg.trans G4, by rw [HB.out]; exact OSl.nil _⟩
                · have HOk : Hid (implAll P [] = implAll (P.drop (k + 1)) (acc ++ rng A A)) := Lib.hid (by rw [hst.out.1]; exact HGO.out _ _ HW.out (by omega))
                  have HOW4 := Lib.hid (ownsRow_gr HOW.out G4)
                  have HAB : Hid (0 ≤ A ∧ A ≤ 23) := Lib.hid (by omega)
                  have hA0 : 0 ≤ A := by omega
                  have hB23 : A ≤ 23 := by omega
                  go_wp2_with fail
                  go_loopw [4, 15] (fun ov xv wr => ∃ (j : Nat) (ns : List Int) (sa : Option Addr) (sc : Nat), j ≤ (A - A + 1).toNat ∧ xv = .int .i64 (A + j) ∧ ov = .slice sa ns.length sc ∧ OwnI wr w.heap.size ov ns ∧ Hid (ns = acc ++ rngK A j) ∧ Hid (Pcs wr g P ov) ∧ Gr w wr) (fun _ x _ => (A + 1 - intOf x).toNat)
                  case atStart => exact ⟨0, acc, sa, sc, Nat.zero_le _, by simp, rfl, HOW4.out, Lib.hid (rngK_zero acc A).symm, Lib.hid (hpc.out.gr G4), hg.trans G4⟩
                  case round =>
                    obtain ⟨j, ns, sa', sc', hj, rfl, rfl, hown, hns, hpc5, hg5⟩ := hrel
                    have hab := HAB.out
                    have hnl : ns.length = acc.length + j := by rw [hns.out, List.length_append, rngK_len]
                    have HNL := Lib.hid hnl
                    have hj2 := Lib.hid hj
                    clear hnl hj
                    by_cases hx : A + (j : Int) ≤ A
                    · have HNN2 : Hid (ns.length + 1 ≤ 17592186044416) := Lib.hid (by
                        have h1 := hst.out.2.1; have h2 := HLT.out; have h3 := HPL.out
                        rw [HNL.out]; omega)
                      have HO := Lib.hid hown
                      have HX := Lib.hid hx
                      have HNX : Hid (ns ++ [A + (j : Int)] = acc ++ rngK A (j + 1)) := Lib.hid (by rw [rngK_next, hns.out])
                      clear hown
                      go_wp2_with (at_builtin; refine push_ik rfl _ _ rfl ns (A + (j : Int)) rfl rfl rfl HO.out HNN2.out hg5.size ?_; intro g6 cap6 w6 hown6 hb6 hc6 hd6)
                      have HPC6 : Hid (Pcs w6 g P (.slice (some ⟨g6, 0, none⟩) (ns.length + 1) cap6)) := Lib.hid (hpc5.out.push HP0.out hc6 hd6)
                      clear hc6 hd6
                      go_roundw
                      case rel => exact ⟨j + 1, ns ++ [A + (j : Int)], some ⟨g6, 0, none⟩, cap6, by have := HX.out; omega, by congr 1; omega, by simp, own_len_i hown6, HNX, HPC6, hg5.trans' hb6⟩
                      case measure => have := HX.out; simp only [intOf]; omega
                    · have hjj : j = (A - A + 1).toNat := by have := hj2.out; omega
                      have HNS : Hid (ns = acc ++ rng A A) := Lib.hid (by rw [← rngK_all, ← hjj]; exact hns.out)
                      have HI64 : Hid (∀ x ∈ ns, I64 x) := Lib.hid (by
                        rw [HNS.out, ← rngK_all, ← hjj]
                        by_cases h0 : j = 0
                        · rw [h0, rngK_zero]; exact hst.out.2.2
                        · exact rngK_i64 hst.out.2.2 hab.1 (by omega))
                      have HLN : Hid (ns.length ≤ 24 * (k + 1)) := Lib.hid (by rw [HNL.out]; have := hst.out.2.1; omega)
                      have HOk2 : Hid (implAll P [] = implAll (P.drop (k + 1)) ns) := Lib.hid (by rw [HNS.out]; exact HOk.out)
                      clear hjj
                      go_wp2_with fail
                      go_roundw
                      case rel => exact ⟨k + 1, ns, sa', sc', HLT.out, by go_num, rfl, hown, Lib.hid ⟨HOk2.out, HLN.out, HI64.out⟩, hpc5, hg5⟩
                      case measure => have := HLT.out; simp only [intOf]; omega
          | true =>
            cases hR : parseI R with
            | none =>
              have HRn := Lib.hid hR
              have HB := Lib.hid (HFAIL.out (iw_bad HC.out HF.out hR))
              clear hR
              go_wp2_with fail
              refine (impl_cut_of p 45 HC.out _ (maxL_gr HM.out hg) HpL.out).mono ?_
              rintro e w2 ⟨rfl, gr2⟩
              have H2 := Lib.hid (hg.trans gr2)
              go_wp2_with fail
              refine (impl_ParseInt_yes HF.out HFL.out _ (tab_gr HT.out H2.out) (errS_gr HES.out H2.out) (errR_gr HER.out H2.out)).mono ?_
              rintro e w3 ⟨rfl, gr3⟩
              have H3 := Lib.hid (H2.out.trans gr3)
              go_wp2_with fail
              refine (impl_ParseInt_no HRn.out HRL.out _ (tab_gr HT.out H3.out) (errS_gr HES.out H3.out) (errR_gr HER.out H3.out)).mono ?_
              rintro e w4 ⟨rfl, gr4⟩
              go_wp2_with fail
              go_ret2
              exact ⟨_, by rw [HB.out]; rfl, H3.out.trans gr4, by rw [HB.out]; exact OSl.nil _⟩
            | some B =>
              have HRn := Lib.hid hR
              have HW := Lib.hid (iw_two HC.out HF.out hR)
              clear hR
              go_wp2_with fail
              refine (impl_cut_of p 45 HC.out _ (maxL_gr HM.out hg) HpL.out).mono ?_
              rintro e w2 ⟨rfl, gr2⟩
              have H2 := Lib.hid (hg.trans gr2)
              go_wp2_with fail
              refine (impl_ParseInt_yes HF.out HFL.out _ (tab_gr HT.out H2.out) (errS_gr HES.out H2.out) (errR_gr HER.out H2.out)).mono ?_
              rintro e w3 ⟨rfl, gr3⟩
              have H3 := Lib.hid (H2.out.trans gr3)
              go_wp2_with fail
              refine (impl_ParseInt_yes HRn.out HRL.out _ (tab_gr HT.out H3.out) (errS_gr HES.out H3.out) (errR_gr HER.out H3.out)).mono ?_
              rintro e w4 ⟨rfl, gr4⟩
              have G4 : Gr wr w4 := gr2.trans (gr3.trans gr4)
              have HNOB : Hid (¬ (0 ≤ A ∧ B < 24 ∧ acc.length ≤ 24) → implSet l = none) := Lib.hid (fun h => implSet_bad HNN.out (by rw [← HP.out, hst.out.1]; exact HNO.out _ _ HW.out h))
              by_cases k1 : A < 0
              · have HB := Lib.hid (HNOB.out (by omega))
                go_wp2_with fail
                go_ret2
                exact ⟨_, by rw [HB.out]; rfl, hg.trans G4, by rw [HB.out]; exact OSl.nil _⟩
              · by_cases k2 : 24 ≤ B
                · have HB := Lib.hid (HNOB.out (by omega))
                  go_wp2_with fail
                  go_ret2
                  exact ⟨_, by rw [HB.out]; rfl, hg.trans G4, by rw [HB.out]; exact OSl.nil _⟩
                · by_cases k3 : (24 : Int) < (acc.length : Int)
                  · have HB := Lib.hid (HNOB.out (by omega))
                    go_wp2_with fail
                    go_ret2
                    exact ⟨_, by rw [HB.out]; rfl, hg.trans G4, by rw [HB.out]; exact OSl.nil _⟩
                  · have HOk : Hid (implAll P [] = implAll (P.drop (k + 1)) (acc ++ rng A B)) := Lib.hid (by rw [hst.out.1]; exact HGO.out _ _ HW.out (by omega))
                    have HOW4 := Lib.hid (ownsRow_gr HOW.out G4)
                    have HAB : Hid (0 ≤ A ∧ B ≤ 23) := Lib.hid (by omega)
                    have hA0 : 0 ≤ A := by omega
                    have hB23 : B ≤ 23 := by omega
                    go_wp2_with fail
                    go_loopw [4, 15] (fun ov xv wr => ∃ (j : Nat) (ns : List Int) (sa : Option Addr) (sc : Nat), j ≤ (B - A + 1).toNat ∧ xv = .int .i64 (A + j) ∧ ov = .slice sa ns.length sc ∧ OwnI wr w.heap.size ov ns ∧ Hid (ns = acc ++ rngK A j) ∧ Hid (Pcs wr g P ov) ∧ Gr w wr) (fun _ x _ => (B + 1 - intOf x).toNat)
                    case atStart => exact ⟨0, acc, sa, sc, Nat.zero_le _, by simp, rfl, HOW4.out, Lib.hid (rngK_zero acc A).symm, Lib.hid (hpc.out.gr G4), hg.trans G4⟩
                    case round =>
                      obtain ⟨j, ns, sa', sc', hj, rfl, rfl, hown, hns, hpc5, hg5⟩ := hrel
                      have hab := HAB.out
                      have hnl : ns.length = acc.length + j := by rw [hns.out, List.length_append, rngK_len]
                      have HNL := Lib.hid hnl
                      have hj2 := Lib.hid hj
                      clear hnl hj
                      by_cases hx : A + (j : Int) ≤ B
                      · have HNN2 : Hid (ns.length + 1 ≤ 17592186044416) := Lib.hid (by
                          have h1 := hst.out.2.1; have h2 := HLT.out; have h3 := HPL.out
                          rw [HNL.out]; omega)
                        have HO := Lib.hid hown
                        have HX := Lib.hid hx
                        have HNX : Hid (ns ++ [A + (j : Int)] = acc ++ rngK A (j + 1)) := Lib.hid (by rw [rngK_next, hns.out])
                        clear hown
                        go_wp2_with (at_builtin; refine push_ik rfl _ _ rfl ns (A + (j : Int)) rfl rfl rfl HO.out HNN2.out hg5.size ?_; intro g6 cap6 w6 hown6 hb6 hc6 hd6)
                        have HPC6 : Hid (Pcs w6 g P (.slice (some ⟨g6, 0, none⟩) (ns.length + 1) cap6)) := Lib.hid (hpc5.out.push HP0.out hc6 hd6)
                        clear hc6 hd6
                        go_roundw
                        case rel => exact ⟨j + 1, ns ++ [A + (j : Int)], some ⟨g6, 0, none⟩, cap6, by have := HX.out; omega, by congr 1; omega, by simp, own_len_i hown6, HNX, HPC6, hg5.trans' hb6⟩
                        case measure => have := HX.out; simp only [intOf]; omega
                      · have hjj : j = (B - A + 1).toNat := by have := hj2.out; omega
                        have HNS : Hid (ns = acc ++ rng A B) := Lib.hid (by rw [← rngK_all, ← hjj]; exact hns.out)
                        have HI64 : Hid (∀ x ∈ ns, I64 x) := Lib.hid (by
                          rw [HNS.out, ← rngK_all, ← hjj]
                          by_cases h0 : j = 0
                          · rw [h0, rngK_zero]; exact hst.out.2.2
                          · exact rngK_i64 hst.out.2.2 hab.1 (by omega))
                        have HLN : Hid (ns.length ≤ 24 * (k + 1)) := Lib.hid (by rw [HNL.out]; have := hst.out.2.1; omega)
                        have HOk2 : Hid (implAll P [] = implAll (P.drop (k + 1)) ns) := Lib.hid (by rw [HNS.out]; exact HOk.out)
                        clear hjj
                        go_wp2_with fail
                        go_roundw
                        case rel => exact ⟨k + 1, ns, sa', sc', HLT.out, by go_num, rfl, hown, Lib.hid ⟨HOk2.out, HLN.out, HI64.out⟩, hpc5, hg5⟩
                        case measure => have := HLT.out; simp only [intOf]; omega
      · obtain rfl : k = P.length := by omega
        have HO := Lib.hid hown
        have HRI := Lib.hid (own_priv hown hst.out.2.2)
        have HAl : Hid (implAll (cutL 32 l) [] = some acc) := Lib.hid (by rw [← HP.out, hst.out.1, List.drop_length]; rfl)
        have HI6 : Hid (∀ x ∈ acc, I64 x) := Lib.hid hst.out.2.2
        clear hlt hk hst hown
        by_cases ht : setText acc = l
        · have HE := Lib.hid (implSet_yes HNN.out HAl.out ht)
          have h2 : (l == l) = true := by simp
          go_wp2_with fail
          refine (calls_str (impl_FormatSet_any _ acc _ (tab_gr HT.out hg) (rd_pints HRI.out)) ht).mono ?_
          rintro e w2 ⟨rfl, g2⟩
          go_wp2_with fail
          go_ret2
          exact ⟨_, by rw [HE.out]; rfl, hg.trans g2, by rw [HE.out]; exact own_priv (ownsRow_gr HO.out g2) HI6.out⟩
        · have HE := Lib.hid (implSet_no HNN.out HAl.out ht)
          have h2 : (setText acc == l) = false := by simpa using ht
          clear ht
          go_wp2_with fail
          refine (impl_FormatSet_any _ acc _ (tab_gr HT.out hg) (rd_pints HRI.out)).mono ?_
          rintro e w2 ⟨rfl, g2⟩
          go_wp2_with fail
          go_ret2
          exact ⟨_, by rw [HE.out]; rfl, hg.trans g2, by rw [HE.out]; exact OSl.nil _⟩
end Go.Proofs.YtcdcpfcmhmhdjaaDoor
