/- StabIndex: the reference's walk. Written by gen_stabi.py. -/
import Derived.Test.YtcdcpfcmhmhdjaaStabiI
namespace Go.Proofs.Ytcdcpfcmhmhdjaa
open Go.RowKit
set_option maxRecDepth 100000 in
set_option maxHeartbeats 2000000 in
theorem spec_StabIndex (v0 : Value) (xs : List DQuery) (f : Int) (w : World) (hv : RQueries w v0 xs) :
    Calls Try.prog 36 #[v0, .int .i64 f] w fun e w' => ∃ u, e = .returned u ∧ Gr w w' ∧ PSpans (In w.heap.size w'.heap.size) w' u (idxL xs f) := by
  obtain ⟨a, n, c, rfl⟩ := hv.isSl
  have HV := Lib.hid hv
  clear hv
  have HST : Hid (PSpans (In w.heap.size (w.alloc (.cells #[] 83)).heap.size) (w.alloc (.cells #[] 83)) (.slice (some ⟨w.heap.size, 0, none⟩) 0 0) []) := Lib.hid (OSl.made w ⟨Nat.le_refl _, by simp⟩)
  have g0 : Gr w (w.alloc (.cells #[] 83)) := (Gr.refl _).alloc _
  cases h1 : areQueriesB xs with
  | false =>
    have HE := Lib.hid (idxL_no1 (f := f) h1)
    have H1 := Lib.hid h1
    clear h1
    go_enter Try.func36, Try.ntmps36
    go_wp2_with fail
    refine (calls_b (spec_AreQueries _ xs _ (RSlice.mono keeps_query g0 HV.out)) H1.out).mono ?_
    rintro e w1 ⟨rfl, g1⟩
    go_wp2_with fail
    go_ret
    exact ⟨_, rfl, g0.trans g1, by rw [HE.out]; exact (HST.out.gr fr_span g1).wide (Nat.le_refl _) g1.size⟩
  | true =>
    cases h2 : inB f 0 2 with
    | false =>
      have HE := Lib.hid (idxL_no2 (xs := xs) h2)
      have H1 := Lib.hid h1
      have H2 := Lib.hid h2
      clear h1 h2
      go_enter Try.func36, Try.ntmps36
      go_wp2_with fail
      refine (calls_b (spec_AreQueries _ xs _ (RSlice.mono keeps_query g0 HV.out)) H1.out).mono ?_
      rintro e w1 ⟨rfl, g1⟩
      go_wp2_with fail
      refine (calls_b (spec_l1In _ _ _ _) H2.out).mono ?_
      rintro e w2 ⟨rfl, rfl⟩
      go_wp2_with fail
      go_ret
      exact ⟨_, rfl, g0.trans g1, by rw [HE.out]; exact (HST.out.gr fr_span g1).wide (Nat.le_refl _) g1.size⟩
    | true =>
      have HE := Lib.hid (idxL_yes h1 h2)
      have HL := Lib.hid (areQueriesB_len h1)
      have H1 := Lib.hid h1
      have H2 := Lib.hid h2
      clear h1 h2
      go_enter Try.func36, Try.ntmps36
      go_wp2_with fail
      refine (calls_b (spec_AreQueries _ xs _ (RSlice.mono keeps_query g0 HV.out)) H1.out).mono ?_
      rintro e w1 ⟨rfl, g1⟩
      have gw1 := g0.trans g1
      have HS1 : Hid (PSpans (In w.heap.size w1.heap.size) w1 (.slice (some ⟨w.heap.size, 0, none⟩) 0 0) []) := Lib.hid ((HST.out.gr fr_span g1).wide (Nat.le_refl _) g1.size)
      go_wp2_with fail
      refine (calls_b (spec_l1In _ _ _ _) H2.out).mono ?_
      rintro e w2 ⟨rfl, rfl⟩
      go_wp2
      go_loopw [5, 6] (fun out i wr => ∃ (k n : Nat) (b : Option Addr) (c : Nat) (ys : List DSpan), k ≤ 100 ∧ i = .int .i64 k ∧ out = .slice b n c ∧ Hid (PSpans (In w.heap.size wr.heap.size) wr out ys) ∧ Gr w wr ∧ Hid (ys = idxTo xs f k) ∧ Hid (ys.length = n) ∧ n ≤ k) (fun _ i _ => 100 - (intOf i).toNat)
      case atStart => exact ⟨0, 0, _, _, [], Nat.zero_le _, rfl, rfl, HS1, gw1, Lib.hid rfl, Lib.hid rfl, Nat.le_refl _⟩
      case round =>
        obtain ⟨k, n', bo, co, ys, hk, rfl, rfl, ho, hgr, hys, hyl, hnk⟩ := hrel
        by_cases hlt : k < 100
        · have i0 : (0 : Int) ≤ (k : Int) := Int.natCast_nonneg _
          have i1 : (k : Int) ≤ 99 := by omega
          have HK : Hid (I64 (k : Int)) := Lib.hid (by unfold I64; omega)
          have HSZ := Lib.hid hgr.size
          go_wp2_with fail
          refine (spec_StabSet _ xs _ _ _ (RSlice.mono keeps_query hgr HV.out)).mono ?_
          rintro e w3 ⟨u, rfl, g3, hs⟩
          rw [show stabSetL xs f (k : Int) = stabL xs f (k : Int) from stabSetL_yes (stabOk_yes H1.out H2.out (inB_mk i0 i1))] at hs
          obtain ⟨ua, un, uc, rfl⟩ := hs.isSl
          have HS := Lib.hid hs
          clear hs
          have gw3 := hgr.trans g3
          rcases n' with _ | m
          · have HI : Hid (idxTo xs f (k + 1) = ys ++ [⟨(k : Int), (k : Int), stabL xs f (k : Int)⟩]) := Lib.hid (by unfold idxTo; rw [← hys.out]; exact step_empty hyl.out)
            have HB : Hid ((ys.length + 1) * 40 ≤ 140737488355328) := Lib.hid (by have := hyl.out; omega)
            go_wp2_with (at_builtin; refine push_o (w0 := wr) (wr := w3) (la := wr.heap.size) (hb := w3.heap.size) (lo := w.heap.size) 60 83 3 40 Try.underlying60 (z := .agg #[.int .i64 0, .int .i64 0, .slice none 0 0]) (by kernel_rfl) rfl (by decide) (by decide) rfl _ _ rfl fr_span ⟨(k : Int), (k : Int), stabL xs f (k : Int)⟩ [.int .i64 (k : Int), .int .i64 (k : Int), .slice ua un uc] rfl rfl rfl ho.out HSZ.out g3 ⟨_, rfl, HK.out, HK.out, HS.out⟩ (Nat.le_refl _) (Nat.le_refl _) rfl (by simp [Value.oneCell']) HB.out ?_; intro g4 cap4 w4 hown4 hb4)
            go_roundw
            case rel => exact ⟨k + 1, _, _, _, ys ++ [⟨(k : Int), (k : Int), stabL xs f (k : Int)⟩], by omega, by go_num, rfl, Lib.hid (by have h := hown4; rw [List.length_append] at h; exact h), gw3.trans' hb4, Lib.hid HI.out.symm, Lib.hid (by simp), by have := hyl.out; simp; omega⟩
            case measure => simp [intOf]; omega
          · have hm : m < ys.length := by have := hyl.out; omega
            have HM := Lib.hid hm
            have ho3 := ho.out.gr fr_span g3
            obtain ⟨cs, G, hrow, hparts⟩ := ho3.parts
            rw [hyl.out] at hrow
            obtain ⟨g, rfl⟩ := row_ptr hrow (by omega)
            obtain ⟨hcl, ⟨u_, hcs, i_lo, i_hi, h_set⟩, hG, _⟩ := hparts.2 m hm
            have hr0 : w3.ownsRow 0 83 3 (.slice (some ⟨g, 0, none⟩) (m + 1) co) (m + 1) (flatC 3 (m + 1) (updC cs m [.int .i64 ys[m].lo, .int .i64 ys[m].hi, u_])) := by have h := hrow; rw [← updC_same cs m, hcs] at h; exact h
            obtain ⟨k0, f0⟩ := row_cell (j := 0) hr0 (Nat.lt_succ_self m) (by rw [updC_at]; rfl) (by rw [updC_at]; rfl) (p := m * 3) rfl
            obtain ⟨k1, f1⟩ := row_cell (j := 1) hr0 (Nat.lt_succ_self m) (by rw [updC_at]; rfl) (by rw [updC_at]; rfl) (p := m * 3 + 1) rfl
            obtain ⟨k2, f2⟩ := row_cell (j := 2) hr0 (Nat.lt_succ_self m) (by rw [updC_at]; rfl) (by rw [updC_at]; rfl) (p := m * 3 + 2) rfl
            have HR0 := Lib.hid hr0
            have HP := Lib.hid hparts
            have HU := Lib.hid h_set
            have HO := Lib.hid ho
            clear hr0 hparts hrow hG ho3 hcl ho
            obtain ⟨sa, sn, rfl⟩ := (rd_pints HU.out).form
            cases he : eqL ys[m].set (stabL xs f (k : Int)) with
            | false =>
              have HI : Hid (idxTo xs f (k + 1) = ys ++ [⟨(k : Int), (k : Int), stabL xs f (k : Int)⟩]) := Lib.hid (by unfold idxTo; rw [← hys.out]; exact step_new hyl.out hm he)
              have HB : Hid ((ys.length + 1) * 40 ≤ 140737488355328) := Lib.hid (by have := hyl.out; omega)
              have HQ := Lib.hid he
              clear he
              go_wp2_with fail
              refine (calls_b (spec_l2Ints _ _ ys[m].set (stabL xs f (k : Int)) _ (rd_pints HU.out) (rd_pints HS.out)) HQ.out).mono ?_
              rintro e w4 ⟨rfl, g4⟩
              have gr4 := g3.trans g4
              have HS4 := Lib.hid (HS.out.gr fr_int g4)
              have HSZ4 := Lib.hid g4.size
              go_wp2_with (at_builtin; refine push_o (w0 := wr) (wr := w4) (la := wr.heap.size) (hb := w3.heap.size) (lo := w.heap.size) 60 83 3 40 Try.underlying60 (z := .agg #[.int .i64 0, .int .i64 0, .slice none 0 0]) (by kernel_rfl) rfl (by decide) (by decide) rfl _ _ rfl fr_span ⟨(k : Int), (k : Int), stabL xs f (k : Int)⟩ [.int .i64 (k : Int), .int .i64 (k : Int), .slice ua un uc] rfl rfl rfl HO.out HSZ.out gr4 ⟨_, rfl, HK.out, HK.out, HS4.out⟩ (Nat.le_refl _) HSZ4.out rfl (by simp [Value.oneCell']) HB.out ?_; intro g5 cap5 w5 hown5 hb5)
              go_roundw
              case rel => exact ⟨k + 1, _, _, _, ys ++ [⟨(k : Int), (k : Int), stabL xs f (k : Int)⟩], by omega, by go_num, rfl, Lib.hid (by have h := hown5; rw [List.length_append] at h; exact h), (gw3.trans g4).trans' hb5, Lib.hid HI.out.symm, Lib.hid (by simp), by have := hyl.out; simp; omega⟩
              case measure => simp [intOf]; omega
            | true =>
              have HI : Hid (idxTo xs f (k + 1) = ys.set m ⟨ys[m].lo, (k : Int), ys[m].set⟩) := Lib.hid (by unfold idxTo; rw [← hys.out]; exact step_old hyl.out hm he)
              have HQ := Lib.hid he
              clear he
              go_wp2_with fail
              refine (calls_b (spec_l2Ints _ _ ys[m].set (stabL xs f (k : Int)) _ (rd_pints HU.out) (rd_pints HS.out)) HQ.out).mono ?_
              rintro e w4 ⟨rfl, g4⟩
              have hgl := row_lt HR0.out (Nat.succ_pos m)
              have q0 := g4.cellv k0
              have q1 := g4.cellv k1
              have q2 := g4.cellv k2
              have f1' : w4.frozen? ⟨g, m * 3 + 1, none⟩ = false := by rw [g4.frozen hgl]; exact f1
              have hgF := HP.out.1 g rfl
              have HUP : Hid (PSpans (In w.heap.size (w4.setCell ⟨g, m * 3 + 1, none⟩ (.int .i64 (k : Int))).heap.size) (w4.setCell ⟨g, m * 3 + 1, none⟩ (.int .i64 (k : Int))) (.slice (some ⟨g, 0, none⟩) (m + 1) co) (ys.set m ⟨ys[m].lo, (k : Int), ys[m].set⟩)) := Lib.hid (by
                have hp4 := HP.out.frame fr_span (g4.agree _)
                have hr4 : w4.ownsRow 0 83 3 (.slice (some ⟨g, 0, none⟩) (m + 1) co) (m + 1) (flatC 3 (m + 1) (updC cs m [.int .i64 ys[m].lo, .int .i64 ys[m].hi, .slice sa ys[m].set.length sn])) := ownsRow_agree HR0.out fun g' hg' => by cases hg'; exact g4.block _ hgl
                have hr5 := row_set' (j := 1) hr4 (Nat.lt_succ_self m) (by decide) (p := m * 3 + 1) rfl rfl (u := .int .i64 (k : Int))
                have hG5 := (hp4.2 m hm).2.2.1
                have hc5 : Chg (fun b => G m b ∨ (Value.slice (some ⟨g, 0, none⟩) (m + 1) co).ownBlock = some b) w4 (w4.setCell ⟨g, m * 3 + 1, none⟩ (.int .i64 (k : Int))) := Chg.setCell (p := ⟨g, m * 3 + 1, none⟩) (Chg.refl _ w4) (Or.inr rfl) (.int .i64 (k : Int))
                have hu5 : PInts (G m) (w4.setCell ⟨g, m * 3 + 1, none⟩ (.int .i64 (k : Int))) (.slice sa ys[m].set.length sn) ys[m].set := ((HU.out.gr fr_int g4).frame fr_int ((Agree.refl _ w4).setCell (fun b hb e => (hG5 b hb).2 (by subst e; rfl)) _))
                refine (hp4.upd (c := [.int .i64 ys[m].lo, .int .i64 (k : Int), .slice sa ys[m].set.length sn]) (y := ⟨ys[m].lo, (k : Int), ys[m].set⟩) fr_span hm (by rw [hyl.out]; exact hr5) rfl ⟨_, rfl, i_lo, HK.out, hu5⟩ hc5).wide (Nat.le_refl _) ?_
                have := g3.size; have := g4.size; have := hc5.size; omega)
              have hgw5 : Gr w (w4.setCell ⟨g, m * 3 + 1, none⟩ (.int .i64 (k : Int))) := (gw3.trans g4).setCell hgF.1 _
              have HG5 := Lib.hid hgw5
              clear hgw5
              go_wp2_with fail
              go_roundw
              case rel => exact ⟨k + 1, _, _, _, ys.set m ⟨ys[m].lo, (k : Int), ys[m].set⟩, by omega, by go_num, rfl, HUP, HG5.out, Lib.hid HI.out.symm, Lib.hid (by rw [List.length_set]; exact hyl.out), by omega⟩
              case measure => simp [intOf]; omega
        · obtain rfl : k = 100 := by omega
          have HF : Hid (ys = idxL xs f) := Lib.hid (by rw [HE.out]; exact hys.out)
          go_wp2_with fail
          go_ret
          exact ⟨_, rfl, hgr, by rw [← HF.out]; exact ho.out⟩
theorem spec_StabIndex_rd (v0 : Value) (xs : List DQuery) (f : Int) (w : World) (hv : RQueries w v0 xs) :
    Calls Try.prog 36 #[v0, .int .i64 f] w fun e w' => ∃ u, e = .returned u ∧ RSpans w' u (idxL xs f) ∧ Gr w w' := (spec_StabIndex v0 xs f w hv).mono fun _ _ ⟨u, h1, h2, h3⟩ => ⟨u, h1, rd_pspans h3, h2⟩
end Go.Proofs.Ytcdcpfcmhmhdjaa
