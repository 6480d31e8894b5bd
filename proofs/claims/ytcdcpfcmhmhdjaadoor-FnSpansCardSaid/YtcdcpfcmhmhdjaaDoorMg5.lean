/- FormatSpans: the law. -/
import Derived.Test.YtcdcpfcmhmhdjaaDoorMg4
import Derived.Test.YtcdcpfcmhmhdjaaDoorMkSpan
import Derived.Test.YtcdcpfcmhmhdjaaDoorFind
import Derived.Test.YtcdcpfcmhmhdjaaDoorSpansQ
import Derived.Test.YtcdcpfcmhmhdjaaDoorDrawB
import Derived.Test.YtcdcpfcmhmhdjaaDoorSameI
import Derived.Test.YtcdcpfcmhmhdjaaDoorMg0
import Derived.Test.YtcdcpfcmhmhdjaaDoorBase
import Derived.Test.YtcdcpfcmhmhdjaaDoorDraw
namespace Go.Proofs.YtcdcpfcmhmhdjaaDoor
open Go.RowKit
-- mgen FnExactFormatSpans FormatSpans+HQ0!tens str "⟨(spansText x0).toArray⟩" - SpanS
-- endgen
end Go.Proofs.YtcdcpfcmhmhdjaaDoor

/- FindSpan: the law. -/
namespace Go.Proofs.YtcdcpfcmhmhdjaaDoor
open Go.RowKit
-- mgen FnExactFindSpan FindSpan+HT0 IntS "(findL x0 n1)" "by have := findL_small x0 n1; have := HT0.out; omega" SpanS int
-- endgen
end Go.Proofs.YtcdcpfcmhmhdjaaDoor

/- FnSpans: the walk of the law. -/
namespace Go.Proofs.YtcdcpfcmhmhdjaaDoor
open Go.RowKit Go.ChangeShapes Go.WideShapes Go.Deep
set_option maxRecDepth 100000 in
theorem laws_at (v : Value) (bs : List Int) (i : Nat) (w : World) (hv : RBytes w v bs) (hi : i ≤ 1000) (hl : bs.length ≤ 1048576) : Calls Tryd.prog 43 #[v, .int .i64 i] w fun e w' => ∃ x : Int, e = .returned (.int .i64 x) ∧ Hid (0 ≤ x ∧ x ≤ 255) ∧ w' = w := by
  obtain ⟨a, c, rfl, h1, h2, hx⟩ := hv
  have hi' : (i : Int) ≤ 1000 := by omega
  have hl' : (bs.length : Int) ≤ 1048576 := by omega
  have i0 : (0 : Int) ≤ (i : Int) := Int.natCast_nonneg _
  by_cases hlt : i < bs.length
  · have hlz : (i : Int) < (bs.length : Int) := by omega
    obtain ⟨b, off, cs, rfl, _, ⟨rfl, hb⟩, hc⟩ := hx i hlt
    have hcell : w.cell? ⟨b, off + i, none⟩ = some (.int .u8 bs[i]) := by simpa using hc 0 (by simp)
    have hb0 := hb.1
    have hb1 := hb.2
    go_enter Tryd.func43, Tryd.ntmps43
    go_wp2_with fail
    go_ret
    exact ⟨_, rfl, Lib.hid hb, rfl⟩
  · have hlz : ¬ (i : Int) < (bs.length : Int) := by omega
    go_enter Tryd.func43, Tryd.ntmps43
    go_wp2_with fail
    go_ret
    exact ⟨_, rfl, Lib.hid (by omega), rfl⟩
theorem Chain.from_le {A : Int → List Int} {n : Int} {ys : List DSpan} (h : Chain A ys n) : ∀ d i, i + d = ys.length → fromOf ys i ≤ n
  | 0, i, e => by
    have : i = ys.length := by omega
    rw [this, h.top]; exact Int.le_refl _
  | d + 1, i, e => by
    have h1 := h.lo i (by omega)
    have h2 := h.from_le d (i + 1) (by omega)
    rw [fromOf_succ (by omega)] at h2
    omega
theorem Chain.hi_le {A : Int → List Int} {n : Int} {ys : List DSpan} (h : Chain A ys n) {i : Nat} (hi : i < ys.length) : ys[i].hi + 1 ≤ n := by
  have := h.from_le (ys.length - (i + 1)) (i + 1) (by omega)
  rwa [fromOf_succ hi] at this
theorem Chain.from_ge {A : Int → List Int} {n : Int} {ys : List DSpan} (h : Chain A ys n) : ∀ i, i ≤ ys.length → 0 ≤ fromOf ys i
  | 0, _ => Int.le_refl _
  | i + 1, hi => by
    have h1 := h.lo i (by omega)
    have h2 := h.from_ge i (by omega)
    rw [fromOf_succ (by omega)]
    omega
theorem spans_cell {w : World} {g o n c : Nat} {X : List DSpan} (h : RSpans w (.slice (some ⟨g, o, none⟩) n c) X) {k : Nat} (hk : k < X.length) : ∃ (us : Option Addr) (un uc : Nat),
    w.cell? ⟨g, o + k * 3, none⟩ = some (.int .i64 X[k].lo) ∧ w.cell? ⟨g, o + k * 3 + 1, none⟩ = some (.int .i64 X[k].hi) ∧ w.cell? ⟨g, o + k * 3 + 2, none⟩ = some (.slice us un uc) ∧ Hid (RInts w (.slice us un uc) X[k].set) := by
  obtain ⟨a', cap', e, h1, h2, h3⟩ := h
  obtain ⟨rfl, _, _⟩ : some (⟨g, o, none⟩ : Addr) = a' ∧ n = X.length ∧ c = cap' := by simpa using e
  obtain ⟨b, off, cs, ha, _, ⟨u, rfl, _, _, hu⟩, hcc⟩ := h3 k hk
  simp only [Option.some.injEq, Addr.mk.injEq, and_true] at ha
  obtain ⟨rfl, rfl⟩ := ha
  obtain ⟨ay, ny, ky, rfl⟩ := hu.isSl
  have c0 := hcc 0 (by simp)
  have c1 := hcc 1 (by simp)
  have c2 := hcc 2 (by simp)
  exact ⟨ay, ny, ky, by simpa using c0, by simpa using c1, by simpa using c2, Lib.hid hu⟩
theorem eqSpansB_self (xs : List DSpan) : eqSpansB xs xs = true := by
  unfold eqSpansB
  rw [decide_eq_true rfl, allB_true]
  · rfl
  · intro j hj
    unfold spansEqAt eqSpanB
    simp [eqL]
theorem spec_EqualSpans_self {xs : List DSpan} (v v' : Value) (w : World) (hx : RSpans w v xs) (hy : RSpans w v' xs) : Calls Tryd.prog 38 #[v, v'] w fun e w' => e = .returned (.bool true) ∧ Gr w w' := by
  have := spec_EqualSpans v xs v' xs w hx hy
  rwa [eqSpansB_self] at this
theorem impl_EqualSpans_self {xs : List DSpan} (v v' : Value) (w : World) (hx : RSpans w v xs) (hy : RSpans w v' xs) : Calls Tryd.prog 39 #[v, v'] w fun e w' => e = .returned (.bool true) ∧ Gr w w' := by
  have := impl_EqualSpans v xs v' xs w hx hy
  rwa [eqSpansB_self] at this
theorem spec_AreQueries_of {xs : List DQuery} {b : Bool} (h : areQueriesB xs = b) (v : Value) (w : World) (hv : RQueries w v xs) : Calls Tryd.prog 42 #[v] w fun e w' => e = .returned (.bool b) ∧ Gr w w' := h ▸ spec_AreQueries v xs w hv
theorem impl_StabSet_of {xs : List DQuery} {f n : Int} {L : List Int} (h : stabSetL xs f n = L) (v : Value) (w : World) (hv : RQueries w v xs) : Calls Tryd.prog 45 #[v, .int .i64 f, .int .i64 n] w fun e w' => ∃ u, e = .returned u ∧ Gr w w' ∧ PInts (In w.heap.size w'.heap.size) w' u L := h ▸ impl_StabSet v xs f n w hv
theorem impl_FindSpan_of {xs : List DSpan} {n : Int} {L : List Int} (h : findL xs n = L) (v : Value) (w : World) (hv : RSpans w v xs) (hb : totL totSpan xs ≤ 4294967296) : Calls Tryd.prog 44 #[v, .int .i64 n] w fun e w' => ∃ u, e = .returned u ∧ Gr w w' ∧ PInts (In w.heap.size w'.heap.size) w' u L := h ▸ impl_FindSpan v xs n w hv hb
set_option maxRecDepth 100000 in
set_option maxHeartbeats 4000000 in
theorem law_FnSpans (w : World) (hT : Tens Tryd.prog w) (v : Value) (bs : List Int) (hv : RBytes w v bs) : Calls Tryd.prog 5 #[v] w fun e w' => e = .returned (.bool true) ∧ Gr w w' := by
  have HT := Lib.hid hT
  have HV := Lib.hid hv
  obtain ⟨va, vc, rfl⟩ := hv.form
  clear hT hv
  go_enter Tryd.func5, Tryd.ntmps5
  go_wp2_with fail
  by_cases hbig : (bs.length : Int) > 1048576
  · refine (laws_big_yes hbig va vc _).mono ?_
    rintro e w1 ⟨rfl, rfl⟩
    go_wp2_with fail
    go_ret
    exact ⟨rfl, Gr.refl _⟩
  · refine (laws_big_no hbig va vc _).mono ?_
    rintro e W ⟨rfl, rfl⟩
    have HBS : Hid (bs.length ≤ 1048576) := Lib.hid (by omega)
    clear hbig
    go_wp2_with fail
    refine (spec_DrawStabIndex _ bs _ HV.out).mono ?_
    rintro e w1 ⟨qa, qn, qc, qs, f, rfl, hl, hq, hg1⟩
    obtain rfl := hl.out.1
    have HL : Hid (qs.length ≤ 6 ∧ -1 ≤ f ∧ f ≤ 3) := Lib.hid ⟨hl.out.2.1, hl.out.2.2.2⟩
    have HG1 := Lib.hid hg1.out
    clear hl hg1
    go_wp2_with fail
    refine (impl_StabIndex _ qs f _ hq.out).mono ?_
    rintro e w2 ⟨x, rfl, g2, hx⟩
    obtain ⟨xa, xc, rfl⟩ := (rd_pspans hx).form
    have hq2 := Lib.hid (RSlice.mono keeps_query g2 hq.out)
    have HG2 := Lib.hid (HG1.out.trans g2)
    replace hx := Lib.hid (rd_pspans hx)
    clear hq g2 HG1
    obtain ⟨X, hX⟩ : ∃ X, X = idxL qs f := ⟨_, rfl⟩
    rw [← hX] at hx
    rw [← hX]
    have HX := Lib.hid hX
    have HXT : Hid (totL totSpan X ≤ 2500) := Lib.hid (by rw [hX]; exact idxL_tot qs f)
    have HXL : Hid (X.length ≤ 100) := Lib.hid (by rw [hX]; exact idxL_len qs f)
    clear hX
    go_wp2_with fail
    refine (spec_StabIndex_rd _ qs f _ hq2.out).mono ?_
    rintro e w3 ⟨y, rfl, hy, g3⟩
    obtain ⟨ya, yc, rfl⟩ := hy.form
    rw [← HX.out] at hy
    rw [← HX.out]
    have hy3 := Lib.hid hy
    have hq3 := Lib.hid (RSlice.mono keeps_query g3 hq2.out)
    have hx3 := Lib.hid (RSlice.mono keeps_span g3 hx.out)
    have HG3 := Lib.hid (HG2.out.trans g3)
    clear hq2 hx g3 HG2 hy
    go_wp2_with fail
    refine (spec_EqualSpans_self _ _ _ hx3.out hy3.out).mono ?_
    rintro e w4 ⟨rfl, g4⟩
    have hy4 := Lib.hid (RSlice.mono keeps_span g4 hy3.out)
    have hq4 := Lib.hid (RSlice.mono keeps_query g4 hq3.out)
    have hx4 := Lib.hid (RSlice.mono keeps_span g4 hx3.out)
    have HG4 := Lib.hid (HG3.out.trans g4)
    clear hq3 hx3 g4 HG3 hy3
    go_wp2_with fail
    refine (impl_EqualSpans_self _ _ _ hx4.out hx4.out).mono ?_
    rintro e w5 ⟨rfl, g5⟩
    have hy5 := Lib.hid (RSlice.mono keeps_span g5 hy4.out)
    have hq5 := Lib.hid (RSlice.mono keeps_query g5 hq4.out)
    have hx5 := Lib.hid (RSlice.mono keeps_span g5 hx4.out)
    have HG5 := Lib.hid (HG4.out.trans g5)
    clear hq4 hx4 g5 HG4 hy4
    go_wp2_with fail
    refine (impl_FormatSpans _ X _ hx5.out (by have := HXT.out; omega) (tab_gr HT.out HG5.out)).mono ?_
    rintro e w6 ⟨rfl, g6⟩
    have hy6 := Lib.hid (RSlice.mono keeps_span g6 hy5.out)
    have hq6 := Lib.hid (RSlice.mono keeps_query g6 hq5.out)
    have hx6 := Lib.hid (RSlice.mono keeps_span g6 hx5.out)
    have HG6 := Lib.hid (HG5.out.trans g6)
    clear hq5 hx5 g6 HG5 hy5
    go_wp2_with fail
    refine (spec_FormatSpans _ X _ hy6.out (by have := HXT.out; omega)).mono ?_
    rintro e w7 ⟨rfl, g7⟩
    have hq7 := Lib.hid (RSlice.mono keeps_query g7 hq6.out)
    have hx7 := Lib.hid (RSlice.mono keeps_span g7 hx6.out)
    have HG7 := Lib.hid (HG6.out.trans g7)
    clear hq6 hx6 g7 HG6 hy6
    go_wp2_with fail
    obtain ⟨pa, hpa⟩ : ∃ pa, areQueriesB qs = pa := ⟨_, rfl⟩
    have HPA := Lib.hid hpa
    clear hpa
    refine (spec_AreQueries_of HPA.out _ _ hq7.out).mono ?_
    rintro e w8 ⟨rfl, g8⟩
    have hq8 := Lib.hid (RSlice.mono keeps_query g8 hq7.out)
    have hx8 := Lib.hid (RSlice.mono keeps_span g8 hx7.out)
    have HG8 := Lib.hid (HG7.out.trans g8)
    clear hq7 hx7 g8 HG7
    cases pa with
    | false =>
      obtain rfl : X = [] := by rw [HX.out]; exact idxL_no1 HPA.out
      go_wp2_with fail
      go_ret
      exact ⟨rfl, HG8.out⟩
    | true =>
      by_cases f0 : f < 0
      · obtain rfl : X = [] := by rw [HX.out]; exact idxL_no2 (by unfold inB; rw [decide_eq_false (by omega)]; rfl)
        go_wp2_with fail
        go_ret
        exact ⟨rfl, HG8.out⟩
      · by_cases f3 : 3 ≤ f
        · obtain rfl : X = [] := by rw [HX.out]; exact idxL_no2 (by unfold inB; rw [decide_eq_false (show ¬ f ≤ 2 by omega), Bool.and_false])
          go_wp2_with fail
          go_ret
          exact ⟨rfl, HG8.out⟩
        · have HF : Hid (inB f 0 2 = true) := Lib.hid (inB_mk (by omega) (by omega))
          have HGOOD : Hid (Chain (stabL qs f) X 100 ∧ X.length ≤ 2 * qs.length + 1) := Lib.hid (by rw [HX.out]; exact spans_good (by unfold idxOk; rw [HPA.out, HF.out]; rfl))
          have x100 : (X.length : Int) ≤ 100 := by have := HXL.out; omega
          have q6 : (qs.length : Int) ≤ 6 := by have := HL.out.1; omega
          go_wp2_with fail
          go_loopw [7, 8] (fun vf vi wr => ∃ k : Nat, k ≤ X.length ∧ vi = .int .i64 k ∧ vf = .int .i64 (fromOf X k) ∧ Hid (Gr w8 wr)) (fun _ vi _ => X.length - (intOf vi).toNat)
          case atStart => exact ⟨0, Nat.zero_le _, rfl, rfl, Lib.hid (Gr.refl _)⟩
          case round =>
            obtain ⟨k, hk, rfl, rfl, hgr⟩ := hrel
            by_cases hlt : k < X.length
            · have hlz : (k : Int) < (X.length : Int) := by omega
              have i0 : (0 : Int) ≤ (k : Int) := Int.natCast_nonneg _
              obtain ⟨b, off, rfl⟩ : ∃ b off, xa = some ⟨b, off, none⟩ := by
                obtain ⟨a', c', e, _, _, h3⟩ := hx8.out
                obtain ⟨b, off, cs, ha, _⟩ := h3 k hlt
                have e2 : xa = a' := by simp only [Value.slice.injEq] at e; exact e.1
                exact ⟨b, off, e2.trans ha⟩
              obtain ⟨us, un, uc, c0, c1, c2, HS⟩ := spans_cell hx8.out hlt
              have HLO := HGOOD.out.1.lo k hlt
              have HHI := HGOOD.out.1.hi_le hlt
              have HFG := HGOOD.out.1.from_ge k hk
              rw [HLO.1] at c0
              obtain ⟨F, hF⟩ : ∃ F, F = fromOf X k := ⟨_, rfl⟩
              obtain ⟨H, hH⟩ : ∃ H, H = X[k].hi := ⟨_, rfl⟩
              have HN : Hid (H + 1 = fromOf X (k + 1)) := Lib.hid (by rw [hH, fromOf_succ hlt])
              rw [← hF] at c0 HFG ⊢
              rw [← hH] at c1 HHI
              have hFH : ¬ H < F := by have := HLO.2; rw [HLO.1, ← hF, ← hH] at this; omega
              have hFd : decide (H < F) = false := decide_eq_false hFH
              have hH99 : H ≤ 99 := by omega
              have hH0 : 0 ≤ H := by omega
              have gg := hgr.out
              have y0 := gg.cellv c0
              have y1 := gg.cellv c1
              have y2 := gg.cellv c2
              clear c0 c1 c2 HLO HHI hF hH gg
              by_cases hk0 : 0 < k
              · have hkd : decide ((k : Int) > 0) = true := decide_eq_true (by omega)
                obtain ⟨J, hJ⟩ : ∃ J, J = k - 1 := ⟨_, rfl⟩
                have hJX : J < X.length := by omega
                have j1 : (k : Int) - 1 < (X.length : Int) := by omega
                have j2 : (0 : Int) ≤ (k : Int) - 1 := by omega
                have j3 : ((k : Int) - 1).toNat = J := by omega
                obtain ⟨vs, vn, vc', d0, d1, d2, HV2⟩ := spans_cell hx8.out hJX
                have z2 := hgr.out.cellv d2
                clear d0 d1 d2
                have hne : eqL X[k].set X[J].set = false := by
                  have h := HGOOD.out.1.ne J (by omega)
                  have e : X[J + 1]'(by omega) = X[k] := by congr 1; omega
                  rw [e] at h
                  unfold eqL; exact decide_eq_false h
                have hcmp : ∀ q : Ext wr, Calls Tryd.prog 11 #[.slice us un uc, .slice vs vn vc'] q.val fun e w' => e = .returned (.bool false) ∧ Gr q.val w' := fun q => laws_sameInts_of hne _ _ _ (RSlice.mono keeps_int (hgr.out.trans q.gr) HS.out) (RSlice.mono keeps_int (hgr.out.trans q.gr) HV2.out)
                clear hJ hne
                go_wp2_with fail
                have q0 := fun q : Ext wr => Ext.cell y0 q
                have q1 := fun q : Ext wr => Ext.cell y1 q
                have q2 := fun q : Ext wr => Ext.cell y2 q
                have q3 := fun q : Ext wr => Ext.cell z2 q
                refine wp_region_ext (by kernel_rfl) (by kernel_rfl) ?_
                repeat (go_big_quiet_step ((go_at_call 11; exact quiet_ext (hcmp _))))
                refine wpQuiet_nil ?_
                intro w9 hw9
                have HG9 := Lib.hid (Ext.out hw9)
                replace y1 := (Ext.out hw9).cellv y1
                clear hw9 q0 q1 q2 q3 y0 y2 z2 hcmp
                go_wp2_with fail
                go_roundw
                case rel => exact ⟨k + 1, by omega, by go_num, by rw [HN.out], Lib.hid (hgr.out.trans HG9.out)⟩
                case measure => simp [intOf]; omega
              · have hkd : decide ((k : Int) > 0) = false := decide_eq_false (by omega)
                go_wp2_with fail
                have q0 := fun q : Ext wr => Ext.cell y0 q
                have q1 := fun q : Ext wr => Ext.cell y1 q
                have q2 := fun q : Ext wr => Ext.cell y2 q
                refine wp_region_ext (by kernel_rfl) (by kernel_rfl) ?_
                repeat (go_big_quiet_step (fail))
                refine wpQuiet_nil ?_
                intro w9 hw9
                have HG9 := Lib.hid (Ext.out hw9)
                replace y1 := (Ext.out hw9).cellv y1
                clear hw9 q0 q1 q2 y0 y2
                go_wp2_with fail
                go_roundw
                case rel => exact ⟨k + 1, by omega, by go_num, by rw [HN.out], Lib.hid (hgr.out.trans HG9.out)⟩
                case measure => simp [intOf]; omega
            · obtain rfl : k = X.length := by omega
              have hlz : ¬ (X.length : Int) < (X.length : Int) := by omega
              have hfr := HGOOD.out.1.top
              have hx9 := Lib.hid (RSlice.mono keeps_span hgr.out hx8.out)
              have hq9 := Lib.hid (RSlice.mono keeps_query hgr.out hq8.out)
              have HG9 := Lib.hid (HG8.out.trans hgr.out)
              have hlen : (X.length : Int) ≤ 2 * (qs.length : Int) + 1 := by have := HGOOD.out.2; omega
              rw [hfr]
              clear hfr
              go_wp2_with fail
              refine (laws_at _ bs 0 _ (RSlice.mono keeps_byte HG9.out HV.out) (by decide) HBS.out).mono ?_
              rintro e w10 ⟨p, rfl, hp, rfl⟩
              have p0 := hp.out.1
              have p1 := hp.out.2
              obtain ⟨V, hV⟩ : ∃ V, V = p % 100 := ⟨_, rfl⟩
              have HVV : Hid (0 ≤ V ∧ V < 100) := Lib.hid (by omega)
              obtain ⟨A, hA⟩ : ∃ A, A = stabL qs f V := ⟨_, rfl⟩
              have HA : Hid (findL X V = A ∧ stabSetL qs f V = A) := Lib.hid (by
                rw [hA]
                exact ⟨HGOOD.out.1.find HVV.out.1 HVV.out.2, stabSetL_yes (stabOk_yes HPA.out HF.out (inB_mk HVV.out.1 (by have := HVV.out.2; omega)))⟩)
              clear hA
              go_wp2_with fail
              rw [← hV]
              refine (impl_FindSpan_of HA.out.1 _ _ hx9.out (by have := HXT.out; omega)).mono ?_
              rintro e w11 ⟨r, rfl, g11, hr⟩
              obtain ⟨ra, rc, rfl⟩ := (rd_pints hr).form
              have hr1 := Lib.hid (rd_pints hr)
              have hq1 := Lib.hid (RSlice.mono keeps_query g11 hq9.out)
              have HG1 := Lib.hid (HG9.out.trans g11)
              clear hr g11 hq9 HG9 hx9
              go_wp2_with fail
              rw [← hV]
              refine (impl_StabSet_of HA.out.2 _ _ hq1.out).mono ?_
              rintro e w12 ⟨s, rfl, g12, hs⟩
              obtain ⟨sa, sc, rfl⟩ := (rd_pints hs).form
              have hs2 := Lib.hid (rd_pints hs)
              have hr2 := Lib.hid (hr1.out.mono g12)
              have hq2 := Lib.hid (RSlice.mono keeps_query g12 hq1.out)
              have HG2 := Lib.hid (HG1.out.trans g12)
              clear hs g12 hq1 HG1 hr1
              go_wp2_with fail
              refine (laws_sameInts_self _ _ _ hr2.out hs2.out).mono ?_
              rintro e w13 ⟨rfl, g13⟩
              have hq3 := Lib.hid (RSlice.mono keeps_query g13 hq2.out)
              have HG3 := Lib.hid (HG2.out.trans g13)
              clear g13 hq2 HG2 hr2 hs2
              go_wp2_with fail
              rw [← hV]
              refine (impl_StabSet_of HA.out.2 _ _ hq3.out).mono ?_
              rintro e w14 ⟨s, rfl, g14, hs⟩
              obtain ⟨sa, sc, rfl⟩ := (rd_pints hs).form
              have hs4 := Lib.hid (rd_pints hs)
              have hq4 := Lib.hid (RSlice.mono keeps_query g14 hq3.out)
              have HG4 := Lib.hid (HG3.out.trans g14)
              clear hs g14 hq3 HG3
              go_wp2_with fail
              rw [← hV]
              refine (spec_StabSet_rd _ qs f V _ hq4.out).mono ?_
              rintro e w15 ⟨t, rfl, ht, g15⟩
              obtain ⟨ta, tc, rfl⟩ := ht.form
              rw [HA.out.2] at ht
              rw [HA.out.2]
              have ht5 := Lib.hid ht
              have hs5 := Lib.hid (hs4.out.mono g15)
              have HG5 := Lib.hid (HG4.out.trans g15)
              clear ht g15 hs4 HG4 hq4
              go_wp2_with fail
              refine (laws_sameInts_self _ _ _ hs5.out ht5.out).mono ?_
              rintro e w16 ⟨rfl, g16⟩
              have HG6 := Lib.hid (HG5.out.trans g16)
              go_wp2_with fail
              go_ret
              exact ⟨rfl, HG6.out⟩
end Go.Proofs.YtcdcpfcmhmhdjaaDoor

/- From the reading of an argument as data to the words of Base. -/
namespace Go.Proofs.YtcdcpfcmhmhdjaaDoor
open Go.ChangeShapes Go.WideShapes Go.RowKit Go.Deep
section
variable {H : Type} {enc : TypeId × Value → H} {P : Program} {w : World} {base : Nat} {spare : Nat → Bool} {held : Bool}
/-- Whatever reads as data of this type stands for something by R. -/
def Reads (enc : TypeId × Value → H) (P : Program) (w : World) (base : Nat) (spare : Nat → Bool) (held : Bool) {α : Type} (t : TypeId) (R : World → List Value → α → Prop) : Prop :=
  ∀ n cs x, DataW.trod enc P w base spare held n t cs = some x → ∃ d, R w cs d
theorem rd_int {t : TypeId} (ht : P.underlying t = some (.int .i64)) : Reads enc P w base spare held t RInt := fun n cs x h => by
  obtain ⟨k, rfl, _, hw⟩ := DataW.trod_int ht h
  exact ⟨k, rfl, i64_of_wf hw⟩
theorem cells_at {a : Addr} {n : Nat} {cs : List Value} (h : w.cells? base a n = some cs) : cs.length = n ∧ ∀ j (hj : j < cs.length), w.cell? (a.add j) = some cs[j] := by
  obtain ⟨_, hl, hc⟩ := World.cells?_some h
  refine ⟨hl, fun j hj => ?_⟩
  have := hc j (by omega)
  simpa [hj] using this
theorem plain_of_cell {a : Addr} {v : Value} (h : w.cell? a = some v) : a = ⟨a.block, a.off, none⟩ := by
  obtain ⟨b, o, s⟩ := a
  cases s with
  | none => rfl
  | some s =>
    simp only [World.cell?] at h
    split at h <;> simp at h
theorem rd_slice {α : Type} {t e : TypeId} {sz : Nat} {R : World → List Value → α → Prop} (hsz : 0 < sz) (ht : P.underlying t = some (.slice e)) (hC : P.cellsOf e = sz) (he : Reads enc P w base spare held e R)
    {n : Nat} {cs : List Value} {x : DataW H × List MemPlace} (h : DataW.trod enc P w base spare held n t cs = some x) : ∃ v xs, cs = [v] ∧ RSlice sz R w v xs := by
  rcases open_slice ht h with ⟨rfl, _⟩ | ⟨a, len, cap, m, n', D, Pl, rfl, _, hl, hm, hmm, _, hx⟩
  · exact ⟨_, [], rfl, none, 0, rfl, Nat.le_refl _, by omega, fun i hi => absurd hi (Nat.not_lt_zero _)⟩
  · have hml : len ≤ m := by rw [hmm]; split <;> omega
    have hall : ∀ i, i < len → ∃ (d : List Value × α), d.1.length = sz ∧ R w d.1 d.2 ∧ ∀ j (hj : j < d.1.length), w.cell? ((a.add (i * sz)).add j) = some d.1[j] := fun i hi => by
      obtain ⟨cs', h1, h2⟩ := hx i (by omega)
      rw [hC] at h1
      obtain ⟨d, hd⟩ := he _ _ _ h2
      obtain ⟨h3, h4⟩ := cells_at h1
      exact ⟨(cs', d), h3, hd, h4⟩
    by_cases h0 : len = 0
    · subst h0
      exact ⟨_, [], rfl, some a, cap, rfl, Nat.zero_le _, by simpa [maxLen] using hm, fun i hi => absurd hi (Nat.not_lt_zero _)⟩
    · obtain ⟨d0, hd0, hd1, hd2⟩ := hall 0 (by omega)
      have hp : a = ⟨a.block, a.off, none⟩ := by
        have := hd2 0 (by omega)
        simp [Addr.add] at this
        exact plain_of_cell this
      haveI : Inhabited (List Value × α) := ⟨d0⟩
      obtain ⟨f, hf⟩ := choose_lt hall
      refine ⟨_, (List.range len).map fun i => (f i).2, rfl, some a, cap, by simp, by simpa using hl, by simpa [maxLen] using hm, fun i hi => ?_⟩
      have hi' : i < len := by simpa using hi
      obtain ⟨h1, h2, h3⟩ := hf i hi'
      refine ⟨a.block, a.off, (f i).1, by rw [← hp], h1, by simpa using h2, fun j hj => ?_⟩
      have := h3 j hj
      rw [hp, add_plain, add_plain] at this
      exact this
theorem arg_slice {α : Type} {r : Reach} {b0 : Nat} {t e : TypeId} {sz : Nat} {R : World → List Value → α → Prop} {v : Value} {d : DataW H} {p : List MemPlace} (hsz : 0 < sz) (ht : P.underlying t = some (.slice e)) (hC : P.cellsOf e = sz)
    (he : Reads enc P w base spare held e R) (hv : Value.okWide P w r b0 t v) (h : DataW.Trod enc P w base spare held t v d p) : ∃ xs, RSlice sz R w v xs := by
  obtain ⟨a, len, cap, rfl⟩ := okWide_slice ht hv
  obtain ⟨n, hn⟩ := h
  obtain ⟨v', xs, hc, hr⟩ := rd_slice hsz ht hC he hn
  simp [Value.cells] at hc
  subst hc
  exact ⟨xs, hr⟩
theorem arg_cond {r : Reach} {b0 : Nat} {t : TypeId} {f0 f1 f2 : Field} {v : Value} {d : DataW H} {p : List MemPlace} (hs : P.underlying t = some (.struct #[f0, f1, f2])) (hone : oneCellFields P #[f0, f1, f2] = true) (hC : P.cellsOf t = 3)
    (h0 : P.underlying f0.type = some (.int .i64)) (h1 : P.underlying f1.type = some (.int .i64)) (h2 : P.underlying f2.type = some (.int .i64)) (hv : Value.okWide P w r b0 t v) (h : DataW.Trod enc P w base spare held t v d p) :
    ∃ c : DCond, v = .agg #[.int .i64 c.field, .int .i64 c.low, .int .i64 c.high] ∧ I64 c.field ∧ I64 c.low ∧ I64 c.high := by
  obtain ⟨v0, v1, v2, y0, y1, y2, n, rfl, _, _, t0, t1, t2⟩ := Joins.open_agg3 hs hone hC hv h
  obtain ⟨a, e0, i0⟩ := rd_int h0 _ _ _ t0
  obtain ⟨b, e1, i1⟩ := rd_int h1 _ _ _ t1
  obtain ⟨c, e2, i2⟩ := rd_int h2 _ _ _ t2
  simp at e0 e1 e2
  subst e0 e1 e2
  exact ⟨⟨a, b, c⟩, rfl, i0, i1, i2⟩
theorem rd_ints {t e : TypeId} (ht : P.underlying t = some (.slice e)) (he : P.underlying e = some (.int .i64)) (hC : P.cellsOf e = 1) {n : Nat} {cs : List Value} {x : DataW H × List MemPlace} (h : DataW.trod enc P w base spare held n t cs = some x) : ∃ v xs, cs = [v] ∧ RInts w v xs :=
  rd_slice (by decide) ht hC (rd_int he) h
theorem arg_row {r : Reach} {b0 : Nat} {t e : TypeId} {f0 f1 : Field} {v : Value} {d : DataW H} {p : List MemPlace} (hs : P.underlying t = some (.struct #[f0, f1])) (hone : oneCellFields P #[f0, f1] = true) (hC : P.cellsOf t = 2)
    (h0 : P.underlying f0.type = some (.int .i64)) (h1 : P.underlying f1.type = some (.slice e)) (he : P.underlying e = some (.int .i64)) (hCe : P.cellsOf e = 1) (hv : Value.okWide P w r b0 t v) (h : DataW.Trod enc P w base spare held t v d p) :
    ∃ (x : DRow) (u : Value), v = .agg #[.int .i64 x.id, u] ∧ I64 x.id ∧ RInts w u x.vals := by
  obtain ⟨v0, v1, y0, y1, n, rfl, _, _, t0, t1⟩ := Joins.open_agg2 hs hone hC hv h
  obtain ⟨a, e0, i0⟩ := rd_int h0 _ _ _ t0
  obtain ⟨u, xs, e1, i1⟩ := rd_ints h1 he hCe t1
  simp at e0 e1
  subst e0 e1
  exact ⟨⟨a, xs⟩, v1, rfl, i0, i1⟩
theorem arg_version {r : Reach} {b0 : Nat} {t e : TypeId} {f0 f1 f2 f3 : Field} {v : Value} {d : DataW H} {p : List MemPlace} (hs : P.underlying t = some (.struct #[f0, f1, f2, f3])) (hone : oneCellFields P #[f0, f1, f2, f3] = true) (hC : P.cellsOf t = 4)
    (h0 : P.underlying f0.type = some (.int .i64)) (h1 : P.underlying f1.type = some (.slice e)) (he : P.underlying e = some (.int .i64)) (hCe : P.cellsOf e = 1) (h2 : P.underlying f2.type = some (.int .i64)) (h3 : P.underlying f3.type = some (.int .i64)) (hv : Value.okWide P w r b0 t v) (h : DataW.Trod enc P w base spare held t v d p) :
    ∃ (x : DVersion) (u : Value), v = .agg #[.int .i64 x.id, u, .int .i64 x.born, .int .i64 x.died] ∧ I64 x.id ∧ RInts w u x.vals ∧ I64 x.born ∧ I64 x.died := by
  obtain ⟨v0, v1, v2, v3, y0, y1, y2, y3, n, rfl, _, _, t0, t1, t2, t3⟩ := Joins.open_agg4 hs hone hC hv h
  obtain ⟨a, e0, i0⟩ := rd_int h0 _ _ _ t0
  obtain ⟨u, xs, e1, i1⟩ := rd_ints h1 he hCe t1
  obtain ⟨b, e2, i2⟩ := rd_int h2 _ _ _ t2
  obtain ⟨c, e3, i3⟩ := rd_int h3 _ _ _ t3
  simp at e0 e1 e2 e3
  subst e0 e1 e2 e3
  exact ⟨⟨a, xs, b, c⟩, v1, rfl, i0, i1, i2, i3⟩
theorem arg_int {r : Reach} {b0 : Nat} {t : TypeId} {v : Value} {d : DataW H} {p : List MemPlace} (ht : P.underlying t = some (.int .i64)) (hv : Value.okWide P w r b0 t v) (h : DataW.Trod enc P w base spare held t v d p) : ∃ n, v = .int .i64 n ∧ I64 n := by
  obtain ⟨n, rfl, _, _, hw⟩ := open_int ht hv h
  exact ⟨n, rfl, i64_of_wf hw⟩
theorem arg_str {r : Reach} {b0 : Nat} {t : TypeId} {v : Value} {d : DataW H} {p : List MemPlace} (ht : P.underlying t = some .string) (hv : Value.okWide P w r b0 t v) (h : DataW.Trod enc P w base spare held t v d p) : ∃ s : ByteArray, v = .string s ∧ s.size ≤ 9223372036854775807 := by
  obtain ⟨s, rfl, _, _, hs⟩ := Go.ChangeMaps.open_string ht hv h
  exact ⟨s, rfl, by simpa [maxLen] using hs⟩
end
end Go.Proofs.YtcdcpfcmhmhdjaaDoor

/- From the reading of an argument as data to the words of Base: structs and slices of structs. -/
namespace Go.Proofs.YtcdcpfcmhmhdjaaDoor
open Go.ChangeShapes Go.WideShapes Go.RowKit Go.Deep
section
variable {H : Type} {enc : TypeId × Value → H} {P : Program} {w : World} {base : Nat} {spare : Nat → Bool} {held : Bool}
theorem rd_sl {α : Type} {t e : TypeId} {sz : Nat} {R : World → List Value → α → Prop} (hsz : 0 < sz) (ht : P.underlying t = some (.slice e)) (hC : P.cellsOf e = sz) (he : Reads enc P w base spare held e R) : Reads enc P w base spare held t (ROf (RSlice sz R)) := fun n cs x h => by
  obtain ⟨v, xs, h1, h2⟩ := rd_slice hsz ht hC he h
  exact ⟨xs, v, h1, h2⟩
theorem st2 {t : TypeId} {f0 f1 : Field} (hs : P.underlying t = some (.struct #[f0, f1])) (hone : oneCellFields P #[f0, f1] = true) (hC : P.cellsOf t = 2) {n : Nat} {cs : List Value} {x : DataW H × List MemPlace} (h : DataW.trod enc P w base spare held n t cs = some x) :
    ∃ c0 c1 y0 y1 m, cs = [c0, c1] ∧ DataW.trod enc P w base spare held m f0.type [c0] = some y0 ∧ DataW.trod enc P w base spare held m f1.type [c1] = some y1 := by
  obtain ⟨y0, y1, m, _, hl, h0, h1⟩ := trod_struct2 hs h
  rw [hC] at hl
  obtain ⟨o0, k0⟩ := hone_of hone 0 f0 rfl
  obtain ⟨o1, k1⟩ := hone_of hone 1 f1 rfl
  match cs, hl with
  | [c0, c1], _ => exact ⟨c0, c1, y0, y1, m, rfl, by simpa [o0, k0] using h0, by simpa [o1, k1] using h1⟩
theorem st3 {t : TypeId} {f0 f1 f2 : Field} (hs : P.underlying t = some (.struct #[f0, f1, f2])) (hone : oneCellFields P #[f0, f1, f2] = true) (hC : P.cellsOf t = 3) {n : Nat} {cs : List Value} {x : DataW H × List MemPlace} (h : DataW.trod enc P w base spare held n t cs = some x) :
    ∃ c0 c1 c2 y0 y1 y2 m, cs = [c0, c1, c2] ∧ DataW.trod enc P w base spare held m f0.type [c0] = some y0 ∧ DataW.trod enc P w base spare held m f1.type [c1] = some y1 ∧ DataW.trod enc P w base spare held m f2.type [c2] = some y2 := by
  obtain ⟨y0, y1, y2, m, _, hl, h0, h1, h2⟩ := trod_struct3 hs h
  rw [hC] at hl
  obtain ⟨o0, k0⟩ := hone_of hone 0 f0 rfl
  obtain ⟨o1, k1⟩ := hone_of hone 1 f1 rfl
  obtain ⟨o2, k2⟩ := hone_of hone 2 f2 rfl
  match cs, hl with
  | [c0, c1, c2], _ => exact ⟨c0, c1, c2, y0, y1, y2, m, rfl, by simpa [o0, k0] using h0, by simpa [o1, k1] using h1, by simpa [o2, k2] using h2⟩
theorem st4 {t : TypeId} {f0 f1 f2 f3 : Field} (hs : P.underlying t = some (.struct #[f0, f1, f2, f3])) (hone : oneCellFields P #[f0, f1, f2, f3] = true) (hC : P.cellsOf t = 4) {n : Nat} {cs : List Value} {x : DataW H × List MemPlace} (h : DataW.trod enc P w base spare held n t cs = some x) :
    ∃ c0 c1 c2 c3 y0 y1 y2 y3 m, cs = [c0, c1, c2, c3] ∧ DataW.trod enc P w base spare held m f0.type [c0] = some y0 ∧ DataW.trod enc P w base spare held m f1.type [c1] = some y1 ∧ DataW.trod enc P w base spare held m f2.type [c2] = some y2 ∧ DataW.trod enc P w base spare held m f3.type [c3] = some y3 := by
  obtain ⟨y0, y1, y2, y3, m, _, hl, h0, h1, h2, h3⟩ := Joins.trod_struct4 hs h
  rw [hC] at hl
  obtain ⟨o0, k0⟩ := hone_of hone 0 f0 rfl
  obtain ⟨o1, k1⟩ := hone_of hone 1 f1 rfl
  obtain ⟨o2, k2⟩ := hone_of hone 2 f2 rfl
  obtain ⟨o3, k3⟩ := hone_of hone 3 f3 rfl
  match cs, hl with
  | [c0, c1, c2, c3], _ => exact ⟨c0, c1, c2, c3, y0, y1, y2, y3, m, rfl, by simpa [o0, k0] using h0, by simpa [o1, k1] using h1, by simpa [o2, k2] using h2, by simpa [o3, k3] using h3⟩
theorem rd_cond {t : TypeId} {f0 f1 f2 : Field} (hs : P.underlying t = some (.struct #[f0, f1, f2])) (hone : oneCellFields P #[f0, f1, f2] = true) (hC : P.cellsOf t = 3)
    (r0 : Reads enc P w base spare held f0.type RInt) (r1 : Reads enc P w base spare held f1.type RInt) (r2 : Reads enc P w base spare held f2.type RInt) : Reads enc P w base spare held t RCond := fun n cs x h => by
  obtain ⟨c0, c1, c2, y0, y1, y2, m, rfl, h0, h1, h2⟩ := st3 hs hone hC h
  obtain ⟨a, ea, ia⟩ := r0 _ _ _ h0
  obtain ⟨b, eb, ib⟩ := r1 _ _ _ h1
  obtain ⟨c, ec, ic⟩ := r2 _ _ _ h2
  simp at ea eb ec
  subst ea eb ec
  exact ⟨⟨a, b, c⟩, rfl, ia, ib, ic⟩
theorem rd_row {t : TypeId} {f0 f1 : Field} (hs : P.underlying t = some (.struct #[f0, f1])) (hone : oneCellFields P #[f0, f1] = true) (hC : P.cellsOf t = 2)
    (r0 : Reads enc P w base spare held f0.type RInt) (r1 : Reads enc P w base spare held f1.type (ROf RInts)) : Reads enc P w base spare held t RRow := fun n cs x h => by
  obtain ⟨c0, c1, y0, y1, m, rfl, h0, h1⟩ := st2 hs hone hC h
  obtain ⟨a, ea, ia⟩ := r0 _ _ _ h0
  obtain ⟨b, u, eb, ib⟩ := r1 _ _ _ h1
  simp at ea eb
  subst ea eb
  exact ⟨⟨a, b⟩, _, rfl, ia, ib⟩
theorem rd_span {t : TypeId} {f0 f1 f2 : Field} (hs : P.underlying t = some (.struct #[f0, f1, f2])) (hone : oneCellFields P #[f0, f1, f2] = true) (hC : P.cellsOf t = 3)
    (r0 : Reads enc P w base spare held f0.type RInt) (r1 : Reads enc P w base spare held f1.type RInt) (r2 : Reads enc P w base spare held f2.type (ROf RInts)) : Reads enc P w base spare held t RSpan := fun n cs x h => by
  obtain ⟨c0, c1, c2, y0, y1, y2, m, rfl, h0, h1, h2⟩ := st3 hs hone hC h
  obtain ⟨a, ea, ia⟩ := r0 _ _ _ h0
  obtain ⟨b, eb, ib⟩ := r1 _ _ _ h1
  obtain ⟨c, u, ec, ic⟩ := r2 _ _ _ h2
  simp at ea eb ec
  subst ea eb ec
  exact ⟨⟨a, b, c⟩, _, rfl, ia, ib, ic⟩
theorem rd_query {t : TypeId} {f0 f1 f2 f3 : Field} (hs : P.underlying t = some (.struct #[f0, f1, f2, f3])) (hone : oneCellFields P #[f0, f1, f2, f3] = true) (hC : P.cellsOf t = 4)
    (r0 : Reads enc P w base spare held f0.type RInt) (r1 : Reads enc P w base spare held f1.type RInt) (r2 : Reads enc P w base spare held f2.type (ROf RConds)) (r3 : Reads enc P w base spare held f3.type (ROf RInts)) : Reads enc P w base spare held t RQuery := fun n cs x h => by
  obtain ⟨c0, c1, c2, c3, y0, y1, y2, y3, m, rfl, h0, h1, h2, h3⟩ := st4 hs hone hC h
  obtain ⟨a, ea, ia⟩ := r0 _ _ _ h0
  obtain ⟨b, eb, ib⟩ := r1 _ _ _ h1
  obtain ⟨c, u, ec, ic⟩ := r2 _ _ _ h2
  obtain ⟨d, v, ed, id⟩ := r3 _ _ _ h3
  simp at ea eb ec ed
  subst ea eb ec ed
  exact ⟨⟨a, b, c, d⟩, _, _, rfl, ia, ib, ic, id⟩
theorem rd_version {t : TypeId} {f0 f1 f2 f3 : Field} (hs : P.underlying t = some (.struct #[f0, f1, f2, f3])) (hone : oneCellFields P #[f0, f1, f2, f3] = true) (hC : P.cellsOf t = 4)
    (r0 : Reads enc P w base spare held f0.type RInt) (r1 : Reads enc P w base spare held f1.type (ROf RInts)) (r2 : Reads enc P w base spare held f2.type RInt) (r3 : Reads enc P w base spare held f3.type RInt) : Reads enc P w base spare held t RVersion := fun n cs x h => by
  obtain ⟨c0, c1, c2, c3, y0, y1, y2, y3, m, rfl, h0, h1, h2, h3⟩ := st4 hs hone hC h
  obtain ⟨a, ea, ia⟩ := r0 _ _ _ h0
  obtain ⟨b, u, eb, ib⟩ := r1 _ _ _ h1
  obtain ⟨c, ec, ic⟩ := r2 _ _ _ h2
  obtain ⟨d, ed, id⟩ := r3 _ _ _ h3
  simp at ea eb ec ed
  subst ea eb ec ed
  exact ⟨⟨a, b, c, d⟩, _, rfl, ia, ib, ic, id⟩
theorem rd_index {t : TypeId} {f0 f1 : Field} (hs : P.underlying t = some (.struct #[f0, f1])) (hone : oneCellFields P #[f0, f1] = true) (hC : P.cellsOf t = 2)
    (r0 : Reads enc P w base spare held f0.type (ROf RQueries)) (r1 : Reads enc P w base spare held f1.type (ROf RSpanss)) : Reads enc P w base spare held t RIndex := fun n cs x h => by
  obtain ⟨c0, c1, y0, y1, m, rfl, h0, h1⟩ := st2 hs hone hC h
  obtain ⟨a, u, ea, ia⟩ := r0 _ _ _ h0
  obtain ⟨b, v, eb, ib⟩ := r1 _ _ _ h1
  simp at ea eb
  subst ea eb
  exact ⟨⟨a, b⟩, _, _, rfl, ia, ib⟩
theorem rd_store {t : TypeId} {f0 f1 : Field} (hs : P.underlying t = some (.struct #[f0, f1])) (hone : oneCellFields P #[f0, f1] = true) (hC : P.cellsOf t = 2)
    (r0 : Reads enc P w base spare held f0.type (ROf RVersionss)) (r1 : Reads enc P w base spare held f1.type RInt) : Reads enc P w base spare held t RStore := fun n cs x h => by
  obtain ⟨c0, c1, y0, y1, m, rfl, h0, h1⟩ := st2 hs hone hC h
  obtain ⟨a, u, ea, ia⟩ := r0 _ _ _ h0
  obtain ⟨b, eb, ib⟩ := r1 _ _ _ h1
  simp at ea eb
  subst ea eb
  exact ⟨⟨a, b⟩, _, rfl, ia, ib⟩
/-- An argument of slice type. -/
theorem arg_sl {α : Type} {r : Reach} {b0 : Nat} {t e : TypeId} {sz : Nat} {R : World → List Value → α → Prop} {v : Value} {d : DataW H} {p : List MemPlace} (ht : P.underlying t = some (.slice e))
    (he : Reads enc P w base spare held t (ROf (RSlice sz R))) (hv : Value.okWide P w r b0 t v) (h : DataW.Trod enc P w base spare held t v d p) : ∃ xs, RSlice sz R w v xs := by
  obtain ⟨a, len, cap, rfl⟩ := okWide_slice ht hv
  obtain ⟨n, hn⟩ := h
  obtain ⟨xs, v', hc, hr⟩ := he _ _ _ hn
  simp [Value.cells] at hc
  subst hc
  exact ⟨xs, hr⟩
/-- An argument of struct type. -/
theorem arg_st {α : Type} {r : Reach} {b0 : Nat} {t : TypeId} {fs : Array Field} {R : World → List Value → α → Prop} {v : Value} {d : DataW H} {p : List MemPlace} (ht : P.underlying t = some (.struct fs))
    (he : Reads enc P w base spare held t R) (hv : Value.okWide P w r b0 t v) (h : DataW.Trod enc P w base spare held t v d p) : ∃ (x : α) (cs : List Value), v = .agg cs.toArray ∧ R w cs x := by
  obtain ⟨cs, rfl, hsz⟩ := okWide_struct ht hv
  obtain ⟨n, hn⟩ := h
  obtain ⟨x, hr⟩ := he _ _ _ hn
  exact ⟨x, cs.toList, by simp, by simpa [Value.cells] using hr⟩
end
end Go.Proofs.YtcdcpfcmhmhdjaaDoor

/- A []byte argument, read. -/
namespace Go.Proofs.YtcdcpfcmhmhdjaaDoor
open Go.ChangeShapes Go.WideShapes Go.RowKit Go.Deep
theorem rd_byte {H : Type} {enc : TypeId × Value → H} {P : Program} {w : World} {base : Nat} {spare : Nat → Bool} {held : Bool} {t : TypeId} (ht : P.underlying t = some (.int .u8)) : Reads enc P w base spare held t RByte := fun n cs x h => by
  obtain ⟨k, rfl, _, hw⟩ := DataW.trod_int ht h
  exact ⟨k, rfl, by have := bounds_u8 hw; omega⟩
end Go.Proofs.YtcdcpfcmhmhdjaaDoor
