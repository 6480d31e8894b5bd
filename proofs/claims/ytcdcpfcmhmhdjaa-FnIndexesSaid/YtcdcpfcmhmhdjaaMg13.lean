/- FnIndexes: the walk of the law. (Printed by gen_idxql.py.) -/
import Derived.Test.YtcdcpfcmhmhdjaaMg2
import Derived.Test.YtcdcpfcmhmhdjaaMg11
import Derived.Test.YtcdcpfcmhmhdjaaMg12
import Derived.Test.YtcdcpfcmhmhdjaaMg6
import Derived.Test.YtcdcpfcmhmhdjaaMatch
import Derived.Test.YtcdcpfcmhmhdjaaIsx
import Derived.Deep.DeepCutAuto
namespace Go.Proofs.Ytcdcpfcmhmhdjaa
open Go.RowKit Go.ChangeShapes Go.WideShapes Go.Deep
def IxAt (w : World) (x : DIndex) (q f : Value) : Prop := RQueries w q x.queries ∧ RSpanss w f x.fields
theorem IxAt.mono {w w' : World} {x : DIndex} {q f : Value} (h : IxAt w x q f) (g : Gr w w') : IxAt w' x q f := ⟨RSlice.mono keeps_query g h.1, RSlice.mono (keeps_of keeps_span) g h.2⟩
theorem impl_IsIndex_of {x : DIndex} {b : Bool} (h : isIndexB x = b) (u v : Value) (w : World) (hx : IxAt w x u v) : Calls Try.prog 9 #[.agg #[u, v]] w fun e w' => e = .returned (.bool b) ∧ Gr w w' := h ▸ impl_IsIndex x u v w hx.1 hx.2
theorem spec_IsIndex_of {x : DIndex} {b : Bool} (h : isIndexB x = b) (u v : Value) (w : World) (hx : IxAt w x u v) : Calls Try.prog 10 #[.agg #[u, v]] w fun e w' => e = .returned (.bool b) ∧ Gr w w' := h ▸ spec_IsIndex x u v w hx.1 hx.2
theorem spec_IsRow_at {x : DRow} {b : Bool} (h : isRowB x = b) (u : Value) (w : World) (hx : RInts w u x.vals) : Calls Try.prog 13 #[.agg #[.int .i64 x.id, u]] w fun e w' => e = .returned (.bool b) ∧ Gr w w' := h ▸ spec_IsRow x u w hx
theorem spec_MatchesRow_of {q : DQuery} {r : DRow} {b : Bool} (h : matchB q r = b) (u u' t : Value) (w : World) (hu : RConds w u q.conds) (hu' : RInts w u' q.out) (ht : RInts w t r.vals) : Calls Try.prog 15 #[.agg #[.int .i64 q.id, .int .i64 q.tenant, u, u'], .agg #[.int .i64 r.id, t]] w fun e w' => e = .returned (.bool b) ∧ Gr w w' := h ▸ spec_MatchesRow q u u' r t w hu hu' ht
theorem impl_WorkOf_of {x : DIndex} {rows : List DRow} {o : List Int} {n : Int} (h : workL x rows o = n) (u v t s : Value) (w : World) (hx : IxAt w x u v) (ht : RRows w t rows) (hs : RInts w s o) (hb : totIndex x ≤ 4294967296) (hb2 : totL totRow rows ≤ 4294967296) :
    Calls Try.prog 20 #[.agg #[u, v], t, s] w fun e w' => e = .returned (.int .i64 n) ∧ Gr w w' := h ▸ impl_WorkOf x u v t rows s o w hx.1 hx.2 ht hs hb hb2
theorem spec_WorkOf_of {x : DIndex} {rows : List DRow} {o : List Int} {n : Int} (h : workL x rows o = n) (u v t s : Value) (w : World) (hx : IxAt w x u v) (ht : RRows w t rows) (hs : RInts w s o) (hb : totIndex x ≤ 4294967296) (hb2 : totL totRow rows ≤ 4294967296) :
    Calls Try.prog 21 #[.agg #[u, v], t, s] w fun e w' => e = .returned (.int .i64 n) ∧ Gr w w' := h ▸ spec_WorkOf x u v t rows s o w hx.1 hx.2 ht hs hb hb2
theorem queries_cell {w : World} {g o n c : Nat} {X : List DQuery} (h : RQueries w (.slice (some ⟨g, o, none⟩) n c) X) {k : Nat} (hk : k < X.length) : ∃ (us : Option Addr) (un uc : Nat) (xs : Option Addr) (xn xc : Nat),
    w.cell? ⟨g, o + k * 4, none⟩ = some (.int .i64 X[k].id) ∧ w.cell? ⟨g, o + k * 4 + 1, none⟩ = some (.int .i64 X[k].tenant) ∧ w.cell? ⟨g, o + k * 4 + 2, none⟩ = some (.slice us un uc) ∧ w.cell? ⟨g, o + k * 4 + 3, none⟩ = some (.slice xs xn xc) ∧ Hid (RConds w (.slice us un uc) X[k].conds ∧ RInts w (.slice xs xn xc) X[k].out) := by
  obtain ⟨a', cap', e, h1, h2, h3⟩ := h
  obtain ⟨rfl, _, _⟩ : some (⟨g, o, none⟩ : Addr) = a' ∧ n = X.length ∧ c = cap' := by simpa using e
  obtain ⟨b, off, cs, ha, _, ⟨u, x, rfl, _, _, hu, hx⟩, hcc⟩ := h3 k hk
  simp only [Option.some.injEq, Addr.mk.injEq, and_true] at ha
  obtain ⟨rfl, rfl⟩ := ha
  obtain ⟨ay, ny, ky, rfl⟩ := hu.isSl
  obtain ⟨bx, nx, kx, rfl⟩ := hx.isSl
  have c0 := hcc 0 (by simp)
  have c1 := hcc 1 (by simp)
  have c2 := hcc 2 (by simp)
  have c3 := hcc 3 (by simp)
  exact ⟨ay, ny, ky, bx, nx, kx, by simpa using c0, by simpa using c1, by simpa using c2, by simpa using c3, Lib.hid ⟨hu, hx⟩⟩
theorem rows_tot {rs : List DRow} (hl : rs.length ≤ 9) (h : ∀ r ∈ rs, totRow r ≤ 4) : totL totRow rs ≤ 4294967296 := by
  have h2 := sumT_const (g := totRow) (c := 4) rs h
  rw [totL_eq]
  omega
theorem lit3 {w w' : World} {p : Nat} {a b c : Int} (h : w.heap.size = p) (g : Gr (w.alloc (.cells #[.int .i64 a, .int .i64 b, .int .i64 c] 3)) w') (ha : I64 a) (hb : I64 b) (hc : I64 c) : RInts w' (.slice (some ⟨p, 0, none⟩) 3 3) [a, b, c] := by
  subst h
  refine RSlice.mono keeps_int g (rd_pints (F := fun _ => True) ?_)
  exact (pints3 (heap_alloc_new _ _) ha hb hc).mono fun _ _ => trivial
set_option maxRecDepth 100000 in
set_option maxHeartbeats 8000000 in
theorem law_FnIndexes (w : World) (v : Value) (bs : List Int) (hv : RBytes w v bs) : Calls Try.prog 3 #[v] w fun e w' => e = .returned (.bool true) ∧ Gr w w' := by
  have HV := Lib.hid hv
  obtain ⟨va, vc, rfl⟩ := hv.form
  clear hv
  go_enter Try.func3, Try.ntmps3
  go_wp2_with fail
  by_cases hbig : (bs.length : Int) > 1048576
  · refine (laws_big_yes hbig va vc _).mono ?_
    rintro e w1 ⟨rfl, rfl⟩
    go_wp2_with fail
    go_ret
    exact ⟨rfl, Gr.refl _⟩
  · refine (laws_big_no hbig va vc _).mono ?_
    rintro e W ⟨rfl, rfl⟩
    have HBS : Hid (bs.length ≤ 1048576) := Lib.hid (by omega)
    clear hbig
    go_wp2_with fail
    refine (spec_DrawProbeSet _ bs _ HV.out).mono ?_
    rintro e w1 ⟨vq, vf, x, u, id, vs, b, n, c, os, rfl, hl, hqf, hi, hu, hn, ho, hg1⟩
    obtain ⟨qa, qn, qc, rfl⟩ := hqf.out.1.isSl
    obtain ⟨fa, fn, fc, rfl⟩ := hqf.out.2.isSl
    obtain ⟨ua, un, uc, rfl⟩ := hu.out.isSl
    have HT : Hid (totIndex x ≤ 4294967296) := Lib.hid (by have := hl.out.1; omega)
    replace HV : Hid (RBytes w1 (.slice va bs.length vc) bs) := Lib.hid (RSlice.mono keeps_byte hg1.out HV.out)
    have HG : Hid (Gr W w1) := hg1
    have HX : Hid (IxAt w1 x (.slice qa qn qc) (.slice fa fn fc)) := Lib.hid ⟨hqf.out.1, hqf.out.2⟩
    have HU : Hid (RInts w1 (.slice ua un uc) vs) := hu
    have HO : Hid (RInts w1 (.slice b n c) os) := ho
    clear hl hqf hi hu hn ho hg1
    obtain ⟨B1, hB1⟩ : ∃ B, B = w1.heap.size := ⟨_, rfl⟩
    obtain ⟨W1, hW1⟩ : ∃ W, W = ((w1.alloc (.cells #[.slice qa qn qc, .slice fa fn fc] 27)).alloc (.cells #[.int .i64 id, .slice ua un uc] 30)) := ⟨_, rfl⟩
    have G1 : Gr w1 W1 := by rw [hW1]; exact ((Gr.refl _).alloc _).alloc _
    replace HV : Hid (RBytes W1 (.slice va bs.length vc) bs) := Lib.hid (RSlice.mono keeps_byte G1 HV.out)
    replace HG : Hid (Gr W W1) := Lib.hid (HG.out.trans G1)
    replace HX : Hid (IxAt W1 x (.slice qa qn qc) (.slice fa fn fc)) := Lib.hid (HX.out.mono G1)
    replace HU : Hid (RInts W1 (.slice ua un uc) vs) := Lib.hid (RSlice.mono keeps_int G1 HU.out)
    replace HO : Hid (RInts W1 (.slice b n c) os) := Lib.hid (RSlice.mono keeps_int G1 HO.out)
    have SX : Hid (Std 27 B1 #[.slice qa qn qc, .slice fa fn fc] W1) := Lib.hid (by rw [hW1, hB1]; exact (Std.new _).gr ((Gr.refl _).alloc _))
    have e1 : (w1.alloc (.cells #[.slice qa qn qc, .slice fa fn fc] 27)).heap.size = B1 + 1 := by rw [hB1]; simp
    have SR : Hid (Std 30 (B1 + 1) #[.int .i64 id, .slice ua un uc] W1) := Lib.hid (by rw [hW1, ← e1]; exact Std.new _)
    clear e1
    clear G1
    go_wp2_with fail
    rw [← hW1, ← hB1]
    clear hW1 hB1
    refine (impl_ProbeSet x _ _ ⟨id, vs⟩ _ _ os _ HX.out.1 HX.out.2 HU.out HO.out HT.out).mono ?_
    rintro e w2 ⟨q, rfl, g2, hq⟩
    obtain ⟨PL, hPL⟩ : ∃ PL, PL = (probeL x ⟨id, vs⟩ os).1 := ⟨_, rfl⟩
    obtain ⟨N, hN⟩ : ∃ N, N = (probeL x ⟨id, vs⟩ os).2 := ⟨_, rfl⟩
    rw [← hPL] at hq
    rw [← hN]
    have HPL := Lib.hid hPL
    have HN := Lib.hid hN
    clear hPL hN
    obtain ⟨sa, sn, sc, rfl⟩ := (rd_pints hq).isSl
    replace HV : Hid (RBytes w2 (.slice va bs.length vc) bs) := Lib.hid (RSlice.mono keeps_byte g2 HV.out)
    replace HG : Hid (Gr W w2) := Lib.hid (HG.out.trans g2)
    replace HX : Hid (IxAt w2 x (.slice qa qn qc) (.slice fa fn fc)) := Lib.hid (HX.out.mono g2)
    replace HU : Hid (RInts w2 (.slice ua un uc) vs) := Lib.hid (RSlice.mono keeps_int g2 HU.out)
    replace HO : Hid (RInts w2 (.slice b n c) os) := Lib.hid (RSlice.mono keeps_int g2 HO.out)
    replace SX : Hid (Std 27 B1 #[.slice qa qn qc, .slice fa fn fc] w2) := Lib.hid (SX.out.gr g2)
    replace SR : Hid (Std 30 (B1 + 1) #[.int .i64 id, .slice ua un uc] w2) := Lib.hid (SR.out.gr g2)
    have HQ : Hid (RInts w2 (.slice sa sn sc) PL) := Lib.hid (rd_pints hq)
    clear hq g2
    have kSX_0 : w2.cell? ⟨B1, 0, none⟩ = some (.slice qa qn qc) := SX.out.cell rfl
    have kSX_1 : w2.cell? ⟨B1, 1, none⟩ = some (.slice fa fn fc) := SX.out.cell rfl
    have kSR_0 : w2.cell? ⟨(B1 + 1), 0, none⟩ = some (.int .i64 id) := SR.out.cell rfl
    have kSR_1 : w2.cell? ⟨(B1 + 1), 1, none⟩ = some (.slice ua un uc) := SR.out.cell rfl
    go_wp2_with fail
    refine (spec_ProbeSet x _ _ ⟨id, vs⟩ _ _ os _ HX.out.1 HX.out.2 HU.out HO.out HT.out).mono ?_
    rintro e w3 ⟨q, rfl, hq, g3⟩
    rw [← HPL.out] at hq
    rw [← HN.out]
    obtain ⟨ta, tn, tc, rfl⟩ := hq.isSl
    clear kSX_0 kSX_1
    clear kSR_0 kSR_1
    replace HV : Hid (RBytes w3 (.slice va bs.length vc) bs) := Lib.hid (RSlice.mono keeps_byte g3 HV.out)
    replace HG : Hid (Gr W w3) := Lib.hid (HG.out.trans g3)
    replace HX : Hid (IxAt w3 x (.slice qa qn qc) (.slice fa fn fc)) := Lib.hid (HX.out.mono g3)
    replace HU : Hid (RInts w3 (.slice ua un uc) vs) := Lib.hid (RSlice.mono keeps_int g3 HU.out)
    replace HO : Hid (RInts w3 (.slice b n c) os) := Lib.hid (RSlice.mono keeps_int g3 HO.out)
    replace SX : Hid (Std 27 B1 #[.slice qa qn qc, .slice fa fn fc] w3) := Lib.hid (SX.out.gr g3)
    replace SR : Hid (Std 30 (B1 + 1) #[.int .i64 id, .slice ua un uc] w3) := Lib.hid (SR.out.gr g3)
    replace HQ : Hid (RInts w3 (.slice sa sn sc) PL) := Lib.hid (RSlice.mono keeps_int g3 HQ.out)
    have HS : Hid (RInts w3 (.slice ta tn tc) PL) := Lib.hid (hq)
    clear hq g3
    obtain ⟨ib, hib⟩ : ∃ ib, isIndexB x = ib := ⟨_, rfl⟩
    have HIB := Lib.hid hib
    clear hib
    have hpp : (ib != ib) = false := by cases ib <;> rfl
    have hNN : (N != N) = false := by simp
    have kSX_0 : w3.cell? ⟨B1, 0, none⟩ = some (.slice qa qn qc) := SX.out.cell rfl
    have kSX_1 : w3.cell? ⟨B1, 1, none⟩ = some (.slice fa fn fc) := SX.out.cell rfl
    have kSR_0 : w3.cell? ⟨(B1 + 1), 0, none⟩ = some (.int .i64 id) := SR.out.cell rfl
    have kSR_1 : w3.cell? ⟨(B1 + 1), 1, none⟩ = some (.slice ua un uc) := SR.out.cell rfl
    go_wp2_with fail
    have hS1 : ∀ q : Ext w3, Calls Try.prog 8 #[.slice sa sn sc, .slice ta tn tc] q.val fun e w' => e = .returned (.bool true) ∧ Gr q.val w' := fun q => laws_sameInts_self _ _ _ (RSlice.mono keeps_int q.gr HQ.out) (RSlice.mono keeps_int q.gr HS.out)
    have hS2 : ∀ q : Ext w3, Calls Try.prog 9 #[.agg #[.slice qa qn qc, .slice fa fn fc]] q.val fun e w' => e = .returned (.bool ib) ∧ Gr q.val w' := fun q => impl_IsIndex_of HIB.out _ _ _ (HX.out.mono q.gr)
    have hS3 : ∀ q : Ext w3, Calls Try.prog 10 #[.agg #[.slice qa qn qc, .slice fa fn fc]] q.val fun e w' => e = .returned (.bool ib) ∧ Gr q.val w' := fun q => spec_IsIndex_of HIB.out _ _ _ (HX.out.mono q.gr)
    have q0 := fun q : Ext w3 => Ext.cell kSX_0 q
    have q1 := fun q : Ext w3 => Ext.cell kSX_1 q
    refine wp_region_ext (by kernel_rfl) (by kernel_rfl) ?_
    repeat (go_big_quiet_step (first | (go_at_call 8; with_reducible exact quiet_ext (hS1 _)) | (go_at_call 9; with_reducible exact quiet_ext (hS2 _)) | (go_at_call 10; with_reducible exact quiet_ext (hS3 _))))
    refine wpQuiet_nil ?_
    intro w4 hw4
    have g4 := Ext.out hw4
    clear hw4 q0 q1 hS1 hS2 hS3 hpp hNN
    clear kSX_0 kSX_1
    clear kSR_0 kSR_1
    replace HV : Hid (RBytes w4 (.slice va bs.length vc) bs) := Lib.hid (RSlice.mono keeps_byte g4 HV.out)
    replace HG : Hid (Gr W w4) := Lib.hid (HG.out.trans g4)
    replace HX : Hid (IxAt w4 x (.slice qa qn qc) (.slice fa fn fc)) := Lib.hid (HX.out.mono g4)
    replace HU : Hid (RInts w4 (.slice ua un uc) vs) := Lib.hid (RSlice.mono keeps_int g4 HU.out)
    replace HO : Hid (RInts w4 (.slice b n c) os) := Lib.hid (RSlice.mono keeps_int g4 HO.out)
    replace SX : Hid (Std 27 B1 #[.slice qa qn qc, .slice fa fn fc] w4) := Lib.hid (SX.out.gr g4)
    replace SR : Hid (Std 30 (B1 + 1) #[.int .i64 id, .slice ua un uc] w4) := Lib.hid (SR.out.gr g4)
    replace HQ : Hid (RInts w4 (.slice sa sn sc) PL) := Lib.hid (RSlice.mono keeps_int g4 HQ.out)
    replace HS : Hid (RInts w4 (.slice ta tn tc) PL) := Lib.hid (RSlice.mono keeps_int g4 HS.out)
    clear g4 HS
    go_upto_region 8 with fail
    go_cut [67] (fun c wx => c = .bool false ∧ Hid (Gr w4 wx))
    case first =>
      by_cases hN0 : 0 < N
      · have hd : decide (N > 0) = true := decide_eq_true hN0
        have HPM : Hid (PL = (probeL x ⟨id, vs⟩ [0, 1, 2]).1) := Lib.hid (by rw [HPL.out]; exact probe_any (probe_work_no (by rw [← HN.out]; exact hN0)))
        have hN1 : ¬ N ≤ 0 := by omega
        have kSX_0 : w4.cell? ⟨B1, 0, none⟩ = some (.slice qa qn qc) := SX.out.cell rfl
        have kSX_1 : w4.cell? ⟨B1, 1, none⟩ = some (.slice fa fn fc) := SX.out.cell rfl
        have kSR_0 : w4.cell? ⟨(B1 + 1), 0, none⟩ = some (.int .i64 id) := SR.out.cell rfl
        have kSR_1 : w4.cell? ⟨(B1 + 1), 1, none⟩ = some (.slice ua un uc) := SR.out.cell rfl
        go_wp2_with fail
        refine (impl_MatchSet x _ _ ⟨id, vs⟩ _ _ HX.out.1 HX.out.2 HU.out HT.out).mono ?_
        rintro e w5 ⟨q, rfl, g5, hq⟩
        rw [← HPM.out] at hq
        obtain ⟨ma, mn, mc, rfl⟩ := (rd_pints hq).isSl
        go_wp2_with fail
        refine (laws_sameInts_self _ _ _ (RSlice.mono keeps_int g5 HQ.out) (rd_pints hq)).mono ?_
        rintro e w6 ⟨rfl, g6⟩
        go_wp2_with fail
        go_meet
        exact ⟨rfl, Lib.hid (g5.trans g6)⟩
      · have hd : decide (N > 0) = false := decide_eq_false hN0
        have kSX_0 : w4.cell? ⟨B1, 0, none⟩ = some (.slice qa qn qc) := SX.out.cell rfl
        have kSX_1 : w4.cell? ⟨B1, 1, none⟩ = some (.slice fa fn fc) := SX.out.cell rfl
        have kSR_0 : w4.cell? ⟨(B1 + 1), 0, none⟩ = some (.int .i64 id) := SR.out.cell rfl
        have kSR_1 : w4.cell? ⟨(B1 + 1), 1, none⟩ = some (.slice ua un uc) := SR.out.cell rfl
        go_wp2_with fail
        go_meet
        exact ⟨rfl, Lib.hid (Gr.refl _)⟩
    case rest =>
      obtain ⟨rfl, g5⟩ := hcut
      clear HX
      clear HU
      clear HO
      clear SX
      clear SR
      clear HQ
      replace HV : Hid (RBytes wc (.slice va bs.length vc) bs) := Lib.hid (RSlice.mono keeps_byte g5.out HV.out)
      replace HG : Hid (Gr W wc) := Lib.hid (HG.out.trans g5.out)
      clear g5 HT HPL HN HIB
      go_wp2_with fail
      refine (spec_DrawMatchSet _ bs _ HV.out).mono ?_
      rintro e w7 ⟨vq, vf, y, u, id, vs, rfl, hl, hqf, hi, hu, hg⟩
      obtain ⟨Q, F⟩ := y
      obtain ⟨qa, qc, rfl⟩ := hqf.out.1.form
      obtain ⟨fa, fn, fc, rfl⟩ := hqf.out.2.isSl
      obtain ⟨ua, un, uc, rfl⟩ := hu.out.isSl
      have HT : Hid (totIndex ⟨Q, F⟩ ≤ 4294967296) := Lib.hid (by have := hl.out.1; omega)
      have HQL : Hid (Q.length ≤ 7) := Lib.hid hl.out.2
      have HXW : Hid (IxAt w7 ⟨Q, F⟩ (.slice qa Q.length qc) (.slice fa fn fc)) := Lib.hid ⟨hqf.out.1, hqf.out.2⟩
      clear hqf hl
      replace HV : Hid (RBytes w7 (.slice va bs.length vc) bs) := Lib.hid (RSlice.mono keeps_byte hg.out HV.out)
      replace HG : Hid (Gr W w7) := Lib.hid (HG.out.trans hg.out)
      have HX : Hid (IxAt w7 ⟨Q, F⟩ (.slice qa Q.length qc) (.slice fa fn fc)) := Lib.hid HXW.out
      have HU : Hid (RInts w7 (.slice ua un uc) vs) := hu
      dsimp only
      clear HXW hi hu hg
      obtain ⟨B8, hB8⟩ : ∃ B, B = w7.heap.size := ⟨_, rfl⟩
      obtain ⟨W8, hW8⟩ : ∃ W, W = ((w7.alloc (.cells #[.slice qa Q.length qc, .slice fa fn fc] 27)).alloc (.cells #[.int .i64 id, .slice ua un uc] 30)) := ⟨_, rfl⟩
      have G8 : Gr w7 W8 := by rw [hW8]; exact ((Gr.refl _).alloc _).alloc _
      replace HV : Hid (RBytes W8 (.slice va bs.length vc) bs) := Lib.hid (RSlice.mono keeps_byte G8 HV.out)
      replace HG : Hid (Gr W W8) := Lib.hid (HG.out.trans G8)
      replace HX : Hid (IxAt W8 ⟨Q, F⟩ (.slice qa Q.length qc) (.slice fa fn fc)) := Lib.hid (HX.out.mono G8)
      replace HU : Hid (RInts W8 (.slice ua un uc) vs) := Lib.hid (RSlice.mono keeps_int G8 HU.out)
      have SX : Hid (Std 27 B8 #[.slice qa Q.length qc, .slice fa fn fc] W8) := Lib.hid (by rw [hW8, hB8]; exact (Std.new _).gr ((Gr.refl _).alloc _))
      have e8 : (w7.alloc (.cells #[.slice qa Q.length qc, .slice fa fn fc] 27)).heap.size = B8 + 1 := by rw [hB8]; simp
      have SR : Hid (Std 30 (B8 + 1) #[.int .i64 id, .slice ua un uc] W8) := Lib.hid (by rw [hW8, ← e8]; exact Std.new _)
      clear e8
      clear G8
      go_wp2_with fail
      rw [← hW8, ← hB8]
      clear hW8 hB8
      refine (impl_MatchSet ⟨Q, F⟩ _ _ ⟨id, vs⟩ _ _ HX.out.1 HX.out.2 HU.out HT.out).mono ?_
      rintro e w9 ⟨q, rfl, g9, hq⟩
      obtain ⟨ML, hML⟩ : ∃ ML, ML = (probeL ⟨Q, F⟩ ⟨id, vs⟩ [0, 1, 2]).1 := ⟨_, rfl⟩
      rw [← hML] at hq
      have HML := Lib.hid hML
      clear hML
      obtain ⟨sa, sc, rfl⟩ := (rd_pints hq).form
      replace HV : Hid (RBytes w9 (.slice va bs.length vc) bs) := Lib.hid (RSlice.mono keeps_byte g9 HV.out)
      replace HG : Hid (Gr W w9) := Lib.hid (HG.out.trans g9)
      replace HX : Hid (IxAt w9 ⟨Q, F⟩ (.slice qa Q.length qc) (.slice fa fn fc)) := Lib.hid (HX.out.mono g9)
      replace HU : Hid (RInts w9 (.slice ua un uc) vs) := Lib.hid (RSlice.mono keeps_int g9 HU.out)
      replace SX : Hid (Std 27 B8 #[.slice qa Q.length qc, .slice fa fn fc] w9) := Lib.hid (SX.out.gr g9)
      replace SR : Hid (Std 30 (B8 + 1) #[.int .i64 id, .slice ua un uc] w9) := Lib.hid (SR.out.gr g9)
      have HQ : Hid (RInts w9 (.slice sa ML.length sc) ML) := Lib.hid (rd_pints hq)
      clear hq g9 HT
      obtain ⟨iy, hiy⟩ : ∃ iy, isIndexB ⟨Q, F⟩ = iy := ⟨_, rfl⟩
      obtain ⟨ir, hir⟩ : ∃ ir, isRowB ⟨id, vs⟩ = ir := ⟨_, rfl⟩
      have HIY := Lib.hid hiy
      have HIR := Lib.hid hir
      clear hiy hir
      have kSX_0 : w9.cell? ⟨B8, 0, none⟩ = some (.slice qa Q.length qc) := SX.out.cell rfl
      have kSX_1 : w9.cell? ⟨B8, 1, none⟩ = some (.slice fa fn fc) := SX.out.cell rfl
      have kSR_0 : w9.cell? ⟨(B8 + 1), 0, none⟩ = some (.int .i64 id) := SR.out.cell rfl
      have kSR_1 : w9.cell? ⟨(B8 + 1), 1, none⟩ = some (.slice ua un uc) := SR.out.cell rfl
      go_upto_region 12 with fail
      go_cut [81] (fun c wx => c = .bool (iy && ir) ∧ Hid (Gr w9 wx))
      case first =>
        go_wp2_with fail
        refine (spec_IsIndex_of HIY.out _ _ _ HX.out).mono ?_
        rintro e wa ⟨rfl, ga⟩
        replace kSR_0 := ga.cellv kSR_0
        replace kSR_1 := ga.cellv kSR_1
        cases iy with
        | false =>
          go_wp2_with fail
          go_meet
          exact ⟨rfl, Lib.hid ga⟩
        | true =>
          go_wp2_with fail
          refine (spec_IsRow_at HIR.out _ _ (RSlice.mono keeps_int ga HU.out)).mono ?_
          rintro e wb ⟨rfl, gb⟩
          go_wp2_with fail
          go_meet
          exact ⟨rfl, Lib.hid (ga.trans gb)⟩
      case rest =>
        obtain ⟨rfl, g10⟩ := hcut
        clear kSX_0 kSX_1
        clear kSR_0 kSR_1
        replace HV : Hid (RBytes wc (.slice va bs.length vc) bs) := Lib.hid (RSlice.mono keeps_byte g10.out HV.out)
        replace HG : Hid (Gr W wc) := Lib.hid (HG.out.trans g10.out)
        replace HX : Hid (IxAt wc ⟨Q, F⟩ (.slice qa Q.length qc) (.slice fa fn fc)) := Lib.hid (HX.out.mono g10.out)
        replace HU : Hid (RInts wc (.slice ua un uc) vs) := Lib.hid (RSlice.mono keeps_int g10.out HU.out)
        replace SX : Hid (Std 27 B8 #[.slice qa Q.length qc, .slice fa fn fc] wc) := Lib.hid (SX.out.gr g10.out)
        replace SR : Hid (Std 30 (B8 + 1) #[.int .i64 id, .slice ua un uc] wc) := Lib.hid (SR.out.gr g10.out)
        replace HQ : Hid (RInts wc (.slice sa ML.length sc) ML) := Lib.hid (RSlice.mono keeps_int g10.out HQ.out)
        clear g10
        obtain ⟨pp, hpp⟩ : ∃ pp, pp = (iy && ir) := ⟨_, rfl⟩
        rw [← hpp]
        have HPP := Lib.hid hpp
        clear hpp
        go_upto_if 81 with fail
        go_cut [] (fun wx => Hid (Gr wc wx))
        case first =>
          cases pp with
          | false =>
            have HE : Hid (ML = []) := Lib.hid (by rw [HML.out]; exact match_no (by rw [HIY.out, HIR.out, ← HPP.out]))
            obtain rfl := HE.out
            go_wp2_with fail
            go_meet
            exact Lib.hid (Gr.refl _)
          | true =>
            have HYR : Hid (isIndexB ⟨Q, F⟩ = true ∧ isRowB ⟨id, vs⟩ = true) := Lib.hid (by
              have h := HPP.out.symm
              rw [Bool.and_eq_true] at h
              rw [HIY.out, HIR.out]; exact h)
            have q7 : (Q.length : Int) ≤ 7 := by have := HQL.out; omega
            go_wp2_with fail
            go_loopw [13] (fun vi wr => ∃ k : Nat, k ≤ Q.length ∧ vi = .int .i64 k ∧ Hid (Gr wc wr)) (fun vi _ => Q.length - (intOf vi).toNat)
            case atStart => exact ⟨0, Nat.zero_le _, rfl, Lib.hid (Gr.refl _)⟩
            case round =>
              obtain ⟨k, hk, rfl, hgr⟩ := hrel
              have i0 : (0 : Int) ≤ (k : Int) := Int.natCast_nonneg _
              have y0 : wr.cell? ⟨B8, 0, none⟩ = some (.slice qa Q.length qc) := hgr.out.cellv (SX.out.cell rfl)
              by_cases hlt : k < Q.length
              · have hlz : (k : Int) < (Q.length : Int) := by omega
                obtain ⟨b2, off, rfl⟩ : ∃ b off, qa = some ⟨b, off, none⟩ := by
                  obtain ⟨a', c', e, _, _, h3⟩ := HX.out.1
                  obtain ⟨b, off, cs, ha, _⟩ := h3 k hlt
                  have e2 : qa = a' := by simp only [Value.slice.injEq] at e; exact e.1
                  exact ⟨b, off, e2.trans ha⟩
                obtain ⟨us, ucn, ucc, xs, xn, xc, d0, d1, d2, d3, HE⟩ := queries_cell HX.out.1 hlt
                have HMH : Hid (hasB ML Q[k].id = matchB Q[k] ⟨id, vs⟩) := Lib.hid (by rw [HML.out]; exact match_has HYR.out.1 HYR.out.2 hlt)
                obtain ⟨D, hD⟩ : ∃ D, D = Q[k] := ⟨_, rfl⟩
                rw [← hD] at d0 d1 HMH
                rw [← hD] at HE
                obtain ⟨mb, hmb⟩ : ∃ mb, matchB D ⟨id, vs⟩ = mb := ⟨_, rfl⟩
                have HMB := Lib.hid hmb
                have hmm : (mb != mb) = false := by cases mb <;> rfl
                clear hD hmb
                replace d0 := hgr.out.cellv d0
                replace d1 := hgr.out.cellv d1
                replace d2 := hgr.out.cellv d2
                replace d3 := hgr.out.cellv d3
                have r0 : wr.cell? ⟨B8 + 1, 0, none⟩ = some (.int .i64 id) := hgr.out.cellv (SR.out.cell rfl)
                have r1 : wr.cell? ⟨B8 + 1, 1, none⟩ = some (.slice ua un uc) := hgr.out.cellv (SR.out.cell rfl)
                have hS1 : ∀ q : Ext wr, Calls Try.prog 14 #[.slice sa ML.length sc, .int .i64 D.id] q.val fun e w' => e = .returned (.bool mb) ∧ Gr q.val w' := fun q => (laws_has_of (HMH.out.trans HMB.out) _ _ (RSlice.mono keeps_int (hgr.out.trans q.gr) HQ.out)).mono fun _ _ h => ⟨h.1, h.2 ▸ Gr.refl _⟩
                have hS2 : ∀ q : Ext wr, Calls Try.prog 15 #[.agg #[.int .i64 D.id, .int .i64 D.tenant, .slice us ucn ucc, .slice xs xn xc], .agg #[.int .i64 id, .slice ua un uc]] q.val fun e w' => e = .returned (.bool mb) ∧ Gr q.val w' := fun q => spec_MatchesRow_of HMB.out _ _ _ _ (RSlice.mono keeps_cond (hgr.out.trans q.gr) HE.out.1) (RSlice.mono keeps_int (hgr.out.trans q.gr) HE.out.2) (RSlice.mono keeps_int (hgr.out.trans q.gr) HU.out)
                go_wp2_with fail
                have qy0 := fun q : Ext wr => Ext.cell y0 q
                have qd0 := fun q : Ext wr => Ext.cell d0 q
                have qd1 := fun q : Ext wr => Ext.cell d1 q
                have qd2 := fun q : Ext wr => Ext.cell d2 q
                have qd3 := fun q : Ext wr => Ext.cell d3 q
                have qr0 := fun q : Ext wr => Ext.cell r0 q
                have qr1 := fun q : Ext wr => Ext.cell r1 q
                refine wp_region_ext (by kernel_rfl) (by kernel_rfl) ?_
                repeat (go_big_quiet_step (first | (go_at_call 14; with_reducible exact quiet_ext (hS1 _)) | (go_at_call 15; with_reducible exact quiet_ext (hS2 _))))
                refine wpQuiet_nil ?_
                intro w11 hw11
                have HG11 := Lib.hid (Ext.out hw11)
                clear hw11 qy0 qd0 qd1 qd2 qd3 qr0 qr1 y0 d0 d1 d2 d3 r0 r1 hS1 hS2 hmm
                go_wp2_with fail
                go_roundw
                case rel => exact ⟨k + 1, by omega, by go_num, Lib.hid (hgr.out.trans HG11.out)⟩
                case measure => simp [intOf]; omega
              · obtain rfl : k = Q.length := by omega
                have hlz : ¬ (Q.length : Int) < (Q.length : Int) := by omega
                go_wp2_with fail
                go_meet
                exact hgr
        case rest =>
          clear HX
          clear HU
          clear SX
          clear SR
          clear HQ
          replace HV : Hid (RBytes wc (.slice va bs.length vc) bs) := Lib.hid (RSlice.mono keeps_byte hcut.out HV.out)
          replace HG : Hid (Gr W wc) := Lib.hid (HG.out.trans hcut.out)
          clear hcut HML HIY HIR HPP HQL
          go_wp2_with fail
          refine (spec_DrawBestOrder _ bs _ HV.out).mono ?_
          rintro e w7 ⟨vq, vf, z, rb, rn, rc, rs, rfl, hl, hqf, hrl, hr, hg⟩
          obtain ⟨qa, qn, qc, rfl⟩ := hqf.out.1.isSl
          obtain ⟨fa, fn, fc, rfl⟩ := hqf.out.2.isSl
          have HT : Hid (totIndex z ≤ 4294967296 ∧ totL totRow rs ≤ 4294967296) := Lib.hid ⟨by have := hl.out.1; omega, rows_tot hrl.out.2.1 hrl.out.2.2⟩
          replace HV : Hid (RBytes w7 (.slice va bs.length vc) bs) := Lib.hid (RSlice.mono keeps_byte hg.out HV.out)
          replace HG : Hid (Gr W w7) := Lib.hid (HG.out.trans hg.out)
          have HX : Hid (IxAt w7 z (.slice qa qn qc) (.slice fa fn fc)) := Lib.hid ⟨hqf.out.1, hqf.out.2⟩
          have HR : Hid (RRows w7 (.slice rb rn rc) rs) := Lib.hid hr.out
          clear hqf hl hrl hr hg
          obtain ⟨B13, hB13⟩ : ∃ B, B = w7.heap.size := ⟨_, rfl⟩
          obtain ⟨W13, hW13⟩ : ∃ W, W = (w7.alloc (.cells #[.slice qa qn qc, .slice fa fn fc] 27)) := ⟨_, rfl⟩
          have G13 : Gr w7 W13 := by rw [hW13]; exact (Gr.refl _).alloc _
          replace HV : Hid (RBytes W13 (.slice va bs.length vc) bs) := Lib.hid (RSlice.mono keeps_byte G13 HV.out)
          replace HG : Hid (Gr W W13) := Lib.hid (HG.out.trans G13)
          replace HX : Hid (IxAt W13 z (.slice qa qn qc) (.slice fa fn fc)) := Lib.hid (HX.out.mono G13)
          replace HR : Hid (RRows W13 (.slice rb rn rc) rs) := Lib.hid (RSlice.mono keeps_row G13 HR.out)
          have SX : Hid (Std 27 B13 #[.slice qa qn qc, .slice fa fn fc] W13) := Lib.hid (by rw [hW13, hB13]; exact Std.new _)
          clear G13
          go_wp2_with fail
          rw [← hW13, ← hB13]
          clear hW13 hB13
          refine (impl_BestOrder z _ _ _ rs _ HX.out.1 HX.out.2 HR.out HT.out.1 HT.out.2).mono ?_
          rintro e w14 ⟨q, rfl, g14, hq⟩
          obtain ⟨BL, hBL⟩ : ∃ BL, BL = bestL z rs := ⟨_, rfl⟩
          rw [← hBL] at hq
          have HBL := Lib.hid hBL
          clear hBL
          obtain ⟨ba, bc, rfl⟩ := (rd_pints hq).form
          obtain ⟨bl, hbl⟩ : ∃ bl, bl = BL.length := ⟨_, rfl⟩
          rw [← hbl] at hq
          rw [← hbl]
          have HBN := Lib.hid hbl
          clear hbl
          replace HV : Hid (RBytes w14 (.slice va bs.length vc) bs) := Lib.hid (RSlice.mono keeps_byte g14 HV.out)
          replace HG : Hid (Gr W w14) := Lib.hid (HG.out.trans g14)
          replace HX : Hid (IxAt w14 z (.slice qa qn qc) (.slice fa fn fc)) := Lib.hid (HX.out.mono g14)
          replace HR : Hid (RRows w14 (.slice rb rn rc) rs) := Lib.hid (RSlice.mono keeps_row g14 HR.out)
          replace SX : Hid (Std 27 B13 #[.slice qa qn qc, .slice fa fn fc] w14) := Lib.hid (SX.out.gr g14)
          have HB : Hid (RInts w14 (.slice ba bl bc) BL) := Lib.hid (rd_pints hq)
          clear hq g14
          have kSX_0 : w14.cell? ⟨B13, 0, none⟩ = some (.slice qa qn qc) := SX.out.cell rfl
          have kSX_1 : w14.cell? ⟨B13, 1, none⟩ = some (.slice fa fn fc) := SX.out.cell rfl
          go_wp2_with fail
          refine (spec_BestOrder z _ _ _ rs _ HX.out.1 HX.out.2 HR.out HT.out.1 HT.out.2).mono ?_
          rintro e w15 ⟨q, rfl, hq, g15⟩
          rw [← HBL.out] at hq
          obtain ⟨ta, tn, tc, rfl⟩ := hq.isSl
          clear kSX_0 kSX_1
          replace HV : Hid (RBytes w15 (.slice va bs.length vc) bs) := Lib.hid (RSlice.mono keeps_byte g15 HV.out)
          replace HG : Hid (Gr W w15) := Lib.hid (HG.out.trans g15)
          replace HX : Hid (IxAt w15 z (.slice qa qn qc) (.slice fa fn fc)) := Lib.hid (HX.out.mono g15)
          replace HR : Hid (RRows w15 (.slice rb rn rc) rs) := Lib.hid (RSlice.mono keeps_row g15 HR.out)
          replace SX : Hid (Std 27 B13 #[.slice qa qn qc, .slice fa fn fc] w15) := Lib.hid (SX.out.gr g15)
          replace HB : Hid (RInts w15 (.slice ba bl bc) BL) := Lib.hid (RSlice.mono keeps_int g15 HB.out)
          clear g15
          go_wp2_with fail
          refine (laws_sameInts_self _ _ _ HB.out hq).mono ?_
          rintro e w16 ⟨rfl, g16⟩
          replace HV : Hid (RBytes w16 (.slice va bs.length vc) bs) := Lib.hid (RSlice.mono keeps_byte g16 HV.out)
          replace HG : Hid (Gr W w16) := Lib.hid (HG.out.trans g16)
          replace HX : Hid (IxAt w16 z (.slice qa qn qc) (.slice fa fn fc)) := Lib.hid (HX.out.mono g16)
          replace HR : Hid (RRows w16 (.slice rb rn rc) rs) := Lib.hid (RSlice.mono keeps_row g16 HR.out)
          replace SX : Hid (Std 27 B13 #[.slice qa qn qc, .slice fa fn fc] w16) := Lib.hid (SX.out.gr g16)
          replace HB : Hid (RInts w16 (.slice ba bl bc) BL) := Lib.hid (RSlice.mono keeps_int g16 HB.out)
          clear g16 hq
          go_wp2_with fail
          refine (spec_DrawWorkOf _ bs _ HV.out).mono ?_
          rintro e w17 ⟨vq, vf, y, rb2, rn2, rc2, rs2, b, n, c, os, rfl, hl, hqf, hrl, hr, hn, ho, hg⟩
          obtain ⟨ya, yn, yc, rfl⟩ := hqf.out.1.isSl
          obtain ⟨va2, vn2, vc2, rfl⟩ := hqf.out.2.isSl
          have HT2 : Hid (totIndex y ≤ 4294967296 ∧ totL totRow rs2 ≤ 4294967296) := Lib.hid ⟨by have := hl.out.1; omega, rows_tot hrl.out.2.1 hrl.out.2.2⟩
          clear HV
          replace HG : Hid (Gr W w17) := Lib.hid (HG.out.trans hg.out)
          replace HX : Hid (IxAt w17 z (.slice qa qn qc) (.slice fa fn fc)) := Lib.hid (HX.out.mono hg.out)
          replace HR : Hid (RRows w17 (.slice rb rn rc) rs) := Lib.hid (RSlice.mono keeps_row hg.out HR.out)
          replace SX : Hid (Std 27 B13 #[.slice qa qn qc, .slice fa fn fc] w17) := Lib.hid (SX.out.gr hg.out)
          replace HB : Hid (RInts w17 (.slice ba bl bc) BL) := Lib.hid (RSlice.mono keeps_int hg.out HB.out)
          have HY : Hid (IxAt w17 y (.slice ya yn yc) (.slice va2 vn2 vc2)) := Lib.hid ⟨hqf.out.1, hqf.out.2⟩
          have HR2 : Hid (RRows w17 (.slice rb2 rn2 rc2) rs2) := Lib.hid hr.out
          have HO : Hid (RInts w17 (.slice b n c) os) := Lib.hid ho.out
          clear hqf hl hrl hr hn ho hg
          obtain ⟨NW, hNW⟩ : ∃ NW, workL y rs2 os = NW := ⟨_, rfl⟩
          have HNW := Lib.hid hNW
          clear hNW
          obtain ⟨B18, hB18⟩ : ∃ B, B = w17.heap.size := ⟨_, rfl⟩
          obtain ⟨W18, hW18⟩ : ∃ W, W = (w17.alloc (.cells #[.slice ya yn yc, .slice va2 vn2 vc2] 27)) := ⟨_, rfl⟩
          have G18 : Gr w17 W18 := by rw [hW18]; exact (Gr.refl _).alloc _
          replace HG : Hid (Gr W W18) := Lib.hid (HG.out.trans G18)
          replace HX : Hid (IxAt W18 z (.slice qa qn qc) (.slice fa fn fc)) := Lib.hid (HX.out.mono G18)
          replace HR : Hid (RRows W18 (.slice rb rn rc) rs) := Lib.hid (RSlice.mono keeps_row G18 HR.out)
          replace SX : Hid (Std 27 B13 #[.slice qa qn qc, .slice fa fn fc] W18) := Lib.hid (SX.out.gr G18)
          replace HB : Hid (RInts W18 (.slice ba bl bc) BL) := Lib.hid (RSlice.mono keeps_int G18 HB.out)
          replace HY : Hid (IxAt W18 y (.slice ya yn yc) (.slice va2 vn2 vc2)) := Lib.hid (HY.out.mono G18)
          replace HR2 : Hid (RRows W18 (.slice rb2 rn2 rc2) rs2) := Lib.hid (RSlice.mono keeps_row G18 HR2.out)
          replace HO : Hid (RInts W18 (.slice b n c) os) := Lib.hid (RSlice.mono keeps_int G18 HO.out)
          have SY : Hid (Std 27 B18 #[.slice ya yn yc, .slice va2 vn2 vc2] W18) := Lib.hid (by rw [hW18, hB18]; exact Std.new _)
          clear G18
          go_upto_region 25 with fail
          rw [← hW18, ← hB18]
          clear hW18 hB18
          have hww : (NW == NW) = true := by simp
          by_cases hB0 : bl = 0
          · have hd : (((bl : Nat) : Int) == 0) = true := by subst hB0; rfl
            clear hB0
            have kSX_0 : W18.cell? ⟨B13, 0, none⟩ = some (.slice qa qn qc) := SX.out.cell rfl
            have kSX_1 : W18.cell? ⟨B13, 1, none⟩ = some (.slice fa fn fc) := SX.out.cell rfl
            have kSY_0 : W18.cell? ⟨B18, 0, none⟩ = some (.slice ya yn yc) := SY.out.cell rfl
            have kSY_1 : W18.cell? ⟨B18, 1, none⟩ = some (.slice va2 vn2 vc2) := SY.out.cell rfl
            have hS1 : ∀ q : Ext W18, Calls Try.prog 20 #[.agg #[.slice ya yn yc, .slice va2 vn2 vc2], .slice rb2 rn2 rc2, .slice b n c] q.val fun e w' => e = .returned (.int .i64 NW) ∧ Gr q.val w' := fun q => impl_WorkOf_of HNW.out _ _ _ _ _ (HY.out.mono q.gr) (RSlice.mono keeps_row q.gr HR2.out) (RSlice.mono keeps_int q.gr HO.out) HT2.out.1 HT2.out.2
            have hS2 : ∀ q : Ext W18, Calls Try.prog 21 #[.agg #[.slice ya yn yc, .slice va2 vn2 vc2], .slice rb2 rn2 rc2, .slice b n c] q.val fun e w' => e = .returned (.int .i64 NW) ∧ Gr q.val w' := fun q => spec_WorkOf_of HNW.out _ _ _ _ _ (HY.out.mono q.gr) (RSlice.mono keeps_row q.gr HR2.out) (RSlice.mono keeps_int q.gr HO.out) HT2.out.1 HT2.out.2
            have qSX0 := fun q : Ext W18 => Ext.cell kSX_0 q
            have qSX1 := fun q : Ext W18 => Ext.cell kSX_1 q
            have qSY0 := fun q : Ext W18 => Ext.cell kSY_0 q
            have qSY1 := fun q : Ext W18 => Ext.cell kSY_1 q
            refine wp_region_ext (by kernel_rfl) (by kernel_rfl) ?_
            repeat (go_big_quiet_step (first | (go_at_call 20; with_reducible exact quiet_ext (hS1 _)) | (go_at_call 21; with_reducible exact quiet_ext (hS2 _))))
            refine wpQuiet_nil ?_
            intro wf hwf
            have gf := Ext.out hwf
            go_wp2_with fail
            go_ret
            exact ⟨rfl, HG.out.trans gf⟩
          · have hd : (((bl : Nat) : Int) == 0) = false := by
              have : ((bl : Nat) : Int) ≠ 0 := by omega
              simpa using this
            have HLE : Hid (workL z rs BL ≤ workL z rs [2, 1, 0] ∧ workL z rs BL ≤ workL z rs [0, 1, 2]) := Lib.hid (by
              rw [HBL.out]
              exact best_least (by rw [← HBL.out, ← HBN.out]; exact hB0))
            obtain ⟨N1, hN1⟩ : ∃ N, workL z rs BL = N := ⟨_, rfl⟩
            have HN1 := Lib.hid hN1
            rw [hN1] at HLE
            clear hN1
            obtain ⟨N2, hN2⟩ : ∃ N, workL z rs [2, 1, 0] = N := ⟨_, rfl⟩
            have HN2 := Lib.hid hN2
            rw [hN2] at HLE
            clear hN2
            obtain ⟨N3, hN3⟩ : ∃ N, workL z rs [0, 1, 2] = N := ⟨_, rfl⟩
            have HN3 := Lib.hid hN3
            rw [hN3] at HLE
            clear hN3
            have hle2 : decide (N1 ≤ N2) = true := decide_eq_true HLE.out.1
            have hle3 : decide (N1 ≤ N3) = true := decide_eq_true HLE.out.2
            clear hB0
            have hlf2 : N1 ≤ N2 := HLE.out.1
            have hlf3 : N1 ≤ N3 := HLE.out.2
            obtain ⟨WD, hWD⟩ : ∃ WD, WD = W18.drew := ⟨_, rfl⟩
            have GD : Gr W18 WD := by rw [hWD]; exact (Gr.refl _).drew
            replace HG : Hid (Gr W WD) := Lib.hid (HG.out.trans GD)
            replace HX : Hid (IxAt WD z (.slice qa qn qc) (.slice fa fn fc)) := Lib.hid (HX.out.mono GD)
            replace HR : Hid (RRows WD (.slice rb rn rc) rs) := Lib.hid (RSlice.mono keeps_row GD HR.out)
            replace SX : Hid (Std 27 B13 #[.slice qa qn qc, .slice fa fn fc] WD) := Lib.hid (SX.out.gr GD)
            replace HB : Hid (RInts WD (.slice ba bl bc) BL) := Lib.hid (RSlice.mono keeps_int GD HB.out)
            replace HY : Hid (IxAt WD y (.slice ya yn yc) (.slice va2 vn2 vc2)) := Lib.hid (HY.out.mono GD)
            replace HR2 : Hid (RRows WD (.slice rb2 rn2 rc2) rs2) := Lib.hid (RSlice.mono keeps_row GD HR2.out)
            replace HO : Hid (RInts WD (.slice b n c) os) := Lib.hid (RSlice.mono keeps_int GD HO.out)
            replace SY : Hid (Std 27 B18 #[.slice ya yn yc, .slice va2 vn2 vc2] WD) := Lib.hid (SY.out.gr GD)
            refine wp_region_G (S := fun w' => Gr WD w') (m := 36) (by kernel_rfl) ?_
            rw [← hWD]
            clear hWD GD
            have kSX_0 : WD.cell? ⟨B13, 0, none⟩ = some (.slice qa qn qc) := SX.out.cell rfl
            have kSX_1 : WD.cell? ⟨B13, 1, none⟩ = some (.slice fa fn fc) := SX.out.cell rfl
            have kSY_0 : WD.cell? ⟨B18, 0, none⟩ = some (.slice ya yn yc) := SY.out.cell rfl
            have kSY_1 : WD.cell? ⟨B18, 1, none⟩ = some (.slice va2 vn2 vc2) := SY.out.cell rfl
            have hS : (fun w' : World => Gr WD w') WD := Gr.refl _
            refine wpAnyG_takeL (i := 0) (v := ?v0) hS rfl rfl (by kernel_rfl) (by kernel_rfl) (by kernel_rfl) (by kernel_rfl) (fun _ _ _ h => h) (Or.inl ⟨by rfl, ?hy0⟩) ?rest0
            case hy0 => (intro w' hw'; go_simp; try with_reducible rfl)
            simp only [List.set_cons_succ, List.set_cons_zero]
            refine wpAnyG_takeL (i := 1) (v := ?v1) hS rfl rfl (by kernel_rfl) (by kernel_rfl) (by kernel_rfl) (by kernel_rfl) (fun _ _ _ h => h) (Or.inl ⟨by rfl, ?hy1⟩) ?rest1
            case hy1 => (intro w' hw'; go_simp; try with_reducible rfl)
            simp only [List.set_cons_succ, List.set_cons_zero]
            refine wpAnyG_takeL (i := 2) (v := ?v2) hS rfl rfl (by kernel_rfl) (by kernel_rfl) (by kernel_rfl) (by kernel_rfl) (fun _ _ _ h => h) (Or.inl ⟨by rfl, ?hy2⟩) ?rest2
            case hy2 => (intro w' hw'; go_simp; try with_reducible rfl)
            simp only [List.set_cons_succ, List.set_cons_zero]
            refine wpAnyG_takeL (i := 3) (v := ?v3) hS rfl rfl (by kernel_rfl) (by kernel_rfl) (by kernel_rfl) (by kernel_rfl) (fun _ _ _ h => h) (Or.inl ⟨by rfl, ?hy3⟩) ?rest3
            case hy3 => (intro w' hw'; go_simp; try with_reducible rfl)
            simp only [List.set_cons_succ, List.set_cons_zero]
            refine wpAnyG_takeL (i := 4) (v := ?v4) hS rfl rfl (by kernel_rfl) (by kernel_rfl) (by kernel_rfl) (by kernel_rfl) (fun _ _ _ h => h) (Or.inl ⟨by rfl, ?hy4⟩) ?rest4
            case hy4 => (intro w' hw'; have c0 := (show Gr WD w' from hw').cellv kSX_0; have c1 := (show Gr WD w' from hw').cellv kSX_1; go_simp; try with_reducible rfl)
            simp only [List.set_cons_succ, List.set_cons_zero]
            refine wpAnyG_takeL (i := 5) (v := ?v5) hS rfl rfl (by kernel_rfl) (by kernel_rfl) (by kernel_rfl) (by kernel_rfl) (fun _ _ _ h => h) (Or.inl ⟨by rfl, ?hy5⟩) ?rest5
            case hy5 => (intro w' hw'; go_simp; try with_reducible rfl)
            simp only [List.set_cons_succ, List.set_cons_zero]
            refine wpAnyG_takeL (i := 6) (v := ?v6) hS rfl rfl (by kernel_rfl) (by kernel_rfl) (by kernel_rfl) (by kernel_rfl) (fun _ _ _ h => h) (Or.inl ⟨by rfl, ?hy6⟩) ?rest6
            case hy6 => (intro w' hw'; go_simp; try with_reducible rfl)
            simp only [List.set_cons_succ, List.set_cons_zero]
            refine wpAnyG_takeL (i := 8) (v := ?v8) hS rfl rfl (by kernel_rfl) (by kernel_rfl) (by kernel_rfl) (by kernel_rfl) (fun _ _ _ h => h) (Or.inl ⟨by rfl, ?hy8⟩) ?rest8
            case hy8 => (intro w' hw'; have c0 := (show Gr WD w' from hw').cellv kSX_0; have c1 := (show Gr WD w' from hw').cellv kSX_1; go_simp; try with_reducible rfl)
            simp only [List.set_cons_succ, List.set_cons_zero]
            refine wpAnyG_takeL (i := 9) (v := ?v9) hS rfl rfl (by kernel_rfl) (by kernel_rfl) (by kernel_rfl) (by kernel_rfl) (fun _ _ _ h => h) (Or.inl ⟨by rfl, ?hy9⟩) ?rest9
            case hy9 => (intro w' hw'; go_simp; try with_reducible rfl)
            simp only [List.set_cons_succ, List.set_cons_zero]
            refine wpAnyG_pairL (A := ?Aa) (G := fun w' p => Hid (Gr WD w' ∧ RInts w' (.slice (some ⟨p, 0, none⟩) 3 3) [2, 1, 0])) (i := 7) (j := 10) rfl rfl (by decide) (by kernel_rfl) (by kernel_rfl) (by kernel_rfl) (fun K hK => ?_) (fun K hK => ?_) ?_
            rotate_left 1
            · go_simp
              refine (impl_WorkOf_of HN1.out _ _ _ _ _ (HX.out.mono hS) (RSlice.mono keeps_row hS HR.out) (RSlice.mono keeps_int hS HB.out) HT.out.1 HT.out.2).mono ?_
              rintro e wA ⟨rfl, gA⟩
              have hA : Gr WD wA := hS.trans gA
              go_simp
              refine hK.out _ _ (fun _ => hA) ?_
              clear hK K
              intro K hK
              obtain ⟨p, hp⟩ : ∃ p, p = wA.heap.size := ⟨_, rfl⟩
              try simp only [Act.put]
              go_simp
              rw [← hp]
              try simp only [Act.put]
              refine hK.out _ _ (fun _ => hA.alloc _) ⟨p, Lib.hid ⟨hA.alloc _, lit3 hp.symm (Gr.refl _) (by unfold I64; omega) (by unfold I64; omega) (by unfold I64; omega)⟩, ?_⟩
              exact rfl
            · obtain ⟨p, hp⟩ : ∃ p, p = WD.heap.size := ⟨_, rfl⟩
              go_simp
              rw [← hp]
              have hA : Gr WD (WD.alloc (.cells #[.int .i64 2, .int .i64 1, .int .i64 0] 3)) := hS.alloc _
              refine hK.out _ _ (fun _ => hA) ?_
              clear hK K
              intro K hK
              try simp only [Act.put]
              go_simp
              refine (impl_WorkOf_of HN1.out _ _ _ _ _ (HX.out.mono hA) (RSlice.mono keeps_row hA HR.out) (RSlice.mono keeps_int hA HB.out) HT.out.1 HT.out.2).mono ?_
              rintro e wA ⟨rfl, gA⟩
              go_simp
              try simp only [Act.put]
              refine hK.out _ _ (fun _ => hA.trans gA) ⟨p, Lib.hid ⟨hA.trans gA, lit3 hp.symm gA (by unfold I64; omega) (by unfold I64; omega) (by unfold I64; omega)⟩, ?_⟩
              rw [← hp]
              try exact rfl
            rintro p wB HBQ
            try dsimp only
            have hwB : Gr WD wB := HBQ.out.1
            refine wpAnyG_oneL (i := 11) rfl (by kernel_rfl) (fun K hK => ?_)
            go_simp
            refine (impl_WorkOf_of HN2.out _ _ _ _ _ (HX.out.mono hwB) (RSlice.mono keeps_row hwB HR.out) HBQ.out.2 HT.out.1 HT.out.2).mono ?_
            rintro e wC ⟨rfl, gwC⟩
            have hwC : Gr WD wC := hwB.trans gwC
            go_simp
            refine hK.out _ _ (fun _ => hwC) ?_
            clear hK K
            try simp only [Act.put]
            refine wpAnyG_takeL (i := 12) (v := ?v12) hwC rfl rfl (by kernel_rfl) (by kernel_rfl) (by kernel_rfl) (by kernel_rfl) (fun _ _ _ h => h) (Or.inl ⟨by rfl, ?hy12⟩) ?rest12
            case hy12 => (intro w' hw'; go_simp; try with_reducible rfl)
            simp only [List.set_cons_succ, List.set_cons_zero]
            refine wpAnyG_takeL (i := 13) (v := ?v13) hwC rfl rfl (by kernel_rfl) (by kernel_rfl) (by kernel_rfl) (by kernel_rfl) (fun _ _ _ h => h) (Or.inl ⟨by rfl, ?hy13⟩) ?rest13
            case hy13 => (intro w' hw'; go_simp; try with_reducible rfl)
            simp only [List.set_cons_succ, List.set_cons_zero]
            refine wpAnyG_takeL (i := 14) (v := ?v14) hwC rfl rfl (by kernel_rfl) (by kernel_rfl) (by kernel_rfl) (by kernel_rfl) (fun _ _ _ h => h) (Or.inl ⟨by rfl, ?hy14⟩) ?rest14
            case hy14 => (intro w' hw'; have c0 := (show Gr WD w' from hw').cellv kSX_0; have c1 := (show Gr WD w' from hw').cellv kSX_1; go_simp; try with_reducible rfl)
            simp only [List.set_cons_succ, List.set_cons_zero]
            refine wpAnyG_takeL (i := 15) (v := ?v15) hwC rfl rfl (by kernel_rfl) (by kernel_rfl) (by kernel_rfl) (by kernel_rfl) (fun _ _ _ h => h) (Or.inl ⟨by rfl, ?hy15⟩) ?rest15
            case hy15 => (intro w' hw'; go_simp; try with_reducible rfl)
            simp only [List.set_cons_succ, List.set_cons_zero]
            refine wpAnyG_takeL (i := 16) (v := ?v16) hwC rfl rfl (by kernel_rfl) (by kernel_rfl) (by kernel_rfl) (by kernel_rfl) (fun _ _ _ h => h) (Or.inl ⟨by rfl, ?hy16⟩) ?rest16
            case hy16 => (intro w' hw'; go_simp; try with_reducible rfl)
            simp only [List.set_cons_succ, List.set_cons_zero]
            refine wpAnyG_takeL (i := 18) (v := ?v18) hwC rfl rfl (by kernel_rfl) (by kernel_rfl) (by kernel_rfl) (by kernel_rfl) (fun _ _ _ h => h) (Or.inl ⟨by rfl, ?hy18⟩) ?rest18
            case hy18 => (intro w' hw'; have c0 := (show Gr WD w' from hw').cellv kSX_0; have c1 := (show Gr WD w' from hw').cellv kSX_1; go_simp; try with_reducible rfl)
            simp only [List.set_cons_succ, List.set_cons_zero]
            refine wpAnyG_takeL (i := 19) (v := ?v19) hwC rfl rfl (by kernel_rfl) (by kernel_rfl) (by kernel_rfl) (by kernel_rfl) (fun _ _ _ h => h) (Or.inl ⟨by rfl, ?hy19⟩) ?rest19
            case hy19 => (intro w' hw'; go_simp; try with_reducible rfl)
            simp only [List.set_cons_succ, List.set_cons_zero]
            refine wpAnyG_pairL (A := ?Ab) (G := fun w' p => Hid (Gr WD w' ∧ RInts w' (.slice (some ⟨p, 0, none⟩) 3 3) [0, 1, 2])) (i := 17) (j := 20) rfl rfl (by decide) (by kernel_rfl) (by kernel_rfl) (by kernel_rfl) (fun K hK => ?_) (fun K hK => ?_) ?_
            rotate_left 1
            · go_simp
              refine (impl_WorkOf_of HN1.out _ _ _ _ _ (HX.out.mono hwC) (RSlice.mono keeps_row hwC HR.out) (RSlice.mono keeps_int hwC HB.out) HT.out.1 HT.out.2).mono ?_
              rintro e wA ⟨rfl, gA⟩
              have hA : Gr WD wA := hwC.trans gA
              go_simp
              refine hK.out _ _ (fun _ => hA) ?_
              clear hK K
              intro K hK
              obtain ⟨p, hp⟩ : ∃ p, p = wA.heap.size := ⟨_, rfl⟩
              try simp only [Act.put]
              go_simp
              rw [← hp]
              try simp only [Act.put]
              refine hK.out _ _ (fun _ => hA.alloc _) ⟨p, Lib.hid ⟨hA.alloc _, lit3 hp.symm (Gr.refl _) (by unfold I64; omega) (by unfold I64; omega) (by unfold I64; omega)⟩, ?_⟩
              exact rfl
            · obtain ⟨p, hp⟩ : ∃ p, p = wC.heap.size := ⟨_, rfl⟩
              go_simp
              rw [← hp]
              have hA : Gr WD (wC.alloc (.cells #[.int .i64 0, .int .i64 1, .int .i64 2] 3)) := hwC.alloc _
              refine hK.out _ _ (fun _ => hA) ?_
              clear hK K
              intro K hK
              try simp only [Act.put]
              go_simp
              refine (impl_WorkOf_of HN1.out _ _ _ _ _ (HX.out.mono hA) (RSlice.mono keeps_row hA HR.out) (RSlice.mono keeps_int hA HB.out) HT.out.1 HT.out.2).mono ?_
              rintro e wA ⟨rfl, gA⟩
              go_simp
              try simp only [Act.put]
              refine hK.out _ _ (fun _ => hA.trans gA) ⟨p, Lib.hid ⟨hA.trans gA, lit3 hp.symm gA (by unfold I64; omega) (by unfold I64; omega) (by unfold I64; omega)⟩, ?_⟩
              rw [← hp]
              try exact rfl
            rintro p2 wE HEQ
            try dsimp only
            have hwE : Gr WD wE := HEQ.out.1
            refine wpAnyG_oneL (i := 21) rfl (by kernel_rfl) (fun K hK => ?_)
            go_simp
            refine (impl_WorkOf_of HN3.out _ _ _ _ _ (HX.out.mono hwE) (RSlice.mono keeps_row hwE HR.out) HEQ.out.2 HT.out.1 HT.out.2).mono ?_
            rintro e wF ⟨rfl, gwF⟩
            have hwF : Gr WD wF := hwE.trans gwF
            go_simp
            refine hK.out _ _ (fun _ => hwF) ?_
            clear hK K
            try simp only [Act.put]
            refine wpAnyG_takeL (i := 22) (v := ?v22) hwF rfl rfl (by kernel_rfl) (by kernel_rfl) (by kernel_rfl) (by kernel_rfl) (fun _ _ _ h => h) (Or.inl ⟨by rfl, ?hy22⟩) ?rest22
            case hy22 => (intro w' hw'; go_simp; try with_reducible rfl)
            simp only [List.set_cons_succ, List.set_cons_zero]
            refine wpAnyG_takeL (i := 23) (v := ?v23) hwF rfl rfl (by kernel_rfl) (by kernel_rfl) (by kernel_rfl) (by kernel_rfl) (fun _ _ _ h => h) (Or.inl ⟨by rfl, ?hy23⟩) ?rest23
            case hy23 => (intro w' hw'; go_simp; try with_reducible rfl)
            simp only [List.set_cons_succ, List.set_cons_zero]
            refine wpAnyG_takeL (i := 24) (v := ?v24) hwF rfl rfl (by kernel_rfl) (by kernel_rfl) (by kernel_rfl) (by kernel_rfl) (fun _ _ _ h => h) (Or.inl ⟨by rfl, ?hy24⟩) ?rest24
            case hy24 => (intro w' hw'; go_simp; try with_reducible rfl)
            simp only [List.set_cons_succ, List.set_cons_zero]
            refine wpAnyG_takeL (i := 25) (v := ?v25) hwF rfl rfl (by kernel_rfl) (by kernel_rfl) (by kernel_rfl) (by kernel_rfl) (fun _ _ _ h => h) (Or.inl ⟨by rfl, ?hy25⟩) ?rest25
            case hy25 => (intro w' hw'; go_simp; try with_reducible rfl)
            simp only [List.set_cons_succ, List.set_cons_zero]
            refine wpAnyG_takeL (i := 26) (v := ?v26) hwF rfl rfl (by kernel_rfl) (by kernel_rfl) (by kernel_rfl) (by kernel_rfl) (fun _ _ _ h => h) (Or.inl ⟨by rfl, ?hy26⟩) ?rest26
            case hy26 => (intro w' hw'; have c0 := (show Gr WD w' from hw').cellv kSY_0; have c1 := (show Gr WD w' from hw').cellv kSY_1; go_simp; try with_reducible rfl)
            simp only [List.set_cons_succ, List.set_cons_zero]
            refine wpAnyG_takeL (i := 27) (v := ?v27) hwF rfl rfl (by kernel_rfl) (by kernel_rfl) (by kernel_rfl) (by kernel_rfl) (fun _ _ _ h => h) (Or.inl ⟨by rfl, ?hy27⟩) ?rest27
            case hy27 => (intro w' hw'; go_simp; try with_reducible rfl)
            simp only [List.set_cons_succ, List.set_cons_zero]
            refine wpAnyG_takeL (i := 28) (v := ?v28) hwF rfl rfl (by kernel_rfl) (by kernel_rfl) (by kernel_rfl) (by kernel_rfl) (fun _ _ _ h => h) (Or.inl ⟨by rfl, ?hy28⟩) ?rest28
            case hy28 => (intro w' hw'; go_simp; try with_reducible rfl)
            simp only [List.set_cons_succ, List.set_cons_zero]
            refine wpAnyG_takeL (i := 30) (v := ?v30) hwF rfl rfl (by kernel_rfl) (by kernel_rfl) (by kernel_rfl) (by kernel_rfl) (fun _ _ _ h => h) (Or.inl ⟨by rfl, ?hy30⟩) ?rest30
            case hy30 => (intro w' hw'; have c0 := (show Gr WD w' from hw').cellv kSY_0; have c1 := (show Gr WD w' from hw').cellv kSY_1; go_simp; try with_reducible rfl)
            simp only [List.set_cons_succ, List.set_cons_zero]
            refine wpAnyG_takeL (i := 31) (v := ?v31) hwF rfl rfl (by kernel_rfl) (by kernel_rfl) (by kernel_rfl) (by kernel_rfl) (fun _ _ _ h => h) (Or.inl ⟨by rfl, ?hy31⟩) ?rest31
            case hy31 => (intro w' hw'; go_simp; try with_reducible rfl)
            simp only [List.set_cons_succ, List.set_cons_zero]
            refine wpAnyG_takeL (i := 32) (v := ?v32) hwF rfl rfl (by kernel_rfl) (by kernel_rfl) (by kernel_rfl) (by kernel_rfl) (fun _ _ _ h => h) (Or.inl ⟨by rfl, ?hy32⟩) ?rest32
            case hy32 => (intro w' hw'; go_simp; try with_reducible rfl)
            simp only [List.set_cons_succ, List.set_cons_zero]
            refine wpAnyG_oneL (i := 29) rfl (by kernel_rfl) (fun K hK => ?_)
            go_simp
            refine (impl_WorkOf_of HNW.out _ _ _ _ _ (HY.out.mono hwF) (RSlice.mono keeps_row hwF HR2.out) (RSlice.mono keeps_int hwF HO.out) HT2.out.1 HT2.out.2).mono ?_
            rintro e wG ⟨rfl, gwG⟩
            have hwG : Gr WD wG := hwF.trans gwG
            go_simp
            refine hK.out _ _ (fun _ => hwG) ?_
            clear hK K
            try simp only [Act.put]
            refine wpAnyG_oneL (i := 33) rfl (by kernel_rfl) (fun K hK => ?_)
            go_simp
            refine (spec_WorkOf_of HNW.out _ _ _ _ _ (HY.out.mono hwG) (RSlice.mono keeps_row hwG HR2.out) (RSlice.mono keeps_int hwG HO.out) HT2.out.1 HT2.out.2).mono ?_
            rintro e wH ⟨rfl, gwH⟩
            have hwH : Gr WD wH := hwG.trans gwH
            go_simp
            refine hK.out _ _ (fun _ => hwH) ?_
            clear hK K
            try simp only [Act.put]
            refine wpAnyG_takeL (i := 34) (v := ?v34) hwH rfl rfl (by kernel_rfl) (by kernel_rfl) (by kernel_rfl) (by kernel_rfl) (fun _ _ _ h => h) (Or.inl ⟨by rfl, ?hy34⟩) ?rest34
            case hy34 => (intro w' hw'; go_simp; try with_reducible rfl)
            simp only [List.set_cons_succ, List.set_cons_zero]
            refine wpAnyG_takeL (i := 35) (v := ?v35) hwH rfl rfl (by kernel_rfl) (by kernel_rfl) (by kernel_rfl) (by kernel_rfl) (fun _ _ _ h => h) (Or.inl ⟨by rfl, ?hy35⟩) ?rest35
            case hy35 => (intro w' hw'; go_simp; try with_reducible rfl)
            simp only [List.set_cons_succ, List.set_cons_zero]
            refine wpAnyG_oneL (i := 36) rfl (by kernel_rfl) (fun K hK => ?_)
            go_simp
            refine hK.out _ _ (fun h => absurd rfl h) ?_
            clear hK K
            try simp only [Act.put]
            refine wpAnyG_done (by kernel_rfl) ?_ _
            go_wp2_with fail
            go_ret
            exact ⟨rfl, HG.out.trans hwH⟩
end Go.Proofs.Ytcdcpfcmhmhdjaa
