/- FnQueries: the walk of the law. (Printed by gen_ansql.py.) -/
import Derived.Test.YtcdcpfcmhmhdjaaGreatDoorMg0
import Derived.Test.YtcdcpfcmhmhdjaaGreatDoorMg1
import Derived.Test.YtcdcpfcmhmhdjaaGreatDoorMg2
import Derived.Test.YtcdcpfcmhmhdjaaGreatDoorMg8
import Derived.Test.YtcdcpfcmhmhdjaaGreatDoorMg9
import Derived.Test.YtcdcpfcmhmhdjaaGreatDoorMg10
import Derived.Deep.DeepCutAuto
namespace Go.Proofs.YtcdcpfcmhmhdjaaGreatDoor
open Go.RowKit Go.ChangeShapes Go.WideShapes Go.Deep
def QAt (w : World) (cs : List DCond) (os : List Int) (u x : Value) : Prop := RConds w u cs ∧ RInts w x os
theorem QAt.mono {w w' : World} {cs : List DCond} {os : List Int} {u x : Value} (h : QAt w cs os u x) (g : Gr w w') : QAt w' cs os u x := ⟨RSlice.mono keeps_cond g h.1, RSlice.mono keeps_int g h.2⟩
theorem cond_i64 {c : DCond} (h : isCondB c = true) : I64 c.field ∧ I64 c.low ∧ I64 c.high := by
  unfold isCondB at h
  simp only [Bool.and_eq_true, decide_eq_true_eq] at h
  obtain ⟨⟨h1, h2⟩, h3⟩ := h
  have h1 := inB_true h1
  have h2 := inB_true h2
  unfold I64
  omega
theorem queryText_len (q : DQuery) : (queryText q).length ≤ 1000 := by
  cases h : isQueryB q with
  | false => rw [queryText_no h]; simp
  | true =>
    obtain ⟨h1, h2, h3, h4, h5, h6⟩ := isQueryB_parts h
    have ht := query_ids h
    have a := itoa_len (n := q.id) (by unfold I64; omega)
    have b := itoa_len (n := q.tenant) (by unfold I64; omega)
    have c := condsText_len (cs := q.conds) (fun i hi => cond_i64 (h1 i hi)) q.conds.length (Nat.le_refl _)
    have d := numsText_len (xs := q.out) (fun i hi => by have := h4 i hi; unfold I64; omega)
    rw [List.take_length] at c
    rw [queryText_yes h]
    unfold headText
    simp only [List.length_append, List.length_cons, List.length_nil]
    omega
theorem rows_tot1 {rs : List DRow} (hl : rs.length ≤ 9) (h : ∀ r ∈ rs, totRow r ≤ 4) : totL totRow rs ≤ 1000 := by
  have h2 : sumT totRow rs ≤ 4 * rs.length := by
    clear hl
    unfold sumT
    induction rs with
    | nil => simp
    | cons r rs ih =>
      have a := h r (List.mem_cons_self ..)
      have b := ih fun x hx => h x (List.mem_cons_of_mem _ hx)
      simp only [List.map_cons, List.sum_cons, List.length_cons]
      omega
  unfold totL
  omega
theorem eqRowsB_self (xs : List DRow) : eqRowsB xs xs = true := eqRowsB_yes rfl fun j hj => by
  rw [rowsEqAt_eq hj hj]
  unfold eqRowB
  simp [eqL]
theorem answer_tot (q : DQuery) (xs : List DRow) (h : totL totRow xs ≤ 1000) : totL totRow (answerL q xs) ≤ 1048576 := by
  have h1 := ansTo_tot q xs
  have h2 : totL totRow (answerL q xs) = totL totRow (ansTo q xs xs.length) := by
    have hp : (answerL q xs).Perm (ansTo q xs xs.length) := sortR_perm _
    unfold totL sumT
    rw [hp.length_eq, (hp.map totRow).sum_nat]
  omega
theorem read_bounds {q r : DQuery} (h : implQuery (queryText q) = some r) : totQuery r ≤ 1048576 ∧ I64 r.id ∧ I64 r.tenant := by
  have h1 := query_ids (implQuery_some h).1
  have h2 := isQueryB_parts (implQuery_some h).1
  unfold totQuery I64
  omega
theorem spec_EqualRows_self {xs : List DRow} (v v' : Value) (w : World) (hx : RRows w v xs) (hy : RRows w v' xs) : Calls Tryz.prog 7 #[v, v'] w fun e w' => e = .returned (.bool true) ∧ Gr w w' := by
  have := spec_EqualRows v xs v' xs w hx hy
  rwa [eqRowsB_self] at this
theorem impl_EqualRows_self {xs : List DRow} (v v' : Value) (w : World) (hx : RRows w v xs) (hy : RRows w v' xs) : Calls Tryz.prog 20 #[v, v'] w fun e w' => e = .returned (.bool true) ∧ Gr w w' := by
  have := impl_EqualRows v xs v' xs w hx hy
  rwa [eqRowsB_self] at this
theorem impl_MatchesRow_q {q : DQuery} {r : DRow} {b : Bool} (h : matchB q r = b) (u u' t : Value) (w : World) (hu : QAt w q.conds q.out u u') (ht : RInts w t r.vals) : Calls Tryz.prog 10 #[.agg #[.int .i64 q.id, .int .i64 q.tenant, u, u'], .agg #[.int .i64 r.id, t]] w fun e w' => e = .returned (.bool b) ∧ Gr w w' := h ▸ impl_MatchesRow q u u' r t w hu.1 hu.2 ht
theorem spec_MatchesRow_q {q : DQuery} {r : DRow} {b : Bool} (h : matchB q r = b) (u u' t : Value) (w : World) (hu : QAt w q.conds q.out u u') (ht : RInts w t r.vals) : Calls Tryz.prog 19 #[.agg #[.int .i64 q.id, .int .i64 q.tenant, u, u'], .agg #[.int .i64 r.id, t]] w fun e w' => e = .returned (.bool b) ∧ Gr w w' := h ▸ spec_MatchesRow q u u' r t w hu.1 hu.2 ht
theorem impl_FormatQuery_of {q : DQuery} {T : List UInt8} (h : queryText q = T) (u u' : Value) (w : World) (hu : QAt w q.conds q.out u u') (hb : totQuery q ≤ 1048576) (hi : I64 q.id ∧ I64 q.tenant) (hT : Tens Tryz.prog w) : Calls Tryz.prog 11 #[.agg #[.int .i64 q.id, .int .i64 q.tenant, u, u']] w fun e w' => e = .returned (.string ⟨T.toArray⟩) ∧ Gr w w' := h ▸ impl_FormatQuery q u u' w hu.1 hu.2 hb hi hT
theorem spec_FormatQuery_of {q : DQuery} {T : List UInt8} (h : queryText q = T) (u u' : Value) (w : World) (hu : QAt w q.conds q.out u u') (hb : totQuery q ≤ 1048576) (hi : I64 q.id ∧ I64 q.tenant) : Calls Tryz.prog 14 #[.agg #[.int .i64 q.id, .int .i64 q.tenant, u, u']] w fun e w' => e = .returned (.string ⟨T.toArray⟩) ∧ Gr w w' := h ▸ spec_FormatQuery q u u' w hu.1 hu.2 hb hi
theorem spec_IsQuery_of' {q : DQuery} {b : Bool} (h : isQueryB q = b) (u u' : Value) (w : World) (hu : QAt w q.conds q.out u u') : Calls Tryz.prog 15 #[.agg #[.int .i64 q.id, .int .i64 q.tenant, u, u']] w fun e w' => e = .returned (.bool b) ∧ Gr w w' := h ▸ spec_IsQuery q u u' w hu.1 hu.2
theorem laws_btoi (b : Bool) (w : World) : Calls Tryz.prog 9 #[.bool b] w fun e w' => e = .returned (.int .i64 (if b then 1 else 0)) ∧ Gr w w' := by
  cases b <;> (go_enter Tryz.func9, Tryz.ntmps9; go_wp2_with fail; go_ret; exact ⟨rfl, Gr.refl _⟩)
theorem rows_at {w : World} {g o n c : Nat} {S : List DRow} (h : RRows w (.slice (some ⟨g, o, none⟩) n c) S) {J : Nat} (hJ : J < S.length) : ∃ (ay : Option Addr) (ny ky : Nat),
    w.cell? ⟨g, o + J * 2, none⟩ = some (.int .i64 S[J].id) ∧ w.cell? ⟨g, o + J * 2 + 1, none⟩ = some (.slice ay ny ky) ∧ Hid (RInts w (.slice ay ny ky) S[J].vals) := by
  obtain ⟨a', cap', e, h1, h2, h3⟩ := h
  obtain ⟨rfl, _, _⟩ : some (⟨g, o, none⟩ : Addr) = a' ∧ n = S.length ∧ c = cap' := by simpa using e
  obtain ⟨b, off, cs, ha, _, ⟨u, rfl, _, hu⟩, hcc⟩ := h3 J hJ
  simp only [Option.some.injEq, Addr.mk.injEq, and_true] at ha
  obtain ⟨rfl, rfl⟩ := ha
  obtain ⟨ay, ny, ky, rfl⟩ := hu.isSl
  have c0 := hcc 0 (by simp)
  have c1 := hcc 1 (by simp)
  exact ⟨ay, ny, ky, by simpa using c0, by simpa using c1, Lib.hid hu⟩
set_option maxRecDepth 100000 in
set_option maxHeartbeats 8000000 in
theorem lawl_FnQueries (w : World) (hT : Tens Tryz.prog w) (hS : ErrS Tryz.prog w) (hR : ErrR Tryz.prog w) (hM : MaxL w) (v : Value) (bs : List Int) (hv : RBytes w v bs) : Calls Tryz.prog 3 #[v] w fun e w' => e = .returned (.bool true) ∧ Gr w w' := by
  have HTN := Lib.hid hT
  have HES := Lib.hid hS
  have HER := Lib.hid hR
  have HMX := Lib.hid hM
  have HV := Lib.hid hv
  obtain ⟨va, vc, rfl⟩ := hv.form
  clear hT hS hR hM hv
  go_enter Tryz.func3, Tryz.ntmps3
  go_wp2_with fail
  by_cases hbig : (bs.length : Int) > 1048576
  · refine (laws_big_yes hbig va vc _).mono ?_
    rintro e w1 ⟨rfl, rfl⟩
    go_wp2_with fail
    go_ret
    exact ⟨rfl, Gr.refl _⟩
  · refine (laws_big_no hbig va vc _).mono ?_
    rintro e W ⟨rfl, rfl⟩
    have HBS : Hid (bs.length ≤ 1048576) := Lib.hid (by omega)
    clear hbig
    go_wp2_with fail
    refine (spec_DrawAnswerAlone _ bs _ HV.out).mono ?_
    rintro e w1 ⟨qu, qx, qid, ten, cs, os, rb, rn, rc, rs, rfl, hl, hcx, hrl, hr, hg1⟩
    obtain ⟨ca, cn, cc, rfl⟩ := hcx.out.1.isSl
    obtain ⟨xa, xn, xc, rfl⟩ := hcx.out.2.isSl
    obtain rfl := hrl.out.1
    have HL : Hid (I64 qid ∧ I64 ten ∧ cs.length ≤ 4 ∧ os.length ≤ 4) := hl
    have HRL : Hid (rs.length ≤ 9 ∧ totL totRow rs ≤ 1000) := Lib.hid ⟨hrl.out.2.1, rows_tot1 hrl.out.2.1 hrl.out.2.2⟩
    replace HV : Hid (RBytes w1 (.slice va bs.length vc) bs) := Lib.hid (RSlice.mono keeps_byte hg1.out HV.out)
    have HG : Hid (Gr W w1) := hg1
    have HQ : Hid (QAt w1 cs os (.slice ca cn cc) (.slice xa xn xc)) := hcx
    have HR : Hid (RRows w1 (.slice rb rs.length rc) rs) := hr
    clear hl hcx hrl hr hg1
    obtain ⟨B2, hB2⟩ : ∃ B, B = w1.heap.size := ⟨_, rfl⟩
    obtain ⟨W2, hW2⟩ : ∃ W, W = (w1.alloc (.cells #[.int .i64 qid, .int .i64 ten, .slice ca cn cc, .slice xa xn xc] 27)) := ⟨_, rfl⟩
    have G2 : Gr w1 W2 := by rw [hW2]; exact (Gr.refl _).alloc _
    replace HV : Hid (RBytes W2 (.slice va bs.length vc) bs) := Lib.hid (RSlice.mono keeps_byte G2 HV.out)
    replace HG : Hid (Gr W W2) := Lib.hid (HG.out.trans G2)
    replace HQ : Hid (QAt W2 cs os (.slice ca cn cc) (.slice xa xn xc)) := Lib.hid (HQ.out.mono G2)
    replace HR : Hid (RRows W2 (.slice rb rs.length rc) rs) := Lib.hid (RSlice.mono keeps_row G2 HR.out)
    have SQ : Hid (Std 27 B2 #[.int .i64 qid, .int .i64 ten, .slice ca cn cc, .slice xa xn xc] W2) := Lib.hid (by rw [hW2, hB2]; exact Std.new _)
    clear G2
    go_wp2_with fail
    rw [← hW2, ← hB2]
    clear hW2 hB2
    refine (impl_AnswerAlone ⟨qid, ten, cs, os⟩ _ _ _ rs _ HQ.out.1 HQ.out.2 HR.out (by have := HRL.out.2; omega)).mono ?_
    rintro e w3 ⟨z, rfl, g3, hz⟩
    obtain ⟨AL, hAL⟩ : ∃ AL, AL = answerL ⟨qid, ten, cs, os⟩ rs := ⟨_, rfl⟩
    rw [← hAL] at hz
    have HAL := Lib.hid hAL
    clear hAL
    obtain ⟨la, lc, rfl⟩ := (rd_prows hz).form
    obtain ⟨ll, hll⟩ : ∃ ll, ll = AL.length := ⟨_, rfl⟩
    rw [← hll] at hz
    rw [← hll]
    have HLL := Lib.hid hll
    clear hll
    replace HV : Hid (RBytes w3 (.slice va bs.length vc) bs) := Lib.hid (RSlice.mono keeps_byte g3 HV.out)
    replace HG : Hid (Gr W w3) := Lib.hid (HG.out.trans g3)
    replace HQ : Hid (QAt w3 cs os (.slice ca cn cc) (.slice xa xn xc)) := Lib.hid (HQ.out.mono g3)
    replace HR : Hid (RRows w3 (.slice rb rs.length rc) rs) := Lib.hid (RSlice.mono keeps_row g3 HR.out)
    replace SQ : Hid (Std 27 B2 #[.int .i64 qid, .int .i64 ten, .slice ca cn cc, .slice xa xn xc] w3) := Lib.hid (SQ.out.gr g3)
    have HA : Hid (RRows w3 (.slice la ll lc) AL) := Lib.hid (rd_prows hz)
    clear hz g3
    have kSQ_0 : w3.cell? ⟨B2, 0, none⟩ = some (.int .i64 qid) := SQ.out.cell rfl
    have kSQ_1 : w3.cell? ⟨B2, 1, none⟩ = some (.int .i64 ten) := SQ.out.cell rfl
    have kSQ_2 : w3.cell? ⟨B2, 2, none⟩ = some (.slice ca cn cc) := SQ.out.cell rfl
    have kSQ_3 : w3.cell? ⟨B2, 3, none⟩ = some (.slice xa xn xc) := SQ.out.cell rfl
    go_wp2_with fail
    refine (spec_AnswerAlone ⟨qid, ten, cs, os⟩ _ _ _ rs _ HQ.out.1 HQ.out.2 HR.out (by have := HRL.out.2; omega)).mono ?_
    rintro e w4 ⟨z, rfl, hz, g4⟩
    rw [← HAL.out] at hz
    clear kSQ_0 kSQ_1 kSQ_2 kSQ_3
    replace HV : Hid (RBytes w4 (.slice va bs.length vc) bs) := Lib.hid (RSlice.mono keeps_byte g4 HV.out)
    replace HG : Hid (Gr W w4) := Lib.hid (HG.out.trans g4)
    replace HQ : Hid (QAt w4 cs os (.slice ca cn cc) (.slice xa xn xc)) := Lib.hid (HQ.out.mono g4)
    replace HR : Hid (RRows w4 (.slice rb rs.length rc) rs) := Lib.hid (RSlice.mono keeps_row g4 HR.out)
    replace SQ : Hid (Std 27 B2 #[.int .i64 qid, .int .i64 ten, .slice ca cn cc, .slice xa xn xc] w4) := Lib.hid (SQ.out.gr g4)
    replace HA : Hid (RRows w4 (.slice la ll lc) AL) := Lib.hid (RSlice.mono keeps_row g4 HA.out)
    clear g4
    obtain ⟨za, zn, zc, rfl⟩ := hz.isSl
    go_wp2_with fail
    refine (spec_EqualRows_self _ _ _ HA.out hz).mono ?_
    rintro e w5 ⟨rfl, g5⟩
    replace HV : Hid (RBytes w5 (.slice va bs.length vc) bs) := Lib.hid (RSlice.mono keeps_byte g5 HV.out)
    replace HG : Hid (Gr W w5) := Lib.hid (HG.out.trans g5)
    replace HQ : Hid (QAt w5 cs os (.slice ca cn cc) (.slice xa xn xc)) := Lib.hid (HQ.out.mono g5)
    replace HR : Hid (RRows w5 (.slice rb rs.length rc) rs) := Lib.hid (RSlice.mono keeps_row g5 HR.out)
    replace SQ : Hid (Std 27 B2 #[.int .i64 qid, .int .i64 ten, .slice ca cn cc, .slice xa xn xc] w5) := Lib.hid (SQ.out.gr g5)
    replace HA : Hid (RRows w5 (.slice la ll lc) AL) := Lib.hid (RSlice.mono keeps_row g5 HA.out)
    clear g5 hz
    have HCN : Hid (cntTo ⟨qid, ten, cs, os⟩ rs rs.length = ll) := Lib.hid (by rw [HLL.out, HAL.out]; exact (answer_len _ _).symm)
    have r9 : (rs.length : Int) ≤ 9 := by have := HRL.out.1; omega
    go_wp2_with fail
    go_loopw [6, 7] (fun vn vi wr => ∃ (k N : Nat), k ≤ rs.length ∧ vi = .int .i64 k ∧ vn = .int .i64 N ∧ Hid (N = cntTo ⟨qid, ten, cs, os⟩ rs k) ∧ Hid (Gr w5 wr)) (fun _ vi _ => rs.length - (intOf vi).toNat)
    case atStart => exact ⟨0, 0, Nat.zero_le _, rfl, rfl, Lib.hid rfl, Lib.hid (Gr.refl _)⟩
    case round =>
      obtain ⟨k, N, hk, rfl, rfl, HN, hgr⟩ := hrel
      have i0 : (0 : Int) ≤ (k : Int) := Int.natCast_nonneg _
      have n9 : (N : Int) ≤ 9 := by have := HN.out; have := cntTo_le ⟨qid, ten, cs, os⟩ rs k; have := HRL.out.1; omega
      have n0 : (0 : Int) ≤ (N : Int) := Int.natCast_nonneg _
      by_cases hlt : k < rs.length
      · have hlz : (k : Int) < (rs.length : Int) := by omega
        obtain ⟨b2, off, rfl⟩ : ∃ b off, rb = some ⟨b, off, none⟩ := by
          obtain ⟨a', c', e, _, _, h3⟩ := HR.out
          obtain ⟨b, off, cs, ha, _⟩ := h3 k hlt
          have e2 : rb = a' := by simp only [Value.slice.injEq] at e; exact e.1
          exact ⟨b, off, e2.trans ha⟩
        obtain ⟨ua, un, uc, d0, d1, HE⟩ := rows_at HR.out hlt
        obtain ⟨mb, hmb⟩ : ∃ mb, matchB ⟨qid, ten, cs, os⟩ rs[k] = mb := ⟨_, rfl⟩
        have HMB := Lib.hid hmb
        have HNX : Hid (cntTo ⟨qid, ten, cs, os⟩ rs (k + 1) = N + (if mb then 1 else 0)) := Lib.hid (by
          rw [HN.out]
          cases mb with
          | true => exact cntTo_yes hlt hmb
          | false => exact cntTo_no hlt hmb)
        obtain ⟨D, hD⟩ : ∃ D, D = rs[k] := ⟨_, rfl⟩
        rw [← hD] at d0 HMB HE
        clear hD hmb
        replace d0 := hgr.out.cellv d0
        replace d1 := hgr.out.cellv d1
        have q0 : wr.cell? ⟨B2, 0, none⟩ = some (.int .i64 qid) := hgr.out.cellv (SQ.out.cell rfl)
        have q1 : wr.cell? ⟨B2, 1, none⟩ = some (.int .i64 ten) := hgr.out.cellv (SQ.out.cell rfl)
        have q2 : wr.cell? ⟨B2, 2, none⟩ = some (.slice ca cn cc) := hgr.out.cellv (SQ.out.cell rfl)
        have q3 : wr.cell? ⟨B2, 3, none⟩ = some (.slice xa xn xc) := hgr.out.cellv (SQ.out.cell rfl)
        have hS1 : ∀ q : Ext wr, Calls Tryz.prog 10 #[.agg #[.int .i64 qid, .int .i64 ten, .slice ca cn cc, .slice xa xn xc], .agg #[.int .i64 D.id, .slice ua un uc]] q.val fun e w' => e = .returned (.bool mb) ∧ Gr q.val w' := fun q => impl_MatchesRow_q (q := ⟨qid, ten, cs, os⟩) HMB.out _ _ _ _ (HQ.out.mono (hgr.out.trans q.gr)) (RSlice.mono keeps_int (hgr.out.trans q.gr) HE.out)
        have hS2 : ∀ q : Ext wr, Calls Tryz.prog 9 #[.bool mb] q.val fun e w' => e = .returned (.int .i64 (if mb then 1 else 0)) ∧ Gr q.val w' := fun q => laws_btoi mb _
        have m1 : (0 : Int) ≤ (if mb then 1 else 0 : Int) ∧ (if mb then 1 else 0 : Int) ≤ 1 := by cases mb <;> decide
        obtain ⟨M, hM⟩ : ∃ M : Int, M = (if mb then 1 else 0 : Int) := ⟨_, rfl⟩
        rw [← hM] at m1
        have HMM := Lib.hid hM
        replace hS2 : ∀ q : Ext wr, Calls Tryz.prog 9 #[.bool mb] q.val fun e w' => e = .returned (.int .i64 M) ∧ Gr q.val w' := fun q => hM ▸ hS2 q
        clear hM
        have m2 := m1.1
        have m3 := m1.2
        clear m1
        go_wp2_with fail
        have qd0 := fun q : Ext wr => Ext.cell d0 q
        have qd1 := fun q : Ext wr => Ext.cell d1 q
        have qq0 := fun q : Ext wr => Ext.cell q0 q
        have qq1 := fun q : Ext wr => Ext.cell q1 q
        have qq2 := fun q : Ext wr => Ext.cell q2 q
        have qq3 := fun q : Ext wr => Ext.cell q3 q
        refine wp_region_ext (by kernel_rfl) (by kernel_rfl) ?_
        repeat (go_big_quiet_step (first | (go_at_call 10; with_reducible exact quiet_ext (hS1 _)) | (go_at_call 9; with_reducible exact quiet_ext (hS2 _))))
        refine wpQuiet_nil ?_
        intro w6 hw6
        have HG6 := Lib.hid (Ext.out hw6)
        clear hw6 qd0 qd1 qq0 qq1 qq2 qq3 d0 d1 q0 q1 q2 q3 hS1 hS2
        go_wp2_with fail
        go_roundw
        case rel => exact ⟨k + 1, cntTo ⟨qid, ten, cs, os⟩ rs (k + 1), by omega, by go_num, by
          have e : (N : Int) + M = ((cntTo ⟨qid, ten, cs, os⟩ rs (k + 1) : Nat) : Int) := by
            rw [HNX.out, HMM.out]; cases mb <;> simp
          first
          | (rw [e])
          | (rw [← e]; go_num)
          | (simp only [e]), Lib.hid rfl, Lib.hid (hgr.out.trans HG6.out)⟩
        case measure => simp [intOf]; omega
      · obtain rfl : k = rs.length := by omega
        have hlz : ¬ (rs.length : Int) < (rs.length : Int) := by omega
        obtain rfl : ll = N := (HN.out.trans HCN.out).symm
        clear n9 n0 i0 HN HCN
        replace HV : Hid (RBytes wr (.slice va bs.length vc) bs) := Lib.hid (RSlice.mono keeps_byte hgr.out HV.out)
        replace HG : Hid (Gr W wr) := Lib.hid (HG.out.trans hgr.out)
        replace HQ : Hid (QAt wr cs os (.slice ca cn cc) (.slice xa xn xc)) := Lib.hid (HQ.out.mono hgr.out)
        replace HR : Hid (RRows wr (.slice rb rs.length rc) rs) := Lib.hid (RSlice.mono keeps_row hgr.out HR.out)
        replace SQ : Hid (Std 27 B2 #[.int .i64 qid, .int .i64 ten, .slice ca cn cc, .slice xa xn xc] wr) := Lib.hid (SQ.out.gr hgr.out)
        replace HA : Hid (RRows wr (.slice la ll lc) AL) := Lib.hid (RSlice.mono keeps_row hgr.out HA.out)
        clear hgr hlz
        have kSQ_0 : wr.cell? ⟨B2, 0, none⟩ = some (.int .i64 qid) := SQ.out.cell rfl
        have kSQ_1 : wr.cell? ⟨B2, 1, none⟩ = some (.int .i64 ten) := SQ.out.cell rfl
        have kSQ_2 : wr.cell? ⟨B2, 2, none⟩ = some (.slice ca cn cc) := SQ.out.cell rfl
        have kSQ_3 : wr.cell? ⟨B2, 3, none⟩ = some (.slice xa xn xc) := SQ.out.cell rfl
        obtain ⟨T, hTT⟩ : ∃ T, queryText ⟨qid, ten, cs, os⟩ = T := ⟨_, rfl⟩
        have HTT := Lib.hid hTT
        have HTL : Hid (T.length ≤ 1000) := Lib.hid (by rw [← hTT]; exact queryText_len _)
        have HTQ : Hid (totQuery ⟨qid, ten, cs, os⟩ ≤ 1048576) := Lib.hid (by have := HL.out.2.2; unfold totQuery; dsimp only; omega)
        clear hTT
        go_wp2_with fail
        refine (impl_FormatQuery_of (q := ⟨qid, ten, cs, os⟩) HTT.out _ _ _ HQ.out HTQ.out ⟨HL.out.1, HL.out.2.1⟩ (tab_gr HTN.out HG.out)).mono ?_
        rintro e w7 ⟨rfl, g7⟩
        clear kSQ_0 kSQ_1 kSQ_2 kSQ_3
        replace HV : Hid (RBytes w7 (.slice va bs.length vc) bs) := Lib.hid (RSlice.mono keeps_byte g7 HV.out)
        replace HG : Hid (Gr W w7) := Lib.hid (HG.out.trans g7)
        replace HQ : Hid (QAt w7 cs os (.slice ca cn cc) (.slice xa xn xc)) := Lib.hid (HQ.out.mono g7)
        replace HR : Hid (RRows w7 (.slice rb rs.length rc) rs) := Lib.hid (RSlice.mono keeps_row g7 HR.out)
        replace SQ : Hid (Std 27 B2 #[.int .i64 qid, .int .i64 ten, .slice ca cn cc, .slice xa xn xc] w7) := Lib.hid (SQ.out.gr g7)
        replace HA : Hid (RRows w7 (.slice la ll lc) AL) := Lib.hid (RSlice.mono keeps_row g7 HA.out)
        clear g7
        go_wp2_with fail
        refine (impl_ParseQuery T _ (by have := HTL.out; omega) (tab_gr HTN.out HG.out) (errS_gr HES.out HG.out) (errR_gr HER.out HG.out) (maxL_gr HMX.out HG.out)).mono ?_
        rintro e w8 ⟨pu, px, rfl, g8, m, hm1, hm2, hpc, hpo⟩
        obtain ⟨pr, hpr⟩ : ∃ pr, pr = implQuery T := ⟨_, rfl⟩
        rw [← hpr] at hpc hpo
        rw [← hpr]
        have HPR := Lib.hid hpr
        have HPB : Hid (pr.isSome = isQueryB ⟨qid, ten, cs, os⟩) := Lib.hid (by rw [hpr, ← HTT.out]; exact query_back _)
        clear hpr hm1 hm2
        obtain ⟨PX, hPX⟩ : ∃ PX, PX = qryOr pr := ⟨_, rfl⟩
        obtain ⟨pb, hpb⟩ : ∃ pb, pb = pr.isSome := ⟨_, rfl⟩
        rw [← hPX] at hpc hpo
        rw [← hPX, ← hpb]
        obtain ⟨ya, yn, yc, rfl⟩ := (rd_pconds hpc).isSl
        obtain ⟨xa2, xn2, xc2, rfl⟩ := (rd_pints hpo).isSl
        have HIQ : Hid (isQueryB ⟨qid, ten, cs, os⟩ = pb) := Lib.hid (by rw [hpb]; exact HPB.out.symm)
        have HPX : Hid (pb = true → queryText PX = T ∧ totQuery PX ≤ 1048576 ∧ I64 PX.id ∧ I64 PX.tenant) := Lib.hid fun h => by
          rw [hpb] at h
          obtain ⟨r, hr⟩ := Option.isSome_iff_exists.1 h
          have e : PX = r := by rw [hPX, hr]; rfl
          have e2 : implQuery (queryText ⟨qid, ten, cs, os⟩) = some r := by rw [HTT.out, ← HPR.out]; exact hr
          rw [e]
          exact ⟨(query_text e2).trans HTT.out, read_bounds e2⟩
        clear hpb hPX HPR HPB
        replace HV : Hid (RBytes w8 (.slice va bs.length vc) bs) := Lib.hid (RSlice.mono keeps_byte g8 HV.out)
        replace HG : Hid (Gr W w8) := Lib.hid (HG.out.trans g8)
        replace HQ : Hid (QAt w8 cs os (.slice ca cn cc) (.slice xa xn xc)) := Lib.hid (HQ.out.mono g8)
        replace HR : Hid (RRows w8 (.slice rb rs.length rc) rs) := Lib.hid (RSlice.mono keeps_row g8 HR.out)
        replace SQ : Hid (Std 27 B2 #[.int .i64 qid, .int .i64 ten, .slice ca cn cc, .slice xa xn xc] w8) := Lib.hid (SQ.out.gr g8)
        replace HA : Hid (RRows w8 (.slice la ll lc) AL) := Lib.hid (RSlice.mono keeps_row g8 HA.out)
        have HP : Hid (QAt w8 PX.conds PX.out (.slice ya yn yc) (.slice xa2 xn2 xc2)) := Lib.hid (⟨rd_pconds hpc, rd_pints hpo⟩)
        clear hpc hpo g8
        obtain ⟨B9, hB9⟩ : ∃ B, B = w8.heap.size := ⟨_, rfl⟩
        obtain ⟨W9, hW9⟩ : ∃ W, W = (w8.alloc (.cells #[.int .i64 PX.id, .int .i64 PX.tenant, .slice ya yn yc, .slice xa2 xn2 xc2] 27)) := ⟨_, rfl⟩
        have G9 : Gr w8 W9 := by rw [hW9]; exact (Gr.refl _).alloc _
        replace HV : Hid (RBytes W9 (.slice va bs.length vc) bs) := Lib.hid (RSlice.mono keeps_byte G9 HV.out)
        replace HG : Hid (Gr W W9) := Lib.hid (HG.out.trans G9)
        replace HQ : Hid (QAt W9 cs os (.slice ca cn cc) (.slice xa xn xc)) := Lib.hid (HQ.out.mono G9)
        replace HR : Hid (RRows W9 (.slice rb rs.length rc) rs) := Lib.hid (RSlice.mono keeps_row G9 HR.out)
        replace SQ : Hid (Std 27 B2 #[.int .i64 qid, .int .i64 ten, .slice ca cn cc, .slice xa xn xc] W9) := Lib.hid (SQ.out.gr G9)
        replace HA : Hid (RRows W9 (.slice la ll lc) AL) := Lib.hid (RSlice.mono keeps_row G9 HA.out)
        replace HP : Hid (QAt W9 PX.conds PX.out (.slice ya yn yc) (.slice xa2 xn2 xc2)) := Lib.hid (HP.out.mono G9)
        have SP : Hid (Std 27 B9 #[.int .i64 PX.id, .int .i64 PX.tenant, .slice ya yn yc, .slice xa2 xn2 xc2] W9) := Lib.hid (by rw [hW9, hB9]; exact Std.new _)
        clear G9
        go_wp2_with fail
        rw [← hW9, ← hB9]
        clear hW9 hB9
        refine (spec_DrawProjectRow _ bs _ HV.out).mono ?_
        rintro e w10 ⟨pqu, pqx, pid, pten, pcs, pos, pv, rid, pvs, rfl, hl2, hcx, hrl, hr, hg⟩
        obtain ⟨ea, en, ec, rfl⟩ := hcx.out.1.isSl
        obtain ⟨fa, fn, fc, rfl⟩ := hcx.out.2.isSl
        obtain ⟨ga, gn, gc, rfl⟩ := hr.out.isSl
        clear HV
        replace HG : Hid (Gr W w10) := Lib.hid (HG.out.trans hg.out)
        replace HQ : Hid (QAt w10 cs os (.slice ca cn cc) (.slice xa xn xc)) := Lib.hid (HQ.out.mono hg.out)
        replace HR : Hid (RRows w10 (.slice rb rs.length rc) rs) := Lib.hid (RSlice.mono keeps_row hg.out HR.out)
        replace SQ : Hid (Std 27 B2 #[.int .i64 qid, .int .i64 ten, .slice ca cn cc, .slice xa xn xc] w10) := Lib.hid (SQ.out.gr hg.out)
        replace HA : Hid (RRows w10 (.slice la ll lc) AL) := Lib.hid (RSlice.mono keeps_row hg.out HA.out)
        replace HP : Hid (QAt w10 PX.conds PX.out (.slice ya yn yc) (.slice xa2 xn2 xc2)) := Lib.hid (HP.out.mono hg.out)
        replace SP : Hid (Std 27 B9 #[.int .i64 PX.id, .int .i64 PX.tenant, .slice ya yn yc, .slice xa2 xn2 xc2] w10) := Lib.hid (SP.out.gr hg.out)
        have HK : Hid (QAt w10 pcs pos (.slice ea en ec) (.slice fa fn fc)) := hcx
        have HZ : Hid (RInts w10 (.slice ga gn gc) pvs) := hr
        clear hl2 hcx hrl hr hg
        obtain ⟨B11, hB11⟩ : ∃ B, B = w10.heap.size := ⟨_, rfl⟩
        obtain ⟨W11, hW11⟩ : ∃ W, W = ((w10.alloc (.cells #[.int .i64 pid, .int .i64 pten, .slice ea en ec, .slice fa fn fc] 27)).alloc (.cells #[.int .i64 rid, .slice ga gn gc] 36)) := ⟨_, rfl⟩
        have G11 : Gr w10 W11 := by rw [hW11]; exact ((Gr.refl _).alloc _).alloc _
        replace HG : Hid (Gr W W11) := Lib.hid (HG.out.trans G11)
        replace HQ : Hid (QAt W11 cs os (.slice ca cn cc) (.slice xa xn xc)) := Lib.hid (HQ.out.mono G11)
        replace HR : Hid (RRows W11 (.slice rb rs.length rc) rs) := Lib.hid (RSlice.mono keeps_row G11 HR.out)
        replace SQ : Hid (Std 27 B2 #[.int .i64 qid, .int .i64 ten, .slice ca cn cc, .slice xa xn xc] W11) := Lib.hid (SQ.out.gr G11)
        replace HA : Hid (RRows W11 (.slice la ll lc) AL) := Lib.hid (RSlice.mono keeps_row G11 HA.out)
        replace HP : Hid (QAt W11 PX.conds PX.out (.slice ya yn yc) (.slice xa2 xn2 xc2)) := Lib.hid (HP.out.mono G11)
        replace SP : Hid (Std 27 B9 #[.int .i64 PX.id, .int .i64 PX.tenant, .slice ya yn yc, .slice xa2 xn2 xc2] W11) := Lib.hid (SP.out.gr G11)
        replace HK : Hid (QAt W11 pcs pos (.slice ea en ec) (.slice fa fn fc)) := Lib.hid (HK.out.mono G11)
        replace HZ : Hid (RInts W11 (.slice ga gn gc) pvs) := Lib.hid (RSlice.mono keeps_int G11 HZ.out)
        have SK : Hid (Std 27 B11 #[.int .i64 pid, .int .i64 pten, .slice ea en ec, .slice fa fn fc] W11) := Lib.hid (by rw [hW11, hB11]; exact (Std.new _).gr ((Gr.refl _).alloc _))
        have e11 : (w10.alloc (.cells #[.int .i64 pid, .int .i64 pten, .slice ea en ec, .slice fa fn fc] 27)).heap.size = B11 + 1 := by rw [hB11]; simp
        have SZ : Hid (Std 36 (B11 + 1) #[.int .i64 rid, .slice ga gn gc] W11) := Lib.hid (by rw [hW11, ← e11]; exact Std.new _)
        clear e11
        clear G11
        go_upto_region 15 with fail
        rw [← hW11, ← hB11]
        clear hW11 hB11
        obtain ⟨mp, hmp⟩ : ∃ mp, matchB ⟨pid, pten, pcs, pos⟩ ⟨rid, pvs⟩ = mp := ⟨_, rfl⟩
        have HMP := Lib.hid hmp
        clear hmp
        have HSA : Hid (sortR AL = AL ∧ totL totRow AL ≤ 1048576) := Lib.hid ⟨by rw [HAL.out]; exact answer_sorted _ _, by rw [HAL.out]; exact answer_tot _ _ HRL.out.2⟩
        obtain ⟨WD, hWD⟩ : ∃ WD, WD = W11.drew := ⟨_, rfl⟩
        have GD : Gr W11 WD := by rw [hWD]; exact (Gr.refl _).drew
        replace HG : Hid (Gr W WD) := Lib.hid (HG.out.trans GD)
        replace HQ : Hid (QAt WD cs os (.slice ca cn cc) (.slice xa xn xc)) := Lib.hid (HQ.out.mono GD)
        replace HR : Hid (RRows WD (.slice rb rs.length rc) rs) := Lib.hid (RSlice.mono keeps_row GD HR.out)
        replace SQ : Hid (Std 27 B2 #[.int .i64 qid, .int .i64 ten, .slice ca cn cc, .slice xa xn xc] WD) := Lib.hid (SQ.out.gr GD)
        replace HA : Hid (RRows WD (.slice la ll lc) AL) := Lib.hid (RSlice.mono keeps_row GD HA.out)
        replace HP : Hid (QAt WD PX.conds PX.out (.slice ya yn yc) (.slice xa2 xn2 xc2)) := Lib.hid (HP.out.mono GD)
        replace SP : Hid (Std 27 B9 #[.int .i64 PX.id, .int .i64 PX.tenant, .slice ya yn yc, .slice xa2 xn2 xc2] WD) := Lib.hid (SP.out.gr GD)
        replace HK : Hid (QAt WD pcs pos (.slice ea en ec) (.slice fa fn fc)) := Lib.hid (HK.out.mono GD)
        replace HZ : Hid (RInts WD (.slice ga gn gc) pvs) := Lib.hid (RSlice.mono keeps_int GD HZ.out)
        replace SK : Hid (Std 27 B11 #[.int .i64 pid, .int .i64 pten, .slice ea en ec, .slice fa fn fc] WD) := Lib.hid (SK.out.gr GD)
        replace SZ : Hid (Std 36 (B11 + 1) #[.int .i64 rid, .slice ga gn gc] WD) := Lib.hid (SZ.out.gr GD)
        refine wp_region_G (S := fun w' => Gr WD w') (m := 50) (by kernel_rfl) ?_
        rw [← hWD]
        clear hWD GD
        have kSQ_0 : WD.cell? ⟨B2, 0, none⟩ = some (.int .i64 qid) := SQ.out.cell rfl
        have kSQ_1 : WD.cell? ⟨B2, 1, none⟩ = some (.int .i64 ten) := SQ.out.cell rfl
        have kSQ_2 : WD.cell? ⟨B2, 2, none⟩ = some (.slice ca cn cc) := SQ.out.cell rfl
        have kSQ_3 : WD.cell? ⟨B2, 3, none⟩ = some (.slice xa xn xc) := SQ.out.cell rfl
        have kSP_0 : WD.cell? ⟨B9, 0, none⟩ = some (.int .i64 PX.id) := SP.out.cell rfl
        have kSP_1 : WD.cell? ⟨B9, 1, none⟩ = some (.int .i64 PX.tenant) := SP.out.cell rfl
        have kSP_2 : WD.cell? ⟨B9, 2, none⟩ = some (.slice ya yn yc) := SP.out.cell rfl
        have kSP_3 : WD.cell? ⟨B9, 3, none⟩ = some (.slice xa2 xn2 xc2) := SP.out.cell rfl
        have kSK_0 : WD.cell? ⟨B11, 0, none⟩ = some (.int .i64 pid) := SK.out.cell rfl
        have kSK_1 : WD.cell? ⟨B11, 1, none⟩ = some (.int .i64 pten) := SK.out.cell rfl
        have kSK_2 : WD.cell? ⟨B11, 2, none⟩ = some (.slice ea en ec) := SK.out.cell rfl
        have kSK_3 : WD.cell? ⟨B11, 3, none⟩ = some (.slice fa fn fc) := SK.out.cell rfl
        have kSZ_0 : WD.cell? ⟨(B11 + 1), 0, none⟩ = some (.int .i64 rid) := SZ.out.cell rfl
        have kSZ_1 : WD.cell? ⟨(B11 + 1), 1, none⟩ = some (.slice ga gn gc) := SZ.out.cell rfl
        have hS : (fun w' : World => Gr WD w') WD := Gr.refl _
        refine wpAnyG_takeL (i := 0) (v := ?v0_1) hS rfl rfl (by kernel_rfl) (by kernel_rfl) (by kernel_rfl) (by kernel_rfl) (fun _ _ _ h => h) (Or.inl ⟨by rfl, ?hy0_1⟩) ?rest0_1
        case hy0_1 => (intro w' hw'; go_simp; try with_reducible rfl)
        simp only [List.set_cons_succ, List.set_cons_zero]
        refine wpAnyG_takeL (i := 1) (v := ?v1_2) hS rfl rfl (by kernel_rfl) (by kernel_rfl) (by kernel_rfl) (by kernel_rfl) (fun _ _ _ h => h) (Or.inl ⟨by rfl, ?hy1_2⟩) ?rest1_2
        case hy1_2 => (intro w' hw'; go_simp; try with_reducible rfl)
        simp only [List.set_cons_succ, List.set_cons_zero]
        refine wpAnyG_takeL (i := 2) (v := ?v2_3) hS rfl rfl (by kernel_rfl) (by kernel_rfl) (by kernel_rfl) (by kernel_rfl) (fun _ _ _ h => h) (Or.inl ⟨by rfl, ?hy2_3⟩) ?rest2_3
        case hy2_3 => (intro w' hw'; go_simp; try with_reducible rfl)
        simp only [List.set_cons_succ, List.set_cons_zero]
        refine wpAnyG_takeL (i := 3) (v := ?v3_4) hS rfl rfl (by kernel_rfl) (by kernel_rfl) (by kernel_rfl) (by kernel_rfl) (fun _ _ _ h => h) (Or.inl ⟨by rfl, ?hy3_4⟩) ?rest3_4
        case hy3_4 => (intro w' hw'; go_simp; try with_reducible rfl)
        simp only [List.set_cons_succ, List.set_cons_zero]
        refine wpAnyG_takeL (i := 4) (v := ?v4_5) hS rfl rfl (by kernel_rfl) (by kernel_rfl) (by kernel_rfl) (by kernel_rfl) (fun _ _ _ h => h) (Or.inl ⟨by rfl, ?hy4_5⟩) ?rest4_5
        case hy4_5 => (intro w' hw'; go_simp; try with_reducible rfl)
        simp only [List.set_cons_succ, List.set_cons_zero]
        refine wpAnyG_takeL (i := 5) (v := ?v5_6) hS rfl rfl (by kernel_rfl) (by kernel_rfl) (by kernel_rfl) (by kernel_rfl) (fun _ _ _ h => h) (Or.inl ⟨by rfl, ?hy5_6⟩) ?rest5_6
        case hy5_6 => (intro w' hw'; go_simp; try with_reducible rfl)
        simp only [List.set_cons_succ, List.set_cons_zero]
        refine wpAnyG_takeL (i := 6) (v := ?v6_7) hS rfl rfl (by kernel_rfl) (by kernel_rfl) (by kernel_rfl) (by kernel_rfl) (fun _ _ _ h => h) (Or.inl ⟨by rfl, ?hy6_7⟩) ?rest6_7
        case hy6_7 => (intro w' hw'; have c0 := (show Gr WD w' from hw').cellv kSQ_0; have c1 := (show Gr WD w' from hw').cellv kSQ_1; have c2 := (show Gr WD w' from hw').cellv kSQ_2; have c3 := (show Gr WD w' from hw').cellv kSQ_3; go_simp; try with_reducible rfl)
        simp only [List.set_cons_succ, List.set_cons_zero]
        refine wpAnyG_oneL (i := 7) rfl (by kernel_rfl) (fun K hK => ?_)
        go_simp
        refine (spec_FormatQuery_of (q := ⟨qid, ten, cs, os⟩) HTT.out _ _ _ (HQ.out.mono hS) HTQ.out ⟨HL.out.1, HL.out.2.1⟩).mono ?_
        rintro e wa ⟨rfl, gwa⟩
        have hwa : Gr WD wa := hS.trans gwa
        go_simp
        refine hK.out _ _ (fun _ => hwa) ?_
        clear hK K
        try simp only [Act.put]
        refine wpAnyG_takeL (i := 8) (v := ?v8_8) hwa rfl rfl (by kernel_rfl) (by kernel_rfl) (by kernel_rfl) (by kernel_rfl) (fun _ _ _ h => h) (Or.inl ⟨by rfl, ?hy8_8⟩) ?rest8_8
        case hy8_8 => (intro w' hw'; go_simp; try with_reducible rfl)
        simp only [List.set_cons_succ, List.set_cons_zero]
        refine wpAnyG_takeL (i := 9) (v := ?v9_9) hwa rfl rfl (by kernel_rfl) (by kernel_rfl) (by kernel_rfl) (by kernel_rfl) (fun _ _ _ h => h) (Or.inl ⟨by rfl, ?hy9_9⟩) ?rest9_9
        case hy9_9 => (intro w' hw'; go_simp; try with_reducible rfl)
        simp only [List.set_cons_succ, List.set_cons_zero]
        refine wpAnyG_takeL (i := 10) (v := ?v10_10) hwa rfl rfl (by kernel_rfl) (by kernel_rfl) (by kernel_rfl) (by kernel_rfl) (fun _ _ _ h => h) (Or.inl ⟨by rfl, ?hy10_10⟩) ?rest10_10
        case hy10_10 => (intro w' hw'; go_simp; try with_reducible rfl)
        simp only [List.set_cons_succ, List.set_cons_zero]
        refine wpAnyG_takeL (i := 11) (v := ?v11_11) hwa rfl rfl (by kernel_rfl) (by kernel_rfl) (by kernel_rfl) (by kernel_rfl) (fun _ _ _ h => h) (Or.inl ⟨by rfl, ?hy11_11⟩) ?rest11_11
        case hy11_11 => (intro w' hw'; go_simp; try with_reducible rfl)
        simp only [List.set_cons_succ, List.set_cons_zero]
        refine wpAnyG_takeL (i := 12) (v := ?v12_12) hwa rfl rfl (by kernel_rfl) (by kernel_rfl) (by kernel_rfl) (by kernel_rfl) (fun _ _ _ h => h) (Or.inl ⟨by rfl, ?hy12_12⟩) ?rest12_12
        case hy12_12 => (intro w' hw'; have c0 := (show Gr WD w' from hw').cellv kSQ_0; have c1 := (show Gr WD w' from hw').cellv kSQ_1; have c2 := (show Gr WD w' from hw').cellv kSQ_2; have c3 := (show Gr WD w' from hw').cellv kSQ_3; go_simp; try with_reducible rfl)
        simp only [List.set_cons_succ, List.set_cons_zero]
        refine wpAnyG_oneL (i := 13) rfl (by kernel_rfl) (fun K hK => ?_)
        go_simp
        refine (spec_IsQuery_of' (q := ⟨qid, ten, cs, os⟩) HIQ.out _ _ _ (HQ.out.mono hwa)).mono ?_
        rintro e wb ⟨rfl, gwb⟩
        have hwb : Gr WD wb := hwa.trans gwb
        go_simp
        refine hK.out _ _ (fun _ => hwb) ?_
        clear hK K
        try simp only [Act.put]
        have hpp : (pb == pb) = true := by cases pb <;> rfl
        refine wpAnyG_takeL (i := 14) (v := ?v14_13) hwb rfl rfl (by kernel_rfl) (by kernel_rfl) (by kernel_rfl) (by kernel_rfl) (fun _ _ _ h => h) (Or.inl ⟨by rfl, ?hy14_13⟩) ?rest14_13
        case hy14_13 => (intro w' hw'; go_simp; try with_reducible rfl)
        simp only [List.set_cons_succ, List.set_cons_zero]
        refine wpAnyG_takeL (i := 15) (v := ?v15_14) hwb rfl rfl (by kernel_rfl) (by kernel_rfl) (by kernel_rfl) (by kernel_rfl) (fun _ _ _ h => h) (Or.inl ⟨by rfl, ?hy15_14⟩) ?rest15_14
        case hy15_14 => (intro w' hw'; go_simp; try with_reducible rfl)
        simp only [List.set_cons_succ, List.set_cons_zero]
        cases pb with
        | true =>
          refine wpAnyG_takeL (i := 16) (v := ?v16_15) hwb rfl rfl (by kernel_rfl) (by kernel_rfl) (by kernel_rfl) (by kernel_rfl) (fun _ _ _ h => h) (Or.inl ⟨by rfl, ?hy16_15⟩) ?rest16_15
          case hy16_15 => (intro w' hw'; go_simp; try with_reducible rfl)
          simp only [List.set_cons_succ, List.set_cons_zero]
          refine wpAnyG_takeL (i := 17) (v := ?v17_16) hwb rfl rfl (by kernel_rfl) (by kernel_rfl) (by kernel_rfl) (by kernel_rfl) (fun _ _ _ h => h) (Or.inl ⟨by rfl, ?hy17_16⟩) ?rest17_16
          case hy17_16 => (intro w' hw'; go_simp; try with_reducible rfl)
          simp only [List.set_cons_succ, List.set_cons_zero]
          refine wpAnyG_takeL (i := 18) (v := ?v18_17) hwb rfl rfl (by kernel_rfl) (by kernel_rfl) (by kernel_rfl) (by kernel_rfl) (fun _ _ _ h => h) (Or.inl ⟨by rfl, ?hy18_17⟩) ?rest18_17
          case hy18_17 => (intro w' hw'; go_simp; try with_reducible rfl)
          simp only [List.set_cons_succ, List.set_cons_zero]
          refine wpAnyG_takeL (i := 19) (v := ?v19_18) hwb rfl rfl (by kernel_rfl) (by kernel_rfl) (by kernel_rfl) (by kernel_rfl) (fun _ _ _ h => h) (Or.inl ⟨by rfl, ?hy19_18⟩) ?rest19_18
          case hy19_18 => (intro w' hw'; go_simp; try with_reducible rfl)
          simp only [List.set_cons_succ, List.set_cons_zero]
          refine wpAnyG_takeL (i := 20) (v := ?v20_19) hwb rfl rfl (by kernel_rfl) (by kernel_rfl) (by kernel_rfl) (by kernel_rfl) (fun _ _ _ h => h) (Or.inl ⟨by rfl, ?hy20_19⟩) ?rest20_19
          case hy20_19 => (intro w' hw'; have c0 := (show Gr WD w' from hw').cellv kSP_0; have c1 := (show Gr WD w' from hw').cellv kSP_1; have c2 := (show Gr WD w' from hw').cellv kSP_2; have c3 := (show Gr WD w' from hw').cellv kSP_3; go_simp; try with_reducible rfl)
          simp only [List.set_cons_succ, List.set_cons_zero]
          refine wpAnyG_takeL (i := 22) (v := ?v22_20) hwb rfl rfl (by kernel_rfl) (by kernel_rfl) (by kernel_rfl) (by kernel_rfl) (fun _ _ _ h => h) (Or.inl ⟨by rfl, ?hy22_20⟩) ?rest22_20
          case hy22_20 => (intro w' hw'; go_simp; try with_reducible rfl)
          simp only [List.set_cons_succ, List.set_cons_zero]
          refine wpAnyG_oneL (i := 21) rfl (by kernel_rfl) (fun K hK => ?_)
          go_simp
          refine (impl_FormatQuery_of (q := PX) (HPX.out rfl).1 _ _ _ (HP.out.mono hwb) (HPX.out rfl).2.1 (HPX.out rfl).2.2 (tab_gr HTN.out (HG.out.trans hwb))).mono ?_
          rintro e wct ⟨rfl, gwct⟩
          have hwct : Gr WD wct := hwb.trans gwct
          go_simp
          refine hK.out _ _ (fun _ => hwct) ?_
          clear hK K
          try simp only [Act.put]
          refine wpAnyG_takeL (i := 23) (v := ?v23_21) hwct rfl rfl (by kernel_rfl) (by kernel_rfl) (by kernel_rfl) (by kernel_rfl) (fun _ _ _ h => h) (Or.inl ⟨by rfl, ?hy23_21⟩) ?rest23_21
          case hy23_21 => (intro w' hw'; go_simp; try with_reducible rfl)
          simp only [List.set_cons_succ, List.set_cons_zero]
          refine wpAnyG_takeL (i := 24) (v := ?v24_22) hwct rfl rfl (by kernel_rfl) (by kernel_rfl) (by kernel_rfl) (by kernel_rfl) (fun _ _ _ h => h) (Or.inl ⟨by rfl, ?hy24_22⟩) ?rest24_22
          case hy24_22 => (intro w' hw'; go_simp; try with_reducible rfl)
          simp only [List.set_cons_succ, List.set_cons_zero]
          refine wpAnyG_takeL (i := 25) (v := ?v25_23) hwct rfl rfl (by kernel_rfl) (by kernel_rfl) (by kernel_rfl) (by kernel_rfl) (fun _ _ _ h => h) (Or.inl ⟨by rfl, ?hy25_23⟩) ?rest25_23
          case hy25_23 => (intro w' hw'; go_simp; try with_reducible rfl)
          simp only [List.set_cons_succ, List.set_cons_zero]
          refine wpAnyG_takeL (i := 26) (v := ?v26_24) hwct rfl rfl (by kernel_rfl) (by kernel_rfl) (by kernel_rfl) (by kernel_rfl) (fun _ _ _ h => h) (Or.inl ⟨by rfl, ?hy26_24⟩) ?rest26_24
          case hy26_24 => (intro w' hw'; go_simp; try with_reducible rfl)
          simp only [List.set_cons_succ, List.set_cons_zero]
          refine wpAnyG_takeL (i := 27) (v := ?v27_25) hwct rfl rfl (by kernel_rfl) (by kernel_rfl) (by kernel_rfl) (by kernel_rfl) (fun _ _ _ h => h) (Or.inl ⟨by rfl, ?hy27_25⟩) ?rest27_25
          case hy27_25 => (intro w' hw'; have c0 := (show Gr WD w' from hw').cellv kSK_0; have c1 := (show Gr WD w' from hw').cellv kSK_1; have c2 := (show Gr WD w' from hw').cellv kSK_2; have c3 := (show Gr WD w' from hw').cellv kSK_3; go_simp; try with_reducible rfl)
          simp only [List.set_cons_succ, List.set_cons_zero]
          refine wpAnyG_takeL (i := 28) (v := ?v28_26) hwct rfl rfl (by kernel_rfl) (by kernel_rfl) (by kernel_rfl) (by kernel_rfl) (fun _ _ _ h => h) (Or.inl ⟨by rfl, ?hy28_26⟩) ?rest28_26
          case hy28_26 => (intro w' hw'; have c0 := (show Gr WD w' from hw').cellv kSZ_0; have c1 := (show Gr WD w' from hw').cellv kSZ_1; go_simp; try with_reducible rfl)
          simp only [List.set_cons_succ, List.set_cons_zero]
          refine wpAnyG_takeL (i := 30) (v := ?v30_27) hwct rfl rfl (by kernel_rfl) (by kernel_rfl) (by kernel_rfl) (by kernel_rfl) (fun _ _ _ h => h) (Or.inl ⟨by rfl, ?hy30_27⟩) ?rest30_27
          case hy30_27 => (intro w' hw'; have c0 := (show Gr WD w' from hw').cellv kSK_0; have c1 := (show Gr WD w' from hw').cellv kSK_1; have c2 := (show Gr WD w' from hw').cellv kSK_2; have c3 := (show Gr WD w' from hw').cellv kSK_3; go_simp; try with_reducible rfl)
          simp only [List.set_cons_succ, List.set_cons_zero]
          refine wpAnyG_takeL (i := 31) (v := ?v31_28) hwct rfl rfl (by kernel_rfl) (by kernel_rfl) (by kernel_rfl) (by kernel_rfl) (fun _ _ _ h => h) (Or.inl ⟨by rfl, ?hy31_28⟩) ?rest31_28
          case hy31_28 => (intro w' hw'; have c0 := (show Gr WD w' from hw').cellv kSZ_0; have c1 := (show Gr WD w' from hw').cellv kSZ_1; go_simp; try with_reducible rfl)
          simp only [List.set_cons_succ, List.set_cons_zero]
          refine wpAnyG_oneL (i := 29) rfl (by kernel_rfl) (fun K hK => ?_)
          go_simp
          refine (impl_ProjectRow ⟨pid, pten, pcs, pos⟩ _ _ ⟨rid, pvs⟩ _ _ (HK.out.mono hwct).1 (HK.out.mono hwct).2 (RSlice.mono keeps_int hwct HZ.out)).mono ?_
          rintro e wdt ⟨j1, rfl, gwdt, hj1⟩
          obtain ⟨ja, jn, jc, rfl⟩ := (rd_pints hj1).isSl
          have hwdt : Gr WD wdt := hwct.trans gwdt
          go_simp
          refine hK.out _ _ (fun _ => hwdt) ?_
          clear hK K
          try simp only [Act.put]
          refine wpAnyG_oneL (i := 32) rfl (by kernel_rfl) (fun K hK => ?_)
          go_simp
          refine (spec_ProjectRow ⟨pid, pten, pcs, pos⟩ _ _ ⟨rid, pvs⟩ _ _ (HK.out.mono hwdt).1 (HK.out.mono hwdt).2 (RSlice.mono keeps_int hwdt HZ.out)).mono ?_
          rintro e wet ⟨j2, rfl, hj2, gwet⟩
          obtain ⟨ka, kn, kc, rfl⟩ := hj2.isSl
          have hwet : Gr WD wet := hwdt.trans gwet
          go_simp
          refine hK.out _ _ (fun _ => hwet) ?_
          clear hK K
          try simp only [Act.put]
          refine wpAnyG_oneL (i := 33) rfl (by kernel_rfl) (fun K hK => ?_)
          go_simp
          refine (laws_sameInts_self _ _ _ (RSlice.mono keeps_int gwet (rd_pints hj1)) hj2).mono ?_
          rintro e wft ⟨rfl, gwft⟩
          have hwft : Gr WD wft := hwet.trans gwft
          go_simp
          refine hK.out _ _ (fun _ => hwft) ?_
          clear hK K
          try simp only [Act.put]
          refine wpAnyG_takeL (i := 34) (v := ?v34_29) hwft rfl rfl (by kernel_rfl) (by kernel_rfl) (by kernel_rfl) (by kernel_rfl) (fun _ _ _ h => h) (Or.inl ⟨by rfl, ?hy34_29⟩) ?rest34_29
          case hy34_29 => (intro w' hw'; go_simp; try with_reducible rfl)
          simp only [List.set_cons_succ, List.set_cons_zero]
          refine wpAnyG_takeL (i := 35) (v := ?v35_30) hwft rfl rfl (by kernel_rfl) (by kernel_rfl) (by kernel_rfl) (by kernel_rfl) (fun _ _ _ h => h) (Or.inl ⟨by rfl, ?hy35_30⟩) ?rest35_30
          case hy35_30 => (intro w' hw'; go_simp; try with_reducible rfl)
          simp only [List.set_cons_succ, List.set_cons_zero]
          refine wpAnyG_takeL (i := 36) (v := ?v36_31) hwft rfl rfl (by kernel_rfl) (by kernel_rfl) (by kernel_rfl) (by kernel_rfl) (fun _ _ _ h => h) (Or.inl ⟨by rfl, ?hy36_31⟩) ?rest36_31
          case hy36_31 => (intro w' hw'; have c0 := (show Gr WD w' from hw').cellv kSK_0; have c1 := (show Gr WD w' from hw').cellv kSK_1; have c2 := (show Gr WD w' from hw').cellv kSK_2; have c3 := (show Gr WD w' from hw').cellv kSK_3; go_simp; try with_reducible rfl)
          simp only [List.set_cons_succ, List.set_cons_zero]
          refine wpAnyG_takeL (i := 37) (v := ?v37_32) hwft rfl rfl (by kernel_rfl) (by kernel_rfl) (by kernel_rfl) (by kernel_rfl) (fun _ _ _ h => h) (Or.inl ⟨by rfl, ?hy37_32⟩) ?rest37_32
          case hy37_32 => (intro w' hw'; have c0 := (show Gr WD w' from hw').cellv kSZ_0; have c1 := (show Gr WD w' from hw').cellv kSZ_1; go_simp; try with_reducible rfl)
          simp only [List.set_cons_succ, List.set_cons_zero]
          refine wpAnyG_takeL (i := 39) (v := ?v39_33) hwft rfl rfl (by kernel_rfl) (by kernel_rfl) (by kernel_rfl) (by kernel_rfl) (fun _ _ _ h => h) (Or.inl ⟨by rfl, ?hy39_33⟩) ?rest39_33
          case hy39_33 => (intro w' hw'; have c0 := (show Gr WD w' from hw').cellv kSK_0; have c1 := (show Gr WD w' from hw').cellv kSK_1; have c2 := (show Gr WD w' from hw').cellv kSK_2; have c3 := (show Gr WD w' from hw').cellv kSK_3; go_simp; try with_reducible rfl)
          simp only [List.set_cons_succ, List.set_cons_zero]
          refine wpAnyG_takeL (i := 40) (v := ?v40_34) hwft rfl rfl (by kernel_rfl) (by kernel_rfl) (by kernel_rfl) (by kernel_rfl) (fun _ _ _ h => h) (Or.inl ⟨by rfl, ?hy40_34⟩) ?rest40_34
          case hy40_34 => (intro w' hw'; have c0 := (show Gr WD w' from hw').cellv kSZ_0; have c1 := (show Gr WD w' from hw').cellv kSZ_1; go_simp; try with_reducible rfl)
          simp only [List.set_cons_succ, List.set_cons_zero]
          refine wpAnyG_oneL (i := 38) rfl (by kernel_rfl) (fun K hK => ?_)
          go_simp
          refine (impl_MatchesRow_q (q := ⟨pid, pten, pcs, pos⟩) (r := ⟨rid, pvs⟩) HMP.out _ _ _ _ (HK.out.mono hwft) (RSlice.mono keeps_int hwft HZ.out)).mono ?_
          rintro e wgt ⟨rfl, gwgt⟩
          have hwgt : Gr WD wgt := hwft.trans gwgt
          go_simp
          refine hK.out _ _ (fun _ => hwgt) ?_
          clear hK K
          try simp only [Act.put]
          refine wpAnyG_oneL (i := 41) rfl (by kernel_rfl) (fun K hK => ?_)
          go_simp
          refine (spec_MatchesRow_q (q := ⟨pid, pten, pcs, pos⟩) (r := ⟨rid, pvs⟩) HMP.out _ _ _ _ (HK.out.mono hwgt) (RSlice.mono keeps_int hwgt HZ.out)).mono ?_
          rintro e wht ⟨rfl, gwht⟩
          have hwht : Gr WD wht := hwgt.trans gwht
          go_simp
          refine hK.out _ _ (fun _ => hwht) ?_
          clear hK K
          try simp only [Act.put]
          refine wpAnyG_takeL (i := 42) (v := ?v42_35) hwht rfl rfl (by kernel_rfl) (by kernel_rfl) (by kernel_rfl) (by kernel_rfl) (fun _ _ _ h => h) (Or.inl ⟨by rfl, ?hy42_35⟩) ?rest42_35
          case hy42_35 => (intro w' hw'; go_simp; try with_reducible rfl)
          simp only [List.set_cons_succ, List.set_cons_zero]
          refine wpAnyG_takeL (i := 43) (v := ?v43_36) hwht rfl rfl (by kernel_rfl) (by kernel_rfl) (by kernel_rfl) (by kernel_rfl) (fun _ _ _ h => h) (Or.inl ⟨by rfl, ?hy43_36⟩) ?rest43_36
          case hy43_36 => (intro w' hw'; go_simp; try with_reducible rfl)
          simp only [List.set_cons_succ, List.set_cons_zero]
          refine wpAnyG_takeL (i := 44) (v := ?v44_37) hwht rfl rfl (by kernel_rfl) (by kernel_rfl) (by kernel_rfl) (by kernel_rfl) (fun _ _ _ h => h) (Or.inl ⟨by rfl, ?hy44_37⟩) ?rest44_37
          case hy44_37 => (intro w' hw'; go_simp; try with_reducible rfl)
          simp only [List.set_cons_succ, List.set_cons_zero]
          refine wpAnyG_takeL (i := 45) (v := ?v45_38) hwht rfl rfl (by kernel_rfl) (by kernel_rfl) (by kernel_rfl) (by kernel_rfl) (fun _ _ _ h => h) (Or.inl ⟨by rfl, ?hy45_38⟩) ?rest45_38
          case hy45_38 => (intro w' hw'; go_simp; try with_reducible rfl)
          simp only [List.set_cons_succ, List.set_cons_zero]
          refine wpAnyG_takeL (i := 46) (v := ?v46_39) hwht rfl rfl (by kernel_rfl) (by kernel_rfl) (by kernel_rfl) (by kernel_rfl) (fun _ _ _ h => h) (Or.inl ⟨by rfl, ?hy46_39⟩) ?rest46_39
          case hy46_39 => (intro w' hw'; go_simp; try with_reducible rfl)
          simp only [List.set_cons_succ, List.set_cons_zero]
          refine wpAnyG_oneL (i := 47) rfl (by kernel_rfl) (fun K hK => ?_)
          go_simp
          refine (impl_SortRows _ AL _ (RSlice.mono keeps_row hwht HA.out) HSA.out.2).mono ?_
          rintro e wit ⟨j3, rfl, gwit, hj3⟩
          rw [HSA.out.1] at hj3
          obtain ⟨oa, on, oc, rfl⟩ := (rd_prows hj3).isSl
          have hwit : Gr WD wit := hwht.trans gwit
          go_simp
          refine hK.out _ _ (fun _ => hwit) ?_
          clear hK K
          try simp only [Act.put]
          refine wpAnyG_oneL (i := 48) rfl (by kernel_rfl) (fun K hK => ?_)
          go_simp
          refine (impl_EqualRows_self _ _ _ (RSlice.mono keeps_row hwit HA.out) (rd_prows hj3)).mono ?_
          rintro e wjt ⟨rfl, gwjt⟩
          have hwjt : Gr WD wjt := hwit.trans gwjt
          go_simp
          refine hK.out _ _ (fun _ => hwjt) ?_
          clear hK K
          try simp only [Act.put]
          refine wpAnyG_takeL (i := 49) (v := ?v49_40) hwjt rfl rfl (by kernel_rfl) (by kernel_rfl) (by kernel_rfl) (by kernel_rfl) (fun _ _ _ h => h) (Or.inl ⟨by rfl, ?hy49_40⟩) ?rest49_40
          case hy49_40 => (intro w' hw'; go_simp; try with_reducible rfl)
          simp only [List.set_cons_succ, List.set_cons_zero]
          refine wpAnyG_oneL (i := 50) rfl (by kernel_rfl) (fun K hK => ?_)
          go_simp
          refine hK.out _ _ (fun h => absurd rfl h) ?_
          clear hK K
          try simp only [Act.put]
          refine wpAnyG_done (by kernel_rfl) ?_ _
          go_wp2_with fail
          go_ret
          exact ⟨rfl, HG.out.trans hwjt⟩
        | false =>
          refine wpAnyG_takeL (i := 16) (v := ?v16_41) hwb rfl rfl (by kernel_rfl) (by kernel_rfl) (by kernel_rfl) (by kernel_rfl) (fun _ _ _ h => h) (Or.inl ⟨by rfl, ?hy16_41⟩) ?rest16_41
          case hy16_41 => (intro w' hw'; go_simp; try with_reducible rfl)
          simp only [List.set_cons_succ, List.set_cons_zero]
          refine wpAnyG_takeL (i := 17) (v := ?v17_42) hwb rfl rfl (by kernel_rfl) (by kernel_rfl) (by kernel_rfl) (by kernel_rfl) (fun _ _ _ h => h) (Or.inl ⟨by rfl, ?hy17_42⟩) ?rest17_42
          case hy17_42 => (intro w' hw'; go_simp; try with_reducible rfl)
          simp only [List.set_cons_succ, List.set_cons_zero]
          refine wpAnyG_takeL (i := 18) (v := ?v18_43) hwb rfl rfl (by kernel_rfl) (by kernel_rfl) (by kernel_rfl) (by kernel_rfl) (fun _ _ _ h => h) (Or.inl ⟨by rfl, ?hy18_43⟩) ?rest18_43
          case hy18_43 => (intro w' hw'; go_simp; try with_reducible rfl)
          simp only [List.set_cons_succ, List.set_cons_zero]
          refine wpAnyG_takeL (i := 19) (v := ?v19_44) hwb rfl rfl (by kernel_rfl) (by kernel_rfl) (by kernel_rfl) (by kernel_rfl) (fun _ _ _ h => h) (Or.inl ⟨by rfl, ?hy19_44⟩) ?rest19_44
          case hy19_44 => (intro w' hw'; go_simp; try with_reducible rfl)
          simp only [List.set_cons_succ, List.set_cons_zero]
          refine wpAnyG_takeL (i := 20) (v := undef) hwb rfl rfl (by kernel_rfl) (by kernel_rfl) (by kernel_rfl) (by kernel_rfl) (fun _ _ _ h => h) (Or.inr ⟨by rfl, rfl⟩) ?rest20_45
          simp only [List.set_cons_succ, List.set_cons_zero]
          refine wpAnyG_takeL (i := 21) (v := undef) hwb rfl rfl (by kernel_rfl) (by kernel_rfl) (by kernel_rfl) (by kernel_rfl) (fun _ _ _ h => h) (Or.inr ⟨by rfl, rfl⟩) ?rest21_46
          simp only [List.set_cons_succ, List.set_cons_zero]
          refine wpAnyG_takeL (i := 22) (v := undef) hwb rfl rfl (by kernel_rfl) (by kernel_rfl) (by kernel_rfl) (by kernel_rfl) (fun _ _ _ h => h) (Or.inr ⟨by rfl, rfl⟩) ?rest22_47
          simp only [List.set_cons_succ, List.set_cons_zero]
          refine wpAnyG_takeL (i := 23) (v := undef) hwb rfl rfl (by kernel_rfl) (by kernel_rfl) (by kernel_rfl) (by kernel_rfl) (fun _ _ _ h => h) (Or.inr ⟨by rfl, rfl⟩) ?rest23_48
          simp only [List.set_cons_succ, List.set_cons_zero]
          refine wpAnyG_takeL (i := 24) (v := ?v24_49) hwb rfl rfl (by kernel_rfl) (by kernel_rfl) (by kernel_rfl) (by kernel_rfl) (fun _ _ _ h => h) (Or.inl ⟨by rfl, ?hy24_49⟩) ?rest24_49
          case hy24_49 => (intro w' hw'; go_simp; try with_reducible rfl)
          simp only [List.set_cons_succ, List.set_cons_zero]
          refine wpAnyG_takeL (i := 25) (v := ?v25_50) hwb rfl rfl (by kernel_rfl) (by kernel_rfl) (by kernel_rfl) (by kernel_rfl) (fun _ _ _ h => h) (Or.inl ⟨by rfl, ?hy25_50⟩) ?rest25_50
          case hy25_50 => (intro w' hw'; go_simp; try with_reducible rfl)
          simp only [List.set_cons_succ, List.set_cons_zero]
          refine wpAnyG_takeL (i := 26) (v := ?v26_51) hwb rfl rfl (by kernel_rfl) (by kernel_rfl) (by kernel_rfl) (by kernel_rfl) (fun _ _ _ h => h) (Or.inl ⟨by rfl, ?hy26_51⟩) ?rest26_51
          case hy26_51 => (intro w' hw'; go_simp; try with_reducible rfl)
          simp only [List.set_cons_succ, List.set_cons_zero]
          refine wpAnyG_takeL (i := 27) (v := ?v27_52) hwb rfl rfl (by kernel_rfl) (by kernel_rfl) (by kernel_rfl) (by kernel_rfl) (fun _ _ _ h => h) (Or.inl ⟨by rfl, ?hy27_52⟩) ?rest27_52
          case hy27_52 => (intro w' hw'; have c0 := (show Gr WD w' from hw').cellv kSK_0; have c1 := (show Gr WD w' from hw').cellv kSK_1; have c2 := (show Gr WD w' from hw').cellv kSK_2; have c3 := (show Gr WD w' from hw').cellv kSK_3; go_simp; try with_reducible rfl)
          simp only [List.set_cons_succ, List.set_cons_zero]
          refine wpAnyG_takeL (i := 28) (v := ?v28_53) hwb rfl rfl (by kernel_rfl) (by kernel_rfl) (by kernel_rfl) (by kernel_rfl) (fun _ _ _ h => h) (Or.inl ⟨by rfl, ?hy28_53⟩) ?rest28_53
          case hy28_53 => (intro w' hw'; have c0 := (show Gr WD w' from hw').cellv kSZ_0; have c1 := (show Gr WD w' from hw').cellv kSZ_1; go_simp; try with_reducible rfl)
          simp only [List.set_cons_succ, List.set_cons_zero]
          refine wpAnyG_takeL (i := 30) (v := ?v30_54) hwb rfl rfl (by kernel_rfl) (by kernel_rfl) (by kernel_rfl) (by kernel_rfl) (fun _ _ _ h => h) (Or.inl ⟨by rfl, ?hy30_54⟩) ?rest30_54
          case hy30_54 => (intro w' hw'; have c0 := (show Gr WD w' from hw').cellv kSK_0; have c1 := (show Gr WD w' from hw').cellv kSK_1; have c2 := (show Gr WD w' from hw').cellv kSK_2; have c3 := (show Gr WD w' from hw').cellv kSK_3; go_simp; try with_reducible rfl)
          simp only [List.set_cons_succ, List.set_cons_zero]
          refine wpAnyG_takeL (i := 31) (v := ?v31_55) hwb rfl rfl (by kernel_rfl) (by kernel_rfl) (by kernel_rfl) (by kernel_rfl) (fun _ _ _ h => h) (Or.inl ⟨by rfl, ?hy31_55⟩) ?rest31_55
          case hy31_55 => (intro w' hw'; have c0 := (show Gr WD w' from hw').cellv kSZ_0; have c1 := (show Gr WD w' from hw').cellv kSZ_1; go_simp; try with_reducible rfl)
          simp only [List.set_cons_succ, List.set_cons_zero]
          refine wpAnyG_oneL (i := 29) rfl (by kernel_rfl) (fun K hK => ?_)
          go_simp
          refine (impl_ProjectRow ⟨pid, pten, pcs, pos⟩ _ _ ⟨rid, pvs⟩ _ _ (HK.out.mono hwb).1 (HK.out.mono hwb).2 (RSlice.mono keeps_int hwb HZ.out)).mono ?_
          rintro e wdf ⟨j1, rfl, gwdf, hj1⟩
          obtain ⟨ja, jn, jc, rfl⟩ := (rd_pints hj1).isSl
          have hwdf : Gr WD wdf := hwb.trans gwdf
          go_simp
          refine hK.out _ _ (fun _ => hwdf) ?_
          clear hK K
          try simp only [Act.put]
          refine wpAnyG_oneL (i := 32) rfl (by kernel_rfl) (fun K hK => ?_)
          go_simp
          refine (spec_ProjectRow ⟨pid, pten, pcs, pos⟩ _ _ ⟨rid, pvs⟩ _ _ (HK.out.mono hwdf).1 (HK.out.mono hwdf).2 (RSlice.mono keeps_int hwdf HZ.out)).mono ?_
          rintro e wef ⟨j2, rfl, hj2, gwef⟩
          obtain ⟨ka, kn, kc, rfl⟩ := hj2.isSl
          have hwef : Gr WD wef := hwdf.trans gwef
          go_simp
          refine hK.out _ _ (fun _ => hwef) ?_
          clear hK K
          try simp only [Act.put]
          refine wpAnyG_oneL (i := 33) rfl (by kernel_rfl) (fun K hK => ?_)
          go_simp
          refine (laws_sameInts_self _ _ _ (RSlice.mono keeps_int gwef (rd_pints hj1)) hj2).mono ?_
          rintro e wff ⟨rfl, gwff⟩
          have hwff : Gr WD wff := hwef.trans gwff
          go_simp
          refine hK.out _ _ (fun _ => hwff) ?_
          clear hK K
          try simp only [Act.put]
          refine wpAnyG_takeL (i := 34) (v := ?v34_56) hwff rfl rfl (by kernel_rfl) (by kernel_rfl) (by kernel_rfl) (by kernel_rfl) (fun _ _ _ h => h) (Or.inl ⟨by rfl, ?hy34_56⟩) ?rest34_56
          case hy34_56 => (intro w' hw'; go_simp; try with_reducible rfl)
          simp only [List.set_cons_succ, List.set_cons_zero]
          refine wpAnyG_takeL (i := 35) (v := ?v35_57) hwff rfl rfl (by kernel_rfl) (by kernel_rfl) (by kernel_rfl) (by kernel_rfl) (fun _ _ _ h => h) (Or.inl ⟨by rfl, ?hy35_57⟩) ?rest35_57
          case hy35_57 => (intro w' hw'; go_simp; try with_reducible rfl)
          simp only [List.set_cons_succ, List.set_cons_zero]
          refine wpAnyG_takeL (i := 36) (v := ?v36_58) hwff rfl rfl (by kernel_rfl) (by kernel_rfl) (by kernel_rfl) (by kernel_rfl) (fun _ _ _ h => h) (Or.inl ⟨by rfl, ?hy36_58⟩) ?rest36_58
          case hy36_58 => (intro w' hw'; have c0 := (show Gr WD w' from hw').cellv kSK_0; have c1 := (show Gr WD w' from hw').cellv kSK_1; have c2 := (show Gr WD w' from hw').cellv kSK_2; have c3 := (show Gr WD w' from hw').cellv kSK_3; go_simp; try with_reducible rfl)
          simp only [List.set_cons_succ, List.set_cons_zero]
          refine wpAnyG_takeL (i := 37) (v := ?v37_59) hwff rfl rfl (by kernel_rfl) (by kernel_rfl) (by kernel_rfl) (by kernel_rfl) (fun _ _ _ h => h) (Or.inl ⟨by rfl, ?hy37_59⟩) ?rest37_59
          case hy37_59 => (intro w' hw'; have c0 := (show Gr WD w' from hw').cellv kSZ_0; have c1 := (show Gr WD w' from hw').cellv kSZ_1; go_simp; try with_reducible rfl)
          simp only [List.set_cons_succ, List.set_cons_zero]
          refine wpAnyG_takeL (i := 39) (v := ?v39_60) hwff rfl rfl (by kernel_rfl) (by kernel_rfl) (by kernel_rfl) (by kernel_rfl) (fun _ _ _ h => h) (Or.inl ⟨by rfl, ?hy39_60⟩) ?rest39_60
          case hy39_60 => (intro w' hw'; have c0 := (show Gr WD w' from hw').cellv kSK_0; have c1 := (show Gr WD w' from hw').cellv kSK_1; have c2 := (show Gr WD w' from hw').cellv kSK_2; have c3 := (show Gr WD w' from hw').cellv kSK_3; go_simp; try with_reducible rfl)
          simp only [List.set_cons_succ, List.set_cons_zero]
          refine wpAnyG_takeL (i := 40) (v := ?v40_61) hwff rfl rfl (by kernel_rfl) (by kernel_rfl) (by kernel_rfl) (by kernel_rfl) (fun _ _ _ h => h) (Or.inl ⟨by rfl, ?hy40_61⟩) ?rest40_61
          case hy40_61 => (intro w' hw'; have c0 := (show Gr WD w' from hw').cellv kSZ_0; have c1 := (show Gr WD w' from hw').cellv kSZ_1; go_simp; try with_reducible rfl)
          simp only [List.set_cons_succ, List.set_cons_zero]
          refine wpAnyG_oneL (i := 38) rfl (by kernel_rfl) (fun K hK => ?_)
          go_simp
          refine (impl_MatchesRow_q (q := ⟨pid, pten, pcs, pos⟩) (r := ⟨rid, pvs⟩) HMP.out _ _ _ _ (HK.out.mono hwff) (RSlice.mono keeps_int hwff HZ.out)).mono ?_
          rintro e wgf ⟨rfl, gwgf⟩
          have hwgf : Gr WD wgf := hwff.trans gwgf
          go_simp
          refine hK.out _ _ (fun _ => hwgf) ?_
          clear hK K
          try simp only [Act.put]
          refine wpAnyG_oneL (i := 41) rfl (by kernel_rfl) (fun K hK => ?_)
          go_simp
          refine (spec_MatchesRow_q (q := ⟨pid, pten, pcs, pos⟩) (r := ⟨rid, pvs⟩) HMP.out _ _ _ _ (HK.out.mono hwgf) (RSlice.mono keeps_int hwgf HZ.out)).mono ?_
          rintro e whf ⟨rfl, gwhf⟩
          have hwhf : Gr WD whf := hwgf.trans gwhf
          go_simp
          refine hK.out _ _ (fun _ => hwhf) ?_
          clear hK K
          try simp only [Act.put]
          refine wpAnyG_takeL (i := 42) (v := ?v42_62) hwhf rfl rfl (by kernel_rfl) (by kernel_rfl) (by kernel_rfl) (by kernel_rfl) (fun _ _ _ h => h) (Or.inl ⟨by rfl, ?hy42_62⟩) ?rest42_62
          case hy42_62 => (intro w' hw'; go_simp; try with_reducible rfl)
          simp only [List.set_cons_succ, List.set_cons_zero]
          refine wpAnyG_takeL (i := 43) (v := ?v43_63) hwhf rfl rfl (by kernel_rfl) (by kernel_rfl) (by kernel_rfl) (by kernel_rfl) (fun _ _ _ h => h) (Or.inl ⟨by rfl, ?hy43_63⟩) ?rest43_63
          case hy43_63 => (intro w' hw'; go_simp; try with_reducible rfl)
          simp only [List.set_cons_succ, List.set_cons_zero]
          refine wpAnyG_takeL (i := 44) (v := ?v44_64) hwhf rfl rfl (by kernel_rfl) (by kernel_rfl) (by kernel_rfl) (by kernel_rfl) (fun _ _ _ h => h) (Or.inl ⟨by rfl, ?hy44_64⟩) ?rest44_64
          case hy44_64 => (intro w' hw'; go_simp; try with_reducible rfl)
          simp only [List.set_cons_succ, List.set_cons_zero]
          refine wpAnyG_takeL (i := 45) (v := ?v45_65) hwhf rfl rfl (by kernel_rfl) (by kernel_rfl) (by kernel_rfl) (by kernel_rfl) (fun _ _ _ h => h) (Or.inl ⟨by rfl, ?hy45_65⟩) ?rest45_65
          case hy45_65 => (intro w' hw'; go_simp; try with_reducible rfl)
          simp only [List.set_cons_succ, List.set_cons_zero]
          refine wpAnyG_takeL (i := 46) (v := ?v46_66) hwhf rfl rfl (by kernel_rfl) (by kernel_rfl) (by kernel_rfl) (by kernel_rfl) (fun _ _ _ h => h) (Or.inl ⟨by rfl, ?hy46_66⟩) ?rest46_66
          case hy46_66 => (intro w' hw'; go_simp; try with_reducible rfl)
          simp only [List.set_cons_succ, List.set_cons_zero]
          refine wpAnyG_oneL (i := 47) rfl (by kernel_rfl) (fun K hK => ?_)
          go_simp
          refine (impl_SortRows _ AL _ (RSlice.mono keeps_row hwhf HA.out) HSA.out.2).mono ?_
          rintro e wif ⟨j3, rfl, gwif, hj3⟩
          rw [HSA.out.1] at hj3
          obtain ⟨oa, on, oc, rfl⟩ := (rd_prows hj3).isSl
          have hwif : Gr WD wif := hwhf.trans gwif
          go_simp
          refine hK.out _ _ (fun _ => hwif) ?_
          clear hK K
          try simp only [Act.put]
          refine wpAnyG_oneL (i := 48) rfl (by kernel_rfl) (fun K hK => ?_)
          go_simp
          refine (impl_EqualRows_self _ _ _ (RSlice.mono keeps_row hwif HA.out) (rd_prows hj3)).mono ?_
          rintro e wjf ⟨rfl, gwjf⟩
          have hwjf : Gr WD wjf := hwif.trans gwjf
          go_simp
          refine hK.out _ _ (fun _ => hwjf) ?_
          clear hK K
          try simp only [Act.put]
          refine wpAnyG_takeL (i := 49) (v := ?v49_67) hwjf rfl rfl (by kernel_rfl) (by kernel_rfl) (by kernel_rfl) (by kernel_rfl) (fun _ _ _ h => h) (Or.inl ⟨by rfl, ?hy49_67⟩) ?rest49_67
          case hy49_67 => (intro w' hw'; go_simp; try with_reducible rfl)
          simp only [List.set_cons_succ, List.set_cons_zero]
          refine wpAnyG_oneL (i := 50) rfl (by kernel_rfl) (fun K hK => ?_)
          go_simp
          refine hK.out _ _ (fun h => absurd rfl h) ?_
          clear hK K
          try simp only [Act.put]
          refine wpAnyG_done (by kernel_rfl) ?_ _
          go_wp2_with fail
          go_ret
          exact ⟨rfl, HG.out.trans hwjf⟩
theorem law_FnQueries (w : World) (hT : Tens Tryz.prog w) (hS : ∃ p, w.var? Tryz.prog "strconv.ErrSyntax" = some #[.iface 148 p]) (hR : ∃ p, w.var? Tryz.prog "strconv.ErrRange" = some #[.iface 148 p]) (hSh : w.ShapedOpen Tryz.prog) (v : Value) (bs : List Int) (hv : RBytes w v bs) : Calls Tryz.prog 3 #[v] w fun e w' => e = .returned (.bool true) ∧ Gr w w' :=
  lawl_FnQueries w hT (by obtain ⟨p, h⟩ := hS; exact ⟨_, p, h⟩) (by obtain ⟨p, h⟩ := hR; exact ⟨_, p, h⟩) (Tryz.laysM146.s1_3 w hSh) v bs hv
end Go.Proofs.YtcdcpfcmhmhdjaaGreatDoor
