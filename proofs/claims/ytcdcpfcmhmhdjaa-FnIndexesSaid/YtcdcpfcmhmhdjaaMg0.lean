/- probe, l6Probe, ProbeSet: the plain law and the walks. -/
import Derived.Test.YtcdcpfcmhmhdjaaIsx
import Derived.Test.YtcdcpfcmhmhdjaaOrder
import Derived.Test.YtcdcpfcmhmhdjaaSetsRM
import Derived.Test.YtcdcpfcmhmhdjaaFind
namespace Go.Proofs.Ytcdcpfcmhmhdjaa
open Go.RowKit
def fnd (x : DIndex) (r : DRow) (f : Int) : List Int := findL (x.fields.getD f.toNat []) (r.vals.getD f.toNat 0)
def probeStep (x : DIndex) (r : DRow) (f : Int) (p : List Int × Int) : List Int × Int := if p.1.length = 0 then p else (meetL p.1 (fnd x r f), p.2 + 1 + min (p.1.length : Int) ((fnd x r f).length : Int))
def probeTo (x : DIndex) (r : DRow) (o : List Int) : Nat → List Int × Int
  | 0 => (allIds x.queries, 0)
  | k + 1 => probeStep x r (o.getD k 0) (probeTo x r o k)
def setTo (x : DIndex) (r : DRow) (o : List Int) (k : Nat) : List Int := (probeTo x r o k).1
def workTo (x : DIndex) (r : DRow) (o : List Int) (k : Nat) : Int := (probeTo x r o k).2
theorem setTo_zero (x : DIndex) (r : DRow) (o : List Int) : setTo x r o 0 = allIds x.queries := rfl
theorem workTo_zero (x : DIndex) (r : DRow) (o : List Int) : workTo x r o 0 = 0 := rfl
theorem meetL_len (xs ys : List Int) : (meetL xs ys).length ≤ 24 := by unfold meetL; split <;> simp [pickL_len]
theorem setTo_len {x : DIndex} (r : DRow) (o : List Int) (h : x.queries.length ≤ 24) : ∀ k, (setTo x r o k).length ≤ 24
  | 0 => by rw [setTo_zero]; unfold allIds; simpa using h
  | k + 1 => by
    have ih := setTo_len (x := x) r o h k
    unfold setTo at *
    unfold probeTo probeStep
    split
    · exact ih
    · exact meetL_len _ _
theorem workTo_le {x : DIndex} (r : DRow) (o : List Int) (h : x.queries.length ≤ 24) : ∀ k : Nat, 0 ≤ workTo x r o k ∧ workTo x r o k ≤ 25 * k
  | 0 => by rw [workTo_zero]; omega
  | k + 1 => by
    have ih := workTo_le (x := x) r o h k
    have hl := setTo_len (x := x) r o h k
    unfold workTo setTo at *
    unfold probeTo probeStep
    split
    · omega
    · simp only; omega
theorem step_go {x : DIndex} {r : DRow} {o : List Int} {k : Nat} (hk : k < o.length) (h : ¬ (setTo x r o k).length = 0) : setTo x r o (k + 1) = meetL (setTo x r o k) (fnd x r o[k]) ∧ workTo x r o (k + 1) = workTo x r o k + 1 + min ((setTo x r o k).length : Int) ((fnd x r o[k]).length : Int) := by
  unfold setTo workTo at *
  rw [probeTo, getD_lt hk]
  unfold probeStep
  rw [if_neg h]
  exact ⟨rfl, rfl⟩
theorem step_stay {x : DIndex} {r : DRow} {o : List Int} {k : Nat} (h : (setTo x r o k).length = 0) : probeTo x r o (k + 1) = probeTo x r o k := by
  unfold setTo at h
  rw [probeTo]; unfold probeStep; rw [if_pos h]
theorem step_rest {x : DIndex} {r : DRow} {o : List Int} {k : Nat} (h : (setTo x r o k).length = 0) : ∀ j, probeTo x r o (k + j) = probeTo x r o k
  | 0 => rfl
  | j + 1 => by
    have ih := step_rest h j
    have h2 : (setTo x r o (k + j)).length = 0 := by unfold setTo at *; rw [ih]; exact h
    rw [← Nat.add_assoc, step_stay h2, ih]
def probeOk (x : DIndex) (r : DRow) (o : List Int) : Bool := isIndexB x && (isRowB r && isOrderB o)
def probeL (x : DIndex) (r : DRow) (o : List Int) : List Int × Int := if probeOk x r o then probeTo x r o o.length else ([], 0)
theorem probeOk_1 {x : DIndex} {r : DRow} {o : List Int} (h : isIndexB x = false) : probeOk x r o = false := by unfold probeOk; rw [h]; rfl
theorem probeOk_2 {x : DIndex} {r : DRow} {o : List Int} (h : isRowB r = false) : probeOk x r o = false := by unfold probeOk; rw [h, Bool.false_and, Bool.and_false]
theorem probeOk_3 {x : DIndex} {r : DRow} {o : List Int} (h : isOrderB o = false) : probeOk x r o = false := by unfold probeOk; rw [h, Bool.and_false, Bool.and_false]
theorem probeOk_yes {x : DIndex} {r : DRow} {o : List Int} (h1 : isIndexB x = true) (h2 : isRowB r = true) (h3 : isOrderB o = true) : probeOk x r o = true := by unfold probeOk; rw [h1, h2, h3]; rfl
theorem probeL_no {x : DIndex} {r : DRow} {o : List Int} (h : probeOk x r o = false) : probeL x r o = ([], 0) := by unfold probeL; rw [h]; rfl
theorem probeL_yes {x : DIndex} {r : DRow} {o : List Int} (h : probeOk x r o = true) : (probeL x r o).1 = setTo x r o o.length ∧ (probeL x r o).2 = workTo x r o o.length := by unfold probeL setTo workTo; rw [if_pos h]; exact ⟨rfl, rfl⟩
theorem isIndexB_parts {x : DIndex} (h : isIndexB x = true) : x.queries.length ≤ 24 ∧ x.fields.length = 3 := by
  unfold isIndexB at h
  simp only [Bool.and_eq_true, decide_eq_true_eq] at h
  exact ⟨areQueriesB_len h.1, h.2.1⟩
theorem probeL_len (x : DIndex) (r : DRow) (o : List Int) : (probeL x r o).1.length ≤ 24 := by
  cases h : probeOk x r o with
  | false => rw [probeL_no h]; simp
  | true =>
    rw [(probeL_yes h).1]
    unfold probeOk at h
    rw [Bool.and_eq_true] at h
    exact setTo_len r o (isIndexB_parts h.1).1 _
theorem probeL_small (x : DIndex) (r : DRow) (o : List Int) : sumT cntI (probeL x r o).1 ≤ 72 := by
  have := cnt_IntS (probeL x r o).1; have := probeL_len x r o; omega
theorem fld_tot {x : DIndex} {F : Nat} (hF : F < x.fields.length) (hb : totIndex x ≤ 4294967296) : totL totSpan x.fields[F] ≤ 4294967296 := by
  have := sumT_mem (totL totSpan) x.fields F hF
  unfold totIndex at hb
  have e : totL (totL totSpan) x.fields = x.fields.length + sumT (totL totSpan) x.fields := rfl
  omega
theorem fnd_at {x : DIndex} {r : DRow} {f : Int} {F : Nat} (hf : f = (F : Int)) (h1 : F < x.fields.length) (h2 : F < r.vals.length) : fnd x r f = findL x.fields[F] r.vals[F] := by
  unfold fnd; rw [hf, Int.toNat_natCast, getD_lt h1, getD_lt h2]
set_option maxRecDepth 100000 in
set_option maxHeartbeats 2000000 in
theorem spec_l6Probe (x : DIndex) (u v : Value) (r : DRow) (t : Value) (s : Value) (o : List Int) (w : World) (hu : RQueries w u x.queries) (hv : RSpanss w v x.fields) (ht : RInts w t r.vals) (hs : RInts w s o) (h1 : isIndexB x = true) (h2 : isRowB r = true) (h3 : isOrderB o = true) (hb : totIndex x ≤ 4294967296) :
    Calls Try.prog 30 #[.agg #[u, v], .agg #[.int .i64 r.id, t], s] w fun e w' => ∃ q, e = .returned (.tuple #[q, .int .i64 (workTo x r o o.length)]) ∧ RInts w' q (setTo x r o o.length) ∧ Gr w w' := by
  obtain ⟨ua, un, uc, rfl⟩ := hu.isSl
  obtain ⟨fa, fcap, rfl, fl, fm, fx⟩ := hv
  obtain ⟨ra, rcap, rfl, rl, rm, rx⟩ := ht.open
  obtain ⟨oa, ocap, rfl, ol, om, ox⟩ := hs.open
  have HU := Lib.hid hu
  have hq24 := (isIndexB_parts h1).1
  have hf3 := (isIndexB_parts h1).2
  have hr3 := (isRowB_parts h2).2.2
  have ho := isOrderB_at h3
  have HQ := Lib.hid hq24
  have HWL := Lib.hid (workTo_le (x := x) r o hq24)
  have HSL := Lib.hid (setTo_len (x := x) r o hq24)
  have HO := Lib.hid ho
  have HF3 := Lib.hid hf3
  have HR3 := Lib.hid hr3
  clear hu ht hs h1 h2 h3 hq24 hf3 hr3 ho
  have g0 : Gr w ((w.alloc (.cells #[.slice ua un uc, .slice fa x.fields.length fcap] 27)).alloc (.cells #[.int .i64 r.id, .slice ra r.vals.length rcap] 30)) := ((Gr.refl w).alloc _).alloc _
  go_enter Try.func30, Try.ntmps30
  go_wp2_with fail
  refine (spec_l6All _ x.queries _ (RSlice.mono keeps_query g0 HU.out) HQ.out).mono ?_
  rintro e w1 ⟨q, rfl, g1, hq⟩
  obtain ⟨qa, qc, rfl⟩ := (rd_pints hq).form
  have gw1 := g0.trans g1
  have p0 : w1.cell? ⟨w.heap.size, 1, none⟩ = some (.slice fa x.fields.length fcap) := g1.cellv (by simp [go_sem])
  have p1 : w1.cell? ⟨w.heap.size + 1, 1, none⟩ = some (.slice ra r.vals.length rcap) := g1.cellv (by simp [go_sem])
  have HQ1 : Hid (RInts w1 (.slice qa (setTo x r o 0).length qc) (setTo x r o 0)) := Lib.hid (rd_pints hq)
  clear hq g1
  go_wp2
  go_loopw [8, 9, 10] (fun s n i wr => ∃ (k : Nat) (b : Option Addr) (c : Nat), k ≤ o.length ∧ i = .int .i64 k ∧ s = .slice b (setTo x r o k).length c ∧ n = .int .i64 (workTo x r o k) ∧ Hid (RInts wr s (setTo x r o k)) ∧ Gr w1 wr) (fun _ _ i _ => o.length - (intOf i).toNat)
  case atStart => exact ⟨0, _, _, Nat.zero_le _, rfl, rfl, rfl, HQ1, Gr.refl _⟩
  case round =>
    obtain ⟨k, bo, co, hk, rfl, rfl, rfl, hS, hgW⟩ := hrel
    have hgr := gw1.trans hgW
    have i0 : (0 : Int) ≤ (k : Int) := Int.natCast_nonneg _
    by_cases hlt : k < o.length
    · have i1 : (k : Int) < (o.length : Int) := by omega
      by_cases hz : (setTo x r o k).length = 0
      · have HE : Hid (probeTo x r o o.length = probeTo x r o k) := Lib.hid (by
          obtain ⟨j, hj⟩ : ∃ j, o.length = k + j := ⟨o.length - k, by omega⟩
          rw [hj]; exact step_rest hz j)
        have hz' : ((setTo x r o k).length : Int) ≤ 0 := by omega
        clear hz
        go_wp2_with fail
        go_ret2
        exact ⟨.slice bo (setTo x r o k).length co, by rw [show workTo x r o o.length = workTo x r o k from by unfold workTo; rw [HE.out]]; rfl, by rw [show setTo x r o o.length = setTo x r o k from by unfold setTo; rw [HE.out]]; exact hS.out, hgr⟩
      · have hz' : (0 : Int) < ((setTo x r o k).length : Int) := by omega
        have HG := Lib.hid (step_go hlt hz)
        clear hz
        obtain ⟨F, hF⟩ := Int.eq_ofNat_of_zero_le (HO.out.2 k hlt).1
        have hF3 : F < 3 := by have := (HO.out.2 k hlt).2; omega
        have hFf : F < x.fields.length := by have := HF3.out; omega
        have hFr : F < r.vals.length := by have := HR3.out; omega
        obtain ⟨ob, ooff, rfl, oc, _⟩ := ox k hlt
        obtain ⟨rb, roff, rfl, rc, _⟩ := rx F hFr
        obtain ⟨fb, foff, fcs, rfl, fhl, ⟨fu, rfl, fhu⟩, fc⟩ := fx F hFf
        obtain ⟨sa, sn, rfl⟩ := fhu.form
        rw [hF] at oc
        have c0 := hgr.cellv oc
        have c1 := hgr.cellv rc
        have c2 := hgr.cellv (fc 0 (by simp))
        simp only [Nat.add_zero, Nat.mul_one, List.getElem_cons_zero] at c2
        have d0 := hgW.cellv p0
        have d1 := hgW.cellv p1
        have r0 : RSpans wr (.slice sa x.fields[F].length sn) x.fields[F] := RSlice.mono keeps_span hgr fhu
        have j0 : (0 : Int) ≤ (F : Int) := Int.natCast_nonneg _
        have j1 : (F : Int) < (x.fields.length : Int) := by omega
        have j2 : (F : Int) < (r.vals.length : Int) := by omega
        have HFN := Lib.hid (fnd_at hF hFf hFr)
        have HT := Lib.hid (fld_tot hFf hb)
        have HFF := Lib.hid hF
        clear hF
        have hwl := HWL.out k
        have hwk : workTo x r o k ≤ 1000 := by have := HO.out.1; omega
        have hw0 := hwl.1
        clear fc fhl hwl
        go_wp2
        go_region_held3 (fun w' => w'.cell? ⟨w.heap.size, 1, none⟩ = some (.slice (some ⟨fb, foff, none⟩) x.fields.length fcap) ∧ w'.cell? ⟨w.heap.size + 1, 1, none⟩ = some (.slice (some ⟨rb, roff, none⟩) r.vals.length rcap) ∧ w'.cell? ⟨ob, ooff + k, none⟩ = some (.int .i64 (F : Int)) ∧ w'.cell? ⟨rb, roff + F, none⟩ = some (.int .i64 r.vals[F]) ∧ w'.cell? ⟨fb, foff + F, none⟩ = some (.slice sa x.fields[F].length sn) ∧ RSpans w' (.slice sa x.fields[F].length sn) x.fields[F] ∧ Gr wr w')
          (first | exact ⟨d0, d1, c0, c1, c2, r0, Gr.refl _⟩ | exact ⟨d0, d1, c0, c1, c2, r0, (Gr.refl _).drew⟩ | (go_split_ands; exact ⟨Gr.cellv g2 (by assumption), Gr.cellv g2 (by assumption), Gr.cellv g2 (by assumption), Gr.cellv g2 (by assumption), Gr.cellv g2 (by assumption), RSlice.mono keeps_span g2 (by assumption), Gr.trans (by assumption) g2⟩))
          ((go_at_call 54; go_split_ands; refine (spec_FindSpan _ x.fields[F] _ _ (by assumption) HT.out).mono ?_; rintro e w2 ⟨v2, rfl, hr2, g2⟩; obtain ⟨va, vc, rfl⟩ := hr2.form))
        all_goals
          rw [← HFN.out] at hr2
          have gr2 : Gr wr w2 := (Gr.refl wr).drew.trans g2
          have HR2 := Lib.hid hr2
          have HGR2 := Lib.hid gr2
          have HFL := Lib.hid (congrArg List.length HFN.out)
          clear hr2 gr2 g2 c0 c1 c2 d0 d1 r0
          rw [← HFL.out]
          have hs24 : ((setTo x r o k).length : Int) ≤ 24 := by have := HSL.out k; omega
          go_wp2_with fail
          all_goals
            with_reducible refine (spec_MeetSets _ (setTo x r o k) _ (fnd x r o[k]) _ (hS.out.mono HGR2.out) HR2.out).mono ?_
            rintro e w3 ⟨v3, rfl, hr3, g3⟩
            rw [← HG.out.1] at hr3
            obtain ⟨ma, mc, rfl⟩ := hr3.form
            have HR3' := Lib.hid hr3
            have HW3 := Lib.hid ((hgW.trans HGR2.out).trans g3)
            clear hr3
            go_wp2_with fail
            go_roundw
            case rel => exact ⟨k + 1, ma, mc, by omega, by go_num, rfl, congrArg (Value.int .i64) (by have := HG.out.2; omega), HR3', HW3.out⟩
            case measure => simp [intOf]; omega
    · obtain rfl : k = o.length := by omega
      go_wp2_with fail
      go_ret2
      exact ⟨_, rfl, hS.out, hgr⟩
end Go.Proofs.Ytcdcpfcmhmhdjaa

/- probe: the program's walk. -/
namespace Go.Proofs.Ytcdcpfcmhmhdjaa
open Go.RowKit
set_option maxRecDepth 100000 in
set_option maxHeartbeats 2000000 in
theorem impl_probe (x : DIndex) (u v : Value) (r : DRow) (t : Value) (s : Value) (o : List Int) (w : World) (hu : RQueries w u x.queries) (hv : RSpanss w v x.fields) (ht : RInts w t r.vals) (hs : RInts w s o) (h1 : isIndexB x = true) (h2 : isRowB r = true) (h3 : isOrderB o = true) (hb : totIndex x ≤ 4294967296) :
    Calls Try.prog 28 #[.agg #[u, v], .agg #[.int .i64 r.id, t], s] w fun e w' => ∃ q, e = .returned (.tuple #[q, .int .i64 (workTo x r o o.length)]) ∧ Gr w w' ∧ PInts (In w.heap.size w'.heap.size) w' q (setTo x r o o.length) := by
  obtain ⟨ua, uc, rfl, ul, um, hx⟩ := hu
  obtain ⟨fa, fcap, rfl, fl, fm, fx⟩ := hv
  obtain ⟨ra, rcap, rfl, rl, rm, rx⟩ := ht.open
  obtain ⟨oa, ocap, rfl, ol, om, ox⟩ := hs.open
  have hq24 := (isIndexB_parts h1).1
  have hf3 := (isIndexB_parts h1).2
  have hr3 := (isRowB_parts h2).2.2
  have ho := isOrderB_at h3
  have HQ := Lib.hid hq24
  have HWL := Lib.hid (workTo_le (x := x) r o hq24)
  have HSL := Lib.hid (setTo_len (x := x) r o hq24)
  have HO := Lib.hid ho
  have HF3 := Lib.hid hf3
  have HR3 := Lib.hid hr3
  clear ht hs h1 h2 h3 hq24 hf3 hr3 ho
  have g0 : Gr w (((w.alloc (.cells #[.slice ua x.queries.length uc, .slice fa x.fields.length fcap] 27)).alloc (.cells #[.int .i64 r.id, .slice ra r.vals.length rcap] 30)).alloc (.cells #[] 3)) := (((Gr.refl w).alloc _).alloc _).alloc _
  have ho0 : OInts (w.heap.size + 2) (((w.alloc (.cells #[.slice ua x.queries.length uc, .slice fa x.fields.length fcap] 27)).alloc (.cells #[.int .i64 r.id, .slice ra r.vals.length rcap] 30)).alloc (.cells #[] 3)) (.slice (some ⟨w.heap.size + 1 + 1, 0, none⟩) 0 0) [] := by
    have h := own_empty ((w.alloc (.cells #[.slice ua x.queries.length uc, .slice fa x.fields.length fcap] 27)).alloc (.cells #[.int .i64 r.id, .slice ra r.vals.length rcap] 30)) 3 1 (w.heap.size + 2) (by simp)
    have e : ((w.alloc (.cells #[.slice ua x.queries.length uc, .slice fa x.fields.length fcap] 27)).alloc (.cells #[.int .i64 r.id, .slice ra r.vals.length rcap] 30)).heap.size = w.heap.size + 1 + 1 := by simp
    rw [e] at h
    exact ⟨h, fun _ h => absurd h (by simp)⟩
  have HO0 := Lib.hid ho0
  clear ho0
  have p0' : (((w.alloc (.cells #[.slice ua x.queries.length uc, .slice fa x.fields.length fcap] 27)).alloc (.cells #[.int .i64 r.id, .slice ra r.vals.length rcap] 30)).alloc (.cells #[] 3)).cell? ⟨w.heap.size, 1, none⟩ = some (.slice fa x.fields.length fcap) := by simp [go_sem]
  have p1' : (((w.alloc (.cells #[.slice ua x.queries.length uc, .slice fa x.fields.length fcap] 27)).alloc (.cells #[.int .i64 r.id, .slice ra r.vals.length rcap] 30)).alloc (.cells #[] 3)).cell? ⟨w.heap.size + 1, 1, none⟩ = some (.slice ra r.vals.length rcap) := by simp [go_sem]
  have hz0 : w.heap.size + 2 ≤ (((w.alloc (.cells #[.slice ua x.queries.length uc, .slice fa x.fields.length fcap] 27)).alloc (.cells #[.int .i64 r.id, .slice ra r.vals.length rcap] 30)).alloc (.cells #[] 3)).heap.size := by simp
  have P0 := Lib.hid p0'
  have P1 := Lib.hid p1'
  have HZ0 := Lib.hid hz0
  clear p0' p1' hz0
  go_enter Try.func28, Try.ntmps28
  go_wp2
  go_loopw [8, 19] (fun out i wr => ∃ (k : Nat) (b : Option Addr) (c : Nat) (ns : List Int), k ≤ x.queries.length ∧ i = .int .i64 k ∧ out = .slice b ns.length c ∧ Hid (OInts (w.heap.size + 2) wr out ns) ∧ Hid (Below (w.heap.size + 2) (((w.alloc (.cells #[.slice ua x.queries.length uc, .slice fa x.fields.length fcap] 27)).alloc (.cells #[.int .i64 r.id, .slice ra r.vals.length rcap] 30)).alloc (.cells #[] 3)) wr) ∧ Hid (ns = idsTo x.queries k)) (fun _ i _ => x.queries.length - (intOf i).toNat)
  case atStart => exact ⟨0, _, _, [], Nat.zero_le _, rfl, rfl, HO0, Lib.hid (Below.refl _ _), Lib.hid rfl⟩
  case round =>
    obtain ⟨k, bo, co, ns, hk, rfl, rfl, ho, hB, hns⟩ := hrel
    have hgr : Gr w wr := g0.trans' (hB.out.mono (by omega) : Below w.heap.size _ wr)
    by_cases hlt : k < x.queries.length
    · obtain ⟨b, off, cs, rfl, hlen, ⟨u_conds, u_out, rfl, i_id, i_tenant, h_conds, h_out⟩, hc⟩ := hx k hlt
      have c0 := hgr.cellv (hc 0 (by simp))
      have c1 := hgr.cellv (hc 1 (by simp))
      have c2 := hgr.cellv (hc 2 (by simp))
      have c3 := hgr.cellv (hc 3 (by simp))
      simp only [Nat.add_zero, List.getElem_cons_zero, List.getElem_cons_succ] at c0 c1 c2 c3
      clear hc hlen
      obtain ⟨ca, cn, cc, rfl⟩ := RSlice.isSl h_conds
      obtain ⟨va, vn, vc, rfl⟩ := RSlice.isSl h_out
      have gq : Gr wr (wr.alloc (.cells #[.int .i64 x.queries[k].id, .int .i64 x.queries[k].tenant, .slice ca cn cc, .slice va vn vc] 44)) := (Gr.refl _).alloc _
      have hown := (ho.out.mono gq).1
      have hzr : w.heap.size + 2 ≤ (wr.alloc (.cells #[.int .i64 x.queries[k].id, .int .i64 x.queries[k].tenant, .slice ca cn cc, .slice va vn vc] 44)).heap.size := Nat.le_trans HZ0.out (Nat.le_trans hB.out.size gq.size)
      have HBq := Lib.hid (hB.out.trans (gq.mono (Nat.le_trans HZ0.out hB.out.size)))
      have HS := Lib.hid (idsTo_succ hlt)
      have hnl : Hid (ns.length + 1 ≤ 17592186044416) := Lib.hid (by have := idsTo_len x.queries k; rw [← hns.out] at this; have := HQ.out; omega)
      go_wp2_with (at_builtin; refine push_i rfl _ _ rfl ns _ rfl (by first | rfl | simp [go_sem]) rfl hown hnl.out hzr ?_; intro g2 cap2 w2 hown2 hb2)
      go_roundw
      case rel => exact ⟨k + 1, some ⟨g2, 0, none⟩, cap2, ns ++ [x.queries[k].id], by omega, by go_num, by simp, Lib.hid ⟨by simpa using hown2, fun x hx => (List.mem_append.1 hx).elim (ho.out.2 x) fun hx => by rw [List.mem_singleton.1 hx]; exact i_id⟩, Lib.hid (HBq.out.trans hb2), Lib.hid (by rw [HS.out, hns.out])⟩
      case measure => simp [intOf]; omega
    · obtain rfl : k = x.queries.length := by omega
      have HE : Hid (ns = setTo x r o 0) := Lib.hid (by rw [setTo_zero, ← idsTo_all, hns.out])
      obtain rfl := HE.out
      have p0 := (hB.out.cell (p := ⟨w.heap.size, 1, none⟩) (by simp)).trans P0.out
      have p1 := (hB.out.cell (p := ⟨w.heap.size + 1, 1, none⟩) (by simp)).trans P1.out
      have HP0 : Hid (PInts (In w.heap.size wr.heap.size) wr (.slice bo (setTo x r o 0).length co) (setTo x r o 0)) := Lib.hid (ho.out.priv.wide (by omega) (Nat.le_refl _))
      have HG1 := Lib.hid hgr
      clear hgr ho
      obtain ⟨W1, hW1⟩ : ∃ W1, W1 = wr := ⟨_, rfl⟩
      subst hW1
      go_wp2
      go_loopw [8, 11, 31] (fun s n i wr2 => ∃ (k : Nat) (b : Option Addr) (c : Nat), k ≤ o.length ∧ i = .int .i64 k ∧ s = .slice b (setTo x r o k).length c ∧ n = .int .i64 (workTo x r o k) ∧ Hid (PInts (In w.heap.size wr2.heap.size) wr2 s (setTo x r o k)) ∧ Gr W1 wr2) (fun _ _ i _ => o.length - (intOf i).toNat)
      case atStart => exact ⟨0, _, _, Nat.zero_le _, rfl, rfl, rfl, HP0, Gr.refl _⟩
      case round =>
        obtain ⟨k, b2, c2, hk2, rfl, rfl, rfl, hS, hgW⟩ := hrel
        have hgr := HG1.out.trans hgW
        by_cases hlt2 : k < o.length
        · by_cases hz : (setTo x r o k).length = 0
          · have HE2 : Hid (probeTo x r o o.length = probeTo x r o k) := Lib.hid (by
              obtain ⟨j, hj⟩ : ∃ j, o.length = k + j := ⟨o.length - k, by omega⟩
              rw [hj]; exact step_rest hz j)
            have hz' : (((setTo x r o k).length : Int) == 0) = true := by rw [beq_iff_eq]; omega
            obtain ⟨ob, ooff, rfl, oc, _⟩ := ox k hlt2
            have e0 := hgr.cellv oc
            clear hz
            go_wp2_with fail
            go_ret2
            exact ⟨.slice b2 (setTo x r o k).length c2, by rw [show workTo x r o o.length = workTo x r o k from by unfold workTo; rw [HE2.out]]; rfl, hgr, by rw [show setTo x r o o.length = setTo x r o k from by unfold setTo; rw [HE2.out]]; exact hS.out⟩
          · have hz' : (((setTo x r o k).length : Int) == 0) = false := by rw [beq_eq_false_iff_ne]; omega
            have HG := Lib.hid (step_go hlt2 hz)
            clear hz
            obtain ⟨F, hF⟩ := Int.eq_ofNat_of_zero_le (HO.out.2 k hlt2).1
            have hF3 : F < 3 := by have := (HO.out.2 k hlt2).2; omega
            have hFf : F < x.fields.length := by have := HF3.out; omega
            have hFr : F < r.vals.length := by have := HR3.out; omega
            obtain ⟨ob, ooff, rfl, oc, _⟩ := ox k hlt2
            obtain ⟨rb, roff, rfl, rc, _⟩ := rx F hFr
            obtain ⟨fb, foff, fcs, rfl, fhl, ⟨fu, rfl, fhu⟩, fc⟩ := fx F hFf
            obtain ⟨sa, sn, rfl⟩ := fhu.form
            rw [hF] at oc
            have c0 := hgr.cellv oc
            have c1 := hgr.cellv rc
            have c3 := hgr.cellv (fc 0 (by simp))
            simp only [Nat.add_zero, Nat.mul_one, List.getElem_cons_zero] at c3
            have d0 := hgW.cellv p0
            have d1 := hgW.cellv p1
            have r0 : RSpans wr (.slice sa x.fields[F].length sn) x.fields[F] := RSlice.mono keeps_span hgr fhu
            have j0 : (0 : Int) ≤ (F : Int) := Int.natCast_nonneg _
            have j1 : (F : Int) < (x.fields.length : Int) := by omega
            have j2 : (F : Int) < (r.vals.length : Int) := by omega
            have HFN := Lib.hid (fnd_at hF hFf hFr)
            have HT := Lib.hid (fld_tot hFf hb)
            have HFF := Lib.hid hF
            clear hF
            have hwl := HWL.out k
            have hwk : workTo x r o k ≤ 1000 := by have := HO.out.1; omega
            have hw0 := hwl.1
            clear fc fhl hwl
            go_wp2
            go_region_held3 (fun w' => w'.cell? ⟨w.heap.size, 1, none⟩ = some (.slice (some ⟨fb, foff, none⟩) x.fields.length fcap) ∧ w'.cell? ⟨w.heap.size + 1, 1, none⟩ = some (.slice (some ⟨rb, roff, none⟩) r.vals.length rcap) ∧ w'.cell? ⟨rb, roff + F, none⟩ = some (.int .i64 r.vals[F]) ∧ w'.cell? ⟨fb, foff + F, none⟩ = some (.slice sa x.fields[F].length sn) ∧ RSpans w' (.slice sa x.fields[F].length sn) x.fields[F] ∧ Gr wr w')
              (first | exact ⟨d0, d1, c1, c3, r0, Gr.refl _⟩ | exact ⟨d0, d1, c1, c3, r0, (Gr.refl _).drew⟩ | (go_split_ands; exact ⟨Gr.cellv g2 (by assumption), Gr.cellv g2 (by assumption), Gr.cellv g2 (by assumption), Gr.cellv g2 (by assumption), RSlice.mono keeps_span g2 (by assumption), Gr.trans (by assumption) g2⟩))
              ((go_at_call 50; go_split_ands; refine (impl_FindSpan _ x.fields[F] _ _ (by assumption) HT.out).mono ?_; rintro e w2 ⟨v2, rfl, g2, hr2⟩; obtain ⟨va, vc, rfl⟩ := (rd_pints hr2).form))
            all_goals
              have hr2' := rd_pints hr2
              clear hr2
              rw [← HFN.out] at hr2'
              have gr2 : Gr wr w2 := (Gr.refl wr).drew.trans g2
              have HR2 := Lib.hid hr2'
              have HGR2 := Lib.hid gr2
              have HFL := Lib.hid (congrArg List.length HFN.out)
              clear hr2' gr2 g2 c0 c1 c3 d0 d1 r0
              rw [← HFL.out]
              have hs24 : ((setTo x r o k).length : Int) ≤ 24 := by have := HSL.out k; omega
              go_wp2_with fail
              all_goals
                with_reducible refine (impl_MeetSets _ (setTo x r o k) _ (fnd x r o[k]) _ ((rd_pints hS.out).mono HGR2.out) HR2.out).mono ?_
                rintro e w3 ⟨v3, rfl, g3, hr3⟩
                rw [← HG.out.1] at hr3
                obtain ⟨ma, mc, rfl⟩ := (rd_pints hr3).form
                have HW3 := Lib.hid ((hgW.trans HGR2.out).trans g3)
                have HR3' := Lib.hid (hr3.wide (lo' := w.heap.size) (hi' := w3.heap.size) (by have := hgr.size; have := HGR2.out.size; omega) (Nat.le_refl _))
                clear hr3
                go_wp2_with fail
                go_roundw
                case rel => exact ⟨k + 1, ma, mc, by omega, by go_num, rfl, congrArg (Value.int .i64) (by have := HG.out.2; omega), HR3', HW3.out⟩
                case measure => simp [intOf]; omega
        · obtain rfl : k = o.length := by omega
          go_wp2_with fail
          go_ret2
          exact ⟨_, rfl, hgr, hS.out⟩
end Go.Proofs.Ytcdcpfcmhmhdjaa

/- ProbeSet: the walks. Written by gen_probe3.py. -/
namespace Go.Proofs.Ytcdcpfcmhmhdjaa
open Go.RowKit
set_option maxRecDepth 100000 in
set_option maxHeartbeats 1000000 in
theorem spec_ProbeSet (x : DIndex) (u v : Value) (r : DRow) (t : Value) (s : Value) (o : List Int) (w : World) (hu : RQueries w u x.queries) (hv : RSpanss w v x.fields) (ht : RInts w t r.vals) (hs : RInts w s o) (hb : totIndex x ≤ 4294967296) :
    Calls Try.prog 7 #[.agg #[u, v], .agg #[.int .i64 r.id, t], s] w fun e w' => ∃ q, e = .returned (.tuple #[q, .int .i64 (probeL x r o).2]) ∧ RInts w' q (probeL x r o).1 ∧ Gr w w' := by
  obtain ⟨ua, un, uc, rfl⟩ := hu.isSl
  obtain ⟨fa, fn, fc, rfl⟩ := hv.isSl
  obtain ⟨ta, tn, tc, rfl⟩ := ht.isSl
  obtain ⟨sa, sn, sc, rfl⟩ := hs.isSl
  have HU := Lib.hid hu
  have HV := Lib.hid hv
  have HT := Lib.hid ht
  have HS := Lib.hid hs
  clear hu hv ht hs
  have g0 : Gr w ((w.alloc (.cells #[.slice ua un uc, .slice fa fn fc] 27)).alloc (.cells #[.int .i64 r.id, .slice ta tn tc] 30)) := ((Gr.refl w).alloc _).alloc _
  cases h1 : isIndexB x with
  | false =>
    have HE := Lib.hid (probeL_no (probeOk_1 (r := r) (o := o) h1))
    have H1 := Lib.hid h1
    clear h1
    go_enter Try.func7, Try.ntmps7
    go_wp2_with fail
    refine (calls_b (spec_IsIndex x _ _ _ (RSlice.mono keeps_query g0 HU.out) (RSlice.mono (keeps_of keeps_span) g0 HV.out)) H1.out).mono ?_
    rintro e w1 ⟨rfl, g1⟩
    have gw1 := g0.trans g1
    go_wp2_with fail
    go_ret2
    exact ⟨.slice (some ⟨w1.heap.size, 0, none⟩) 0 0, by rw [HE.out]; rfl, by rw [HE.out]; exact rd_pints (OSl.made (F := fun _ => True) _ trivial), gw1.alloc _⟩
  | true =>
    cases h2 : isRowB r with
    | false =>
      have HE := Lib.hid (probeL_no (probeOk_2 (x := x) (o := o) h2))
      have H1 := Lib.hid h1
      have H2 := Lib.hid h2
      clear h1 h2
      go_enter Try.func7, Try.ntmps7
      go_wp2_with fail
      refine (calls_b (spec_IsIndex x _ _ _ (RSlice.mono keeps_query g0 HU.out) (RSlice.mono (keeps_of keeps_span) g0 HV.out)) H1.out).mono ?_
      rintro e w1 ⟨rfl, g1⟩
      have gw1 := g0.trans g1
      have p0 : w1.cell? ⟨w.heap.size, 0, none⟩ = some (.slice ua un uc) := g1.cellv (by simp [go_sem])
      have p1 : w1.cell? ⟨w.heap.size, 1, none⟩ = some (.slice fa fn fc) := g1.cellv (by simp [go_sem])
      have k0 : w1.cell? ⟨w.heap.size + 1, 0, none⟩ = some (.int .i64 r.id) := g1.cellv (by simp [go_sem])
      have k1 : w1.cell? ⟨w.heap.size + 1, 1, none⟩ = some (.slice ta tn tc) := g1.cellv (by simp [go_sem])
      go_wp2_with fail
      refine (calls_b (spec_IsRow r _ _ (HT.out.mono gw1)) H2.out).mono ?_
      rintro e w2 ⟨rfl, g2⟩
      have gw2 := gw1.trans g2
      go_wp2_with fail
      go_ret2
      exact ⟨.slice (some ⟨w2.heap.size, 0, none⟩) 0 0, by rw [HE.out]; rfl, by rw [HE.out]; exact rd_pints (OSl.made (F := fun _ => True) _ trivial), gw2.alloc _⟩
    | true =>
      cases h3 : isOrderB o with
      | false =>
        have HE := Lib.hid (probeL_no (probeOk_3 (x := x) (r := r) h3))
        have H1 := Lib.hid h1
        have H2 := Lib.hid h2
        have H3 := Lib.hid h3
        clear h1 h2 h3
        go_enter Try.func7, Try.ntmps7
        go_wp2_with fail
        refine (calls_b (spec_IsIndex x _ _ _ (RSlice.mono keeps_query g0 HU.out) (RSlice.mono (keeps_of keeps_span) g0 HV.out)) H1.out).mono ?_
        rintro e w1 ⟨rfl, g1⟩
        have gw1 := g0.trans g1
        have p0 : w1.cell? ⟨w.heap.size, 0, none⟩ = some (.slice ua un uc) := g1.cellv (by simp [go_sem])
        have p1 : w1.cell? ⟨w.heap.size, 1, none⟩ = some (.slice fa fn fc) := g1.cellv (by simp [go_sem])
        have k0 : w1.cell? ⟨w.heap.size + 1, 0, none⟩ = some (.int .i64 r.id) := g1.cellv (by simp [go_sem])
        have k1 : w1.cell? ⟨w.heap.size + 1, 1, none⟩ = some (.slice ta tn tc) := g1.cellv (by simp [go_sem])
        go_wp2_with fail
        refine (calls_b (spec_IsRow r _ _ (HT.out.mono gw1)) H2.out).mono ?_
        rintro e w2 ⟨rfl, g2⟩
        have gw2 := gw1.trans g2
        replace p0 := g2.cellv p0
        replace p1 := g2.cellv p1
        replace k0 := g2.cellv k0
        replace k1 := g2.cellv k1
        go_wp2_with fail
        refine (calls_b (spec_l6Order _ o _ (HS.out.mono gw2)) H3.out).mono ?_
        rintro e w3 ⟨rfl, g3⟩
        have gw3 := gw2.trans g3
        go_wp2_with fail
        go_ret2
        exact ⟨.slice (some ⟨w3.heap.size, 0, none⟩) 0 0, by rw [HE.out]; rfl, by rw [HE.out]; exact rd_pints (OSl.made (F := fun _ => True) _ trivial), gw3.alloc _⟩
      | true =>
        have HE := Lib.hid (probeL_yes (probeOk_yes h1 h2 h3))
        have H1 := Lib.hid h1
        have H2 := Lib.hid h2
        have H3 := Lib.hid h3
        clear h1 h2 h3
        go_enter Try.func7, Try.ntmps7
        go_wp2_with fail
        refine (calls_b (spec_IsIndex x _ _ _ (RSlice.mono keeps_query g0 HU.out) (RSlice.mono (keeps_of keeps_span) g0 HV.out)) H1.out).mono ?_
        rintro e w1 ⟨rfl, g1⟩
        have gw1 := g0.trans g1
        have p0 : w1.cell? ⟨w.heap.size, 0, none⟩ = some (.slice ua un uc) := g1.cellv (by simp [go_sem])
        have p1 : w1.cell? ⟨w.heap.size, 1, none⟩ = some (.slice fa fn fc) := g1.cellv (by simp [go_sem])
        have k0 : w1.cell? ⟨w.heap.size + 1, 0, none⟩ = some (.int .i64 r.id) := g1.cellv (by simp [go_sem])
        have k1 : w1.cell? ⟨w.heap.size + 1, 1, none⟩ = some (.slice ta tn tc) := g1.cellv (by simp [go_sem])
        go_wp2_with fail
        refine (calls_b (spec_IsRow r _ _ (HT.out.mono gw1)) H2.out).mono ?_
        rintro e w2 ⟨rfl, g2⟩
        have gw2 := gw1.trans g2
        replace p0 := g2.cellv p0
        replace p1 := g2.cellv p1
        replace k0 := g2.cellv k0
        replace k1 := g2.cellv k1
        go_wp2_with fail
        refine (calls_b (spec_l6Order _ o _ (HS.out.mono gw2)) H3.out).mono ?_
        rintro e w3 ⟨rfl, g3⟩
        have gw3 := gw2.trans g3
        replace p0 := g3.cellv p0
        replace p1 := g3.cellv p1
        replace k0 := g3.cellv k0
        replace k1 := g3.cellv k1
        go_wp2_with fail
        refine (spec_l6Probe x _ _ r _ _ o _ (RSlice.mono keeps_query gw3 HU.out) (RSlice.mono (keeps_of keeps_span) gw3 HV.out) (HT.out.mono gw3) (HS.out.mono gw3) H1.out H2.out H3.out hb).mono ?_
        rintro e w4 ⟨q, rfl, hq, g4⟩
        obtain ⟨qa, qn, rfl⟩ := hq.form
        have HQ := Lib.hid hq
        clear hq
        go_wp2_with fail
        go_ret2
        exact ⟨.slice qa (setTo x r o o.length).length qn, by rw [HE.out.2]; rfl, by rw [HE.out.1]; exact HQ.out, gw3.trans g4⟩
set_option maxRecDepth 100000 in
set_option maxHeartbeats 1000000 in
theorem impl_ProbeSet (x : DIndex) (u v : Value) (r : DRow) (t : Value) (s : Value) (o : List Int) (w : World) (hu : RQueries w u x.queries) (hv : RSpanss w v x.fields) (ht : RInts w t r.vals) (hs : RInts w s o) (hb : totIndex x ≤ 4294967296) :
    Calls Try.prog 6 #[.agg #[u, v], .agg #[.int .i64 r.id, t], s] w fun e w' => ∃ q, e = .returned (.tuple #[q, .int .i64 (probeL x r o).2]) ∧ Gr w w' ∧ PInts (In w.heap.size w'.heap.size) w' q (probeL x r o).1 := by
  obtain ⟨ua, un, uc, rfl⟩ := hu.isSl
  obtain ⟨fa, fn, fc, rfl⟩ := hv.isSl
  obtain ⟨ta, tn, tc, rfl⟩ := ht.isSl
  obtain ⟨sa, sn, sc, rfl⟩ := hs.isSl
  have HU := Lib.hid hu
  have HV := Lib.hid hv
  have HT := Lib.hid ht
  have HS := Lib.hid hs
  clear hu hv ht hs
  have g0 : Gr w ((w.alloc (.cells #[.slice ua un uc, .slice fa fn fc] 27)).alloc (.cells #[.int .i64 r.id, .slice ta tn tc] 30)) := ((Gr.refl w).alloc _).alloc _
  cases h1 : isIndexB x with
  | false =>
    have HE := Lib.hid (probeL_no (probeOk_1 (r := r) (o := o) h1))
    have H1 := Lib.hid h1
    clear h1
    go_enter Try.func6, Try.ntmps6
    go_wp2_with fail
    refine (calls_b (impl_IsIndex x _ _ _ (RSlice.mono keeps_query g0 HU.out) (RSlice.mono (keeps_of keeps_span) g0 HV.out)) H1.out).mono ?_
    rintro e w1 ⟨rfl, g1⟩
    have gw1 := g0.trans g1
    go_wp2_with fail
    go_ret2
    exact ⟨.slice none 0 0, by rw [HE.out]; rfl, gw1, by rw [HE.out]; exact OSl.nil _⟩
  | true =>
    cases h2 : isRowB r with
    | false =>
      have HE := Lib.hid (probeL_no (probeOk_2 (x := x) (o := o) h2))
      have H1 := Lib.hid h1
      have H2 := Lib.hid h2
      clear h1 h2
      go_enter Try.func6, Try.ntmps6
      go_wp2_with fail
      refine (calls_b (impl_IsIndex x _ _ _ (RSlice.mono keeps_query g0 HU.out) (RSlice.mono (keeps_of keeps_span) g0 HV.out)) H1.out).mono ?_
      rintro e w1 ⟨rfl, g1⟩
      have gw1 := g0.trans g1
      have p0 : w1.cell? ⟨w.heap.size, 0, none⟩ = some (.slice ua un uc) := g1.cellv (by simp [go_sem])
      have p1 : w1.cell? ⟨w.heap.size, 1, none⟩ = some (.slice fa fn fc) := g1.cellv (by simp [go_sem])
      have k0 : w1.cell? ⟨w.heap.size + 1, 0, none⟩ = some (.int .i64 r.id) := g1.cellv (by simp [go_sem])
      have k1 : w1.cell? ⟨w.heap.size + 1, 1, none⟩ = some (.slice ta tn tc) := g1.cellv (by simp [go_sem])
      go_wp2_with fail
      refine (calls_b (impl_IsRow r _ _ (HT.out.mono gw1)) H2.out).mono ?_
      rintro e w2 ⟨rfl, g2⟩
      have gw2 := gw1.trans g2
      go_wp2_with fail
      go_ret2
      exact ⟨.slice none 0 0, by rw [HE.out]; rfl, gw2, by rw [HE.out]; exact OSl.nil _⟩
    | true =>
      cases h3 : isOrderB o with
      | false =>
        have HE := Lib.hid (probeL_no (probeOk_3 (x := x) (r := r) h3))
        have H1 := Lib.hid h1
        have H2 := Lib.hid h2
        have H3 := Lib.hid h3
        clear h1 h2 h3
        go_enter Try.func6, Try.ntmps6
        go_wp2_with fail
        refine (calls_b (impl_IsIndex x _ _ _ (RSlice.mono keeps_query g0 HU.out) (RSlice.mono (keeps_of keeps_span) g0 HV.out)) H1.out).mono ?_
        rintro e w1 ⟨rfl, g1⟩
        have gw1 := g0.trans g1
        have p0 : w1.cell? ⟨w.heap.size, 0, none⟩ = some (.slice ua un uc) := g1.cellv (by simp [go_sem])
        have p1 : w1.cell? ⟨w.heap.size, 1, none⟩ = some (.slice fa fn fc) := g1.cellv (by simp [go_sem])
        have k0 : w1.cell? ⟨w.heap.size + 1, 0, none⟩ = some (.int .i64 r.id) := g1.cellv (by simp [go_sem])
        have k1 : w1.cell? ⟨w.heap.size + 1, 1, none⟩ = some (.slice ta tn tc) := g1.cellv (by simp [go_sem])
        go_wp2_with fail
        refine (calls_b (impl_IsRow r _ _ (HT.out.mono gw1)) H2.out).mono ?_
        rintro e w2 ⟨rfl, g2⟩
        have gw2 := gw1.trans g2
        replace p0 := g2.cellv p0
        replace p1 := g2.cellv p1
        replace k0 := g2.cellv k0
        replace k1 := g2.cellv k1
        go_wp2_with fail
        refine (calls_b (impl_isOrder _ o _ (HS.out.mono gw2)) H3.out).mono ?_
        rintro e w3 ⟨rfl, g3⟩
        have gw3 := gw2.trans g3
        go_wp2_with fail
        go_ret2
        exact ⟨.slice none 0 0, by rw [HE.out]; rfl, gw3, by rw [HE.out]; exact OSl.nil _⟩
      | true =>
        have HE := Lib.hid (probeL_yes (probeOk_yes h1 h2 h3))
        have H1 := Lib.hid h1
        have H2 := Lib.hid h2
        have H3 := Lib.hid h3
        clear h1 h2 h3
        go_enter Try.func6, Try.ntmps6
        go_wp2_with fail
        refine (calls_b (impl_IsIndex x _ _ _ (RSlice.mono keeps_query g0 HU.out) (RSlice.mono (keeps_of keeps_span) g0 HV.out)) H1.out).mono ?_
        rintro e w1 ⟨rfl, g1⟩
        have gw1 := g0.trans g1
        have p0 : w1.cell? ⟨w.heap.size, 0, none⟩ = some (.slice ua un uc) := g1.cellv (by simp [go_sem])
        have p1 : w1.cell? ⟨w.heap.size, 1, none⟩ = some (.slice fa fn fc) := g1.cellv (by simp [go_sem])
        have k0 : w1.cell? ⟨w.heap.size + 1, 0, none⟩ = some (.int .i64 r.id) := g1.cellv (by simp [go_sem])
        have k1 : w1.cell? ⟨w.heap.size + 1, 1, none⟩ = some (.slice ta tn tc) := g1.cellv (by simp [go_sem])
        go_wp2_with fail
        refine (calls_b (impl_IsRow r _ _ (HT.out.mono gw1)) H2.out).mono ?_
        rintro e w2 ⟨rfl, g2⟩
        have gw2 := gw1.trans g2
        replace p0 := g2.cellv p0
        replace p1 := g2.cellv p1
        replace k0 := g2.cellv k0
        replace k1 := g2.cellv k1
        go_wp2_with fail
        refine (calls_b (impl_isOrder _ o _ (HS.out.mono gw2)) H3.out).mono ?_
        rintro e w3 ⟨rfl, g3⟩
        have gw3 := gw2.trans g3
        replace p0 := g3.cellv p0
        replace p1 := g3.cellv p1
        replace k0 := g3.cellv k0
        replace k1 := g3.cellv k1
        go_wp2_with fail
        refine (impl_probe x _ _ r _ _ o _ (RSlice.mono keeps_query gw3 HU.out) (RSlice.mono (keeps_of keeps_span) gw3 HV.out) (HT.out.mono gw3) (HS.out.mono gw3) H1.out H2.out H3.out hb).mono ?_
        rintro e w4 ⟨q, rfl, g4, hq⟩
        obtain ⟨qa, qn, rfl⟩ := (rd_pints hq).form
        have HQ := Lib.hid (hq.wide (lo' := w.heap.size) (hi' := w4.heap.size) gw3.size (Nat.le_refl _))
        clear hq
        go_wp2_with fail
        go_ret2
        exact ⟨.slice qa (setTo x r o o.length).length qn, by rw [HE.out.2]; rfl, gw3.trans g4, by rw [HE.out.1]; exact HQ.out⟩
end Go.Proofs.Ytcdcpfcmhmhdjaa
