/- probe, l6Probe, ProbeSet: the plain law and the walks. -/
import Derived.Test.YtnnapjaggahjgaaIsx
import Derived.Test.YtnnapjaggahjgaaOrder
import Derived.Test.YtnnapjaggahjgaaSetsRM
import Derived.Test.YtnnapjaggahjgaaFind
namespace Go.Proofs.Ytnnapjaggahjgaa
open Go.RowKit
def fnd (x : DIndex) (r : DRow) (f : Int) : List Int := findL (x.fields.getD f.toNat []) (r.vals.getD f.toNat 0)
def probeStep (x : DIndex) (r : DRow) (f : Int) (p : List Int × Int) : List Int × Int := if p.1.length = 0 then p else (meetL p.1 (fnd x r f), p.2 + 1 + min (p.1.length : Int) ((fnd x r f).length : Int))
def probeTo (x : DIndex) (r : DRow) (o : List Int) : Nat → List Int × Int
  | 0 => (allIds x.queries, 0)
  | k + 1 => probeStep x r (o.getD k 0) (probeTo x r o k)
def setTo (x : DIndex) (r : DRow) (o : List Int) (k : Nat) : List Int := (probeTo x r o k).1
def workTo (x : DIndex) (r : DRow) (o : List Int) (k : Nat) : Int := (probeTo x r o k).2
theorem setTo_zero (x : DIndex) (r : DRow) (o : List Int) : setTo x r o 0 = allIds x.queries := rfl
theorem workTo_zero (x : DIndex) (r : DRow) (o : List Int) : workTo x r o 0 = 0 := rfl
theorem meetL_len (xs ys : List Int) : (meetL xs ys).length ≤ 24 := by unfold meetL; split <;> simp [pickL_len]
theorem setTo_len {x : DIndex} (r : DRow) (o : List Int) (h : x.queries.length ≤ 24) : ∀ k, (setTo x r o k).length ≤ 24
  | 0 => by rw [setTo_zero]; unfold allIds; simpa using h
  | k + 1 => by
    have ih := setTo_len (x := x) r o h k
    unfold setTo at *
    unfold probeTo probeStep
    split
    · exact ih
    · exact meetL_len _ _
theorem workTo_le {x : DIndex} (r : DRow) (o : List Int) (h : x.queries.length ≤ 24) : ∀ k : Nat, 0 ≤ workTo x r o k ∧ workTo x r o k ≤ 25 * k
  | 0 => by rw [workTo_zero]; omega
  | k + 1 => by
    have ih := workTo_le (x := x) r o h k
    have hl := setTo_len (x := x) r o h k
    unfold workTo setTo at *
    unfold probeTo probeStep
    split
    · omega
    · simp only; omega
theorem step_go {x : DIndex} {r : DRow} {o : List Int} {k : Nat} (hk : k < o.length) (h : ¬ (setTo x r o k).length = 0) : setTo x r o (k + 1) = meetL (setTo x r o k) (fnd x r o[k]) ∧ workTo x r o (k + 1) = workTo x r o k + 1 + min ((setTo x r o k).length : Int) ((fnd x r o[k]).length : Int) := by
  unfold setTo workTo at *
  rw [probeTo, getD_lt hk]
  unfold probeStep
  rw [if_neg h]
  exact ⟨rfl, rfl⟩
theorem step_stay {x : DIndex} {r : DRow} {o : List Int} {k : Nat} (h : (setTo x r o k).length = 0) : probeTo x r o (k + 1) = probeTo x r o k := by
  unfold setTo at h
  rw [probeTo]; unfold probeStep; rw [if_pos h]
theorem step_rest {x : DIndex} {r : DRow} {o : List Int} {k : Nat} (h : (setTo x r o k).length = 0) : ∀ j, probeTo x r o (k + j) = probeTo x r o k
  | 0 => rfl
  | j + 1 => by
    have ih := step_rest h j
    have h2 : (setTo x r o (k + j)).length = 0 := by unfold setTo at *; rw [ih]; exact h
    rw [← Nat.add_assoc, step_stay h2, ih]
def probeOk (x : DIndex) (r : DRow) (o : List Int) : Bool := isIndexB x && (isRowB r && isOrderB o)
def probeL (x : DIndex) (r : DRow) (o : List Int) : List Int × Int := if probeOk x r o then probeTo x r o o.length else ([], 0)
theorem probeOk_1 {x : DIndex} {r : DRow} {o : List Int} (h : isIndexB x = false) : probeOk x r o = false := by unfold probeOk; rw [h]; rfl
theorem probeOk_2 {x : DIndex} {r : DRow} {o : List Int} (h : isRowB r = false) : probeOk x r o = false := by unfold probeOk; rw [h, Bool.false_and, Bool.and_false]
theorem probeOk_3 {x : DIndex} {r : DRow} {o : List Int} (h : isOrderB o = false) : probeOk x r o = false := by unfold probeOk; rw [h, Bool.and_false, Bool.and_false]
theorem probeOk_yes {x : DIndex} {r : DRow} {o : List Int} (h1 : isIndexB x = true) (h2 : isRowB r = true) (h3 : isOrderB o = true) : probeOk x r o = true := by unfold probeOk; rw [h1, h2, h3]; rfl
theorem probeL_no {x : DIndex} {r : DRow} {o : List Int} (h : probeOk x r o = false) : probeL x r o = ([], 0) := by unfold probeL; rw [h]; rfl
theorem probeL_yes {x : DIndex} {r : DRow} {o : List Int} (h : probeOk x r o = true) : (probeL x r o).1 = setTo x r o o.length ∧ (probeL x r o).2 = workTo x r o o.length := by unfold probeL setTo workTo; rw [if_pos h]; exact ⟨rfl, rfl⟩
theorem isIndexB_parts {x : DIndex} (h : isIndexB x = true) : x.queries.length ≤ 24 ∧ x.fields.length = 3 := by
  unfold isIndexB at h
  simp only [Bool.and_eq_true, decide_eq_true_eq] at h
  exact ⟨areQueriesB_len h.1, h.2.1⟩
theorem probeL_len (x : DIndex) (r : DRow) (o : List Int) : (probeL x r o).1.length ≤ 24 := by
  cases h : probeOk x r o with
  | false => rw [probeL_no h]; simp
  | true =>
    rw [(probeL_yes h).1]
    unfold probeOk at h
    rw [Bool.and_eq_true] at h
    exact setTo_len r o (isIndexB_parts h.1).1 _
theorem probeL_small (x : DIndex) (r : DRow) (o : List Int) : sumT cntI (probeL x r o).1 ≤ 72 := by
  have := cnt_IntS (probeL x r o).1; have := probeL_len x r o; omega
theorem fld_tot {x : DIndex} {F : Nat} (hF : F < x.fields.length) (hb : totIndex x ≤ 4294967296) : totL totSpan x.fields[F] ≤ 4294967296 := by
  have := sumT_mem (totL totSpan) x.fields F hF
  unfold totIndex at hb
  have e : totL (totL totSpan) x.fields = x.fields.length + sumT (totL totSpan) x.fields := rfl
  omega
theorem fnd_at {x : DIndex} {r : DRow} {f : Int} {F : Nat} (hf : f = (F : Int)) (h1 : F < x.fields.length) (h2 : F < r.vals.length) : fnd x r f = findL x.fields[F] r.vals[F] := by
  unfold fnd; rw [hf, Int.toNat_natCast, getD_lt h1, getD_lt h2]
set_option maxRecDepth 100000 in
set_option maxHeartbeats 2000000 in
theorem spec_l6Probe (x : DIndex) (u v : Value) (r : DRow) (t : Value) (s : Value) (o : List Int) (w : World) (hu : RQueries w u x.queries) (hv : RSpanss w v x.fields) (ht : RInts w t r.vals) (hs : RInts w s o) (h1 : isIndexB x = true) (h2 : isRowB r = true) (h3 : isOrderB o = true) (hb : totIndex x ≤ 4294967296) :
    Calls Try.prog 118 #[.agg #[u, v], .agg #[.int .i64 r.id, t], s] w fun e w' => ∃ q, e = .returned (.tuple #[q, .int .i64 (workTo x r o o.length)]) ∧ RInts w' q (setTo x r o o.length) ∧ Gr w w' := by
  obtain ⟨ua, un, uc, rfl⟩ := hu.isSl
  obtain ⟨fa, fcap, rfl, fl, fm, fx⟩ := hv
  obtain ⟨ra, rcap, rfl, rl, rm, rx⟩ := ht.open
  obtain ⟨oa, ocap, rfl, ol, om, ox⟩ := hs.open
  have HU := Lib.hid hu
  have hq24 := (isIndexB_parts h1).1
  have hf3 := (isIndexB_parts h1).2
  have hr3 := (isRowB_parts h2).2.2
  have ho := isOrderB_at h3
  have HQ := Lib.hid hq24
  have HWL := Lib.hid (workTo_le (x := x) r o hq24)
  have HSL := Lib.hid (setTo_len (x := x) r o hq24)
  have HO := Lib.hid ho
  have HF3 := Lib.hid hf3
  have HR3 := Lib.hid hr3
  clear hu ht hs h1 h2 h3 hq24 hf3 hr3 ho
  have g0 : Gr w ((w.alloc (.cells #[.slice ua un uc, .slice fa x.fields.length fcap] 87)).alloc (.cells #[.int .i64 r.id, .slice ra r.vals.length rcap] 46)) := ((Gr.refl w).alloc _).alloc _
  go_enter Try.func118, Try.ntmps118
  go_wp2_with fail
  refine (spec_l6All _ x.queries _ (RSlice.mono keeps_query g0 HU.out) HQ.out).mono ?_
  rintro e w1 ⟨q, rfl, g1, hq⟩
  obtain ⟨qa, qc, rfl⟩ := (rd_pints hq).form
  have gw1 := g0.trans g1
  have p0 : w1.cell? ⟨w.heap.size, 1, none⟩ = some (.slice fa x.fields.length fcap) := g1.cellv (by simp [go_sem])
  have p1 : w1.cell? ⟨w.heap.size + 1, 1, none⟩ = some (.slice ra r.vals.length rcap) := g1.cellv (by simp [go_sem])
  have HQ1 : Hid (RInts w1 (.slice qa (setTo x r o 0).length qc) (setTo x r o 0)) := Lib.hid (rd_pints hq)
  clear hq g1
  go_wp2
  go_loopw [8, 9, 10] (fun s n i wr => ∃ (k : Nat) (b : Option Addr) (c : Nat), k ≤ o.length ∧ i = .int .i64 k ∧ s = .slice b (setTo x r o k).length c ∧ n = .int .i64 (workTo x r o k) ∧ Hid (RInts wr s (setTo x r o k)) ∧ Gr w1 wr) (fun _ _ i _ => o.length - (intOf i).toNat)
  case atStart => exact ⟨0, _, _, Nat.zero_le _, rfl, rfl, rfl, HQ1, Gr.refl _⟩
  case round =>
    obtain ⟨k, bo, co, hk, rfl, rfl, rfl, hS, hgW⟩ := hrel
    have hgr := gw1.trans hgW
    have i0 : (0 : Int) ≤ (k : Int) := Int.natCast_nonneg _
    by_cases hlt : k < o.length
    · have i1 : (k : Int) < (o.length : Int) := by omega
      by_cases hz : (setTo x r o k).length = 0
      · have HE : Hid (probeTo x r o o.length = probeTo x r o k) := Lib.hid (by
          obtain ⟨j, hj⟩ : ∃ j, o.length = k + j := ⟨o.length - k, by omega⟩
          rw [hj]; exact step_rest hz j)
        have hz' : ((setTo x r o k).length : Int) ≤ 0 := by omega
        clear hz
        go_wp2_with fail
        go_ret2
        exact ⟨.slice bo (setTo x r o k).length co, by rw [show workTo x r o o.length = workTo x r o k from by unfold workTo; rw [HE.out]]; rfl, by rw [show setTo x r o o.length = setTo x r o k from by unfold setTo; rw [HE.out]]; exact hS.out, hgr⟩
      · have hz' : (0 : Int) < ((setTo x r o k).length : Int) := by omega
        have HG := Lib.hid (step_go hlt hz)
        clear hz
        obtain ⟨F, hF⟩ := Int.eq_ofNat_of_zero_le (HO.out.2 k hlt).1
        have hF3 : F < 3 := by have := (HO.out.2 k hlt).2; omega
        have hFf : F < x.fields.length := by have := HF3.out; omega
        have hFr : F < r.vals.length := by have := HR3.out; omega
        obtain ⟨ob, ooff, rfl, oc, _⟩ := ox k hlt
        obtain ⟨rb, roff, rfl, rc, _⟩ := rx F hFr
        obtain ⟨fb, foff, fcs, rfl, fhl, ⟨fu, rfl, fhu⟩, fc⟩ := fx F hFf
        obtain ⟨sa, sn, rfl⟩ := fhu.form
        rw [hF] at oc
        have c0 := hgr.cellv oc
        have c1 := hgr.cellv rc
        have c2 := hgr.cellv (fc 0 (by simp))
        simp only [Nat.add_zero, Nat.mul_one, List.getElem_cons_zero] at c2
        have d0 := hgW.cellv p0
        have d1 := hgW.cellv p1
        have r0 : RSpans wr (.slice sa x.fields[F].length sn) x.fields[F] := RSlice.mono keeps_span hgr fhu
        have j0 : (0 : Int) ≤ (F : Int) := Int.natCast_nonneg _
        have j1 : (F : Int) < (x.fields.length : Int) := by omega
        have j2 : (F : Int) < (r.vals.length : Int) := by omega
        have HFN := Lib.hid (fnd_at hF hFf hFr)
        have HT := Lib.hid (fld_tot hFf hb)
        have HFF := Lib.hid hF
        clear hF
        have hwl := HWL.out k
        have hwk : workTo x r o k ≤ 1000 := by have := HO.out.1; omega
        have hw0 := hwl.1
        clear fc fhl hwl
        go_wp2
        go_region_held3 (fun w' => w'.cell? ⟨w.heap.size, 1, none⟩ = some (.slice (some ⟨fb, foff, none⟩) x.fields.length fcap) ∧ w'.cell? ⟨w.heap.size + 1, 1, none⟩ = some (.slice (some ⟨rb, roff, none⟩) r.vals.length rcap) ∧ w'.cell? ⟨ob, ooff + k, none⟩ = some (.int .i64 (F : Int)) ∧ w'.cell? ⟨rb, roff + F, none⟩ = some (.int .i64 r.vals[F]) ∧ w'.cell? ⟨fb, foff + F, none⟩ = some (.slice sa x.fields[F].length sn) ∧ RSpans w' (.slice sa x.fields[F].length sn) x.fields[F] ∧ Gr wr w')
          (first | exact ⟨d0, d1, c0, c1, c2, r0, Gr.refl _⟩ | exact ⟨d0, d1, c0, c1, c2, r0, (Gr.refl _).drew⟩ | (go_split_ands; exact ⟨Gr.cellv g2 (by assumption), Gr.cellv g2 (by assumption), Gr.cellv g2 (by assumption), Gr.cellv g2 (by assumption), Gr.cellv g2 (by assumption), RSlice.mono keeps_span g2 (by assumption), Gr.trans (by assumption) g2⟩))
          ((go_at_call 143; go_split_ands; refine (spec_FindSpan _ x.fields[F] _ _ (by assumption) HT.out).mono ?_; rintro e w2 ⟨v2, rfl, hr2, g2⟩; obtain ⟨va, vc, rfl⟩ := hr2.form))
        all_goals
          rw [← HFN.out] at hr2
          have gr2 : Gr wr w2 := (Gr.refl wr).drew.trans g2
          have HR2 := Lib.hid hr2
          have HGR2 := Lib.hid gr2
          have HFL := Lib.hid (congrArg List.length HFN.out)
          clear hr2 gr2 g2 c0 c1 c2 d0 d1 r0
          rw [← HFL.out]
          have hs24 : ((setTo x r o k).length : Int) ≤ 24 := by have := HSL.out k; omega
          go_wp2_with fail
          all_goals
            with_reducible refine (spec_MeetSets _ (setTo x r o k) _ (fnd x r o[k]) _ (hS.out.mono HGR2.out) HR2.out).mono ?_
            rintro e w3 ⟨v3, rfl, hr3, g3⟩
            rw [← HG.out.1] at hr3
            obtain ⟨ma, mc, rfl⟩ := hr3.form
            have HR3' := Lib.hid hr3
            have HW3 := Lib.hid ((hgW.trans HGR2.out).trans g3)
            clear hr3
            go_wp2_with fail
            go_roundw
            case rel => exact ⟨k + 1, ma, mc, by omega, by go_num, rfl, congrArg (Value.int .i64) (by have := HG.out.2; omega), HR3', HW3.out⟩
            case measure => simp [intOf]; omega
    · obtain rfl : k = o.length := by omega
      go_wp2_with fail
      go_ret2
      exact ⟨_, rfl, hS.out, hgr⟩
end Go.Proofs.Ytnnapjaggahjgaa
