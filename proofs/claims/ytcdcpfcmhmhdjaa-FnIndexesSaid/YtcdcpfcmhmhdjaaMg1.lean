/- WorkOf: the plain law and the program's walk. -/
import Derived.Test.YtcdcpfcmhmhdjaaMg0
import Derived.Test.YtcdcpfcmhmhdjaaStabiP
import Derived.Test.YtcdcpfcmhmhdjaaFind
namespace Go.Proofs.Ytcdcpfcmhmhdjaa
open Go.RowKit
def rowWork (x : DIndex) (o : List Int) (r : DRow) : Int := if isRowB r then workTo x r o o.length else 0
def workSum (x : DIndex) (rows : List DRow) (o : List Int) : Nat → Int
  | 0 => 0
  | k + 1 => workSum x rows o k + rowWork x o (rows.getD k ⟨0, []⟩)
def workOk (x : DIndex) (o : List Int) : Bool := isIndexB x && isOrderB o
def workL (x : DIndex) (rows : List DRow) (o : List Int) : Int := if workOk x o then workSum x rows o rows.length else 0
theorem workL_no {x : DIndex} {rows : List DRow} {o : List Int} (h : workOk x o = false) : workL x rows o = 0 := by unfold workL; rw [h]; rfl
theorem workL_yes {x : DIndex} {rows : List DRow} {o : List Int} (h : workOk x o = true) : workL x rows o = workSum x rows o rows.length := by unfold workL; rw [if_pos h]
theorem workOk_1 {x : DIndex} {o : List Int} (h : isIndexB x = false) : workOk x o = false := by unfold workOk; rw [h]; rfl
theorem workOk_2 {x : DIndex} {o : List Int} (h : isOrderB o = false) : workOk x o = false := by unfold workOk; rw [h, Bool.and_false]
theorem workOk_yes {x : DIndex} {o : List Int} (h1 : isIndexB x = true) (h2 : isOrderB o = true) : workOk x o = true := by unfold workOk; rw [h1, h2]; rfl
theorem workSum_yes {x : DIndex} {rows : List DRow} {o : List Int} {k : Nat} (h : k < rows.length) (hr : isRowB rows[k] = true) : workSum x rows o (k + 1) = workSum x rows o k + workTo x rows[k] o o.length := by rw [workSum, getD_lt h]; unfold rowWork; rw [if_pos hr]
theorem workSum_no {x : DIndex} {rows : List DRow} {o : List Int} {k : Nat} (h : k < rows.length) (hr : isRowB rows[k] = false) : workSum x rows o (k + 1) = workSum x rows o k := by rw [workSum, getD_lt h]; unfold rowWork; rw [hr]; simp
theorem workSum_le {x : DIndex} (rows : List DRow) (o : List Int) (h : x.queries.length ≤ 24) (ho : o.length = 3) : ∀ k : Nat, 0 ≤ workSum x rows o k ∧ workSum x rows o k ≤ 75 * k
  | 0 => by unfold workSum; omega
  | k + 1 => by
    have ih := workSum_le (x := x) rows o h ho k
    have hw := workTo_le (x := x) (rows.getD k ⟨0, []⟩) o h o.length
    unfold workSum rowWork
    split <;> omega
set_option maxRecDepth 100000 in
set_option maxHeartbeats 1000000 in
theorem impl_WorkOf (x : DIndex) (u v : Value) (t : Value) (rows : List DRow) (s : Value) (o : List Int) (w : World) (hu : RQueries w u x.queries) (hv : RSpanss w v x.fields) (ht : RRows w t rows) (hs : RInts w s o) (hb : totIndex x ≤ 4294967296) (hb2 : totL totRow rows ≤ 4294967296) :
    Calls Try.prog 20 #[.agg #[u, v], t, s] w fun e w' => e = .returned (.int .i64 (workL x rows o)) ∧ Gr w w' := by
  obtain ⟨ua, un, uc, rfl⟩ := hu.isSl
  obtain ⟨fa, fn, fc, rfl⟩ := hv.isSl
  obtain ⟨ta, tc, rfl, tl, tm, hx⟩ := ht
  obtain ⟨sa, sn, sc, rfl⟩ := hs.isSl
  have HU := Lib.hid hu
  have HV := Lib.hid hv
  have HS := Lib.hid hs
  clear hu hv hs
  have g0 : Gr w (w.alloc (.cells #[.slice ua un uc, .slice fa fn fc] 27)) := (Gr.refl w).alloc _
  cases h1 : isIndexB x with
  | false =>
    have HE := Lib.hid (workL_no (rows := rows) (workOk_1 (o := o) h1))
    have H1 := Lib.hid h1
    clear h1
    go_enter Try.func20, Try.ntmps20
    go_wp2_with fail
    refine (calls_b (impl_IsIndex x _ _ _ (RSlice.mono keeps_query g0 HU.out) (RSlice.mono (keeps_of keeps_span) g0 HV.out)) H1.out).mono ?_
    rintro e w1 ⟨rfl, g1⟩
    go_wp2_with fail
    go_ret
    exact ⟨ret_int HE.out.symm, g0.trans g1⟩
  | true =>
    cases h3 : isOrderB o with
    | false =>
      have HE := Lib.hid (workL_no (rows := rows) (workOk_2 (x := x) h3))
      have H1 := Lib.hid h1
      have H3 := Lib.hid h3
      clear h1 h3
      go_enter Try.func20, Try.ntmps20
      go_wp2_with fail
      refine (calls_b (impl_IsIndex x _ _ _ (RSlice.mono keeps_query g0 HU.out) (RSlice.mono (keeps_of keeps_span) g0 HV.out)) H1.out).mono ?_
      rintro e w1 ⟨rfl, g1⟩
      have gw1 := g0.trans g1
      go_wp2_with fail
      refine (calls_b (impl_isOrder _ o _ (HS.out.mono gw1)) H3.out).mono ?_
      rintro e w2 ⟨rfl, g2⟩
      go_wp2_with fail
      go_ret
      exact ⟨ret_int HE.out.symm, gw1.trans g2⟩
    | true =>
      have HE := Lib.hid (workL_yes (rows := rows) (workOk_yes h1 h3))
      have HW := Lib.hid (workSum_le (x := x) rows o (isIndexB_parts h1).1 (isOrderB_at h3).1)
      have HWT := Lib.hid (fun r => workTo_le (x := x) r o (isIndexB_parts h1).1 o.length)
      have HO3 := Lib.hid (isOrderB_at h3).1
      have H1 := Lib.hid h1
      have H3 := Lib.hid h3
      clear h1 h3
      go_enter Try.func20, Try.ntmps20
      go_wp2_with fail
      refine (calls_b (impl_IsIndex x _ _ _ (RSlice.mono keeps_query g0 HU.out) (RSlice.mono (keeps_of keeps_span) g0 HV.out)) H1.out).mono ?_
      rintro e w1 ⟨rfl, g1⟩
      have gw1 := g0.trans g1
      have p0 : w1.cell? ⟨w.heap.size, 0, none⟩ = some (.slice ua un uc) := g1.cellv (by simp [go_sem])
      have p1 : w1.cell? ⟨w.heap.size, 1, none⟩ = some (.slice fa fn fc) := g1.cellv (by simp [go_sem])
      go_wp2_with fail
      refine (calls_b (impl_isOrder _ o _ (HS.out.mono gw1)) H3.out).mono ?_
      rintro e w2 ⟨rfl, g2⟩
      have gw2 := gw1.trans g2
      replace p0 := g2.cellv p0
      replace p1 := g2.cellv p1
      clear g1 g2
      go_wp2
      go_loopw [7, 23] (fun n i wr => ∃ k : Nat, k ≤ rows.length ∧ i = .int .i64 k ∧ n = .int .i64 (workSum x rows o k) ∧ Gr w2 wr) (fun _ i _ => rows.length - (intOf i).toNat)
      case atStart => exact ⟨0, Nat.zero_le _, rfl, rfl, Gr.refl _⟩
      case round =>
        obtain ⟨k, hk, rfl, rfl, hgW⟩ := hrel
        have hgr := gw2.trans hgW
        by_cases hlt : k < rows.length
        · obtain ⟨b, off, cs, rfl, hlen, ⟨u_vals, rfl, i_id, h_vals⟩, hc⟩ := hx k hlt
          have c0 := hgr.cellv (hc 0 (by simp))
          have c1 := hgr.cellv (hc 1 (by simp))
          simp only [Nat.add_zero, List.getElem_cons_zero, List.getElem_cons_succ] at c0 c1
          clear hc hlen
          obtain ⟨va, vn, vc, rfl⟩ := RSlice.isSl h_vals
          have gq : Gr wr (wr.alloc (.cells #[.int .i64 rows[k].id, .slice va vn vc] 30)) := (Gr.refl _).alloc _
          have hgq := hgr.trans gq
          have e0 := (hgW.trans gq).cellv p0
          have e1 := (hgW.trans gq).cellv p1
          have hn0 : 0 ≤ workSum x rows o k := (HW.out k).1
          have hn1 : workSum x rows o k ≤ 400000000000 := by have := (HW.out k).2; unfold totL at hb2; omega
          cases hr : isRowB rows[k] with
          | false =>
            have HS2 := Lib.hid (workSum_no (x := x) (o := o) hlt hr)
            have HR := Lib.hid hr
            clear hr
            go_wp2_with fail
            refine (calls_b (impl_IsRow rows[k] _ _ (RSlice.mono keeps_int hgq h_vals)) HR.out).mono ?_
            rintro e w3 ⟨rfl, g3⟩
            have hgW3 := (hgW.trans gq).trans g3
            go_wp2_with fail
            go_roundw
            case rel => exact ⟨k + 1, by omega, by go_num, by rw [HS2.out], hgW3⟩
            case measure => simp [intOf]; omega
          | true =>
            have HS2 := Lib.hid (workSum_yes (x := x) (o := o) hlt hr)
            have hw0 := (HWT.out rows[k]).1
            have hw1 : workTo x rows[k] o o.length ≤ 75 := by have := (HWT.out rows[k]).2; have := HO3.out; omega
            have HR := Lib.hid hr
            clear hr
            go_wp2_with fail
            refine (calls_b (impl_IsRow rows[k] _ _ (RSlice.mono keeps_int hgq h_vals)) HR.out).mono ?_
            rintro e w3 ⟨rfl, g3⟩
            have hgW3 := (hgW.trans gq).trans g3
            have gw3 := gw2.trans hgW3
            have f0 := g3.cellv e0
            have f1 := g3.cellv e1
            have k0 : w3.cell? ⟨wr.heap.size, 0, none⟩ = some (.int .i64 rows[k].id) := g3.cellv (by simp [go_sem])
            have k1 : w3.cell? ⟨wr.heap.size, 1, none⟩ = some (.slice va vn vc) := g3.cellv (by simp [go_sem])
            go_wp2_with fail
            refine (impl_probe x _ _ rows[k] _ _ o _ (RSlice.mono keeps_query gw3 HU.out) (RSlice.mono (keeps_of keeps_span) gw3 HV.out) (RSlice.mono keeps_int gw3 h_vals) (HS.out.mono gw3) H1.out HR.out H3.out hb).mono ?_
            rintro e w4 ⟨q, rfl, g4, hq⟩
            obtain ⟨qa, qn, rfl⟩ := (rd_pints hq).form
            have hgW4 := hgW3.trans g4
            clear hq
            go_wp2_with fail
            go_roundw
            case rel => exact ⟨k + 1, by omega, by go_num, by rw [HS2.out], hgW4⟩
            case measure => simp [intOf]; omega
        · obtain rfl : k = rows.length := by omega
          go_wp2_with fail
          go_ret
          exact ⟨ret_int HE.out.symm, hgr⟩
end Go.Proofs.Ytcdcpfcmhmhdjaa

/- WorkOf: the reference's walk. -/
namespace Go.Proofs.Ytcdcpfcmhmhdjaa
open Go.RowKit
set_option maxRecDepth 100000 in
set_option maxHeartbeats 2000000 in
theorem spec_WorkOf (x : DIndex) (u v : Value) (t : Value) (rows : List DRow) (s : Value) (o : List Int) (w : World) (hu : RQueries w u x.queries) (hv : RSpanss w v x.fields) (ht : RRows w t rows) (hs : RInts w s o) (hb : totIndex x ≤ 4294967296) (hb2 : totL totRow rows ≤ 4294967296) :
    Calls Try.prog 21 #[.agg #[u, v], t, s] w fun e w' => e = .returned (.int .i64 (workL x rows o)) ∧ Gr w w' := by
  obtain ⟨ua, un, uc, rfl⟩ := hu.isSl
  obtain ⟨fa, fn, fc, rfl⟩ := hv.isSl
  obtain ⟨ta, tc, rfl, tl, tm, hx⟩ := ht
  obtain ⟨sa, sn, sc, rfl⟩ := hs.isSl
  have HU := Lib.hid hu
  have HV := Lib.hid hv
  have HS := Lib.hid hs
  clear hu hv hs
  have g0 : Gr w (w.alloc (.cells #[.slice ua un uc, .slice fa fn fc] 27)) := (Gr.refl w).alloc _
  have p0 : (w.alloc (.cells #[.slice ua un uc, .slice fa fn fc] 27)).cell? ⟨w.heap.size, 0, none⟩ = some (.slice ua un uc) := by simp [go_sem]
  have p1 : (w.alloc (.cells #[.slice ua un uc, .slice fa fn fc] 27)).cell? ⟨w.heap.size, 1, none⟩ = some (.slice fa fn fc) := by simp [go_sem]
  go_enter Try.func21, Try.ntmps21
  go_wp2
  go_loopw [7, 8] (fun n i wr => ∃ k : Nat, k ≤ rows.length ∧ i = .int .i64 k ∧ n = .int .i64 (workSum x rows o k) ∧ Gr (w.alloc (.cells #[.slice ua un uc, .slice fa fn fc] 27)) wr ∧ Hid (workOk x o = false → k = 0)) (fun _ i _ => rows.length - (intOf i).toNat)
  case atStart => exact ⟨0, Nat.zero_le _, rfl, rfl, Gr.refl _, Lib.hid fun _ => rfl⟩
  case round =>
    obtain ⟨k, hk, rfl, rfl, hgW, hok⟩ := hrel
    have hgr := g0.trans hgW
    have HZ : Hid (workOk x o = false → workSum x rows o k = workL x rows o) := Lib.hid fun h => by rw [workL_no h, hok.out h]; rfl
    by_cases hlt : k < rows.length
    · have i0 : (0 : Int) ≤ (k : Int) := Int.natCast_nonneg _
      have i1 : (k : Int) < (rows.length : Int) := by omega
      have d0 := hgW.cellv p0
      have d1 := hgW.cellv p1
      cases h1 : isIndexB x with
      | false =>
        have HE := Lib.hid (HZ.out (workOk_1 h1))
        have H1 := Lib.hid h1
        clear h1
        go_wp2_with fail
        refine (calls_b (spec_IsIndex x _ _ _ (RSlice.mono keeps_query hgr HU.out) (RSlice.mono (keeps_of keeps_span) hgr HV.out)) H1.out).mono ?_
        rintro e w1 ⟨rfl, g1⟩
        go_wp2_with fail
        go_ret
        exact ⟨ret_int HE.out, hgr.trans g1⟩
      | true =>
        cases h3 : isOrderB o with
        | false =>
          have HE := Lib.hid (HZ.out (workOk_2 h3))
          have H1 := Lib.hid h1
          have H3 := Lib.hid h3
          clear h1 h3
          go_wp2_with fail
          refine (calls_b (spec_IsIndex x _ _ _ (RSlice.mono keeps_query hgr HU.out) (RSlice.mono (keeps_of keeps_span) hgr HV.out)) H1.out).mono ?_
          rintro e w1 ⟨rfl, g1⟩
          have gw1 := hgr.trans g1
          go_wp2_with fail
          refine (calls_b (spec_l6Order _ o _ (HS.out.mono gw1)) H3.out).mono ?_
          rintro e w2 ⟨rfl, g2⟩
          go_wp2_with fail
          go_ret
          exact ⟨ret_int HE.out, gw1.trans g2⟩
        | true =>
          have HOK := Lib.hid (workOk_yes h1 h3)
          have HW := Lib.hid (workSum_le (x := x) rows o (isIndexB_parts h1).1 (isOrderB_at h3).1)
          have HWT := Lib.hid (fun r => workTo_le (x := x) r o (isIndexB_parts h1).1 o.length)
          have HO3 := Lib.hid (isOrderB_at h3).1
          have H1 := Lib.hid h1
          have H3 := Lib.hid h3
          clear h1 h3
          obtain ⟨b, off, cs, rfl, hlen, ⟨u_vals, rfl, i_id, h_vals⟩, hc⟩ := hx k hlt
          have c0 := hgr.cellv (hc 0 (by simp))
          have c1 := hgr.cellv (hc 1 (by simp))
          simp only [Nat.add_zero, List.getElem_cons_zero, List.getElem_cons_succ] at c0 c1
          clear hc hlen
          obtain ⟨va, vn, vc, rfl⟩ := RSlice.isSl h_vals
          have hn0 : 0 ≤ workSum x rows o k := (HW.out k).1
          have hn1 : workSum x rows o k ≤ 400000000000 := by have := (HW.out k).2; unfold totL at hb2; omega
          go_wp2_with fail
          refine (calls_b (spec_IsIndex x _ _ _ (RSlice.mono keeps_query hgr HU.out) (RSlice.mono (keeps_of keeps_span) hgr HV.out)) H1.out).mono ?_
          rintro e w1 ⟨rfl, g1⟩
          have gw1 := hgr.trans g1
          go_wp2_with fail
          refine (calls_b (spec_l6Order _ o _ (HS.out.mono gw1)) H3.out).mono ?_
          rintro e w2 ⟨rfl, g2⟩
          have gw2 := gw1.trans g2
          have g12 := g1.trans g2
          replace c0 := g12.cellv c0
          replace c1 := g12.cellv c1
          replace d0 := g12.cellv d0
          replace d1 := g12.cellv d1
          cases hr : isRowB rows[k] with
          | false =>
            have HS2 := Lib.hid (workSum_no (x := x) (o := o) hlt hr)
            have HR := Lib.hid hr
            clear hr
            go_wp2_with fail
            refine (calls_b (spec_IsRow rows[k] _ _ (RSlice.mono keeps_int gw2 h_vals)) HR.out).mono ?_
            rintro e w3 ⟨rfl, g3⟩
            have hgW3 := (hgW.trans g12).trans g3
            go_wp2_with fail
            go_roundw
            case rel => exact ⟨k + 1, by omega, by go_num, by rw [HS2.out], hgW3, Lib.hid fun h => by rw [HOK.out] at h; cases h⟩
            case measure => simp [intOf]; omega
          | true =>
            have HS2 := Lib.hid (workSum_yes (x := x) (o := o) hlt hr)
            have hw0 := (HWT.out rows[k]).1
            have hw1 : workTo x rows[k] o o.length ≤ 75 := by have := (HWT.out rows[k]).2; have := HO3.out; omega
            have HR := Lib.hid hr
            clear hr
            go_wp2_with fail
            refine (calls_b (spec_IsRow rows[k] _ _ (RSlice.mono keeps_int gw2 h_vals)) HR.out).mono ?_
            rintro e w3 ⟨rfl, g3⟩
            have gw3 := gw2.trans g3
            have hgW3 := (hgW.trans g12).trans g3
            replace c0 := g3.cellv c0
            replace c1 := g3.cellv c1
            replace d0 := g3.cellv d0
            replace d1 := g3.cellv d1
            have r0 : RQueries w3 (.slice ua un uc) x.queries := RSlice.mono keeps_query gw3 HU.out
            have r1 : RSpanss w3 (.slice fa fn fc) x.fields := RSlice.mono (keeps_of keeps_span) gw3 HV.out
            have r2 : RInts w3 (.slice va vn vc) rows[k].vals := RSlice.mono keeps_int gw3 h_vals
            have r3 : RInts w3 (.slice sa sn sc) o := HS.out.mono gw3
            go_wp2
            go_region_held3 (fun w' => w'.cell? ⟨w.heap.size, 0, none⟩ = some (.slice ua un uc) ∧ w'.cell? ⟨w.heap.size, 1, none⟩ = some (.slice fa fn fc) ∧ w'.cell? ⟨b, off + k * 2, none⟩ = some (.int .i64 rows[k].id) ∧ w'.cell? ⟨b, off + k * 2 + 1, none⟩ = some (.slice va vn vc) ∧ RQueries w' (.slice ua un uc) x.queries ∧ RSpanss w' (.slice fa fn fc) x.fields ∧ RInts w' (.slice va vn vc) rows[k].vals ∧ RInts w' (.slice sa sn sc) o ∧ Gr w3 w')
              (first | exact ⟨d0, d1, c0, c1, r0, r1, r2, r3, Gr.refl _⟩ | exact ⟨d0, d1, c0, c1, r0, r1, r2, r3, (Gr.refl _).drew⟩ | (go_split_ands; exact ⟨Gr.cellv g4 (by assumption), Gr.cellv g4 (by assumption), Gr.cellv g4 (by assumption), Gr.cellv g4 (by assumption), RSlice.mono keeps_query g4 (by assumption), RSlice.mono (keeps_of keeps_span) g4 (by assumption), RSlice.mono keeps_int g4 (by assumption), RSlice.mono keeps_int g4 (by assumption), Gr.trans (by assumption) g4⟩))
              ((go_at_call 30; go_split_ands; refine (spec_l6Probe x _ _ rows[k] _ _ o _ (by assumption) (by assumption) (by assumption) (by assumption) H1.out HR.out H3.out hb).mono ?_; rintro e w4 ⟨q, rfl, hq, g4⟩; obtain ⟨qa, qn, rfl⟩ := hq.form))
            all_goals
              have hgW4 := hgW3.trans ((Gr.refl w3).drew.trans g4)
              clear hq
              go_wp2
              go_roundw
              case rel => exact ⟨k + 1, by omega, by go_num, by rw [HS2.out], hgW4, Lib.hid fun h => by rw [HOK.out] at h; cases h⟩
              case measure => simp [intOf]; omega
    · obtain rfl : k = rows.length := by omega
      have HE : Hid (workSum x rows o rows.length = workL x rows o) := Lib.hid (by
        cases h : workOk x o with
        | false => exact HZ.out h
        | true => rw [workL_yes h])
      go_wp2_with fail
      go_ret
      exact ⟨ret_int HE.out, hgr⟩
end Go.Proofs.Ytcdcpfcmhmhdjaa

/- BestOrder: the plain law. No program in sight. -/
namespace Go.Proofs.Ytcdcpfcmhmhdjaa
open Go.RowKit
def ords : List (List Int) := [[0, 1, 2], [0, 2, 1], [1, 0, 2], [1, 2, 0], [2, 0, 1], [2, 1, 0]]
def ordOf (k : Nat) : List Int := ords.getD k []
theorem ords_len : ords.length = 6 := rfl
theorem ordOf_at {k : Nat} (h : k < ords.length) : ords[k] = ordOf k := (getD_lt h).symm
/-- Which order is best among the first k + 1. -/
def bestI (x : DIndex) (rows : List DRow) : Nat → Nat
  | 0 => 0
  | k + 1 => if workL x rows (ordOf (k + 1)) < workL x rows (ordOf (bestI x rows k)) then k + 1 else bestI x rows k
theorem bestI_le (x : DIndex) (rows : List DRow) : ∀ k, bestI x rows k ≤ k
  | 0 => Nat.le_refl _
  | k + 1 => by have := bestI_le x rows k; unfold bestI; split <;> omega
theorem bestI_yes {x : DIndex} {rows : List DRow} {k : Nat} (h : workL x rows (ordOf (k + 1)) < workL x rows (ordOf (bestI x rows k))) : bestI x rows (k + 1) = k + 1 := by rw [bestI, if_pos h]
theorem bestI_no {x : DIndex} {rows : List DRow} {k : Nat} (h : ¬ workL x rows (ordOf (k + 1)) < workL x rows (ordOf (bestI x rows k))) : bestI x rows (k + 1) = bestI x rows k := by rw [bestI, if_neg h]
def bestL (x : DIndex) (rows : List DRow) : List Int := if isIndexB x then ordOf (bestI x rows 5) else []
theorem bestL_yes {x : DIndex} {rows : List DRow} (h : isIndexB x = true) : bestL x rows = ordOf (bestI x rows 5) := by unfold bestL; rw [if_pos h]
theorem bestL_no {x : DIndex} {rows : List DRow} (h : isIndexB x = false) : bestL x rows = [] := by unfold bestL; rw [h]; rfl
theorem ordOf_len : ∀ {k : Nat}, k < 6 → (ordOf k).length = 3
  | 0, _ => rfl
  | 1, _ => rfl
  | 2, _ => rfl
  | 3, _ => rfl
  | 4, _ => rfl
  | 5, _ => rfl
theorem bestL_small (x : DIndex) (rows : List DRow) : sumT cntI (bestL x rows) ≤ 9 := by
  have h := cnt_IntS (bestL x rows)
  unfold bestL at h ⊢
  split
  · rename_i hi
    rw [if_pos hi, ordOf_len (by have := bestI_le x rows 5; omega)] at h
    exact h
  · simp [sumT]
end Go.Proofs.Ytcdcpfcmhmhdjaa

/- The spans of a field: gapless, each unlike its neighbour, each the queries that admit: the plain laws. No program in sight. -/
namespace Go.Proofs.Ytcdcpfcmhmhdjaa
open Go.RowKit
/-- Where span i must begin. -/
def fromOf (ys : List DSpan) (i : Nat) : Int := if i = 0 then 0 else (ys.getD (i - 1) ⟨0, 0, []⟩).hi + 1
theorem fromOf_zero (ys : List DSpan) : fromOf ys 0 = 0 := rfl
theorem fromOf_succ {ys : List DSpan} {i : Nat} (h : i < ys.length) : fromOf ys (i + 1) = ys[i].hi + 1 := by
  unfold fromOf; rw [if_neg (by omega), Nat.add_sub_cancel, getD_lt h]
structure Chain (A : Int → List Int) (ys : List DSpan) (n : Int) : Prop where
  lo : ∀ i (h : i < ys.length), ys[i].lo = fromOf ys i ∧ ys[i].lo ≤ ys[i].hi
  ne : ∀ i (h : i + 1 < ys.length), ys[i + 1].set ≠ ys[i].set
  top : fromOf ys ys.length = n
  set : ∀ s ∈ ys, ∀ v : Int, s.lo ≤ v → v ≤ s.hi → A v = s.set
  all : ∀ v : Int, 0 ≤ v → v < n → ∃ s ∈ ys, s.lo ≤ v ∧ v ≤ s.hi
theorem Chain.nil (A : Int → List Int) : Chain A [] 0 := ⟨fun i h => absurd h (Nat.not_lt_zero _), fun i h => absurd h (Nat.not_lt_zero _), rfl, fun s h => absurd h (by simp), fun v h1 h2 => by omega⟩
theorem Chain.step {A : Int → List Int} {ys : List DSpan} {n : Int} (h : Chain A ys n) (hn : 0 ≤ n) : Chain A (stepSpan ys n (A n)) (n + 1) := by
  by_cases h0 : ys.length = 0
  · rw [step_empty h0]
    obtain rfl := List.eq_nil_of_length_eq_zero h0
    have h3 : n = 0 := h.top.symm
    subst h3
    refine ⟨fun i hi => ?_, fun i hi => ?_, rfl, fun s hs v h1 h2 => ?_, fun v h1 h2 => ⟨_, List.mem_singleton.2 rfl, ?_⟩⟩
    · have : i = 0 := by simpa using hi
      subst this; exact ⟨rfl, Int.le_refl _⟩
    · simp at hi
    · obtain rfl := List.mem_singleton.1 (by simpa using hs)
      dsimp only at *
      rw [show v = 0 by omega]
    · dsimp only; omega
  · obtain ⟨m, hm⟩ : ∃ m, ys.length = m + 1 := ⟨ys.length - 1, by omega⟩
    have hml : m < ys.length := by omega
    have htop : ys[m].hi + 1 = n := by
      have := h.top
      rw [hm, fromOf_succ hml] at this
      exact this
    by_cases he : eqL ys[m].set (A n) = true
    · have hs : ys[m].set = A n := by simpa [eqL] using he
      rw [step_old hm hml he]
      have hlen : (ys.set m ⟨ys[m].lo, n, ys[m].set⟩).length = ys.length := List.length_set
      have hget : ∀ i (hi : i < ys.length), (ys.set m ⟨ys[m].lo, n, ys[m].set⟩)[i]'(by rw [hlen]; exact hi) = if m = i then ⟨ys[m].lo, n, ys[m].set⟩ else ys[i] := fun i hi => List.getElem_set _
      have hfrom : ∀ i, i ≤ m → fromOf (ys.set m ⟨ys[m].lo, n, ys[m].set⟩) i = fromOf ys i := by
        intro i hi
        cases i with
        | zero => rfl
        | succ i => rw [fromOf_succ (by rw [hlen]; omega), fromOf_succ (by omega), hget i (by omega), if_neg (show ¬ m = i by omega)]
      refine ⟨fun i hi => ?_, fun i hi => ?_, ?_, fun s hsm v h1 h2 => ?_, fun v h1 h2 => ?_⟩
      · rw [hlen] at hi
        rw [hget i hi, hfrom i (by omega)]
        have h4 := h.lo i hi
        by_cases e : m = i
        · subst e
          rw [if_pos rfl]
          exact ⟨h4.1, by dsimp only; omega⟩
        · rw [if_neg e]; exact h4
      · rw [hlen] at hi
        rw [hget i (by omega), hget (i + 1) hi, if_neg (show ¬ m = i by omega)]
        have h4 := h.ne i hi
        by_cases e : m = i + 1
        · rw [if_pos e]; dsimp only
          intro h5; apply h4; rw [← h5]; congr 1; simp only [e]
        · rw [if_neg e]; exact h4
      · rw [hlen, hm, fromOf_succ (by omega), hget m hml, if_pos rfl]
      · rcases List.mem_or_eq_of_mem_set hsm with h4 | h4
        · exact h.set s h4 v h1 h2
        · subst h4
          dsimp only at *
          by_cases e : v = n
          · subst e; exact hs.symm
          · exact h.set ys[m] (List.getElem_mem hml) v h1 (by omega)
      · have hin : (⟨ys[m].lo, n, ys[m].set⟩ : DSpan) ∈ ys.set m ⟨ys[m].lo, n, ys[m].set⟩ := List.mem_iff_getElem.2 ⟨m, by rw [hlen]; exact hml, by rw [hget m hml, if_pos rfl]⟩
        by_cases e : v = n
        · have := (h.lo m hml).2
          exact ⟨_, hin, by dsimp only; omega, by dsimp only; omega⟩
        · obtain ⟨s, hs1, hs2, hs3⟩ := h.all v h1 (by omega)
          obtain ⟨i, hi, rfl⟩ := List.getElem_of_mem hs1
          by_cases e2 : m = i
          · subst e2; exact ⟨_, hin, hs2, by dsimp only; omega⟩
          · exact ⟨ys[i], List.mem_iff_getElem.2 ⟨i, by rw [hlen]; exact hi, by rw [hget i hi, if_neg e2]⟩, hs2, hs3⟩
    · have he' : eqL ys[m].set (A n) = false := by simpa using he
      have hs : A n ≠ ys[m].set := fun e => he (by simp [eqL, e])
      rw [step_new hm hml he']
      have hlen : (ys ++ [(⟨n, n, A n⟩ : DSpan)]).length = ys.length + 1 := by simp
      have hget : ∀ i (hi : i < ys.length), (ys ++ [(⟨n, n, A n⟩ : DSpan)])[i]'(by rw [hlen]; omega) = ys[i] := fun i hi => List.getElem_append_left hi
      have hlast : (ys ++ [(⟨n, n, A n⟩ : DSpan)])[ys.length]'(by rw [hlen]; omega) = ⟨n, n, A n⟩ := by simp
      have hfrom : ∀ i, i ≤ ys.length → fromOf (ys ++ [⟨n, n, A n⟩]) i = fromOf ys i := by
        intro i hi
        cases i with
        | zero => rfl
        | succ i => rw [fromOf_succ (by rw [hlen]; omega), fromOf_succ (by omega), hget i (by omega)]
      refine ⟨fun i hi => ?_, fun i hi => ?_, ?_, fun s hsm v h1 h2 => ?_, fun v h1 h2 => ?_⟩
      · rw [hlen] at hi
        rw [hfrom i (by omega)]
        by_cases e : i = ys.length
        · subst e
          rw [hlast]
          exact ⟨h.top.symm, Int.le_refl _⟩
        · rw [hget i (by omega)]; exact h.lo i (by omega)
      · rw [hlen] at hi
        rw [hget i (by omega)]
        by_cases e : i + 1 = ys.length
        · have e2 : i = m := by omega
          subst e2
          have : (ys ++ [(⟨n, n, A n⟩ : DSpan)])[i + 1]'(by rw [hlen]; omega) = ⟨n, n, A n⟩ := by simp [e]
          rw [this]; exact hs
        · rw [hget (i + 1) (by omega)]; exact h.ne i (by omega)
      · rw [hlen, fromOf_succ (by rw [hlen]; omega), hlast]
      · rcases List.mem_append.1 hsm with h4 | h4
        · exact h.set s h4 v h1 h2
        · obtain rfl := List.mem_singleton.1 h4
          dsimp only at *
          rw [show v = n by omega]
      · by_cases e : v = n
        · exact ⟨_, List.mem_append_right _ (List.mem_singleton.2 rfl), by dsimp only; omega, by dsimp only; omega⟩
        · obtain ⟨s, hs1, hs2⟩ := h.all v h1 (by omega)
          exact ⟨s, List.mem_append_left _ hs1, hs2⟩
theorem chain_to (xs : List DQuery) (f : Int) : ∀ k : Nat, Chain (stabL xs f) (idxTo xs f k) (k : Int)
  | 0 => Chain.nil _
  | k + 1 => (chain_to xs f k).step (Int.natCast_nonneg _)
/-! ### How many spans there are -/
theorem nodup_sub {α : Type} [BEq α] [LawfulBEq α] : ∀ (l m : List α), l.Nodup → (∀ x ∈ l, x ∈ m) → l.length ≤ m.length
  | [], _, _, _ => Nat.zero_le _
  | x :: l, m, hn, hs => by
    have hx := hs x (List.mem_cons_self ..)
    obtain ⟨h1, h2⟩ := List.nodup_cons.1 hn
    have ih := nodup_sub l (m.erase x) h2 (fun y hy => (List.mem_erase_of_ne (fun e => h1 (by rw [← e]; exact hy))).2 (hs y (List.mem_cons_of_mem _ hy)))
    have := List.length_erase_of_mem hx
    have := List.length_pos_of_mem hx
    rw [List.length_cons]; omega
/-- Where a query's answer in field f may change. -/
def turnsC (c : DCond) : List Int := [c.low, c.high + 1]
def onF (f : Int) (c : DCond) : Bool := c.field == f
def turnsQ (f : Int) (q : DQuery) : List Int := (q.conds.filter (onF f)).flatMap turnsC
def turns (xs : List DQuery) (f : Int) : List Int := xs.flatMap (turnsQ f)
theorem adm_turn {q : DQuery} {f v : Int} (h : admB q f v ≠ admB q f (v - 1)) : v ∈ turnsQ f q := by
  unfold turnsQ
  rw [List.mem_flatMap]
  by_cases hc : ∀ c ∈ q.conds, admC f v c = admC f (v - 1) c
  · exact absurd (by unfold admB; rw [Bool.eq_iff_iff, List.all_eq_true, List.all_eq_true]; exact ⟨fun k c hm => by rw [← hc c hm]; exact k c hm, fun k c hm => by rw [hc c hm]; exact k c hm⟩) h
  · obtain ⟨c, hm, hne⟩ : ∃ c, c ∈ q.conds ∧ admC f v c ≠ admC f (v - 1) c := by
      simpa using hc
    by_cases hf : (c.field == f) = true
    · refine ⟨c, List.mem_filter.2 ⟨hm, hf⟩, ?_⟩
      unfold admC at hne
      rw [hf] at hne
      simp only [Bool.true_and, Bool.not_not] at hne
      unfold turnsC
      have h1 : ¬ (inB v c.low c.high = inB (v - 1) c.low c.high) := hne
      unfold inB at h1
      simp only [List.mem_cons, List.not_mem_nil, or_false]
      by_cases a1 : c.low ≤ v <;> by_cases a2 : v ≤ c.high <;> by_cases a3 : c.low ≤ v - 1 <;> by_cases a4 : v - 1 ≤ c.high <;> simp [a1, a2, a3, a4] at h1 <;> omega
    · unfold admC at hne
      have hf' : (c.field == f) = false := by simpa using hf
      rw [hf'] at hne
      simp at hne
theorem stab_turn {xs : List DQuery} {f v : Int} (h : stabL xs f v ≠ stabL xs f (v - 1)) : v ∈ turns xs f := by
  unfold turns
  rw [List.mem_flatMap]
  by_cases hc : ∀ q ∈ xs, admB q f v = admB q f (v - 1)
  · refine absurd ?_ h
    unfold stabL stabTo
    rw [List.take_length]
    congr 1
    exact List.filter_congr hc
  · obtain ⟨q, hm, hne⟩ : ∃ q, q ∈ xs ∧ admB q f v ≠ admB q f (v - 1) := by simpa using hc
    exact ⟨q, hm, adm_turn hne⟩
theorem rising_one {f : Int} : ∀ (l : List DCond), l.Pairwise (fun a b => a.field < b.field) → (l.filter (onF f)).length ≤ 1
  | [], _ => Nat.zero_le _
  | c :: l, h => by
    obtain ⟨h1, h2⟩ := List.pairwise_cons.1 h
    rw [List.filter_cons]
    split
    · rename_i hc
      have hc' : c.field = f := by simpa [onF] using hc
      have : l.filter (onF f) = [] := by
        rw [List.filter_eq_nil_iff]
        intro d hd hf
        have := h1 d hd
        have hf' : d.field = f := by simpa [onF] using hf
        omega
      rw [this]; simp
    · exact rising_one l h2
theorem turnsQ_len {q : DQuery} (f : Int) (h : isQueryB q = true) : (turnsQ f q).length ≤ 2 := by
  have hp : q.conds.Pairwise (fun a b => a.field < b.field) := by
    unfold isQueryB at h
    rw [Bool.and_eq_true] at h
    have h1 := allB_iff.1 h.1
    have hstep : ∀ i (hi : i + 1 < q.conds.length), q.conds[i].field < q.conds[i + 1].field := by
      intro i hi
      have h2 := h1 (i + 1) hi
      unfold condAt condOrd at h2
      rw [Bool.and_eq_true, Bool.or_eq_true, decide_eq_true_eq, decide_eq_true_eq] at h2
      rcases h2.2 with h3 | h3
      · omega
      · rw [Nat.add_sub_cancel, getD_lt hi, getD_lt (show i < q.conds.length by omega)] at h3
        exact h3
    rw [List.pairwise_iff_getElem]
    intro i j hi hj hij
    induction j with
    | zero => omega
    | succ j ih =>
      have h3 := hstep j hj
      by_cases e : i = j
      · subst e; exact h3
      · have := ih (by omega) (by omega); omega
  unfold turnsQ
  have h1 := rising_one (f := f) q.conds hp
  cases hl : q.conds.filter (onF f) with
  | nil => simp
  | cons c r =>
    rw [hl] at h1
    have : r = [] := List.eq_nil_of_length_eq_zero (by simpa using h1)
    subst this
    simp [turnsC]
theorem turns_len {xs : List DQuery} (f : Int) (h : areQueriesB xs = true) : (turns xs f).length ≤ 2 * xs.length := by
  have hq : ∀ q ∈ xs, isQueryB q = true := by
    unfold areQueriesB at h
    simp only [Bool.and_eq_true] at h
    intro q hm
    obtain ⟨i, hi, rfl⟩ := List.getElem_of_mem hm
    have := allB_iff.1 h.2.2 i hi
    unfold qOk at this
    rwa [getD_lt hi] at this
  have aux : ∀ l : List DQuery, (∀ q ∈ l, isQueryB q = true) → (turns l f).length ≤ 2 * l.length := by
    intro l
    induction l with
    | nil => intro _; exact Nat.le_refl _
    | cons q l ih =>
      intro k
      have h1 := turnsQ_len f (k q (List.mem_cons_self ..))
      have h2 := ih (fun r hr => k r (List.mem_cons_of_mem _ hr))
      unfold turns at *
      rw [List.flatMap_cons, List.length_append, List.length_cons]
      omega
  exact aux xs hq
theorem Chain.starts {xs : List DQuery} {f n : Int} {ys : List DSpan} (h : Chain (stabL xs f) ys n) {i : Nat} (hi : i + 1 < ys.length) : ys[i + 1].lo ∈ turns xs f := by
  have h1 := h.lo (i + 1) hi
  have h2 := h.lo i (by omega)
  rw [fromOf_succ (by omega)] at h1
  apply stab_turn
  rw [h.set ys[i + 1] (List.getElem_mem hi) _ (Int.le_refl _) h1.2, h.set ys[i] (List.getElem_mem (by omega)) (ys[i + 1].lo - 1) (by omega) (by omega)]
  exact h.ne i hi
theorem Chain.rising {A : Int → List Int} {n : Int} {ys : List DSpan} (h : Chain A ys n) : ∀ j i (hj : j < ys.length) (_ : i < j), ys[i].lo < ys[j].lo
  | 0, i, _, hij => absurd hij (Nat.not_lt_zero _)
  | j + 1, i, hj, hij => by
    have h1 := h.lo (j + 1) hj
    have h2 := h.lo j (by omega)
    rw [fromOf_succ (by omega)] at h1
    by_cases e : i = j
    · subst e; omega
    · have := h.rising j i (by omega) (by omega); omega
theorem Chain.few {xs : List DQuery} {f n : Int} {ys : List DSpan} (h : Chain (stabL xs f) ys n) : ys.length ≤ (turns xs f).length + 1 := by
  have hn : ((ys.drop 1).map DSpan.lo).Nodup := by
    unfold List.Nodup
    rw [List.pairwise_map, List.pairwise_iff_getElem]
    intro i j hi hj hij
    rw [List.getElem_drop, List.getElem_drop]
    have := h.rising (1 + j) (1 + i) (by simp at hj; omega) (by omega)
    omega
  have hs := nodup_sub _ (turns xs f) hn (fun x hx => by
    obtain ⟨s, hs, rfl⟩ := List.mem_map.1 hx
    obtain ⟨i, hi, rfl⟩ := List.getElem_of_mem hs
    rw [List.getElem_drop]
    have hi' : i + 1 < ys.length := by simp at hi; omega
    have := h.starts hi'
    have e : ys[1 + i]'(by omega) = ys[i + 1] := by congr 1; omega
    rw [e]; exact this)
  rw [List.length_map, List.length_drop] at hs
  omega
theorem Chain.find {A : Int → List Int} {n : Int} {ys : List DSpan} (h : Chain A ys n) {v : Int} (h0 : 0 ≤ v) (h1 : v < n) : findL ys v = A v := by
  obtain ⟨s, hs, h2, h3⟩ := h.all v h0 h1
  unfold findL
  cases hf : ys.find? (spanHit v) with
  | none =>
    have := List.find?_eq_none.1 hf s hs
    exact absurd (inB_mk h2 h3) this
  | some t =>
    have ht := List.mem_of_find?_eq_some hf
    have hh := List.find?_some hf
    have := inB_true hh
    exact (h.set t ht v this.1 this.2).symm
/-- What FnSpans asks of the spans. -/
theorem spans_good {xs : List DQuery} {f : Int} (h : idxOk xs f = true) : Chain (stabL xs f) (idxL xs f) 100 ∧ (idxL xs f).length ≤ 2 * xs.length + 1 := by
  have e : idxL xs f = idxTo xs f 100 := by unfold idxL; rw [if_pos h]
  have hc := chain_to xs f 100
  rw [e]
  refine ⟨hc, ?_⟩
  have h1 := hc.few
  unfold idxOk at h
  rw [Bool.and_eq_true] at h
  have h2 := turns_len f h.1
  omega
end Go.Proofs.Ytcdcpfcmhmhdjaa
