/- WorkOf: the plain law and the program's walk. -/
import Derived.Test.YtnnapjaggahjgaaProbe3
namespace Go.Proofs.Ytnnapjaggahjgaa
open Go.RowKit
def rowWork (x : DIndex) (o : List Int) (r : DRow) : Int := if isRowB r then workTo x r o o.length else 0
def workSum (x : DIndex) (rows : List DRow) (o : List Int) : Nat → Int
  | 0 => 0
  | k + 1 => workSum x rows o k + rowWork x o (rows.getD k ⟨0, []⟩)
def workOk (x : DIndex) (o : List Int) : Bool := isIndexB x && isOrderB o
def workL (x : DIndex) (rows : List DRow) (o : List Int) : Int := if workOk x o then workSum x rows o rows.length else 0
theorem workL_no {x : DIndex} {rows : List DRow} {o : List Int} (h : workOk x o = false) : workL x rows o = 0 := by unfold workL; rw [h]; rfl
theorem workL_yes {x : DIndex} {rows : List DRow} {o : List Int} (h : workOk x o = true) : workL x rows o = workSum x rows o rows.length := by unfold workL; rw [if_pos h]
theorem workOk_1 {x : DIndex} {o : List Int} (h : isIndexB x = false) : workOk x o = false := by unfold workOk; rw [h]; rfl
theorem workOk_2 {x : DIndex} {o : List Int} (h : isOrderB o = false) : workOk x o = false := by unfold workOk; rw [h, Bool.and_false]
theorem workOk_yes {x : DIndex} {o : List Int} (h1 : isIndexB x = true) (h2 : isOrderB o = true) : workOk x o = true := by unfold workOk; rw [h1, h2]; rfl
theorem workSum_yes {x : DIndex} {rows : List DRow} {o : List Int} {k : Nat} (h : k < rows.length) (hr : isRowB rows[k] = true) : workSum x rows o (k + 1) = workSum x rows o k + workTo x rows[k] o o.length := by rw [workSum, getD_lt h]; unfold rowWork; rw [if_pos hr]
theorem workSum_no {x : DIndex} {rows : List DRow} {o : List Int} {k : Nat} (h : k < rows.length) (hr : isRowB rows[k] = false) : workSum x rows o (k + 1) = workSum x rows o k := by rw [workSum, getD_lt h]; unfold rowWork; rw [hr]; simp
theorem workSum_le {x : DIndex} (rows : List DRow) (o : List Int) (h : x.queries.length ≤ 24) (ho : o.length = 3) : ∀ k : Nat, 0 ≤ workSum x rows o k ∧ workSum x rows o k ≤ 75 * k
  | 0 => by unfold workSum; omega
  | k + 1 => by
    have ih := workSum_le (x := x) rows o h ho k
    have hw := workTo_le (x := x) (rows.getD k ⟨0, []⟩) o h o.length
    unfold workSum rowWork
    split <;> omega
set_option maxRecDepth 100000 in
set_option maxHeartbeats 1000000 in
theorem impl_WorkOf (x : DIndex) (u v : Value) (t : Value) (rows : List DRow) (s : Value) (o : List Int) (w : World) (hu : RQueries w u x.queries) (hv : RSpanss w v x.fields) (ht : RRows w t rows) (hs : RInts w s o) (hb : totIndex x ≤ 4294967296) (hb2 : totL totRow rows ≤ 4294967296) :
    Calls Try.prog 66 #[.agg #[u, v], t, s] w fun e w' => e = .returned (.int .i64 (workL x rows o)) ∧ Gr w w' := by
  obtain ⟨ua, un, uc, rfl⟩ := hu.isSl
  obtain ⟨fa, fn, fc, rfl⟩ := hv.isSl
  obtain ⟨ta, tc, rfl, tl, tm, hx⟩ := ht
  obtain ⟨sa, sn, sc, rfl⟩ := hs.isSl
  have HU := Lib.hid hu
  have HV := Lib.hid hv
  have HS := Lib.hid hs
  clear hu hv hs
  have g0 : Gr w (w.alloc (.cells #[.slice ua un uc, .slice fa fn fc] 87)) := (Gr.refl w).alloc _
  cases h1 : isIndexB x with
  | false =>
    have HE := Lib.hid (workL_no (rows := rows) (workOk_1 (o := o) h1))
    have H1 := Lib.hid h1
    clear h1
    go_enter Try.func66, Try.ntmps66
    go_wp2_with fail
    refine (calls_b (impl_IsIndex x _ _ _ (RSlice.mono keeps_query g0 HU.out) (RSlice.mono (keeps_of keeps_span) g0 HV.out)) H1.out).mono ?_
    rintro e w1 ⟨rfl, g1⟩
    go_wp2_with fail
    go_ret
    exact ⟨ret_int HE.out.symm, g0.trans g1⟩
  | true =>
    cases h3 : isOrderB o with
    | false =>
      have HE := Lib.hid (workL_no (rows := rows) (workOk_2 (x := x) h3))
      have H1 := Lib.hid h1
      have H3 := Lib.hid h3
      clear h1 h3
      go_enter Try.func66, Try.ntmps66
      go_wp2_with fail
      refine (calls_b (impl_IsIndex x _ _ _ (RSlice.mono keeps_query g0 HU.out) (RSlice.mono (keeps_of keeps_span) g0 HV.out)) H1.out).mono ?_
      rintro e w1 ⟨rfl, g1⟩
      have gw1 := g0.trans g1
      go_wp2_with fail
      refine (calls_b (impl_isOrder _ o _ (HS.out.mono gw1)) H3.out).mono ?_
      rintro e w2 ⟨rfl, g2⟩
      go_wp2_with fail
      go_ret
      exact ⟨ret_int HE.out.symm, gw1.trans g2⟩
    | true =>
      have HE := Lib.hid (workL_yes (rows := rows) (workOk_yes h1 h3))
      have HW := Lib.hid (workSum_le (x := x) rows o (isIndexB_parts h1).1 (isOrderB_at h3).1)
      have HWT := Lib.hid (fun r => workTo_le (x := x) r o (isIndexB_parts h1).1 o.length)
      have HO3 := Lib.hid (isOrderB_at h3).1
      have H1 := Lib.hid h1
      have H3 := Lib.hid h3
      clear h1 h3
      go_enter Try.func66, Try.ntmps66
      go_wp2_with fail
      refine (calls_b (impl_IsIndex x _ _ _ (RSlice.mono keeps_query g0 HU.out) (RSlice.mono (keeps_of keeps_span) g0 HV.out)) H1.out).mono ?_
      rintro e w1 ⟨rfl, g1⟩
      have gw1 := g0.trans g1
      have p0 : w1.cell? ⟨w.heap.size, 0, none⟩ = some (.slice ua un uc) := g1.cellv (by simp [go_sem])
      have p1 : w1.cell? ⟨w.heap.size, 1, none⟩ = some (.slice fa fn fc) := g1.cellv (by simp [go_sem])
      go_wp2_with fail
      refine (calls_b (impl_isOrder _ o _ (HS.out.mono gw1)) H3.out).mono ?_
      rintro e w2 ⟨rfl, g2⟩
      have gw2 := gw1.trans g2
      replace p0 := g2.cellv p0
      replace p1 := g2.cellv p1
      clear g1 g2
      go_wp2
      go_loopw [7, 23] (fun n i wr => ∃ k : Nat, k ≤ rows.length ∧ i = .int .i64 k ∧ n = .int .i64 (workSum x rows o k) ∧ Gr w2 wr) (fun _ i _ => rows.length - (intOf i).toNat)
      case atStart => exact ⟨0, Nat.zero_le _, rfl, rfl, Gr.refl _⟩
      case round =>
        obtain ⟨k, hk, rfl, rfl, hgW⟩ := hrel
        have hgr := gw2.trans hgW
        by_cases hlt : k < rows.length
        · obtain ⟨b, off, cs, rfl, hlen, ⟨u_vals, rfl, i_id, h_vals⟩, hc⟩ := hx k hlt
          have c0 := hgr.cellv (hc 0 (by simp))
          have c1 := hgr.cellv (hc 1 (by simp))
          simp only [Nat.add_zero, List.getElem_cons_zero, List.getElem_cons_succ] at c0 c1
          clear hc hlen
          obtain ⟨va, vn, vc, rfl⟩ := RSlice.isSl h_vals
          have gq : Gr wr (wr.alloc (.cells #[.int .i64 rows[k].id, .slice va vn vc] 46)) := (Gr.refl _).alloc _
          have hgq := hgr.trans gq
          have e0 := (hgW.trans gq).cellv p0
          have e1 := (hgW.trans gq).cellv p1
          have hn0 : 0 ≤ workSum x rows o k := (HW.out k).1
          have hn1 : workSum x rows o k ≤ 400000000000 := by have := (HW.out k).2; unfold totL at hb2; omega
          cases hr : isRowB rows[k] with
          | false =>
            have HS2 := Lib.hid (workSum_no (x := x) (o := o) hlt hr)
            have HR := Lib.hid hr
            clear hr
            go_wp2_with fail
            refine (calls_b (impl_IsRow rows[k] _ _ (RSlice.mono keeps_int hgq h_vals)) HR.out).mono ?_
            rintro e w3 ⟨rfl, g3⟩
            have hgW3 := (hgW.trans gq).trans g3
            go_wp2_with fail
            go_roundw
            case rel => exact ⟨k + 1, by omega, by go_num, by rw [HS2.out], hgW3⟩
            case measure => simp [intOf]; omega
          | true =>
            have HS2 := Lib.hid (workSum_yes (x := x) (o := o) hlt hr)
            have hw0 := (HWT.out rows[k]).1
            have hw1 : workTo x rows[k] o o.length ≤ 75 := by have := (HWT.out rows[k]).2; have := HO3.out; omega
            have HR := Lib.hid hr
            clear hr
            go_wp2_with fail
            refine (calls_b (impl_IsRow rows[k] _ _ (RSlice.mono keeps_int hgq h_vals)) HR.out).mono ?_
            rintro e w3 ⟨rfl, g3⟩
            have hgW3 := (hgW.trans gq).trans g3
            have gw3 := gw2.trans hgW3
            have f0 := g3.cellv e0
            have f1 := g3.cellv e1
            have k0 : w3.cell? ⟨wr.heap.size, 0, none⟩ = some (.int .i64 rows[k].id) := g3.cellv (by simp [go_sem])
            have k1 : w3.cell? ⟨wr.heap.size, 1, none⟩ = some (.slice va vn vc) := g3.cellv (by simp [go_sem])
            go_wp2_with fail
            refine (impl_probe x _ _ rows[k] _ _ o _ (RSlice.mono keeps_query gw3 HU.out) (RSlice.mono (keeps_of keeps_span) gw3 HV.out) (RSlice.mono keeps_int gw3 h_vals) (HS.out.mono gw3) H1.out HR.out H3.out hb).mono ?_
            rintro e w4 ⟨q, rfl, g4, hq⟩
            obtain ⟨qa, qn, rfl⟩ := (rd_pints hq).form
            have hgW4 := hgW3.trans g4
            clear hq
            go_wp2_with fail
            go_roundw
            case rel => exact ⟨k + 1, by omega, by go_num, by rw [HS2.out], hgW4⟩
            case measure => simp [intOf]; omega
        · obtain rfl : k = rows.length := by omega
          go_wp2_with fail
          go_ret
          exact ⟨ret_int HE.out.symm, hgr⟩
end Go.Proofs.Ytnnapjaggahjgaa
