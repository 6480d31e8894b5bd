/- WorkOf: the reference's walk. -/
import Derived.Test.YtnnapjaggahjgaaWork
namespace Go.Proofs.Ytnnapjaggahjgaa
open Go.RowKit
set_option maxRecDepth 100000 in
set_option maxHeartbeats 2000000 in
theorem spec_WorkOf (x : DIndex) (u v : Value) (t : Value) (rows : List DRow) (s : Value) (o : List Int) (w : World) (hu : RQueries w u x.queries) (hv : RSpanss w v x.fields) (ht : RRows w t rows) (hs : RInts w s o) (hb : totIndex x ≤ 4294967296) (hb2 : totL totRow rows ≤ 4294967296) :
    Calls Try.prog 64 #[.agg #[u, v], t, s] w fun e w' => e = .returned (.int .i64 (workL x rows o)) ∧ Gr w w' := by
  obtain ⟨ua, un, uc, rfl⟩ := hu.isSl
  obtain ⟨fa, fn, fc, rfl⟩ := hv.isSl
  obtain ⟨ta, tc, rfl, tl, tm, hx⟩ := ht
  obtain ⟨sa, sn, sc, rfl⟩ := hs.isSl
  have HU := Lib.hid hu
  have HV := Lib.hid hv
  have HS := Lib.hid hs
  clear hu hv hs
  have g0 : Gr w (w.alloc (.cells #[.slice ua un uc, .slice fa fn fc] 87)) := (Gr.refl w).alloc _
  have p0 : (w.alloc (.cells #[.slice ua un uc, .slice fa fn fc] 87)).cell? ⟨w.heap.size, 0, none⟩ = some (.slice ua un uc) := by simp [go_sem]
  have p1 : (w.alloc (.cells #[.slice ua un uc, .slice fa fn fc] 87)).cell? ⟨w.heap.size, 1, none⟩ = some (.slice fa fn fc) := by simp [go_sem]
  go_enter Try.func64, Try.ntmps64
  go_wp2
  go_loopw [7, 8] (fun n i wr => ∃ k : Nat, k ≤ rows.length ∧ i = .int .i64 k ∧ n = .int .i64 (workSum x rows o k) ∧ Gr (w.alloc (.cells #[.slice ua un uc, .slice fa fn fc] 87)) wr ∧ Hid (workOk x o = false → k = 0)) (fun _ i _ => rows.length - (intOf i).toNat)
  case atStart => exact ⟨0, Nat.zero_le _, rfl, rfl, Gr.refl _, Lib.hid fun _ => rfl⟩
  case round =>
    obtain ⟨k, hk, rfl, rfl, hgW, hok⟩ := hrel
    have hgr := g0.trans hgW
    have HZ : Hid (workOk x o = false → workSum x rows o k = workL x rows o) := Lib.hid fun h => by rw [workL_no h, hok.out h]; rfl
    by_cases hlt : k < rows.length
    · have i0 : (0 : Int) ≤ (k : Int) := Int.natCast_nonneg _
      have i1 : (k : Int) < (rows.length : Int) := by omega
      have d0 := hgW.cellv p0
      have d1 := hgW.cellv p1
      cases h1 : isIndexB x with
      | false =>
        have HE := Lib.hid (HZ.out (workOk_1 h1))
        have H1 := Lib.hid h1
        clear h1
        go_wp2_with fail
        refine (calls_b (spec_IsIndex x _ _ _ (RSlice.mono keeps_query hgr HU.out) (RSlice.mono (keeps_of keeps_span) hgr HV.out)) H1.out).mono ?_
        rintro e w1 ⟨rfl, g1⟩
        go_wp2_with fail
        go_ret
        exact ⟨ret_int HE.out, hgr.trans g1⟩
      | true =>
        cases h3 : isOrderB o with
        | false =>
          have HE := Lib.hid (HZ.out (workOk_2 h3))
          have H1 := Lib.hid h1
          have H3 := Lib.hid h3
          clear h1 h3
          go_wp2_with fail
          refine (calls_b (spec_IsIndex x _ _ _ (RSlice.mono keeps_query hgr HU.out) (RSlice.mono (keeps_of keeps_span) hgr HV.out)) H1.out).mono ?_
          rintro e w1 ⟨rfl, g1⟩
          have gw1 := hgr.trans g1
          go_wp2_with fail
          refine (calls_b (spec_l6Order _ o _ (HS.out.mono gw1)) H3.out).mono ?_
          rintro e w2 ⟨rfl, g2⟩
          go_wp2_with fail
          go_ret
          exact ⟨ret_int HE.out, gw1.trans g2⟩
        | true =>
          have HOK := Lib.hid (workOk_yes h1 h3)
          have HW := Lib.hid (workSum_le (x := x) rows o (isIndexB_parts h1).1 (isOrderB_at h3).1)
          have HWT := Lib.hid (fun r => workTo_le (x := x) r o (isIndexB_parts h1).1 o.length)
          have HO3 := Lib.hid (isOrderB_at h3).1
          have H1 := Lib.hid h1
          have H3 := Lib.hid h3
          clear h1 h3
          obtain ⟨b, off, cs, rfl, hlen, ⟨u_vals, rfl, i_id, h_vals⟩, hc⟩ := hx k hlt
          have c0 := hgr.cellv (hc 0 (by simp))
          have c1 := hgr.cellv (hc 1 (by simp))
          simp only [Nat.add_zero, List.getElem_cons_zero, List.getElem_cons_succ] at c0 c1
          clear hc hlen
          obtain ⟨va, vn, vc, rfl⟩ := RSlice.isSl h_vals
          have hn0 : 0 ≤ workSum x rows o k := (HW.out k).1
          have hn1 : workSum x rows o k ≤ 400000000000 := by have := (HW.out k).2; unfold totL at hb2; omega
          go_wp2_with fail
          refine (calls_b (spec_IsIndex x _ _ _ (RSlice.mono keeps_query hgr HU.out) (RSlice.mono (keeps_of keeps_span) hgr HV.out)) H1.out).mono ?_
          rintro e w1 ⟨rfl, g1⟩
          have gw1 := hgr.trans g1
          go_wp2_with fail
          refine (calls_b (spec_l6Order _ o _ (HS.out.mono gw1)) H3.out).mono ?_
          rintro e w2 ⟨rfl, g2⟩
          have gw2 := gw1.trans g2
          have g12 := g1.trans g2
          replace c0 := g12.cellv c0
          replace c1 := g12.cellv c1
          replace d0 := g12.cellv d0
          replace d1 := g12.cellv d1
          cases hr : isRowB rows[k] with
          | false =>
            have HS2 := Lib.hid (workSum_no (x := x) (o := o) hlt hr)
            have HR := Lib.hid hr
            clear hr
            go_wp2_with fail
            refine (calls_b (spec_IsRow rows[k] _ _ (RSlice.mono keeps_int gw2 h_vals)) HR.out).mono ?_
            rintro e w3 ⟨rfl, g3⟩
            have hgW3 := (hgW.trans g12).trans g3
            go_wp2_with fail
            go_roundw
            case rel => exact ⟨k + 1, by omega, by go_num, by rw [HS2.out], hgW3, Lib.hid fun h => by rw [HOK.out] at h; cases h⟩
            case measure => simp [intOf]; omega
          | true =>
            have HS2 := Lib.hid (workSum_yes (x := x) (o := o) hlt hr)
            have hw0 := (HWT.out rows[k]).1
            have hw1 : workTo x rows[k] o o.length ≤ 75 := by have := (HWT.out rows[k]).2; have := HO3.out; omega
            have HR := Lib.hid hr
            clear hr
            go_wp2_with fail
            refine (calls_b (spec_IsRow rows[k] _ _ (RSlice.mono keeps_int gw2 h_vals)) HR.out).mono ?_
            rintro e w3 ⟨rfl, g3⟩
            have gw3 := gw2.trans g3
            have hgW3 := (hgW.trans g12).trans g3
            replace c0 := g3.cellv c0
            replace c1 := g3.cellv c1
            replace d0 := g3.cellv d0
            replace d1 := g3.cellv d1
            have r0 : RQueries w3 (.slice ua un uc) x.queries := RSlice.mono keeps_query gw3 HU.out
            have r1 : RSpanss w3 (.slice fa fn fc) x.fields := RSlice.mono (keeps_of keeps_span) gw3 HV.out
            have r2 : RInts w3 (.slice va vn vc) rows[k].vals := RSlice.mono keeps_int gw3 h_vals
            have r3 : RInts w3 (.slice sa sn sc) o := HS.out.mono gw3
            go_wp2
            go_region_held3 (fun w' => w'.cell? ⟨w.heap.size, 0, none⟩ = some (.slice ua un uc) ∧ w'.cell? ⟨w.heap.size, 1, none⟩ = some (.slice fa fn fc) ∧ w'.cell? ⟨b, off + k * 2, none⟩ = some (.int .i64 rows[k].id) ∧ w'.cell? ⟨b, off + k * 2 + 1, none⟩ = some (.slice va vn vc) ∧ RQueries w' (.slice ua un uc) x.queries ∧ RSpanss w' (.slice fa fn fc) x.fields ∧ RInts w' (.slice va vn vc) rows[k].vals ∧ RInts w' (.slice sa sn sc) o ∧ Gr w3 w')
              (first | exact ⟨d0, d1, c0, c1, r0, r1, r2, r3, Gr.refl _⟩ | exact ⟨d0, d1, c0, c1, r0, r1, r2, r3, (Gr.refl _).drew⟩ | (go_split_ands; exact ⟨Gr.cellv g4 (by assumption), Gr.cellv g4 (by assumption), Gr.cellv g4 (by assumption), Gr.cellv g4 (by assumption), RSlice.mono keeps_query g4 (by assumption), RSlice.mono (keeps_of keeps_span) g4 (by assumption), RSlice.mono keeps_int g4 (by assumption), RSlice.mono keeps_int g4 (by assumption), Gr.trans (by assumption) g4⟩))
              ((go_at_call 118; go_split_ands; refine (spec_l6Probe x _ _ rows[k] _ _ o _ (by assumption) (by assumption) (by assumption) (by assumption) H1.out HR.out H3.out hb).mono ?_; rintro e w4 ⟨q, rfl, hq, g4⟩; obtain ⟨qa, qn, rfl⟩ := hq.form))
            all_goals
              have hgW4 := hgW3.trans ((Gr.refl w3).drew.trans g4)
              clear hq
              go_wp2
              go_roundw
              case rel => exact ⟨k + 1, by omega, by go_num, by rw [HS2.out], hgW4, Lib.hid fun h => by rw [HOK.out] at h; cases h⟩
              case measure => simp [intOf]; omega
    · obtain rfl : k = rows.length := by omega
      have HE : Hid (workSum x rows o rows.length = workL x rows o) := Lib.hid (by
        cases h : workOk x o with
        | false => exact HZ.out h
        | true => rw [workL_yes h])
      go_wp2_with fail
      go_ret
      exact ⟨ret_int HE.out, hgr⟩
end Go.Proofs.Ytnnapjaggahjgaa
