/- IsIndex: the plain law and the walks. -/
import Derived.Test.YtcdcpfcmhmhdjaaStabiR
import Derived.Test.YtcdcpfcmhmhdjaaGenIndex
namespace Go.Proofs.Ytcdcpfcmhmhdjaa
open Go.RowKit
def fldAt (x : DIndex) (j : Nat) : Bool := eqSpansB (x.fields.getD j []) (idxL x.queries (j : Int))
def isIndexB (x : DIndex) : Bool := areQueriesB x.queries && (decide (x.fields.length = 3) && allB x.fields.length (fldAt x))
theorem fldAt_eq {x : DIndex} {k : Nat} (h : k < x.fields.length) : fldAt x k = eqSpansB x.fields[k] (idxL x.queries (k : Int)) := by unfold fldAt; rw [getD_lt h]
theorem isIndexB_no1 {x : DIndex} (h : areQueriesB x.queries = false) : isIndexB x = false := by unfold isIndexB; rw [h]; rfl
theorem isIndexB_no2 {x : DIndex} (h : ¬ x.fields.length = 3) : isIndexB x = false := by unfold isIndexB; simp [h]
theorem isIndexB_no3 {x : DIndex} {k : Nat} (hk : k < x.fields.length) (h : eqSpansB x.fields[k] (idxL x.queries (k : Int)) = false) : isIndexB x = false := by
  unfold isIndexB; rw [allB_false (p := fldAt x) k hk (by rw [fldAt_eq hk]; exact h), Bool.and_false, Bool.and_false]
theorem isIndexB_yes {x : DIndex} (h1 : areQueriesB x.queries = true) (h2 : x.fields.length = 3) (h : ∀ j (hj : j < x.fields.length), eqSpansB x.fields[j] (idxL x.queries (j : Int)) = true) : isIndexB x = true := by
  unfold isIndexB; rw [h1, allB_true (fun j hj => by rw [fldAt_eq hj]; exact h j hj)]; simp [h2]
set_option maxRecDepth 100000 in
set_option maxHeartbeats 1000000 in
theorem impl_IsIndex (x : DIndex) (u v : Value) (w : World) (hu : RQueries w u x.queries) (hv : RSpanss w v x.fields) : Calls Try.prog 9 #[.agg #[u, v]] w fun e w' => e = .returned (.bool (isIndexB x)) ∧ Gr w w' := by
  obtain ⟨ua, un, uc, rfl⟩ := hu.isSl
  obtain ⟨a, cap, rfl, hl, hm, hx⟩ := hv
  have HU := Lib.hid hu
  clear hu
  have g0 : Gr w (w.alloc (.cells #[.slice ua un uc, .slice a x.fields.length cap] 27)) := (Gr.refl w).alloc _
  cases h1 : areQueriesB x.queries with
  | false =>
    have HE := Lib.hid (isIndexB_no1 h1)
    have H1 := Lib.hid h1
    clear h1
    go_enter Try.func9, Try.ntmps9
    go_wp2_with fail
    refine (calls_b (impl_AreQueries _ x.queries _ (RSlice.mono keeps_query g0 HU.out)) H1.out).mono ?_
    rintro e w1 ⟨rfl, g1⟩
    go_wp2_with fail
    go_ret
    exact ⟨ret_bool HE.out.symm, g0.trans g1⟩
  | true =>
    have H1 := Lib.hid h1
    clear h1
    by_cases h3 : x.fields.length = 3
    · have hd : ((x.fields.length : Int) != 3) = false := by simp; omega
      have H3 := Lib.hid h3
      clear h3
      go_enter Try.func9, Try.ntmps9
      go_wp2_with fail
      refine (calls_b (impl_AreQueries _ x.queries _ (RSlice.mono keeps_query g0 HU.out)) H1.out).mono ?_
      rintro e w1 ⟨rfl, g1⟩
      have gw1 := g0.trans g1
      have p0 : w1.cell? ⟨w.heap.size, 0, none⟩ = some (.slice ua un uc) := g1.cellv (by simp [go_sem])
      have p1 : w1.cell? ⟨w.heap.size, 1, none⟩ = some (.slice a x.fields.length cap) := g1.cellv (by simp [go_sem])
      go_wp2
      go_loopw [18] (fun i wr => ∃ k : Nat, k ≤ x.fields.length ∧ i = .int .i64 k ∧ Gr w1 wr ∧ Hid (∀ j (h : j < x.fields.length), j < k → eqSpansB x.fields[j] (idxL x.queries (j : Int)) = true)) (fun i _ => x.fields.length - (intOf i).toNat)
      case atStart => exact ⟨0, Nat.zero_le _, rfl, Gr.refl _, Lib.hid fun _ _ h => absurd h (Nat.not_lt_zero _)⟩
      case round =>
        obtain ⟨k, hk, rfl, hgW, hn⟩ := hrel
        have hgr := gw1.trans hgW
        have d0 := hgW.cellv p0
        by_cases hlt : k < x.fields.length
        · obtain ⟨b, off, cs, rfl, hlen, ⟨u, rfl, hu⟩, hc⟩ := hx k hlt
          have c0 := hgr.cellv (hc 0 (by simp))
          simp only [Nat.add_zero, Nat.mul_one, List.getElem_cons_zero] at c0
          clear hc hlen
          obtain ⟨sa, sn, rfl⟩ := hu.form
          have HS := Lib.hid hu
          clear hu
          cases he : eqSpansB x.fields[k] (idxL x.queries (k : Int)) with
          | false =>
            have HE := Lib.hid (isIndexB_no3 hlt he)
            have HR := Lib.hid he
            clear he
            go_wp2_with fail
            refine (impl_StabIndex _ x.queries (k : Int) _ (RSlice.mono keeps_query hgr HU.out)).mono ?_
            rintro e w2 ⟨v2, rfl, g2, ho⟩
            obtain ⟨va, vn, vc, rfl⟩ := ho.isSl
            have HO := Lib.hid ho
            clear ho
            go_wp2_with fail
            refine (calls_b (impl_EqualSpans _ x.fields[k] _ (idxL x.queries (k : Int)) _ (RSlice.mono keeps_span (hgr.trans g2) HS.out) (rd_pspans HO.out)) HR.out).mono ?_
            rintro e w3 ⟨rfl, g3⟩
            go_wp2_with fail
            go_ret
            exact ⟨ret_bool HE.out.symm, (hgr.trans g2).trans g3⟩
          | true =>
            have HR := Lib.hid he
            clear he
            go_wp2_with fail
            refine (impl_StabIndex _ x.queries (k : Int) _ (RSlice.mono keeps_query hgr HU.out)).mono ?_
            rintro e w2 ⟨v2, rfl, g2, ho⟩
            obtain ⟨va, vn, vc, rfl⟩ := ho.isSl
            have HO := Lib.hid ho
            clear ho
            go_wp2_with fail
            refine (calls_b (impl_EqualSpans _ x.fields[k] _ (idxL x.queries (k : Int)) _ (RSlice.mono keeps_span (hgr.trans g2) HS.out) (rd_pspans HO.out)) HR.out).mono ?_
            rintro e w3 ⟨rfl, g3⟩
            have hgW3 := (hgW.trans g2).trans g3
            go_wp2_with fail
            go_roundw
            case rel => exact ⟨k + 1, by omega, by go_num, hgW3, Lib.hid fun j hj hjk => by
              rcases Nat.lt_succ_iff_lt_or_eq.1 hjk with h | rfl
              · exact hn.out j hj h
              · exact HR.out⟩
            case measure => simp [intOf]; omega
        · have HE := Lib.hid (isIndexB_yes H1.out H3.out fun j hj => hn.out j hj (by omega))
          go_wp2_with fail
          go_ret
          exact ⟨ret_bool HE.out.symm, hgr⟩
    · have hd : ((x.fields.length : Int) != 3) = true := by simp; omega
      have HE := Lib.hid (isIndexB_no2 h3)
      clear h3
      go_enter Try.func9, Try.ntmps9
      go_wp2_with fail
      refine (calls_b (impl_AreQueries _ x.queries _ (RSlice.mono keeps_query g0 HU.out)) H1.out).mono ?_
      rintro e w1 ⟨rfl, g1⟩
      have p1 : w1.cell? ⟨w.heap.size, 1, none⟩ = some (.slice a x.fields.length cap) := g1.cellv (by simp [go_sem])
      go_wp2_with fail
      go_ret
      exact ⟨ret_bool HE.out.symm, g0.trans g1⟩
set_option maxRecDepth 100000 in
set_option maxHeartbeats 2000000 in
theorem spec_IsIndex (x : DIndex) (u v : Value) (w : World) (hu : RQueries w u x.queries) (hv : RSpanss w v x.fields) : Calls Try.prog 10 #[.agg #[u, v]] w fun e w' => e = .returned (.bool (isIndexB x)) ∧ Gr w w' := by
  obtain ⟨ua, un, uc, rfl⟩ := hu.isSl
  obtain ⟨a, cap, rfl, hl, hm, hx⟩ := hv
  have HU := Lib.hid hu
  clear hu
  have g0 : Gr w (w.alloc (.cells #[.slice ua un uc, .slice a x.fields.length cap] 27)) := (Gr.refl w).alloc _
  cases h1 : areQueriesB x.queries with
  | false =>
    have HE := Lib.hid (isIndexB_no1 h1)
    have H1 := Lib.hid h1
    clear h1
    go_enter Try.func10, Try.ntmps10
    go_wp2_with fail
    refine (calls_b (spec_AreQueries _ x.queries _ (RSlice.mono keeps_query g0 HU.out)) H1.out).mono ?_
    rintro e w1 ⟨rfl, g1⟩
    go_wp2_with fail
    go_ret
    exact ⟨ret_bool HE.out.symm, g0.trans g1⟩
  | true =>
    have H1 := Lib.hid h1
    clear h1
    by_cases h3 : x.fields.length = 3
    · have hd : ((x.fields.length : Int) != 3) = false := by simp; omega
      have H3 := Lib.hid h3
      clear h3
      go_enter Try.func10, Try.ntmps10
      go_wp2_with fail
      refine (calls_b (spec_AreQueries _ x.queries _ (RSlice.mono keeps_query g0 HU.out)) H1.out).mono ?_
      rintro e w1 ⟨rfl, g1⟩
      have gw1 := g0.trans g1
      have p0 : w1.cell? ⟨w.heap.size, 0, none⟩ = some (.slice ua un uc) := g1.cellv (by simp [go_sem])
      have p1 : w1.cell? ⟨w.heap.size, 1, none⟩ = some (.slice a x.fields.length cap) := g1.cellv (by simp [go_sem])
      go_wp2
      go_loopw [3] (fun i wr => ∃ k : Nat, k ≤ 3 ∧ i = .int .i64 k ∧ Gr w1 wr ∧ Hid (∀ j (h : j < x.fields.length), j < k → eqSpansB x.fields[j] (idxL x.queries (j : Int)) = true)) (fun i _ => 3 - (intOf i).toNat)
      case atStart => exact ⟨0, Nat.zero_le _, rfl, Gr.refl _, Lib.hid fun _ _ h => absurd h (Nat.not_lt_zero _)⟩
      case round =>
        obtain ⟨k, hk, rfl, hgW, hn⟩ := hrel
        have hgr := gw1.trans hgW
        by_cases hk3 : k < 3
        · have hlt : k < x.fields.length := by have := H3.out; omega
          obtain ⟨b, off, cs, rfl, hlen, ⟨u, rfl, hu⟩, hc⟩ := hx k hlt
          have c0 := hgr.cellv (hc 0 (by simp))
          simp only [Nat.add_zero, Nat.mul_one, List.getElem_cons_zero] at c0
          clear hc hlen
          obtain ⟨sa, sn, rfl⟩ := hu.form
          have d0 := hgW.cellv p0
          have d1 := hgW.cellv p1
          have r0 : RQueries wr (.slice ua un uc) x.queries := RSlice.mono keeps_query hgr HU.out
          have r1 : RSpans wr (.slice sa x.fields[k].length sn) x.fields[k] := RSlice.mono keeps_span hgr hu
          have i0 : (0 : Int) ≤ (k : Int) := Int.natCast_nonneg _
          have i1 : (k : Int) < (x.fields.length : Int) := by omega
          have i2 : (k : Int) < 3 := by omega
          clear hu
          cases he : eqSpansB x.fields[k] (idxL x.queries (k : Int)) with
          | false =>
            have HE := Lib.hid (isIndexB_no3 hlt he)
            have HR := Lib.hid he
            clear he
            go_wp2
            go_region_held3 (fun w' => w'.cell? ⟨w.heap.size, 0, none⟩ = some (.slice ua un uc) ∧ w'.cell? ⟨w.heap.size, 1, none⟩ = some (.slice (some ⟨b, off, none⟩) x.fields.length cap) ∧ w'.cell? ⟨b, off + k, none⟩ = some (.slice sa x.fields[k].length sn) ∧ RQueries w' (.slice ua un uc) x.queries ∧ RSpans w' (.slice sa x.fields[k].length sn) x.fields[k] ∧ Gr wr w')
              (first | exact ⟨d0, d1, c0, r0, r1, Gr.refl _⟩ | exact ⟨d0, d1, c0, r0, r1, (Gr.refl _).drew⟩ | (go_split_ands; exact ⟨Gr.cellv g3 (by assumption), Gr.cellv g3 (by assumption), Gr.cellv g3 (by assumption), RSlice.mono keeps_query g3 (by assumption), RSlice.mono keeps_span g3 (by assumption), Gr.trans (by assumption) g3⟩) | (go_split_ands; exact ⟨Gr.cellv g2 (by assumption), Gr.cellv g2 (by assumption), Gr.cellv g2 (by assumption), RSlice.mono keeps_query g2 (by assumption), RSlice.mono keeps_span g2 (by assumption), Gr.trans (by assumption) g2⟩))
              (first | (go_at_call 36; go_split_ands; refine (spec_StabIndex_rd _ x.queries (k : Int) _ (by assumption)).mono ?_; rintro e w2 ⟨v2, rfl, hr2, g2⟩; obtain ⟨va, vn, vc, rfl⟩ := hr2.isSl) | (go_at_call 35; go_split_ands; refine (calls_b (spec_EqualSpans _ x.fields[k] _ (idxL x.queries (k : Int)) _ (by assumption) hr2) HR.out).mono ?_; rintro e w3 ⟨rfl, g3⟩))
            all_goals
              have hgr1 := (hgr.drew.trans g2).trans g3
              go_wp2
              go_ret
              exact ⟨ret_bool HE.out.symm, hgr1⟩
          | true =>
            have HR := Lib.hid he
            clear he
            go_wp2
            go_region_held3 (fun w' => w'.cell? ⟨w.heap.size, 0, none⟩ = some (.slice ua un uc) ∧ w'.cell? ⟨w.heap.size, 1, none⟩ = some (.slice (some ⟨b, off, none⟩) x.fields.length cap) ∧ w'.cell? ⟨b, off + k, none⟩ = some (.slice sa x.fields[k].length sn) ∧ RQueries w' (.slice ua un uc) x.queries ∧ RSpans w' (.slice sa x.fields[k].length sn) x.fields[k] ∧ Gr wr w')
              (first | exact ⟨d0, d1, c0, r0, r1, Gr.refl _⟩ | exact ⟨d0, d1, c0, r0, r1, (Gr.refl _).drew⟩ | (go_split_ands; exact ⟨Gr.cellv g3 (by assumption), Gr.cellv g3 (by assumption), Gr.cellv g3 (by assumption), RSlice.mono keeps_query g3 (by assumption), RSlice.mono keeps_span g3 (by assumption), Gr.trans (by assumption) g3⟩) | (go_split_ands; exact ⟨Gr.cellv g2 (by assumption), Gr.cellv g2 (by assumption), Gr.cellv g2 (by assumption), RSlice.mono keeps_query g2 (by assumption), RSlice.mono keeps_span g2 (by assumption), Gr.trans (by assumption) g2⟩))
              (first | (go_at_call 36; go_split_ands; refine (spec_StabIndex_rd _ x.queries (k : Int) _ (by assumption)).mono ?_; rintro e w2 ⟨v2, rfl, hr2, g2⟩; obtain ⟨va, vn, vc, rfl⟩ := hr2.isSl) | (go_at_call 35; go_split_ands; refine (calls_b (spec_EqualSpans _ x.fields[k] _ (idxL x.queries (k : Int)) _ (by assumption) hr2) HR.out).mono ?_; rintro e w3 ⟨rfl, g3⟩))
            all_goals
              have hgW1 := (hgW.drew.trans g2).trans g3
              go_wp2
              go_roundw
              case rel => exact ⟨k + 1, by omega, by go_num, hgW1, Lib.hid fun j hj hjk => by
                rcases Nat.lt_succ_iff_lt_or_eq.1 hjk with h | rfl
                · exact hn.out j hj h
                · exact HR.out⟩
              case measure => simp [intOf]; omega
        · have HE := Lib.hid (isIndexB_yes H1.out H3.out fun j hj => hn.out j hj (by have := H3.out; omega))
          go_wp2_with fail
          go_ret
          exact ⟨ret_bool HE.out.symm, hgr⟩
    · have hd : ((x.fields.length : Int) != 3) = true := by simp; omega
      have HE := Lib.hid (isIndexB_no2 h3)
      clear h3
      go_enter Try.func10, Try.ntmps10
      go_wp2_with fail
      refine (calls_b (spec_AreQueries _ x.queries _ (RSlice.mono keeps_query g0 HU.out)) H1.out).mono ?_
      rintro e w1 ⟨rfl, g1⟩
      have p1 : w1.cell? ⟨w.heap.size, 1, none⟩ = some (.slice a x.fields.length cap) := g1.cellv (by simp [go_sem])
      go_wp2_with fail
      go_ret
      exact ⟨ret_bool HE.out.symm, g0.trans g1⟩
end Go.Proofs.Ytcdcpfcmhmhdjaa
