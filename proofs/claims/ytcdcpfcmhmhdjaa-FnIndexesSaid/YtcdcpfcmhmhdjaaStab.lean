/- StabSet: l5Admits, stab; the plain law and the walks. -/
import Derived.Test.YtcdcpfcmhmhdjaaMatch
import Derived.Test.YtcdcpfcmhmhdjaaLawK
import Derived.Test.YtcdcpfcmhmhdjaaSpread
namespace Go.Proofs.Ytcdcpfcmhmhdjaa
open Go.RowKit
def stabTo (xs : List DQuery) (f v : Int) (k : Nat) : List Int := ((xs.take k).filter fun q => admB q f v).map DQuery.id
def stabL (xs : List DQuery) (f v : Int) : List Int := stabTo xs f v xs.length
def stabOk (xs : List DQuery) (f v : Int) : Bool := areQueriesB xs && (inB f 0 2 && inB v 0 99)
def stabSetL (xs : List DQuery) (f v : Int) : List Int := if stabOk xs f v then stabL xs f v else []
theorem stabTo_succ {xs : List DQuery} {f v : Int} {k : Nat} (h : k < xs.length) : stabTo xs f v (k + 1) = stabTo xs f v k ++ if admB xs[k] f v then [xs[k].id] else [] := by
  unfold stabTo
  rw [List.take_succ_eq_append_getElem h, List.filter_append, List.map_append]
  congr 1
  by_cases hp : admB xs[k] f v = true <;> simp [hp]
theorem stabTo_yes {xs : List DQuery} {f v : Int} {k : Nat} (h : k < xs.length) (hp : admB xs[k] f v = true) : stabTo xs f v (k + 1) = stabTo xs f v k ++ [xs[k].id] := by rw [stabTo_succ h, if_pos hp]
theorem stabTo_no {xs : List DQuery} {f v : Int} {k : Nat} (h : k < xs.length) (hp : admB xs[k] f v = false) : stabTo xs f v (k + 1) = stabTo xs f v k := by rw [stabTo_succ h, hp]; simp
theorem stabTo_len (xs : List DQuery) (f v : Int) (k : Nat) : (stabTo xs f v k).length ≤ k := by
  unfold stabTo
  rw [List.length_map]
  have := List.length_filter_le (fun q => admB q f v) (xs.take k)
  have h2 : (xs.take k).length ≤ k := by simp; omega
  omega
theorem areQueriesB_len {xs : List DQuery} (h : areQueriesB xs = true) : xs.length ≤ 24 := by
  unfold areQueriesB at h
  simp only [Bool.and_eq_true, decide_eq_true_eq] at h
  exact h.2.1
theorem stabSetL_len (xs : List DQuery) (f v : Int) : (stabSetL xs f v).length ≤ 24 := by
  unfold stabSetL
  split
  · rename_i h
    unfold stabOk at h
    rw [Bool.and_eq_true] at h
    have := areQueriesB_len h.1
    have := stabTo_len xs f v xs.length
    unfold stabL; omega
  · simp
theorem stabSetL_small (xs : List DQuery) (f v : Int) : sumT cntI (stabSetL xs f v) ≤ 72 := by
  have := cnt_IntS (stabSetL xs f v); have := stabSetL_len xs f v; omega
theorem stabSetL_yes {xs : List DQuery} {f v : Int} (h : stabOk xs f v = true) : stabSetL xs f v = stabL xs f v := by unfold stabSetL; rw [if_pos h]
theorem stabSetL_no {xs : List DQuery} {f v : Int} (h : stabOk xs f v = false) : stabSetL xs f v = [] := by unfold stabSetL; rw [h]; rfl
theorem stabOk_1 {xs : List DQuery} {f v : Int} (h : areQueriesB xs = false) : stabOk xs f v = false := by unfold stabOk; rw [h]; rfl
theorem stabOk_2 {xs : List DQuery} {f v : Int} (h : inB f 0 2 = false) : stabOk xs f v = false := by unfold stabOk; rw [h, Bool.false_and, Bool.and_false]
theorem stabOk_3 {xs : List DQuery} {f v : Int} (h : inB v 0 99 = false) : stabOk xs f v = false := by unfold stabOk; rw [h, Bool.and_false, Bool.and_false]
theorem stabOk_yes {xs : List DQuery} {f v : Int} (h1 : areQueriesB xs = true) (h2 : inB f 0 2 = true) (h3 : inB v 0 99 = true) : stabOk xs f v = true := by unfold stabOk; rw [h1, h2, h3]; rfl
set_option maxRecDepth 100000 in
set_option maxHeartbeats 1000000 in
theorem spec_l5Admits (q : DQuery) (f v : Int) (u u' : Value) (w : World) (hu : RConds w u q.conds) : Calls Try.prog 76 #[.agg #[.int .i64 q.id, .int .i64 q.tenant, u, u'], .int .i64 f, .int .i64 v] w fun e w' => e = .returned (.bool (admB q f v)) ∧ Gr w w' := by
  obtain ⟨id, ten, xs, ys⟩ := q
  obtain ⟨a, cap, rfl, hl, hm, hx⟩ := hu
  dsimp only at *
  have g0 : Gr w (w.alloc (.cells #[.int .i64 id, .int .i64 ten, .slice a xs.length cap, u'] 44)) := (Gr.refl w).alloc _
  have p2 : (w.alloc (.cells #[.int .i64 id, .int .i64 ten, .slice a xs.length cap, u'] 44)).cell? ⟨w.heap.size, 2, none⟩ = some (.slice a xs.length cap) := by simp [go_sem]
  go_enter Try.func76, Try.ntmps76
  go_wp2
  go_loopw [7] (fun i wr => ∃ k : Nat, k ≤ xs.length ∧ i = .int .i64 k ∧ Gr (w.alloc (.cells #[.int .i64 id, .int .i64 ten, .slice a xs.length cap, u'] 44)) wr ∧ Hid (∀ j (h : j < xs.length), j < k → admC f v xs[j] = true)) (fun i _ => xs.length - (intOf i).toNat)
  case atStart => exact ⟨0, Nat.zero_le _, rfl, Gr.refl _, Lib.hid fun _ _ h => absurd h (Nat.not_lt_zero _)⟩
  case round =>
    obtain ⟨k, hk, rfl, hgW, hn⟩ := hrel
    have hgr := g0.trans hgW
    have d2 := hgW.cellv p2
    by_cases hlt : k < xs.length
    · obtain ⟨b, off, cs, rfl, hlen, ⟨rfl, i_field, i_low, i_high⟩, hc⟩ := hx k hlt
      have c0 := hgr.cellv (hc 0 (by simp))
      have c1 := hgr.cellv (hc 1 (by simp))
      have c2 := hgr.cellv (hc 2 (by simp))
      simp only [Nat.add_zero, List.getElem_cons_zero, List.getElem_cons_succ] at c0 c1 c2
      clear hc hlen
      have i0 : (0 : Int) ≤ (k : Int) := Int.natCast_nonneg _
      have i1 : (k : Int) < (xs.length : Int) := by omega
      have q0 := fun x : Ext wr => Ext.cell c0 x
      have q1 := fun x : Ext wr => Ext.cell c1 x
      have q2 := fun x : Ext wr => Ext.cell c2 x
      have q3 := fun x : Ext wr => Ext.cell d2 x
      cases h1 : (xs[k].field == f) with
      | false =>
        have HE : Hid (admC f v xs[k] = true) := Lib.hid (by unfold admC; rw [h1]; rfl)
        go_wp2
        refine wp_region_ext (by kernel_rfl) (by kernel_rfl) ?_
        repeat (go_big_quiet_step (fail))
        refine wpQuiet_nil ?_
        intro w1 hw1
        have g1 := Ext.out hw1
        clear hw1 q0 q1 q2 q3
        have hgW1 := hgW.trans g1
        go_wp2
        go_roundw
        case rel => exact ⟨k + 1, by omega, by go_num, hgW1, Lib.hid (below_suc (p := fun c => admC f v c = true) hn.out hlt HE.out)⟩
        case measure => simp [intOf]; omega
      | true =>
        cases h2 : inB v xs[k].low xs[k].high with
        | true =>
          have HE : Hid (admC f v xs[k] = true) := Lib.hid (by unfold admC; rw [h1, h2]; rfl)
          have H2 := Lib.hid h2
          clear h2
          go_wp2
          refine wp_region_ext (by kernel_rfl) (by kernel_rfl) ?_
          repeat (go_big_quiet_step ((go_at_call 37; exact quiet_ext (calls_b ((spec_l1In _ _ _ _).mono fun _ _ h => ⟨h.1, h.2 ▸ Gr.refl _⟩) H2.out))))
          refine wpQuiet_nil ?_
          intro w1 hw1
          have g1 := Ext.out hw1
          clear hw1 q0 q1 q2 q3
          have hgW1 := hgW.trans g1
          go_wp2
          go_roundw
          case rel => exact ⟨k + 1, by omega, by go_num, hgW1, Lib.hid (below_suc (p := fun c => admC f v c = true) hn.out hlt HE.out)⟩
          case measure => simp [intOf]; omega
        | false =>
          have HE : Hid (admB ⟨id, ten, xs, ys⟩ f v = false) := Lib.hid (all_no hlt (by unfold admC; rw [h1, h2]; rfl))
          have H2 := Lib.hid h2
          clear h2
          go_wp2
          refine wp_region_ext (by kernel_rfl) (by kernel_rfl) ?_
          repeat (go_big_quiet_step ((go_at_call 37; exact quiet_ext (calls_b ((spec_l1In _ _ _ _).mono fun _ _ h => ⟨h.1, h.2 ▸ Gr.refl _⟩) H2.out))))
          refine wpQuiet_nil ?_
          intro w1 hw1
          have g1 := Ext.out hw1
          clear hw1 q0 q1 q2 q3
          go_wp2
          go_ret
          exact ⟨ret_bool HE.out.symm, hgr.trans g1⟩
    · have HE : Hid (admB ⟨id, ten, xs, ys⟩ f v = true) := Lib.hid (all_yes (p := admC f v) (xs := xs) fun j hj => hn.out j hj (by omega))
      go_wp2_with fail
      go_ret
      exact ⟨ret_bool HE.out.symm, hgr⟩
set_option maxRecDepth 100000 in
set_option maxHeartbeats 1000000 in
theorem impl_stab (v0 : Value) (xs : List DQuery) (f v : Int) (w : World) (hv : RQueries w v0 xs) (hb : xs.length ≤ 24) :
    Calls Try.prog 59 #[v0, .int .i64 f, .int .i64 v] w fun e w' => ∃ u, e = .returned u ∧ Gr w w' ∧ PInts (In w.heap.size w'.heap.size) w' u (stabL xs f v) := by
  obtain ⟨a, cap, rfl, hl, hm, hx⟩ := hv
  go_enter Try.func59, Try.ntmps59
  go_wp2
  go_loopw [7, 13] (fun out i wr => ∃ (k : Nat) (b : Option Addr) (c : Nat) (ns : List Int), k ≤ xs.length ∧ i = .int .i64 k ∧ out = .slice b ns.length c ∧ Hid (OInts w.heap.size wr out ns) ∧ Gr w wr ∧ Hid (ns = stabTo xs f v k)) (fun _ i _ => xs.length - (intOf i).toNat)
  case atStart => exact ⟨0, _, _, [], Nat.zero_le _, rfl, rfl, Lib.hid ⟨own_empty w _ _ _ (Nat.le_refl _), fun _ h => absurd h (by simp)⟩, (Gr.refl _).alloc _, Lib.hid rfl⟩
  case round =>
    obtain ⟨k, bo, co, ns, hk, rfl, rfl, ho, hgr, hns⟩ := hrel
    by_cases hlt : k < xs.length
    · obtain ⟨b, off, cs, rfl, hlen, ⟨u_conds, u_out, rfl, i_id, i_tenant, h_conds, h_out⟩, hc⟩ := hx k hlt
      have c0 := hgr.cellv (hc 0 (by simp))
      have c1 := hgr.cellv (hc 1 (by simp))
      have c2 := hgr.cellv (hc 2 (by simp))
      have c3 := hgr.cellv (hc 3 (by simp))
      simp only [Nat.add_zero, List.getElem_cons_zero, List.getElem_cons_succ] at c0 c1 c2 c3
      clear hc hlen
      obtain ⟨ua, un, uc, rfl⟩ := RSlice.isSl h_conds
      obtain ⟨va, vn, vc, rfl⟩ := RSlice.isSl h_out
      have gb := hgr.alloc (.cells #[.int .i64 xs[k].id, .int .i64 xs[k].tenant, .slice ua un uc, .slice va vn vc] 44)
      have gq : Gr wr (wr.alloc (.cells #[.int .i64 xs[k].id, .int .i64 xs[k].tenant, .slice ua un uc, .slice va vn vc] 44)) := (Gr.refl _).alloc _
      have r0 := RSlice.mono keeps_cond gb h_conds
      cases ha : admB xs[k] f v with
      | false =>
        have HS := Lib.hid (stabTo_no hlt ha)
        have HA := Lib.hid ha
        clear ha
        go_wp2_with fail
        refine (calls_b (impl_admits xs[k] _ _ _ _ _ r0) HA.out).mono ?_
        rintro e w1 ⟨rfl, g1⟩
        have hO := Lib.hid (ho.out.mono (gq.trans g1))
        go_wp2_with fail
        go_roundw
        case rel => exact ⟨k + 1, _, _, ns, by omega, by go_num, rfl, hO, gb.trans g1, Lib.hid (by rw [HS.out, hns.out])⟩
        case measure => simp [intOf]; omega
      | true =>
        have HS := Lib.hid (stabTo_yes hlt ha)
        have HA := Lib.hid ha
        clear ha
        go_wp2_with fail
        refine (calls_b (impl_admits xs[k] _ _ _ _ _ r0) HA.out).mono ?_
        rintro e w1 ⟨rfl, g1⟩
        have hO := Lib.hid (ho.out.mono (gq.trans g1))
        have hown := hO.out.1
        have gw1 := gb.trans g1
        have hz := gw1.size
        have k0 : w1.cell? ⟨wr.heap.size, 0, none⟩ = some (.int .i64 xs[k].id) := g1.cellv (by simp [go_sem])
        have hnl : Hid (ns.length + 1 ≤ 17592186044416) := Lib.hid (by have := stabTo_len xs f v k; rw [← hns.out] at this; omega)
        go_wp2_with (at_builtin; refine push_i rfl _ _ rfl ns _ rfl rfl rfl hown hnl.out hz ?_; intro g2 cap2 w2 hown2 hb2)
        go_roundw
        case rel => exact ⟨k + 1, some ⟨g2, 0, none⟩, cap2, ns ++ [xs[k].id], by omega, by go_num, by simp, Lib.hid ⟨by simpa using hown2, fun x hx => (List.mem_append.1 hx).elim (ho.out.2 x) fun hx => by rw [List.mem_singleton.1 hx]; exact i_id⟩, gw1.trans' hb2, Lib.hid (by rw [HS.out, hns.out])⟩
        case measure => simp [intOf]; omega
    · obtain rfl : k = xs.length := by omega
      have HE : Hid (ns = stabL xs f v) := Lib.hid hns.out
      go_wp2_with fail
      go_ret
      exact ⟨_, rfl, hgr, by rw [← HE.out]; exact ho.out.priv⟩
set_option maxRecDepth 100000 in
set_option maxHeartbeats 2000000 in
theorem spec_StabSet (v0 : Value) (xs : List DQuery) (f v : Int) (w : World) (hv : RQueries w v0 xs) :
    Calls Try.prog 61 #[v0, .int .i64 f, .int .i64 v] w fun e w' => ∃ u, e = .returned u ∧ Gr w w' ∧ PInts (In w.heap.size w'.heap.size) w' u (stabSetL xs f v) := by
  have HV := Lib.hid hv
  obtain ⟨a, cap, rfl, hl, hm, hx⟩ := hv
  go_enter Try.func61, Try.ntmps61
  go_wp2
  go_loopw [7, 8] (fun out i wr => ∃ (k : Nat) (b : Option Addr) (c : Nat) (ns : List Int), k ≤ xs.length ∧ i = .int .i64 k ∧ out = .slice b ns.length c ∧ Hid (OInts w.heap.size wr out ns) ∧ Gr w wr ∧ Hid (ns = stabTo xs f v k) ∧ Hid (stabOk xs f v = false → k = 0)) (fun _ i _ => xs.length - (intOf i).toNat)
  case atStart => exact ⟨0, _, _, [], Nat.zero_le _, rfl, rfl, Lib.hid ⟨own_empty w _ _ _ (Nat.le_refl _), fun _ h => absurd h (by simp)⟩, (Gr.refl _).alloc _, Lib.hid rfl, Lib.hid fun _ => rfl⟩
  case round =>
    obtain ⟨k, bo, co, ns, hk, rfl, rfl, ho, hgr, hns, hok⟩ := hrel
    have HZ : Hid (stabOk xs f v = false → ns = stabSetL xs f v) := Lib.hid fun h => by rw [stabSetL_no h, hns.out, hok.out h]; rfl
    by_cases hlt : k < xs.length
    · have i0 : (0 : Int) ≤ (k : Int) := Int.natCast_nonneg _
      have i1 : (k : Int) < (xs.length : Int) := by omega
      cases h1 : areQueriesB xs with
      | false =>
        have HE := Lib.hid (HZ.out (stabOk_1 h1))
        have H1 := Lib.hid h1
        clear h1
        go_wp2_with fail
        refine (calls_b (spec_AreQueries _ xs _ (RSlice.mono keeps_query hgr HV.out)) H1.out).mono ?_
        rintro e w1 ⟨rfl, g1⟩
        go_wp2_with fail
        go_ret
        exact ⟨_, rfl, hgr.trans g1, by rw [← HE.out]; exact (ho.out.mono g1).priv⟩
      | true =>
        have HL := Lib.hid (areQueriesB_len h1)
        cases h2 : inB f 0 2 with
        | false =>
          have HE := Lib.hid (HZ.out (stabOk_2 h2))
          have H1 := Lib.hid h1
          have H2 := Lib.hid h2
          clear h1 h2
          go_wp2_with fail
          refine (calls_b (spec_AreQueries _ xs _ (RSlice.mono keeps_query hgr HV.out)) H1.out).mono ?_
          rintro e w1 ⟨rfl, g1⟩
          go_wp2_with fail
          refine (calls_b (spec_l1In _ _ _ _) H2.out).mono ?_
          rintro e w2 ⟨rfl, rfl⟩
          go_wp2_with fail
          go_ret
          exact ⟨_, rfl, hgr.trans g1, by rw [← HE.out]; exact (ho.out.mono g1).priv⟩
        | true =>
          cases h3 : inB v 0 99 with
          | false =>
            have HE := Lib.hid (HZ.out (stabOk_3 h3))
            have H1 := Lib.hid h1
            have H2 := Lib.hid h2
            have H3 := Lib.hid h3
            clear h1 h2 h3
            go_wp2_with fail
            refine (calls_b (spec_AreQueries _ xs _ (RSlice.mono keeps_query hgr HV.out)) H1.out).mono ?_
            rintro e w1 ⟨rfl, g1⟩
            go_wp2_with fail
            refine (calls_b (spec_l1In _ _ _ _) H2.out).mono ?_
            rintro e w2 ⟨rfl, rfl⟩
            go_wp2_with fail
            refine (calls_b (spec_l1In _ _ _ _) H3.out).mono ?_
            rintro e w2 ⟨rfl, rfl⟩
            go_wp2_with fail
            go_ret
            exact ⟨_, rfl, hgr.trans g1, by rw [← HE.out]; exact (ho.out.mono g1).priv⟩
          | true =>
            have HOK := Lib.hid (stabOk_yes h1 h2 h3)
            have H1 := Lib.hid h1
            have H2 := Lib.hid h2
            have H3 := Lib.hid h3
            clear h1 h2 h3
            obtain ⟨b, off, cs, rfl, hlen, ⟨u_conds, u_out, rfl, i_id, i_tenant, h_conds, h_out⟩, hc⟩ := hx k hlt
            have c0 := hgr.cellv (hc 0 (by simp))
            have c1 := hgr.cellv (hc 1 (by simp))
            have c2 := hgr.cellv (hc 2 (by simp))
            have c3 := hgr.cellv (hc 3 (by simp))
            simp only [Nat.add_zero, List.getElem_cons_zero, List.getElem_cons_succ] at c0 c1 c2 c3
            clear hc hlen
            cases ha : admB xs[k] f v with
            | false =>
              have HS := Lib.hid (stabTo_no hlt ha)
              have HA := Lib.hid ha
              clear ha
              go_wp2_with fail
              refine (calls_b (spec_AreQueries _ xs _ (RSlice.mono keeps_query hgr HV.out)) H1.out).mono ?_
              rintro e w1 ⟨rfl, g1⟩
              have gw1 := hgr.trans g1
              go_wp2_with fail
              refine (calls_b (spec_l1In _ _ _ _) H2.out).mono ?_
              rintro e w2 ⟨rfl, rfl⟩
              go_wp2_with fail
              refine (calls_b (spec_l1In _ _ _ _) H3.out).mono ?_
              rintro e w2 ⟨rfl, rfl⟩
              replace c0 := g1.cellv c0
              replace c1 := g1.cellv c1
              replace c2 := g1.cellv c2
              replace c3 := g1.cellv c3
              go_wp2_with fail
              refine (calls_b (spec_l5Admits xs[k] _ _ _ _ _ (RSlice.mono keeps_cond gw1 h_conds)) HA.out).mono ?_
              rintro e w2 ⟨rfl, g2⟩
              have hO := Lib.hid (ho.out.mono (g1.trans g2))
              have gw2 := gw1.trans g2
              go_wp2_with fail
              go_roundw
              case rel => exact ⟨k + 1, _, _, ns, by omega, by go_num, rfl, hO, gw2, Lib.hid (by rw [HS.out, hns.out]), Lib.hid fun h => by rw [HOK.out] at h; cases h⟩
              case measure => simp [intOf]; omega
            | true =>
              have HS := Lib.hid (stabTo_yes hlt ha)
              have HA := Lib.hid ha
              clear ha
              go_wp2_with fail
              refine (calls_b (spec_AreQueries _ xs _ (RSlice.mono keeps_query hgr HV.out)) H1.out).mono ?_
              rintro e w1 ⟨rfl, g1⟩
              have gw1 := hgr.trans g1
              go_wp2_with fail
              refine (calls_b (spec_l1In _ _ _ _) H2.out).mono ?_
              rintro e w2 ⟨rfl, rfl⟩
              go_wp2_with fail
              refine (calls_b (spec_l1In _ _ _ _) H3.out).mono ?_
              rintro e w2 ⟨rfl, rfl⟩
              replace c0 := g1.cellv c0
              replace c1 := g1.cellv c1
              replace c2 := g1.cellv c2
              replace c3 := g1.cellv c3
              go_wp2_with fail
              refine (calls_b (spec_l5Admits xs[k] _ _ _ _ _ (RSlice.mono keeps_cond gw1 h_conds)) HA.out).mono ?_
              rintro e w2 ⟨rfl, g2⟩
              have hO := Lib.hid (ho.out.mono (g1.trans g2))
              have gw2 := gw1.trans g2
              have hown := hO.out.1
              have hz := gw2.size
              replace c0 := g2.cellv c0
              have hnl : Hid (ns.length + 1 ≤ 17592186044416) := Lib.hid (by have := stabTo_len xs f v k; rw [← hns.out] at this; have := HL.out; omega)
              go_wp2_with (at_builtin; refine push_i rfl _ _ rfl ns _ rfl rfl rfl hown hnl.out hz ?_; intro g3 cap3 w3 hown3 hb3)
              go_roundw
              case rel => exact ⟨k + 1, some ⟨g3, 0, none⟩, cap3, ns ++ [xs[k].id], by omega, by go_num, by simp, Lib.hid ⟨by simpa using hown3, fun x hx => (List.mem_append.1 hx).elim (ho.out.2 x) fun hx => by rw [List.mem_singleton.1 hx]; exact i_id⟩, gw2.trans' hb3, Lib.hid (by rw [HS.out, hns.out]), Lib.hid fun h => by rw [HOK.out] at h; cases h⟩
              case measure => simp [intOf]; omega
    · obtain rfl : k = xs.length := by omega
      have HE : Hid (ns = stabSetL xs f v) := Lib.hid (by
        cases h : stabOk xs f v with
        | false => exact HZ.out h
        | true => rw [stabSetL_yes h]; exact hns.out)
      go_wp2_with fail
      go_ret
      exact ⟨_, rfl, hgr, by rw [← HE.out]; exact ho.out.priv⟩
theorem spec_StabSet_rd (v0 : Value) (xs : List DQuery) (f v : Int) (w : World) (hv : RQueries w v0 xs) :
    Calls Try.prog 61 #[v0, .int .i64 f, .int .i64 v] w fun e w' => ∃ u, e = .returned u ∧ RInts w' u (stabSetL xs f v) ∧ Gr w w' := (spec_StabSet v0 xs f v w hv).mono fun _ _ ⟨u, h1, h2, h3⟩ => ⟨u, h1, rd_pints h3, h2⟩
end Go.Proofs.Ytcdcpfcmhmhdjaa
