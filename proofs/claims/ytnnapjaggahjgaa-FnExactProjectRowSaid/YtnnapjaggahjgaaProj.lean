/- ProjectRow: the plain law and the walks. -/
import Derived.Test.YtnnapjaggahjgaaMatch
import Derived.Test.YtnnapjaggahjgaaSpread
namespace Go.Proofs.Ytnnapjaggahjgaa
open Go.ChangeShapes Go.WideShapes Go.RowKit Go.Deep
/-- append(out, n), integers, inside a region that draws its order. -/
theorem step_push_i {ops : Array Oper} {o : Oper} {a : Act} {K : Act → World → Prop} {Q : Exit → Act → World → Prop} {E : Prop} {w wr : World} (hgd : o.guard = none) (s x : Operand)
    (ho : o.op = .call { callee := .builtin .append, args := #[s, x], argTypes := #[34, 34] }) {base : Nat} {v : Value} (ns : List Int) (y : Int)
    (hs : a.eval s = v) (hx : a.eval x = .slice (some ⟨wr.heap.size, 0, none⟩) 1 1) (hw : w = (wr.alloc (.cells #[.int .i64 y] 3)).drew) (hown : wr.ownsRow base 3 1 v ns.length (ns.map (Value.int .i64)))
    (hn : ns.length + 1 ≤ 17592186044416) (hbase : base ≤ wr.heap.size)
    (h : ∀ g cap w', w'.ownsRow base 3 1 (.slice (some ⟨g, 0, none⟩) (ns.length + 1) cap) (ns.length + 1) ((ns ++ [y]).map (Value.int .i64)) → Below base wr w' → K (a.put o.dst (.slice (some ⟨g, 0, none⟩) (ns.length + 1) cap)) w') :
    if Region.wanted o (yielded ops a.tmps) = true then Oper.wp Try.prog o a w K Q else E :=
  step_push 34 3 1 8 Try.underlying34 (z := .int .i64 0) (by kernel_rfl) rfl (by decide) (by decide) hgd s x ho 1 (by decide) [.int .i64 y] hs hx hw hown rfl (by simp [Value.oneCell']) (by omega) hbase fun g cap w' h1 h2 _ _ => h g cap w' (by simpa using h1) h2
def projL (q : DQuery) (r : DRow) : List Int := if isQueryB q && isRowB r then q.out.map (fun f => r.vals.getD f.toNat 0) else []
def projTo (q : DQuery) (r : DRow) (k : Nat) : List Int := (q.out.take k).map fun f => r.vals.getD f.toNat 0
theorem projTo_succ {q : DQuery} {r : DRow} {k F : Nat} (h : k < q.out.length) (hF : q.out[k] = (F : Int)) (hl : F < r.vals.length) : projTo q r (k + 1) = projTo q r k ++ [r.vals[F]] := by
  unfold projTo
  rw [List.take_succ_eq_append_getElem h, List.map_append, List.map_singleton, hF, Int.toNat_natCast, getD_lt hl]
theorem projTo_len (q : DQuery) (r : DRow) (k : Nat) : (projTo q r k).length ≤ k := by unfold projTo; simp; omega
theorem projL_yes {q : DQuery} {r : DRow} (h1 : isQueryB q = true) (h2 : isRowB r = true) : projL q r = projTo q r q.out.length := by unfold projL projTo; rw [h1, h2, List.take_length]; rfl
theorem projL_no1 {q : DQuery} {r : DRow} (h : isQueryB q = false) : projL q r = [] := by unfold projL; rw [h]; rfl
theorem projL_no2 {q : DQuery} {r : DRow} (h : isRowB r = false) : projL q r = [] := by unfold projL; rw [h, Bool.and_false]; rfl
theorem projL_small (q : DQuery) (r : DRow) : sumT cntI (projL q r) ≤ 9 := by
  have := cnt_IntS (projL q r)
  unfold projL at *
  split
  · rename_i h
    rw [Bool.and_eq_true] at h
    have h3 := (isQueryB_parts h.1).2.2.2.2.2
    rw [if_pos (by rw [h.1, h.2]; rfl)] at this
    simp only [List.length_map] at this
    omega
  · simp [sumT]
set_option maxRecDepth 100000 in
set_option maxHeartbeats 1000000 in
theorem impl_ProjectRow (q : DQuery) (u u' : Value) (r : DRow) (t : Value) (w : World) (hu : RConds w u q.conds) (hu' : RInts w u' q.out) (ht : RInts w t r.vals) :
    Calls Try.prog 25 #[.agg #[.int .i64 q.id, .int .i64 q.tenant, u, u'], .agg #[.int .i64 r.id, t]] w fun e w' => ∃ v, e = .returned v ∧ Gr w w' ∧ PInts (In w.heap.size w'.heap.size) w' v (projL q r) := by
  obtain ⟨a, cap, rfl, hl, hm, hx⟩ := ht.open
  obtain ⟨ua, un, uc, rfl⟩ := RSlice.isSl hu
  have HU' := Lib.hid hu'
  obtain ⟨va, vc, rfl, vl, vm, vx⟩ := hu'.open
  have HU := Lib.hid hu
  have HX := Lib.hid ht
  clear ht hu hu'
  have g0 : Gr w (((w.alloc (.cells #[.int .i64 q.id, .int .i64 q.tenant, .slice ua un uc, .slice va q.out.length vc] 44)).alloc (.cells #[.int .i64 r.id, .slice a r.vals.length cap] 46)).alloc (.cells #[] 3)) := (((Gr.refl w).alloc _).alloc _).alloc _
  have ho0 : OInts (w.heap.size + 2) (((w.alloc (.cells #[.int .i64 q.id, .int .i64 q.tenant, .slice ua un uc, .slice va q.out.length vc] 44)).alloc (.cells #[.int .i64 r.id, .slice a r.vals.length cap] 46)).alloc (.cells #[] 3)) (.slice (some ⟨w.heap.size + 1 + 1, 0, none⟩) 0 0) [] := by
    have h := own_empty ((w.alloc (.cells #[.int .i64 q.id, .int .i64 q.tenant, .slice ua un uc, .slice va q.out.length vc] 44)).alloc (.cells #[.int .i64 r.id, .slice a r.vals.length cap] 46)) 3 1 (w.heap.size + 2) (by simp)
    have e : ((w.alloc (.cells #[.int .i64 q.id, .int .i64 q.tenant, .slice ua un uc, .slice va q.out.length vc] 44)).alloc (.cells #[.int .i64 r.id, .slice a r.vals.length cap] 46)).heap.size = w.heap.size + 1 + 1 := by simp
    rw [e] at h
    exact ⟨h, fun _ h => absurd h (by simp)⟩
  have HO0 := Lib.hid ho0
  clear ho0
  cases h1 : isQueryB q with
  | false =>
    have HE : Hid (projL q r = []) := Lib.hid (projL_no1 h1)
    have H1 := Lib.hid h1
    clear h1
    go_enter Try.func25, Try.ntmps25
    go_wp2_with fail
    refine (calls_b (impl_IsQuery q _ _ _ (RSlice.mono keeps_cond g0 HU.out) (RSlice.mono keeps_int g0 HU'.out)) H1.out).mono ?_
    rintro e w1 ⟨rfl, g1⟩
    have gw1 := g0.trans g1
    go_wp2_with fail
    go_ret
    exact ⟨_, rfl, gw1, by rw [HE.out]; exact (HO0.out.mono g1).priv.wide (by omega) (Nat.le_refl _)⟩
  | true =>
    cases h2 : isRowB r with
    | false =>
      have HE : Hid (projL q r = []) := Lib.hid (projL_no2 h2)
      have H1 := Lib.hid h1
      have H2 := Lib.hid h2
      clear h1 h2
      go_enter Try.func25, Try.ntmps25
      go_wp2_with fail
      refine (calls_b (impl_IsQuery q _ _ _ (RSlice.mono keeps_cond g0 HU.out) (RSlice.mono keeps_int g0 HU'.out)) H1.out).mono ?_
      rintro e w1 ⟨rfl, g1⟩
      have gw1 := g0.trans g1
      have k0 : w1.cell? ⟨w.heap.size + 1, 0, none⟩ = some (.int .i64 r.id) := g1.cellv (by simp [go_sem])
      have k1 : w1.cell? ⟨w.heap.size + 1, 1, none⟩ = some (.slice a r.vals.length cap) := g1.cellv (by simp [go_sem])
      go_wp2_with fail
      refine (calls_b (impl_IsRow r _ _ (HX.out.mono gw1)) H2.out).mono ?_
      rintro e w2 ⟨rfl, g2⟩
      have gw2 := gw1.trans g2
      have g12 := g1.trans g2
      go_wp2_with fail
      go_ret
      exact ⟨_, rfl, gw2, by rw [HE.out]; exact (HO0.out.mono g12).priv.wide (by omega) (Nat.le_refl _)⟩
    | true =>
      have HV3 := Lib.hid (isRowB_parts h2).2.2
      have HQP := Lib.hid (isQueryB_parts h1)
      have HQ := Lib.hid h1
      have HR := Lib.hid h2
      have HE := Lib.hid (projL_yes h1 h2)
      clear h1 h2
      go_enter Try.func25, Try.ntmps25
      go_wp2_with fail
      refine (calls_b (impl_IsQuery q _ _ _ (RSlice.mono keeps_cond g0 HU.out) (RSlice.mono keeps_int g0 HU'.out)) HQ.out).mono ?_
      rintro e w1 ⟨rfl, g1⟩
      have gw1 := g0.trans g1
      have k0 : w1.cell? ⟨w.heap.size + 1, 0, none⟩ = some (.int .i64 r.id) := g1.cellv (by simp [go_sem])
      have k1 : w1.cell? ⟨w.heap.size + 1, 1, none⟩ = some (.slice a r.vals.length cap) := g1.cellv (by simp [go_sem])
      have p3 : w1.cell? ⟨w.heap.size, 3, none⟩ = some (.slice va q.out.length vc) := g1.cellv (by simp [go_sem])
      go_wp2_with fail
      refine (calls_b (impl_IsRow r _ _ (HX.out.mono gw1)) HR.out).mono ?_
      rintro e w2 ⟨rfl, g2⟩
      have gw2 := gw1.trans g2
      have HO2 := Lib.hid (HO0.out.mono (g1.trans g2))
      replace k1 := g2.cellv k1
      replace p3 := g2.cellv p3
      have hz2 : w.heap.size + 2 ≤ w2.heap.size := by have := g1.size; have := g2.size; simp at *; omega
      clear k0 g1 g2
      go_wp2
      go_loopw [5, 21] (fun out i wr => ∃ (k : Nat) (b : Option Addr) (c : Nat) (ns : List Int), k ≤ q.out.length ∧ i = .int .i64 k ∧ out = .slice b ns.length c ∧ Hid (OInts (w.heap.size + 2) wr out ns) ∧ Below (w.heap.size + 2) w2 wr ∧ Hid (ns = projTo q r k)) (fun _ i _ => q.out.length - (intOf i).toNat)
      case atStart => exact ⟨0, _, _, [], Nat.zero_le _, rfl, rfl, HO2, Below.refl _ _, Lib.hid rfl⟩
      case round =>
        obtain ⟨k, bo, co, ns, hk, rfl, rfl, ho, hB, hns⟩ := hrel
        have gw : Gr w wr := gw2.trans' (hB.mono (by omega) : Below w.heap.size w2 wr)
        by_cases hlt : k < q.out.length
        · obtain ⟨hq1, hq2, _, hqo, _, _⟩ := HQP.out
          obtain ⟨F, hF⟩ := Int.eq_ofNat_of_zero_le (hqo k hlt).1
          have hF3 : F < r.vals.length := by have := (hqo k hlt).2; have := HV3.out; omega
          obtain ⟨b, off, rfl, hc, hi⟩ := hx F hF3
          obtain ⟨b', off', rfl, hc', _⟩ := vx k hlt
          rw [hF] at hc'
          have d0 := gw.cellv hc
          have d1 := gw.cellv hc'
          have e1 := (hB.cell (p := ⟨w.heap.size + 1, 1, none⟩) (by simp)).trans k1
          have j0 : (0 : Int) ≤ (F : Int) := Int.natCast_nonneg _
          have j1 : (F : Int) < (r.vals.length : Int) := by omega
          have HS := Lib.hid (projTo_succ hlt hF hF3)
          have hnl : Hid (ns.length + 1 ≤ 17592186044416) := Lib.hid (by have := projTo_len q r k; rw [← hns.out] at this; have := HQP.out.2.2.2.2.2; omega)
          have hown := ho.out.1
          have hzr : w.heap.size + 2 ≤ wr.heap.size := Nat.le_trans hz2 hB.size
          clear hq1 hq2 hqo
          go_wp2_with (at_builtin; refine push_i rfl _ _ rfl ns _ rfl rfl rfl hown hnl.out hzr ?_; intro g1 cap1 w3 hown1 hb1)
          go_roundw
          case rel => exact ⟨k + 1, some ⟨g1, 0, none⟩, cap1, ns ++ [r.vals[F]], by omega, by go_num, by simp, Lib.hid ⟨by simpa using hown1, fun x hx => (List.mem_append.1 hx).elim (ho.out.2 x) fun hx => by rw [List.mem_singleton.1 hx]; exact hi⟩, hB.trans hb1, Lib.hid (by rw [HS.out, hns.out])⟩
          case measure => simp [intOf]; omega
        · obtain rfl : k = q.out.length := by omega
          have HN : Hid (ns = projL q r) := Lib.hid (by rw [HE.out, hns.out])
          go_wp2_with fail
          go_ret
          exact ⟨_, rfl, gw, by rw [← HN.out]; exact ho.out.priv.wide (by omega) (Nat.le_refl _)⟩
set_option maxRecDepth 100000 in
set_option maxHeartbeats 2000000 in
theorem spec_ProjectRow (q : DQuery) (u u' : Value) (r : DRow) (t : Value) (w : World) (hu : RConds w u q.conds) (hu' : RInts w u' q.out) (ht : RInts w t r.vals) :
    Calls Try.prog 22 #[.agg #[.int .i64 q.id, .int .i64 q.tenant, u, u'], .agg #[.int .i64 r.id, t]] w fun e w' => ∃ v, e = .returned v ∧ RInts w' v (projL q r) ∧ Gr w w' := by
  obtain ⟨a, cap, rfl, hl, hm, hx⟩ := ht.open
  obtain ⟨ua, un, uc, rfl⟩ := RSlice.isSl hu
  have HU' := Lib.hid hu'
  obtain ⟨va, vc, rfl, vl, vm, vx⟩ := hu'.open
  have HU := Lib.hid hu
  have HX := Lib.hid ht
  clear ht hu hu'
  have g0 : Gr w (((w.alloc (.cells #[.int .i64 q.id, .int .i64 q.tenant, .slice ua un uc, .slice va q.out.length vc] 44)).alloc (.cells #[.int .i64 r.id, .slice a r.vals.length cap] 46)).alloc (.cells #[] 3)) := (((Gr.refl w).alloc _).alloc _).alloc _
  have ho0 : OInts (w.heap.size + 2) (((w.alloc (.cells #[.int .i64 q.id, .int .i64 q.tenant, .slice ua un uc, .slice va q.out.length vc] 44)).alloc (.cells #[.int .i64 r.id, .slice a r.vals.length cap] 46)).alloc (.cells #[] 3)) (.slice (some ⟨w.heap.size + 1 + 1, 0, none⟩) 0 0) [] := by
    have h := own_empty ((w.alloc (.cells #[.int .i64 q.id, .int .i64 q.tenant, .slice ua un uc, .slice va q.out.length vc] 44)).alloc (.cells #[.int .i64 r.id, .slice a r.vals.length cap] 46)) 3 1 (w.heap.size + 2) (by simp)
    have e : ((w.alloc (.cells #[.int .i64 q.id, .int .i64 q.tenant, .slice ua un uc, .slice va q.out.length vc] 44)).alloc (.cells #[.int .i64 r.id, .slice a r.vals.length cap] 46)).heap.size = w.heap.size + 1 + 1 := by simp
    rw [e] at h
    exact ⟨h, fun _ h => absurd h (by simp)⟩
  have HO0 := Lib.hid ho0
  clear ho0
  have p0 : (((w.alloc (.cells #[.int .i64 q.id, .int .i64 q.tenant, .slice ua un uc, .slice va q.out.length vc] 44)).alloc (.cells #[.int .i64 r.id, .slice a r.vals.length cap] 46)).alloc (.cells #[] 3)).cell? ⟨w.heap.size, 0, none⟩ = some (.int .i64 q.id) := by simp [go_sem]
  have p1 : (((w.alloc (.cells #[.int .i64 q.id, .int .i64 q.tenant, .slice ua un uc, .slice va q.out.length vc] 44)).alloc (.cells #[.int .i64 r.id, .slice a r.vals.length cap] 46)).alloc (.cells #[] 3)).cell? ⟨w.heap.size, 1, none⟩ = some (.int .i64 q.tenant) := by simp [go_sem]
  have p2 : (((w.alloc (.cells #[.int .i64 q.id, .int .i64 q.tenant, .slice ua un uc, .slice va q.out.length vc] 44)).alloc (.cells #[.int .i64 r.id, .slice a r.vals.length cap] 46)).alloc (.cells #[] 3)).cell? ⟨w.heap.size, 2, none⟩ = some (.slice ua un uc) := by simp [go_sem]
  have p3 : (((w.alloc (.cells #[.int .i64 q.id, .int .i64 q.tenant, .slice ua un uc, .slice va q.out.length vc] 44)).alloc (.cells #[.int .i64 r.id, .slice a r.vals.length cap] 46)).alloc (.cells #[] 3)).cell? ⟨w.heap.size, 3, none⟩ = some (.slice va q.out.length vc) := by simp [go_sem]
  have k0 : (((w.alloc (.cells #[.int .i64 q.id, .int .i64 q.tenant, .slice ua un uc, .slice va q.out.length vc] 44)).alloc (.cells #[.int .i64 r.id, .slice a r.vals.length cap] 46)).alloc (.cells #[] 3)).cell? ⟨w.heap.size + 1, 0, none⟩ = some (.int .i64 r.id) := by simp [go_sem]
  have k1 : (((w.alloc (.cells #[.int .i64 q.id, .int .i64 q.tenant, .slice ua un uc, .slice va q.out.length vc] 44)).alloc (.cells #[.int .i64 r.id, .slice a r.vals.length cap] 46)).alloc (.cells #[] 3)).cell? ⟨w.heap.size + 1, 1, none⟩ = some (.slice a r.vals.length cap) := by simp [go_sem]
  have hz0 : w.heap.size + 2 ≤ (((w.alloc (.cells #[.int .i64 q.id, .int .i64 q.tenant, .slice ua un uc, .slice va q.out.length vc] 44)).alloc (.cells #[.int .i64 r.id, .slice a r.vals.length cap] 46)).alloc (.cells #[] 3)).heap.size := by simp
  go_enter Try.func22, Try.ntmps22
  go_wp2
  go_loopw [5, 6] (fun out i wr => ∃ (k : Nat) (b : Option Addr) (c : Nat) (ns : List Int), k ≤ q.out.length ∧ i = .int .i64 k ∧ out = .slice b ns.length c ∧ Hid (OInts (w.heap.size + 2) wr out ns) ∧ Below (w.heap.size + 2) (((w.alloc (.cells #[.int .i64 q.id, .int .i64 q.tenant, .slice ua un uc, .slice va q.out.length vc] 44)).alloc (.cells #[.int .i64 r.id, .slice a r.vals.length cap] 46)).alloc (.cells #[] 3)) wr ∧ Hid (ns = projTo q r k) ∧ Hid (0 < k → isQueryB q = true ∧ isRowB r = true)) (fun _ i _ => q.out.length - (intOf i).toNat)
  case atStart => exact ⟨0, _, _, [], Nat.zero_le _, rfl, rfl, HO0, Below.refl _ _, Lib.hid rfl, Lib.hid fun h => absurd h (Nat.lt_irrefl _)⟩
  case round =>
    obtain ⟨k, bo, co, ns, hk, rfl, rfl, ho, hB, hns, hok⟩ := hrel
    have gw : Gr w wr := g0.trans' (hB.mono (by omega) : Below w.heap.size _ wr)
    have d0 := (hB.cell (p := ⟨w.heap.size, 0, none⟩) (by simp)).trans p0
    have d1 := (hB.cell (p := ⟨w.heap.size, 1, none⟩) (by simp)).trans p1
    have d2 := (hB.cell (p := ⟨w.heap.size, 2, none⟩) (by simp)).trans p2
    have d3 := (hB.cell (p := ⟨w.heap.size, 3, none⟩) (by simp)).trans p3
    have e0 := (hB.cell (p := ⟨w.heap.size + 1, 0, none⟩) (by simp)).trans k0
    have e1 := (hB.cell (p := ⟨w.heap.size + 1, 1, none⟩) (by simp)).trans k1
    by_cases hlt : k < q.out.length
    · have i0 : (0 : Int) ≤ (k : Int) := Int.natCast_nonneg _
      have i1 : (k : Int) < (q.out.length : Int) := by omega
      cases h1 : isRowB r with
      | false =>
        have HE : Hid (ns = projL q r) := Lib.hid (by
          rw [projL_no2 h1, hns.out]
          have : k = 0 := by
            rcases Nat.eq_zero_or_pos k with h | h
            · exact h
            · have := (hok.out h).2; rw [h1] at this; cases this
          subst this; rfl)
        have H1 := Lib.hid h1
        clear h1
        go_wp2_with fail
        refine (calls_b (spec_IsRow r _ _ (HX.out.mono gw)) H1.out).mono ?_
        rintro e w1 ⟨rfl, g1⟩
        go_wp2_with fail
        go_ret
        exact ⟨_, rfl, by rw [← HE.out]; exact (ho.out.mono g1).reads, gw.trans g1⟩
      | true =>
        cases h2 : isQueryB q with
        | false =>
          have HE : Hid (ns = projL q r) := Lib.hid (by
            rw [projL_no1 h2, hns.out]
            have : k = 0 := by
              rcases Nat.eq_zero_or_pos k with h | h
              · exact h
              · have := (hok.out h).1; rw [h2] at this; cases this
            subst this; rfl)
          have H1 := Lib.hid h1
          have H2 := Lib.hid h2
          clear h1 h2
          go_wp2_with fail
          refine (calls_b (spec_IsRow r _ _ (HX.out.mono gw)) H1.out).mono ?_
          rintro e w1 ⟨rfl, g1⟩
          have gw1 := gw.trans g1
          have f0 := g1.cellv d0
          have f1 := g1.cellv d1
          have f2 := g1.cellv d2
          have f3 := g1.cellv d3
          go_wp2_with fail
          refine (calls_b (spec_IsQuery q _ _ _ (RSlice.mono keeps_cond gw1 HU.out) (HU'.out.mono gw1)) H2.out).mono ?_
          rintro e w2 ⟨rfl, g2⟩
          have g12 := g1.trans g2
          go_wp2_with fail
          go_ret
          exact ⟨_, rfl, by rw [← HE.out]; exact (ho.out.mono g12).reads, gw1.trans g2⟩
        | true =>
          have hv3 := (isRowB_parts h1).2.2
          have hqp := isQueryB_parts h2
          obtain ⟨F, hF⟩ := Int.eq_ofNat_of_zero_le (hqp.2.2.2.1 k hlt).1
          have hF3 : F < r.vals.length := by have := (hqp.2.2.2.1 k hlt).2; omega
          obtain ⟨b, off, rfl, hc, hi⟩ := hx F hF3
          obtain ⟨b', off', rfl, hc', _⟩ := vx k hlt
          rw [hF] at hc'
          have j0 : (0 : Int) ≤ (F : Int) := Int.natCast_nonneg _
          have j1 : (F : Int) < (r.vals.length : Int) := by omega
          have hlb := World.block_lt_of_cell? w _ hc
          have hlb' := World.block_lt_of_cell? w _ hc'
          dsimp only at hlb hlb'
          have HS := Lib.hid (projTo_succ hlt hF hF3)
          have HNL : Hid (ns.length + 1 ≤ 17592186044416) := Lib.hid (by have := projTo_len q r k; rw [← hns.out] at this; have := hqp.2.2.2.2.2; omega)
          have H1 := Lib.hid h1
          have H2 := Lib.hid h2
          clear h1 h2 hv3 hqp
          go_wp2_with fail
          refine (calls_b (spec_IsRow r _ _ (HX.out.mono gw)) H1.out).mono ?_
          rintro e w1 ⟨rfl, g1⟩
          have gw1 := gw.trans g1
          have f0 := g1.cellv d0
          have f1 := g1.cellv d1
          have f2 := g1.cellv d2
          have f3 := g1.cellv d3
          go_wp2_with fail
          refine (calls_b (spec_IsQuery q _ _ _ (RSlice.mono keeps_cond gw1 HU.out) (HU'.out.mono gw1)) H2.out).mono ?_
          rintro e w2 ⟨rfl, g2⟩
          have gw2 := gw1.trans g2
          have g12 := g1.trans g2
          have hB2 : Below (w.heap.size + 2) _ w2 := hB.trans (g12.mono (by have := hB.size; simp at this; omega))
          have c0 := gw2.cellv hc
          have c1 := gw2.cellv hc'
          have c2 := g12.cellv d3
          have c3 := g12.cellv e1
          have hown := (ho.out.mono g12).1
          have hz2 : w.heap.size + 2 ≤ w2.heap.size := by have := hB2.size; simp at this; omega
          have HB2 := Lib.hid hB2
          clear f0 f1 f2 f3 d0 d1 d2 d3 e0 e1 p0 p1 p2 p3 k0 k1 hB2 hz0
          go_wp2
          go_region_held3 (fun w' => w'.cell? ⟨w.heap.size, 3, none⟩ = some (.slice (some ⟨b', off', none⟩) q.out.length vc) ∧ w'.cell? ⟨w.heap.size + 1, 1, none⟩ = some (.slice (some ⟨b, off, none⟩) r.vals.length cap) ∧ w'.cell? ⟨b', off' + k, none⟩ = some (.int .i64 (F : Int)) ∧ w'.cell? ⟨b, off + F, none⟩ = some (.int .i64 r.vals[F])) (first | exact ⟨c2, c3, c1, c0⟩ | exact ⟨(((Gr.refl w2).alloc _).drew).cellv c2, (((Gr.refl w2).alloc _).drew).cellv c3, (((Gr.refl w2).alloc _).drew).cellv c1, (((Gr.refl w2).alloc _).drew).cellv c0⟩ | exact ⟨(hb3.cell (by simp)).trans c2, (hb3.cell (by simp)).trans c3, (hb3.cell (by dsimp only; omega)).trans c1, (hb3.cell (by dsimp only; omega)).trans c0⟩) ((refine step_push_i rfl _ _ rfl ns _ rfl rfl rfl hown HNL.out hz2 ?_; intro g3 cap3 w3 hown3 hb3))
          all_goals
            have hO3 : Hid (OInts (w.heap.size + 2) w3 (.slice (some ⟨g3, 0, none⟩) (ns ++ [r.vals[F]]).length cap3) (ns ++ [r.vals[F]])) := Lib.hid ⟨by simpa using hown3, fun x hx => (List.mem_append.1 hx).elim (ho.out.2 x) fun hx => by rw [List.mem_singleton.1 hx]; exact hi⟩
            clear hown3
            go_wp2
            go_roundw
            case rel => exact ⟨k + 1, some ⟨g3, 0, none⟩, cap3, ns ++ [r.vals[F]], by omega, by go_num, by simp, by simpa using hO3, HB2.out.trans hb3, Lib.hid (by rw [HS.out, hns.out]), Lib.hid fun _ => by first | exact ⟨H2.out, H1.out⟩ | simp⟩
            case measure => simp [intOf]; omega
    · obtain rfl : k = q.out.length := by omega
      have HE : Hid (ns = projL q r) := Lib.hid (by
        by_cases hb : isQueryB q = true ∧ isRowB r = true
        · rw [projL_yes hb.1 hb.2, hns.out]
        · have h0 : q.out.length = 0 := by
            rcases Nat.eq_zero_or_pos q.out.length with h | h
            · exact h
            · exact absurd (hok.out h) hb
          rw [hns.out, h0]
          cases h1 : isQueryB q with
          | false => rw [projL_no1 h1]; rfl
          | true =>
            cases h2 : isRowB r with
            | false => rw [projL_no2 h2]; rfl
            | true => exact absurd ⟨h1, h2⟩ hb)
      go_wp2_with fail
      go_ret
      exact ⟨_, rfl, by rw [← HE.out]; exact ho.out.reads, gw⟩
end Go.Proofs.Ytnnapjaggahjgaa
