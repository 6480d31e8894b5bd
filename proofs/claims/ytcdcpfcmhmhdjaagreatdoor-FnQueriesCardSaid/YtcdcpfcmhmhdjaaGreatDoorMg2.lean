/- ProjectRow: the plain law and the walks. -/
import Derived.Test.YtcdcpfcmhmhdjaaGreatDoorMg1
import Derived.Test.YtcdcpfcmhmhdjaaGreatDoorSpread
import Derived.Sort.LotA
namespace Go.Proofs.YtcdcpfcmhmhdjaaGreatDoor
open Go.ChangeShapes Go.WideShapes Go.RowKit Go.Deep
/-- append(out, n), integers, inside a region that draws its order. -/
theorem step_push_i {ops : Array Oper} {o : Oper} {a : Act} {K : Act → World → Prop} {Q : Exit → Act → World → Prop} {E : Prop} {w wr : World} (hgd : o.guard = none) (s x : Operand)
    (ho : o.op = .call { callee := .builtin .append, args := #[s, x], argTypes := #[25, 25] }) {base : Nat} {v : Value} (ns : List Int) (y : Int)
    (hs : a.eval s = v) (hx : a.eval x = .slice (some ⟨wr.heap.size, 0, none⟩) 1 1) (hw : w = (wr.alloc (.cells #[.int .i64 y] 3)).drew) (hown : wr.ownsRow base 3 1 v ns.length (ns.map (Value.int .i64)))
    (hn : ns.length + 1 ≤ 17592186044416) (hbase : base ≤ wr.heap.size)
    (h : ∀ g cap w', w'.ownsRow base 3 1 (.slice (some ⟨g, 0, none⟩) (ns.length + 1) cap) (ns.length + 1) ((ns ++ [y]).map (Value.int .i64)) → Below base wr w' → K (a.put o.dst (.slice (some ⟨g, 0, none⟩) (ns.length + 1) cap)) w') :
    if Region.wanted o (yielded ops a.tmps) = true then Oper.wp Tryz.prog o a w K Q else E :=
  step_push 25 3 1 8 Tryz.underlying25 (z := .int .i64 0) (by kernel_rfl) rfl (by decide) (by decide) hgd s x ho 1 (by decide) [.int .i64 y] hs hx hw hown rfl (by simp [Value.oneCell']) (by omega) hbase fun g cap w' h1 h2 _ _ => h g cap w' (by simpa using h1) h2
def projL (q : DQuery) (r : DRow) : List Int := if isQueryB q && isRowB r then q.out.map (fun f => r.vals.getD f.toNat 0) else []
def projTo (q : DQuery) (r : DRow) (k : Nat) : List Int := (q.out.take k).map fun f => r.vals.getD f.toNat 0
theorem projTo_succ {q : DQuery} {r : DRow} {k F : Nat} (h : k < q.out.length) (hF : q.out[k] = (F : Int)) (hl : F < r.vals.length) : projTo q r (k + 1) = projTo q r k ++ [r.vals[F]] := by
  unfold projTo
  rw [List.take_succ_eq_append_getElem h, List.map_append, List.map_singleton, hF, Int.toNat_natCast, getD_lt hl]
theorem projTo_len (q : DQuery) (r : DRow) (k : Nat) : (projTo q r k).length ≤ k := by unfold projTo; simp; omega
theorem projL_yes {q : DQuery} {r : DRow} (h1 : isQueryB q = true) (h2 : isRowB r = true) : projL q r = projTo q r q.out.length := by unfold projL projTo; rw [h1, h2, List.take_length]; rfl
theorem projL_no1 {q : DQuery} {r : DRow} (h : isQueryB q = false) : projL q r = [] := by unfold projL; rw [h]; rfl
theorem projL_no2 {q : DQuery} {r : DRow} (h : isRowB r = false) : projL q r = [] := by unfold projL; rw [h, Bool.and_false]; rfl
theorem projL_small (q : DQuery) (r : DRow) : sumT cntI (projL q r) ≤ 9 := by
  have := cnt_IntS (projL q r)
  unfold projL at *
  split
  · rename_i h
    rw [Bool.and_eq_true] at h
    have h3 := (isQueryB_parts h.1).2.2.2.2.2
    rw [if_pos (by rw [h.1, h.2]; rfl)] at this
    simp only [List.length_map] at this
    omega
  · simp [sumT]
set_option maxRecDepth 100000 in
set_option maxHeartbeats 1000000 in
theorem impl_ProjectRow (q : DQuery) (u u' : Value) (r : DRow) (t : Value) (w : World) (hu : RConds w u q.conds) (hu' : RInts w u' q.out) (ht : RInts w t r.vals) :
    Calls Tryz.prog 17 #[.agg #[.int .i64 q.id, .int .i64 q.tenant, u, u'], .agg #[.int .i64 r.id, t]] w fun e w' => ∃ v, e = .returned v ∧ Gr w w' ∧ PInts (In w.heap.size w'.heap.size) w' v (projL q r) := by
  obtain ⟨a, cap, rfl, hl, hm, hx⟩ := ht.open
  obtain ⟨ua, un, uc, rfl⟩ := RSlice.isSl hu
  have HU' := Lib.hid hu'
  obtain ⟨va, vc, rfl, vl, vm, vx⟩ := hu'.open
  have HU := Lib.hid hu
  have HX := Lib.hid ht
  clear ht hu hu'
  have g0 : Gr w (((w.alloc (.cells #[.int .i64 q.id, .int .i64 q.tenant, .slice ua un uc, .slice va q.out.length vc] 27)).alloc (.cells #[.int .i64 r.id, .slice a r.vals.length cap] 36)).alloc (.cells #[] 3)) := (((Gr.refl w).alloc _).alloc _).alloc _
  have ho0 : OInts (w.heap.size + 2) (((w.alloc (.cells #[.int .i64 q.id, .int .i64 q.tenant, .slice ua un uc, .slice va q.out.length vc] 27)).alloc (.cells #[.int .i64 r.id, .slice a r.vals.length cap] 36)).alloc (.cells #[] 3)) (.slice (some ⟨w.heap.size + 1 + 1, 0, none⟩) 0 0) [] := by
    have h := own_empty ((w.alloc (.cells #[.int .i64 q.id, .int .i64 q.tenant, .slice ua un uc, .slice va q.out.length vc] 27)).alloc (.cells #[.int .i64 r.id, .slice a r.vals.length cap] 36)) 3 1 (w.heap.size + 2) (by simp)
    have e : ((w.alloc (.cells #[.int .i64 q.id, .int .i64 q.tenant, .slice ua un uc, .slice va q.out.length vc] 27)).alloc (.cells #[.int .i64 r.id, .slice a r.vals.length cap] 36)).heap.size = w.heap.size + 1 + 1 := by simp
    rw [e] at h
    exact ⟨h, fun _ h => absurd h (by simp)⟩
  have HO0 := Lib.hid ho0
  clear ho0
  cases h1 : isQueryB q with
  | false =>
    have HE : Hid (projL q r = []) := Lib.hid (projL_no1 h1)
    have H1 := Lib.hid h1
    clear h1
    go_enter Tryz.func17, Tryz.ntmps17
    go_wp2_with fail
    refine (calls_b (impl_IsQuery q _ _ _ (RSlice.mono keeps_cond g0 HU.out) (RSlice.mono keeps_int g0 HU'.out)) H1.out).mono ?_
    rintro e w1 ⟨rfl, g1⟩
    have gw1 := g0.trans g1
    go_wp2_with fail
    go_ret
    exact ⟨_, rfl, gw1, by rw [HE.out]; exact (HO0.out.mono g1).priv.wide (by omega) (Nat.le_refl _)⟩
  | true =>
    cases h2 : isRowB r with
    | false =>
      have HE : Hid (projL q r = []) := Lib.hid (projL_no2 h2)
      have H1 := Lib.hid h1
      have H2 := Lib.hid h2
      clear h1 h2
      go_enter Tryz.func17, Tryz.ntmps17
      go_wp2_with fail
      refine (calls_b (impl_IsQuery q _ _ _ (RSlice.mono keeps_cond g0 HU.out) (RSlice.mono keeps_int g0 HU'.out)) H1.out).mono ?_
      rintro e w1 ⟨rfl, g1⟩
      have gw1 := g0.trans g1
      have k0 : w1.cell? ⟨w.heap.size + 1, 0, none⟩ = some (.int .i64 r.id) := g1.cellv (by simp [go_sem])
      have k1 : w1.cell? ⟨w.heap.size + 1, 1, none⟩ = some (.slice a r.vals.length cap) := g1.cellv (by simp [go_sem])
      go_wp2_with fail
      refine (calls_b (impl_IsRow r _ _ (HX.out.mono gw1)) H2.out).mono ?_
      rintro e w2 ⟨rfl, g2⟩
      have gw2 := gw1.trans g2
      have g12 := g1.trans g2
      go_wp2_with fail
      go_ret
      exact ⟨_, rfl, gw2, by rw [HE.out]; exact (HO0.out.mono g12).priv.wide (by omega) (Nat.le_refl _)⟩
    | true =>
      have HV3 := Lib.hid (isRowB_parts h2).2.2
      have HQP := Lib.hid (isQueryB_parts h1)
      have HQ := Lib.hid h1
      have HR := Lib.hid h2
      have HE := Lib.hid (projL_yes h1 h2)
      clear h1 h2
      go_enter Tryz.func17, Tryz.ntmps17
      go_wp2_with fail
      refine (calls_b (impl_IsQuery q _ _ _ (RSlice.mono keeps_cond g0 HU.out) (RSlice.mono keeps_int g0 HU'.out)) HQ.out).mono ?_
      rintro e w1 ⟨rfl, g1⟩
      have gw1 := g0.trans g1
      have k0 : w1.cell? ⟨w.heap.size + 1, 0, none⟩ = some (.int .i64 r.id) := g1.cellv (by simp [go_sem])
      have k1 : w1.cell? ⟨w.heap.size + 1, 1, none⟩ = some (.slice a r.vals.length cap) := g1.cellv (by simp [go_sem])
      have p3 : w1.cell? ⟨w.heap.size, 3, none⟩ = some (.slice va q.out.length vc) := g1.cellv (by simp [go_sem])
      go_wp2_with fail
      refine (calls_b (impl_IsRow r _ _ (HX.out.mono gw1)) HR.out).mono ?_
      rintro e w2 ⟨rfl, g2⟩
      have gw2 := gw1.trans g2
      have HO2 := Lib.hid (HO0.out.mono (g1.trans g2))
      replace k1 := g2.cellv k1
      replace p3 := g2.cellv p3
      have hz2 : w.heap.size + 2 ≤ w2.heap.size := by have := g1.size; have := g2.size; simp at *; omega
      clear k0 g1 g2
      go_wp2
      go_loopw [5, 21] (fun out i wr => ∃ (k : Nat) (b : Option Addr) (c : Nat) (ns : List Int), k ≤ q.out.length ∧ i = .int .i64 k ∧ out = .slice b ns.length c ∧ Hid (OInts (w.heap.size + 2) wr out ns) ∧ Below (w.heap.size + 2) w2 wr ∧ Hid (ns = projTo q r k)) (fun _ i _ => q.out.length - (intOf i).toNat)
      case atStart => exact ⟨0, _, _, [], Nat.zero_le _, rfl, rfl, HO2, Below.refl _ _, Lib.hid rfl⟩
      case round =>
        obtain ⟨k, bo, co, ns, hk, rfl, rfl, ho, hB, hns⟩ := hrel
        have gw : Gr w wr := gw2.trans' (hB.mono (by omega) : Below w.heap.size w2 wr)
        by_cases hlt : k < q.out.length
        · obtain ⟨hq1, hq2, _, hqo, _, _⟩ := HQP.out
          obtain ⟨F, hF⟩ := Int.eq_ofNat_of_zero_le (hqo k hlt).1
          have hF3 : F < r.vals.length := by have := (hqo k hlt).2; have := HV3.out; omega
          obtain ⟨b, off, rfl, hc, hi⟩ := hx F hF3
          obtain ⟨b', off', rfl, hc', _⟩ := vx k hlt
          rw [hF] at hc'
          have d0 := gw.cellv hc
          have d1 := gw.cellv hc'
          have e1 := (hB.cell (p := ⟨w.heap.size + 1, 1, none⟩) (by simp)).trans k1
          have j0 : (0 : Int) ≤ (F : Int) := Int.natCast_nonneg _
          have j1 : (F : Int) < (r.vals.length : Int) := by omega
          have HS := Lib.hid (projTo_succ hlt hF hF3)
          have hnl : Hid (ns.length + 1 ≤ 17592186044416) := Lib.hid (by have := projTo_len q r k; rw [← hns.out] at this; have := HQP.out.2.2.2.2.2; omega)
          have hown := ho.out.1
          have hzr : w.heap.size + 2 ≤ wr.heap.size := Nat.le_trans hz2 hB.size
          clear hq1 hq2 hqo
          go_wp2_with (at_builtin; refine push_i rfl _ _ rfl ns _ rfl rfl rfl hown hnl.out hzr ?_; intro g1 cap1 w3 hown1 hb1)
          go_roundw
          case rel => exact ⟨k + 1, some ⟨g1, 0, none⟩, cap1, ns ++ [r.vals[F]], by omega, by go_num, by simp, Lib.hid ⟨by simpa using hown1, fun x hx => (List.mem_append.1 hx).elim (ho.out.2 x) fun hx => by rw [List.mem_singleton.1 hx]; exact hi⟩, hB.trans hb1, Lib.hid (by rw [HS.out, hns.out])⟩
          case measure => simp [intOf]; omega
        · obtain rfl : k = q.out.length := by omega
          have HN : Hid (ns = projL q r) := Lib.hid (by rw [HE.out, hns.out])
          go_wp2_with fail
          go_ret
          exact ⟨_, rfl, gw, by rw [← HN.out]; exact ho.out.priv.wide (by omega) (Nat.le_refl _)⟩
set_option maxRecDepth 100000 in
set_option maxHeartbeats 2000000 in
theorem spec_ProjectRow (q : DQuery) (u u' : Value) (r : DRow) (t : Value) (w : World) (hu : RConds w u q.conds) (hu' : RInts w u' q.out) (ht : RInts w t r.vals) :
    Calls Tryz.prog 18 #[.agg #[.int .i64 q.id, .int .i64 q.tenant, u, u'], .agg #[.int .i64 r.id, t]] w fun e w' => ∃ v, e = .returned v ∧ RInts w' v (projL q r) ∧ Gr w w' := by
  obtain ⟨a, cap, rfl, hl, hm, hx⟩ := ht.open
  obtain ⟨ua, un, uc, rfl⟩ := RSlice.isSl hu
  have HU' := Lib.hid hu'
  obtain ⟨va, vc, rfl, vl, vm, vx⟩ := hu'.open
  have HU := Lib.hid hu
  have HX := Lib.hid ht
  clear ht hu hu'
  have g0 : Gr w (((w.alloc (.cells #[.int .i64 q.id, .int .i64 q.tenant, .slice ua un uc, .slice va q.out.length vc] 27)).alloc (.cells #[.int .i64 r.id, .slice a r.vals.length cap] 36)).alloc (.cells #[] 3)) := (((Gr.refl w).alloc _).alloc _).alloc _
  have ho0 : OInts (w.heap.size + 2) (((w.alloc (.cells #[.int .i64 q.id, .int .i64 q.tenant, .slice ua un uc, .slice va q.out.length vc] 27)).alloc (.cells #[.int .i64 r.id, .slice a r.vals.length cap] 36)).alloc (.cells #[] 3)) (.slice (some ⟨w.heap.size + 1 + 1, 0, none⟩) 0 0) [] := by
    have h := own_empty ((w.alloc (.cells #[.int .i64 q.id, .int .i64 q.tenant, .slice ua un uc, .slice va q.out.length vc] 27)).alloc (.cells #[.int .i64 r.id, .slice a r.vals.length cap] 36)) 3 1 (w.heap.size + 2) (by simp)
    have e : ((w.alloc (.cells #[.int .i64 q.id, .int .i64 q.tenant, .slice ua un uc, .slice va q.out.length vc] 27)).alloc (.cells #[.int .i64 r.id, .slice a r.vals.length cap] 36)).heap.size = w.heap.size + 1 + 1 := by simp
    rw [e] at h
    exact ⟨h, fun _ h => absurd h (by simp)⟩
  have HO0 := Lib.hid ho0
  clear ho0
  have p0 : (((w.alloc (.cells #[.int .i64 q.id, .int .i64 q.tenant, .slice ua un uc, .slice va q.out.length vc] 27)).alloc (.cells #[.int .i64 r.id, .slice a r.vals.length cap] 36)).alloc (.cells #[] 3)).cell? ⟨w.heap.size, 0, none⟩ = some (.int .i64 q.id) := by simp [go_sem]
  have p1 : (((w.alloc (.cells #[.int .i64 q.id, .int .i64 q.tenant, .slice ua un uc, .slice va q.out.length vc] 27)).alloc (.cells #[.int .i64 r.id, .slice a r.vals.length cap] 36)).alloc (.cells #[] 3)).cell? ⟨w.heap.size, 1, none⟩ = some (.int .i64 q.tenant) := by simp [go_sem]
  have p2 : (((w.alloc (.cells #[.int .i64 q.id, .int .i64 q.tenant, .slice ua un uc, .slice va q.out.length vc] 27)).alloc (.cells #[.int .i64 r.id, .slice a r.vals.length cap] 36)).alloc (.cells #[] 3)).cell? ⟨w.heap.size, 2, none⟩ = some (.slice ua un uc) := by simp [go_sem]
  have p3 : (((w.alloc (.cells #[.int .i64 q.id, .int .i64 q.tenant, .slice ua un uc, .slice va q.out.length vc] 27)).alloc (.cells #[.int .i64 r.id, .slice a r.vals.length cap] 36)).alloc (.cells #[] 3)).cell? ⟨w.heap.size, 3, none⟩ = some (.slice va q.out.length vc) := by simp [go_sem]
  have k0 : (((w.alloc (.cells #[.int .i64 q.id, .int .i64 q.tenant, .slice ua un uc, .slice va q.out.length vc] 27)).alloc (.cells #[.int .i64 r.id, .slice a r.vals.length cap] 36)).alloc (.cells #[] 3)).cell? ⟨w.heap.size + 1, 0, none⟩ = some (.int .i64 r.id) := by simp [go_sem]
  have k1 : (((w.alloc (.cells #[.int .i64 q.id, .int .i64 q.tenant, .slice ua un uc, .slice va q.out.length vc] 27)).alloc (.cells #[.int .i64 r.id, .slice a r.vals.length cap] 36)).alloc (.cells #[] 3)).cell? ⟨w.heap.size + 1, 1, none⟩ = some (.slice a r.vals.length cap) := by simp [go_sem]
  have hz0 : w.heap.size + 2 ≤ (((w.alloc (.cells #[.int .i64 q.id, .int .i64 q.tenant, .slice ua un uc, .slice va q.out.length vc] 27)).alloc (.cells #[.int .i64 r.id, .slice a r.vals.length cap] 36)).alloc (.cells #[] 3)).heap.size := by simp
  go_enter Tryz.func18, Tryz.ntmps18
  go_wp2
  go_loopw [5, 6] (fun out i wr => ∃ (k : Nat) (b : Option Addr) (c : Nat) (ns : List Int), k ≤ q.out.length ∧ i = .int .i64 k ∧ out = .slice b ns.length c ∧ Hid (OInts (w.heap.size + 2) wr out ns) ∧ Below (w.heap.size + 2) (((w.alloc (.cells #[.int .i64 q.id, .int .i64 q.tenant, .slice ua un uc, .slice va q.out.length vc] 27)).alloc (.cells #[.int .i64 r.id, .slice a r.vals.length cap] 36)).alloc (.cells #[] 3)) wr ∧ Hid (ns = projTo q r k) ∧ Hid (0 < k → isQueryB q = true ∧ isRowB r = true)) (fun _ i _ => q.out.length - (intOf i).toNat)
  case atStart => exact ⟨0, _, _, [], Nat.zero_le _, rfl, rfl, HO0, Below.refl _ _, Lib.hid rfl, Lib.hid fun h => absurd h (Nat.lt_irrefl _)⟩
  case round =>
    obtain ⟨k, bo, co, ns, hk, rfl, rfl, ho, hB, hns, hok⟩ := hrel
    have gw : Gr w wr := g0.trans' (hB.mono (by omega) : Below w.heap.size _ wr)
    have d0 := (hB.cell (p := ⟨w.heap.size, 0, none⟩) (by simp)).trans p0
    have d1 := (hB.cell (p := ⟨w.heap.size, 1, none⟩) (by simp)).trans p1
    have d2 := (hB.cell (p := ⟨w.heap.size, 2, none⟩) (by simp)).trans p2
    have d3 := (hB.cell (p := ⟨w.heap.size, 3, none⟩) (by simp)).trans p3
    have e0 := (hB.cell (p := ⟨w.heap.size + 1, 0, none⟩) (by simp)).trans k0
    have e1 := (hB.cell (p := ⟨w.heap.size + 1, 1, none⟩) (by simp)).trans k1
    by_cases hlt : k < q.out.length
    · have i0 : (0 : Int) ≤ (k : Int) := Int.natCast_nonneg _
      have i1 : (k : Int) < (q.out.length : Int) := by omega
      cases h1 : isRowB r with
      | false =>
        have HE : Hid (ns = projL q r) := Lib.hid (by
          rw [projL_no2 h1, hns.out]
          have : k = 0 := by
            rcases Nat.eq_zero_or_pos k with h | h
            · exact h
            · have := (hok.out h).2; rw [h1] at this; cases this
          subst this; rfl)
        have H1 := Lib.hid h1
        clear h1
        go_wp2_with fail
        refine (calls_b (spec_IsRow r _ _ (HX.out.mono gw)) H1.out).mono ?_
        rintro e w1 ⟨rfl, g1⟩
        go_wp2_with fail
        go_ret
        exact ⟨_, rfl, by rw [← HE.out]; exact (ho.out.mono g1).reads, gw.trans g1⟩
      | true =>
        cases h2 : isQueryB q with
        | false =>
          have HE : Hid (ns = projL q r) := Lib.hid (by
            rw [projL_no1 h2, hns.out]
            have : k = 0 := by
              rcases Nat.eq_zero_or_pos k with h | h
              · exact h
              · have := (hok.out h).1; rw [h2] at this; cases this
            subst this; rfl)
          have H1 := Lib.hid h1
          have H2 := Lib.hid h2
          clear h1 h2
          go_wp2_with fail
          refine (calls_b (spec_IsRow r _ _ (HX.out.mono gw)) H1.out).mono ?_
          rintro e w1 ⟨rfl, g1⟩
          have gw1 := gw.trans g1
          have f0 := g1.cellv d0
          have f1 := g1.cellv d1
          have f2 := g1.cellv d2
          have f3 := g1.cellv d3
          go_wp2_with fail
          refine (calls_b (spec_IsQuery q _ _ _ (RSlice.mono keeps_cond gw1 HU.out) (HU'.out.mono gw1)) H2.out).mono ?_
          rintro e w2 ⟨rfl, g2⟩
          have g12 := g1.trans g2
          go_wp2_with fail
          go_ret
          exact ⟨_, rfl, by rw [← HE.out]; exact (ho.out.mono g12).reads, gw1.trans g2⟩
        | true =>
          have hv3 := (isRowB_parts h1).2.2
          have hqp := isQueryB_parts h2
          obtain ⟨F, hF⟩ := Int.eq_ofNat_of_zero_le (hqp.2.2.2.1 k hlt).1
          have hF3 : F < r.vals.length := by have := (hqp.2.2.2.1 k hlt).2; omega
          obtain ⟨b, off, rfl, hc, hi⟩ := hx F hF3
          obtain ⟨b', off', rfl, hc', _⟩ := vx k hlt
          rw [hF] at hc'
          have j0 : (0 : Int) ≤ (F : Int) := Int.natCast_nonneg _
          have j1 : (F : Int) < (r.vals.length : Int) := by omega
          have hlb := World.block_lt_of_cell? w _ hc
          have hlb' := World.block_lt_of_cell? w _ hc'
          dsimp only at hlb hlb'
          have HS := Lib.hid (projTo_succ hlt hF hF3)
          have HNL : Hid (ns.length + 1 ≤ 17592186044416) := Lib.hid (by have := projTo_len q r k; rw [← hns.out] at this; have := hqp.2.2.2.2.2; omega)
          have H1 := Lib.hid h1
          have H2 := Lib.hid h2
          clear h1 h2 hv3 hqp
          go_wp2_with fail
          refine (calls_b (spec_IsRow r _ _ (HX.out.mono gw)) H1.out).mono ?_
          rintro e w1 ⟨rfl, g1⟩
          have gw1 := gw.trans g1
          have f0 := g1.cellv d0
          have f1 := g1.cellv d1
          have f2 := g1.cellv d2
          have f3 := g1.cellv d3
          go_wp2_with fail
          refine (calls_b (spec_IsQuery q _ _ _ (RSlice.mono keeps_cond gw1 HU.out) (HU'.out.mono gw1)) H2.out).mono ?_
          rintro e w2 ⟨rfl, g2⟩
          have gw2 := gw1.trans g2
          have g12 := g1.trans g2
          have hB2 : Below (w.heap.size + 2) _ w2 := hB.trans (g12.mono (by have := hB.size; simp at this; omega))
          have c0 := gw2.cellv hc
          have c1 := gw2.cellv hc'
          have c2 := g12.cellv d3
          have c3 := g12.cellv e1
          have hown := (ho.out.mono g12).1
          have hz2 : w.heap.size + 2 ≤ w2.heap.size := by have := hB2.size; simp at this; omega
          have HB2 := Lib.hid hB2
          clear f0 f1 f2 f3 d0 d1 d2 d3 e0 e1 p0 p1 p2 p3 k0 k1 hB2 hz0
          go_wp2
          go_region_held3 (fun w' => w'.cell? ⟨w.heap.size, 3, none⟩ = some (.slice (some ⟨b', off', none⟩) q.out.length vc) ∧ w'.cell? ⟨w.heap.size + 1, 1, none⟩ = some (.slice (some ⟨b, off, none⟩) r.vals.length cap) ∧ w'.cell? ⟨b', off' + k, none⟩ = some (.int .i64 (F : Int)) ∧ w'.cell? ⟨b, off + F, none⟩ = some (.int .i64 r.vals[F])) (first | exact ⟨c2, c3, c1, c0⟩ | exact ⟨(((Gr.refl w2).alloc _).drew).cellv c2, (((Gr.refl w2).alloc _).drew).cellv c3, (((Gr.refl w2).alloc _).drew).cellv c1, (((Gr.refl w2).alloc _).drew).cellv c0⟩ | exact ⟨(hb3.cell (by simp)).trans c2, (hb3.cell (by simp)).trans c3, (hb3.cell (by dsimp only; omega)).trans c1, (hb3.cell (by dsimp only; omega)).trans c0⟩) ((refine step_push_i rfl _ _ rfl ns _ rfl rfl rfl hown HNL.out hz2 ?_; intro g3 cap3 w3 hown3 hb3))
          all_goals
            have hO3 : Hid (OInts (w.heap.size + 2) w3 (.slice (some ⟨g3, 0, none⟩) (ns ++ [r.vals[F]]).length cap3) (ns ++ [r.vals[F]])) := Lib.hid ⟨by simpa using hown3, fun x hx => (List.mem_append.1 hx).elim (ho.out.2 x) fun hx => by rw [List.mem_singleton.1 hx]; exact hi⟩
            clear hown3
            go_wp2
            go_roundw
            case rel => exact ⟨k + 1, some ⟨g3, 0, none⟩, cap3, ns ++ [r.vals[F]], by omega, by go_num, by simp, by simpa using hO3, HB2.out.trans hb3, Lib.hid (by rw [HS.out, hns.out]), Lib.hid fun _ => by first | exact ⟨H2.out, H1.out⟩ | simp⟩
            case measure => simp [intOf]; omega
    · obtain rfl : k = q.out.length := by omega
      have HE : Hid (ns = projL q r) := Lib.hid (by
        by_cases hb : isQueryB q = true ∧ isRowB r = true
        · rw [projL_yes hb.1 hb.2, hns.out]
        · have h0 : q.out.length = 0 := by
            rcases Nat.eq_zero_or_pos q.out.length with h | h
            · exact h
            · exact absurd (hok.out h) hb
          rw [hns.out, h0]
          cases h1 : isQueryB q with
          | false => rw [projL_no1 h1]; rfl
          | true =>
            cases h2 : isRowB r with
            | false => rw [projL_no2 h2]; rfl
            | true => exact absurd ⟨h1, h2⟩ hb)
      go_wp2_with fail
      go_ret
      exact ⟨_, rfl, by rw [← HE.out]; exact ho.out.reads, gw⟩
end Go.Proofs.YtcdcpfcmhmhdjaaGreatDoor

/- Sorting in place by blocks and merges, as the library's stable sort does it: plain laws on arrays whose only change is a swap. No program in sight. -/
namespace Go.Proofs.YtcdcpfcmhmhdjaaGreatDoor
open Go.Sort
variable {α : Type} [Inhabited α] {lt : α → α → Bool}

/-- The rows from x and from y, n long, have changed places. -/
structure Swapped (x y n : Nat) (d d' : Array α) : Prop where
  size : d'.size = d.size
  at_ : ∀ k, d'[k]! = if x ≤ k ∧ k < x + n then d[k - x + y]! else if y ≤ k ∧ k < y + n then d[k - y + x]! else d[k]!
theorem Swapped.zero (x y : Nat) (d : Array α) : Swapped x y 0 d d := ⟨rfl, fun k => by rw [if_neg (by omega), if_neg (by omega)]⟩
theorem Swapped.step {x y i n : Nat} {d d' : Array α} (h : Swapped x y i d d') (hi : i < n) (hxy : x + n ≤ y) (hy : y + n ≤ d.size) : Swapped x y (i + 1) d (swp d' (x + i) (y + i)) := by
  have hs := h.size
  refine ⟨by rw [swp_size, hs], fun k => ?_⟩
  rw [swp_get d' (by omega) (by omega), h.at_ k, h.at_ (x + i), h.at_ (y + i)]
  rw [if_neg (show ¬ (x ≤ x + i ∧ x + i < x + i) by omega), if_neg (show ¬ (y ≤ x + i ∧ x + i < y + i) by omega), if_neg (show ¬ (x ≤ y + i ∧ y + i < x + i) by omega), if_neg (show ¬ (y ≤ y + i ∧ y + i < y + i) by omega)]
  repeat' split
  all_goals first | rfl | (exfalso; omega) | (refine congrArg (fun z => d[z]!) ?_; omega)
theorem Swapped.step_perm {x y i n : Nat} {d d' : Array α} (hp : PermIn x (y + n) d d') (hi : i < n) (hxy : x + n ≤ y) (hy : y + n ≤ d.size) : PermIn x (y + n) d (swp d' (x + i) (y + i)) :=
  permIn_trans _ _ _ _ _ hp (swp_permIn _ _ _ _ _ (by omega) (by omega) (by omega) (by omega) (by rw [hp.1]; omega))
/-- The rows i long below m and j long from m on have been exchanged. -/
structure Rot (m i j : Nat) (d d' : Array α) : Prop where
  size : d'.size = d.size
  at_ : ∀ k, d'[k]! = if m - i ≤ k ∧ k < m - i + j then d[k + i]! else if m - i + j ≤ k ∧ k < m + j then d[k - j]! else d[k]!
theorem Rot.same {m i : Nat} {d d' : Array α} (h : Swapped (m - i) m i d d') (hi : i ≤ m) : Rot m i i d d' := by
  refine ⟨h.size, fun k => ?_⟩
  rw [h.at_ k]
  repeat' split
  all_goals first | rfl | (exfalso; omega) | (refine congrArg (fun z => d[z]!) ?_; omega)
theorem Rot.up {m i j : Nat} {d d' d'' : Array α} (h : Swapped (m - i) m j d d') (hj : j < i) (hi : i ≤ m) (k : Rot m (i - j) j d' d'') : Rot m i j d d'' := by
  refine ⟨k.size.trans h.size, fun p => ?_⟩
  rw [k.at_ p, h.at_ p, h.at_ (p + (i - j)), h.at_ (p - j)]
  repeat' split
  all_goals first | rfl | (exfalso; omega) | (refine congrArg (fun z => d[z]!) ?_; omega)
theorem Rot.lo {m i j : Nat} {d d' d'' : Array α} (h : Swapped (m - i) (m + j - i) i d d') (hj : i < j) (hi : i ≤ m) (k : Rot m i (j - i) d' d'') : Rot m i j d d'' := by
  refine ⟨k.size.trans h.size, fun p => ?_⟩
  rw [k.at_ p, h.at_ p, h.at_ (p + i), h.at_ (p - (j - i))]
  repeat' split
  all_goals first | rfl | (exfalso; omega) | (refine congrArg (fun z => d[z]!) ?_; omega)

/-! ### One element into a sorted row -/
/-- The element at a has moved up to q. -/
structure MovedUp (a q : Nat) (d d' : Array α) : Prop where
  size : d'.size = d.size
  at_ : ∀ k, d'[k]! = if a ≤ k ∧ k < q then d[k + 1]! else if k = q then d[a]! else d[k]!
theorem MovedUp.zero (a : Nat) (d : Array α) : MovedUp a a d d := ⟨rfl, fun k => by
  rw [if_neg (by omega)]; split
  · rename_i h; rw [h]
  · rfl⟩
theorem MovedUp.step {a q : Nat} {d d' : Array α} (h : MovedUp a q d d') (ha : a ≤ q) (hq : q + 1 < d.size) : MovedUp a (q + 1) d (swp d' q (q + 1)) := by
  have hs := h.size
  refine ⟨by rw [swp_size, hs], fun k => ?_⟩
  rw [swp_get d' (by omega) (by omega), h.at_ k, h.at_ q, h.at_ (q + 1)]
  repeat' split
  all_goals first | rfl | (exfalso; omega) | (refine congrArg (fun z => d[z]!) ?_; omega)
/-- The element at m has moved down to q. -/
structure MovedDown (m q : Nat) (d d' : Array α) : Prop where
  size : d'.size = d.size
  at_ : ∀ k, d'[k]! = if k = q then d[m]! else if q < k ∧ k ≤ m then d[k - 1]! else d[k]!
theorem MovedDown.zero (m : Nat) (d : Array α) : MovedDown m m d d := ⟨rfl, fun k => by
  split
  · rename_i h; rw [h]
  · rw [if_neg (by omega)]⟩
theorem MovedDown.step {m q : Nat} {d d' : Array α} (h : MovedDown m (q + 1) d d') (hm : q + 1 ≤ m) (hq : m < d.size) : MovedDown m q d (swp d' (q + 1) q) := by
  have hs := h.size
  refine ⟨by rw [swp_size, hs], fun k => ?_⟩
  rw [swp_get d' (by omega) (by omega), h.at_ k, h.at_ q, h.at_ (q + 1)]
  repeat' split
  all_goals first | rfl | (exfalso; omega) | (refine congrArg (fun z => d[z]!) ?_; omega)
theorem permIn_one (a : Nat) {d d' : Array α} {b : Nat} (hp : PermIn a b d d') {i j : Nat} (hi : a ≤ i ∧ i < b) (hj : a ≤ j ∧ j < b) (hb : b ≤ d.size) : PermIn a b d (swp d' i j) :=
  permIn_trans _ _ _ _ _ hp (swp_permIn _ _ _ _ _ hi.1 hi.2 hj.1 hj.2 (by rw [hp.1]; exact hb))
theorem sorted_one (a b : Nat) (h : b ≤ a + 1) (d : Array α) : SortedIn lt a b d := fun i j h1 h2 h3 => by omega
/-- The left of two sorted rows is one element. -/
theorem sorted_up (hS : SWO lt) {a b i : Nat} {d d' : Array α} (hs : SortedIn lt (a + 1) b d) (hi : a + 1 ≤ i) (hib : i ≤ b) (h1 : ∀ k, a + 1 ≤ k → k < i → lt d[k]! d[a]! = true) (h2 : ∀ k, i ≤ k → k < b → lt d[k]! d[a]! = false) (hm : MovedUp a (i - 1) d d') : SortedIn lt a b d' := by
  intro p q hp hpq hq
  rw [hm.at_ p, hm.at_ q]
  by_cases q1 : q < i - 1
  · rw [if_pos (show a ≤ q ∧ q < i - 1 by omega), if_pos (show a ≤ p ∧ p < i - 1 by omega)]
    exact hs _ _ (by omega) (by omega) (by omega)
  · by_cases q2 : q = i - 1
    · rw [if_neg (show ¬ (a ≤ q ∧ q < i - 1) by omega), if_pos q2, if_pos (show a ≤ p ∧ p < i - 1 by omega)]
      exact hS.asymmA (h1 _ (by omega) (by omega))
    · rw [if_neg (show ¬ (a ≤ q ∧ q < i - 1) by omega), if_neg q2]
      by_cases p1 : p < i - 1
      · rw [if_pos (show a ≤ p ∧ p < i - 1 by omega)]; exact hs _ _ (by omega) (by omega) (by omega)
      · rw [if_neg (show ¬ (a ≤ p ∧ p < i - 1) by omega)]
        by_cases p2 : p = i - 1
        · rw [if_pos p2]; exact h2 _ (by omega) (by omega)
        · rw [if_neg p2]; exact hs _ _ (by omega) hpq hq
/-- The right of two sorted rows is one element. -/
theorem sorted_down (hS : SWO lt) {a m i : Nat} {d d' : Array α} (hs : SortedIn lt a m d) (hi : a ≤ i) (him : i ≤ m) (h1 : ∀ k, a ≤ k → k < i → lt d[m]! d[k]! = false) (h2 : ∀ k, i ≤ k → k < m → lt d[m]! d[k]! = true) (hm : MovedDown m i d d') : SortedIn lt a (m + 1) d' := by
  intro p q hp hpq hq
  rw [hm.at_ p, hm.at_ q]
  by_cases p1 : p = i
  · rw [if_pos p1, if_neg (by omega), if_pos (by omega)]; exact hS.asymmA (h2 _ (by omega) (by omega))
  · rw [if_neg p1]
    by_cases p2 : i < p ∧ p ≤ m
    · rw [if_pos p2, if_neg (by omega), if_pos (by omega)]; exact hs _ _ (by omega) (by omega) (by omega)
    · rw [if_neg p2]
      by_cases q1 : q = i
      · rw [if_pos q1]; exact h1 _ hp (by omega)
      · rw [if_neg q1]
        by_cases q2 : i < q ∧ q ≤ m
        · rw [if_pos q2]
          by_cases e : p = q - 1
          · exfalso; omega
          · exact hs _ _ hp (by omega) (by omega)
        · rw [if_neg q2]; exact hs _ _ hp hpq (by omega)
/-- Below an element that is less than x all are less than x. -/
theorem less_below (hS : SWO lt) {a b h : Nat} {d : Array α} {x : α} (hs : SortedIn lt a b d) (hb : h < b) (hx : lt d[h]! x = true) : ∀ k, a ≤ k → k ≤ h → lt d[k]! x = true := by
  intro k hk hkh
  by_cases e : k = h
  · rw [e]; exact hx
  · cases hc : lt d[k]! x with
    | true => rfl
    | false => have := hS.ntrans _ _ _ (hs k h hk (by omega) hb) hc; rw [this] at hx; cases hx
theorem less_above (hS : SWO lt) {a b h : Nat} {d : Array α} {x : α} (hs : SortedIn lt a b d) (ha : a ≤ h) (hx : lt d[h]! x = false) : ∀ k, h ≤ k → k < b → lt d[k]! x = false := by
  intro k hk hkb
  by_cases e : k = h
  · rw [e]; exact hx
  · exact hS.ntrans _ _ _ (hs h k ha (by omega) hkb) hx
theorem more_below (hS : SWO lt) {a b h : Nat} {d : Array α} {x : α} (hs : SortedIn lt a b d) (hb : h < b) (hx : lt x d[h]! = false) : ∀ k, a ≤ k → k ≤ h → lt x d[k]! = false := by
  intro k hk hkh
  by_cases e : k = h
  · rw [e]; exact hx
  · exact hS.ntrans _ _ _ hx (hs k h hk (by omega) hb)
theorem more_above (hS : SWO lt) {a b h : Nat} {d : Array α} {x : α} (hs : SortedIn lt a b d) (ha : a ≤ h) (hx : lt x d[h]! = true) : ∀ k, h ≤ k → k < b → lt x d[k]! = true := by
  intro k hk hkb
  by_cases e : k = h
  · rw [e]; exact hx
  · cases hc : lt x d[k]! with
    | true => rfl
    | false => have := hS.ntrans _ _ _ hc (hs h k ha (by omega) hkb); rw [this] at hx; cases hx
/-- The two rows' elements at c and at p - c, seen as c grows: once less, less ever after. -/
theorem pair_below (hS : SWO lt) {a m b p c : Nat} {d : Array α} (h1 : SortedIn lt a m d) (h2 : SortedIn lt m b d) (hc : c < m) (hp : m ≤ p - c) (hx : lt d[p - c]! d[c]! = false) : ∀ k, a ≤ k → k ≤ c → p - k < b → lt d[p - k]! d[k]! = false := by
  intro k hk hkc hb
  have q1 := more_below hS h1 hc hx k hk hkc
  by_cases e : p - k = p - c
  · rw [e]; exact q1
  · exact hS.ntrans _ _ _ (h2 (p - c) (p - k) hp (by omega) hb) q1
theorem pair_above (hS : SWO lt) {a m b p c : Nat} {d : Array α} (h1 : SortedIn lt a m d) (h2 : SortedIn lt m b d) (hc : a ≤ c) (hp : p - c < b) (hx : lt d[p - c]! d[c]! = true) : ∀ k, c ≤ k → k < m → m ≤ p - k → lt d[p - k]! d[k]! = true := by
  intro k hk hkm hm
  have q1 := more_above hS h1 hc hx k hk hkm
  by_cases e : p - k = p - c
  · rw [e]; exact q1
  · cases hl : lt d[p - k]! d[k]! with
    | true => rfl
    | false => have := hS.ntrans _ _ _ (h2 (p - k) (p - c) hm (by omega) hp) hl; rw [this] at q1; cases q1
/-- What the search finds: the rotation leaves two halves, each of two sorted rows, the lower half nowhere above the upper. -/
theorem sym_halves (hS : SWO lt) {a m b mid s st r0 : Nat} {d d' : Array α} (h1 : SortedIn lt a m d) (h2 : SortedIn lt m b d) (ham : a < m) (hmb : m < b) (hmid : mid = (a + b) / 2)
    (hs : s = if m > mid then mid + m - b else a) (hr : r0 = if m > mid then mid else m) (hst : s ≤ st) (hsr : st ≤ r0)
    (lo : ∀ c, s ≤ c → c < st → lt d[mid + m - 1 - c]! d[c]! = false) (hi : ∀ c, st ≤ c → c < r0 → lt d[mid + m - 1 - c]! d[c]! = true)
    (hR : Rot m (m - st) (mid + m - st - m) d d') :
    SortedIn lt a st d' ∧ SortedIn lt st mid d' ∧ SortedIn lt mid (mid + m - st) d' ∧ SortedIn lt (mid + m - st) b d' ∧ ∀ p q, a ≤ p → p < mid → mid ≤ q → q < b → lt d'[q]! d'[p]! = false := by
  have hsm : st ≤ m := by rw [hr] at hsr; split at hsr <;> omega
  have hsd : st ≤ mid := by rw [hr] at hsr; split at hsr <;> omega
  have hes : a ≤ s := by rw [hs]; split <;> omega
  have heb : mid + m - st ≤ b := by
    rw [hs] at hst; split at hst <;> omega
  have g : ∀ k, d'[k]! = if st ≤ k ∧ k < mid then d[k + (m - st)]! else if mid ≤ k ∧ k < mid + m - st then d[k - (mid - st)]! else d[k]! := by
    intro k; rw [hR.at_ k]
    have e1 : m - (m - st) = st := by omega
    have e2 : mid + m - st - m = mid - st := by omega
    rw [e1, e2]
    have e3 : st + (mid - st) = mid := by omega
    have e4 : m + (mid - st) = mid + m - st := by omega
    rw [e3, e4]
  have gL : ∀ k, k < st → d'[k]! = d[k]! := fun k hk => by rw [g k, if_neg (by omega), if_neg (by omega)]
  have gR1 : ∀ k, st ≤ k → k < mid → d'[k]! = d[k + (m - st)]! := fun k h h' => by rw [g k, if_pos ⟨h, h'⟩]
  have gL2 : ∀ k, mid ≤ k → k < mid + m - st → d'[k]! = d[k - (mid - st)]! := fun k h h' => by rw [g k, if_neg (by omega), if_pos ⟨h, h'⟩]
  have gR2 : ∀ k, mid + m - st ≤ k → d'[k]! = d[k]! := fun k h => by rw [g k, if_neg (by omega), if_neg (by omega)]
  refine ⟨fun i j h h' h'' => ?_, fun i j h h' h'' => ?_, fun i j h h' h'' => ?_, fun i j h h' h'' => ?_, fun p q hp hpm hq hqb => ?_⟩
  · rw [gL i (by omega), gL j (by omega)]; exact h1 _ _ h h' (by omega)
  · rw [gR1 i h (by omega), gR1 j (by omega) h'']; exact h2 _ _ (by omega) (by omega) (by omega)
  · rw [gL2 i h (by omega), gL2 j (by omega) h'']; exact h1 _ _ (by omega) (by omega) (by omega)
  · rw [gR2 i h, gR2 j (by omega)]; exact h2 _ _ (by omega) h' h''
  · -- the border
    have bLR : ∀ k e, a ≤ k → k < st → mid + m - st ≤ e → e < b → lt d[e]! d[k]! = false := by
      intro k e hk hks he heb'
      have hlo : s ≤ st - 1 := by
        rw [hs] at hst ⊢; split at hst <;> rename_i hc <;> simp only [hc, if_true, if_false] <;> omega
      have := lo (st - 1) hlo (by omega)
      rw [show mid + m - 1 - (st - 1) = mid + m - st by omega] at this
      have k1 := more_below hS h1 (h := st - 1) (by omega) this k hk (by omega)
      by_cases ee : e = mid + m - st
      · rw [ee]; exact k1
      · exact hS.ntrans _ _ _ (h2 (mid + m - st) e (by omega) (by omega) heb') k1
    have bRL : ∀ k e, st ≤ k → k < m → m ≤ e → e < mid + m - st → lt d[k]! d[e]! = false := by
      intro k e hk hkm he hee
      have hlt : st < r0 := by
        rw [hr] at hsr ⊢; split at hsr <;> rename_i hc <;> simp only [hc, if_true, if_false] <;> omega
      have := hS.asymmA (hi st (Nat.le_refl _) hlt)
      rw [show mid + m - 1 - st = mid + m - st - 1 by omega] at this
      have k1 : lt d[k]! d[mid + m - st - 1]! = false := by
        by_cases ek : k = st
        · rw [ek]; exact this
        · exact hS.ntrans _ _ _ (h1 st k (by omega) (by omega) hkm) this
      by_cases ee : e = mid + m - st - 1
      · rw [ee]; exact k1
      · exact hS.ntrans _ _ _ k1 (h2 e (mid + m - st - 1) he (by omega) (by omega))
    by_cases p1 : p < st
    · rw [gL p p1]
      by_cases q1 : q < mid + m - st
      · rw [gL2 q hq q1]; exact h1 _ _ hp (by omega) (by omega)
      · rw [gR2 q (by omega)]; exact bLR _ _ hp p1 (by omega) hqb
    · rw [gR1 p (by omega) hpm]
      by_cases q1 : q < mid + m - st
      · rw [gL2 q hq q1]; exact bRL _ _ (by omega) (by omega) (by omega) (by omega)
      · rw [gR2 q (by omega)]; exact h2 _ _ (by omega) (by omega) hqb
/-- Two sorted halves, the lower nowhere above the upper. -/
theorem sorted_join {a mid b : Nat} {d : Array α} (h1 : SortedIn lt a mid d) (h2 : SortedIn lt mid b d) (h : ∀ p q, a ≤ p → p < mid → mid ≤ q → q < b → lt d[q]! d[p]! = false) : SortedIn lt a b d := by
  intro p q hp hpq hq
  by_cases q1 : q < mid
  · exact h1 _ _ hp hpq q1
  · by_cases p1 : p < mid
    · exact h _ _ hp p1 (by omega) hq
    · exact h2 _ _ (by omega) hpq hq
theorem sorted_other {a b x y : Nat} {d d' : Array α} (h : SortedIn lt a b d) (hp : PermIn x y d d') (ho : b ≤ x ∨ y ≤ a) : SortedIn lt a b d' := by
  intro p q hp' hpq hq
  rw [hp.2.1 p (by omega), hp.2.1 q (by omega)]; exact h _ _ hp' hpq hq
/-- The border between two halves stands when each is permuted in itself. -/
theorem cross_left {a mid b : Nat} {d d' : Array α} (hb : mid ≤ d.size) (hp : PermIn a mid d d') (h : ∀ p q, a ≤ p → p < mid → mid ≤ q → q < b → lt d[q]! d[p]! = false) : ∀ p q, a ≤ p → p < mid → mid ≤ q → q < b → lt d'[q]! d'[p]! = false := by
  intro p q h1 h2 h3 h4
  rw [hp.2.1 q (by omega)]
  exact permIn_all d d' a mid (fun x => lt d[q]! x = false) hb hp (fun i hi hi' => h i q hi hi' h3 h4) p h1 h2
theorem cross_right {a mid b : Nat} {d d' : Array α} (hb : b ≤ d.size) (hp : PermIn mid b d d') (h : ∀ p q, a ≤ p → p < mid → mid ≤ q → q < b → lt d[q]! d[p]! = false) : ∀ p q, a ≤ p → p < mid → mid ≤ q → q < b → lt d'[q]! d'[p]! = false := by
  intro p q h1 h2 h3 h4
  rw [hp.2.1 p (by omega)]
  exact permIn_all d d' mid b (fun x => lt x d[p]! = false) hb hp (fun i hi hi' => h p i h1 h2 hi hi') q h3 h4
/-- Sorted block by block. -/
def Blocks (lt : α → α → Bool) (s n : Nat) (d : Array α) : Prop := ∀ q, SortedIn lt (q * s) (min (q * s + s) n) d
/-- The first q blocks. -/
def Blocked (lt : α → α → Bool) (s q : Nat) (d : Array α) : Prop := ∀ k, k < q → SortedIn lt (k * s) (k * s + s) d
theorem Blocked.zero (s : Nat) (d : Array α) : Blocked lt s 0 d := fun k hk => by omega
theorem mul_le_pred {k q s : Nat} (h : k < q) : k * s + s ≤ q * s := by
  have : (k + 1) * s ≤ q * s := Nat.mul_le_mul_right _ h
  rwa [Nat.add_mul, Nat.one_mul] at this
theorem Blocked.step {s q y : Nat} {d d' : Array α} (h : Blocked lt s q d) (hp : PermIn (q * s) y d d') (hs : SortedIn lt (q * s) (q * s + s) d') : Blocked lt s (q + 1) d' := by
  intro k hk
  by_cases e : k = q
  · rw [e]; exact hs
  · exact sorted_other (h k (by omega)) hp (Or.inl (mul_le_pred (by omega)))
theorem Blocked.all {s q n : Nat} {d d' : Array α} (h : Blocked lt s q d) (hn : q * s ≤ n) (hn' : n ≤ q * s + s) (hp : PermIn (q * s) n d d') (hs : SortedIn lt (q * s) n d') : Blocks lt s n d' := by
  intro k
  by_cases e : k < q
  · have := mul_le_pred (s := s) e
    rw [Nat.min_eq_left (by omega)]
    exact sorted_other (h k e) hp (Or.inl this)
  · by_cases e2 : k = q
    · rw [e2, Nat.min_eq_right hn']; exact hs
    · have := mul_le_pred (s := s) (show q < k by omega)
      intro i j h1 h2 h3; omega
/-- Some blocks of twice the size, the rest as it was. -/
def Merged (lt : α → α → Bool) (s q n : Nat) (d : Array α) : Prop := Blocked lt (2 * s) q d ∧ ∀ k, 2 * q ≤ k → SortedIn lt (k * s) (min (k * s + s) n) d
theorem Merged.start {s n : Nat} {d : Array α} (h : Blocks lt s n d) : Merged lt s 0 n d := ⟨Blocked.zero _ _, fun k _ => h k⟩
theorem two_mul_s (q s : Nat) : q * (2 * s) = 2 * q * s := by rw [← Nat.mul_assoc, Nat.mul_comm q 2]
theorem succ_mul_s (q s : Nat) : (2 * q + 1) * s = q * (2 * s) + s := by rw [Nat.add_mul, Nat.one_mul, two_mul_s]
theorem Merged.left {s q n : Nat} {d : Array α} (h : Merged lt s q n d) (hn : q * (2 * s) + s ≤ n) : SortedIn lt (q * (2 * s)) (q * (2 * s) + s) d := by
  have := h.2 (2 * q) (Nat.le_refl _)
  rw [← two_mul_s, Nat.min_eq_left hn] at this; exact this
theorem Merged.right {s q n : Nat} {d : Array α} (h : Merged lt s q n d) (hn : q * (2 * s) + 2 * s ≤ n) : SortedIn lt (q * (2 * s) + s) (q * (2 * s) + 2 * s) d := by
  have := h.2 (2 * q + 1) (by omega)
  rw [succ_mul_s, Nat.min_eq_left (by omega)] at this
  rw [show q * (2 * s) + 2 * s = q * (2 * s) + s + s by omega]; exact this
theorem Merged.last {s q n : Nat} {d : Array α} (h : Merged lt s q n d) (hn : n ≤ q * (2 * s) + 2 * s) : SortedIn lt (q * (2 * s) + s) n d := by
  have := h.2 (2 * q + 1) (by omega)
  rw [succ_mul_s, Nat.min_eq_right (by omega)] at this; exact this
theorem Merged.lone {s q n : Nat} {d : Array α} (h : Merged lt s q n d) (hn : n ≤ q * (2 * s) + s) : SortedIn lt (q * (2 * s)) n d := by
  have := h.2 (2 * q) (Nat.le_refl _)
  rw [← two_mul_s, Nat.min_eq_right hn] at this; exact this
theorem Merged.step {s q n : Nat} {d d' : Array α} (h : Merged lt s q n d) (hp : PermIn (q * (2 * s)) (q * (2 * s) + 2 * s) d d') (hs : SortedIn lt (q * (2 * s)) (q * (2 * s) + 2 * s) d') : Merged lt s (q + 1) n d' := by
  refine ⟨h.1.step hp hs, fun k hk => sorted_other (h.2 k (by omega)) hp (Or.inr ?_)⟩
  have := Nat.mul_le_mul_right s hk
  rw [show 2 * (q + 1) = 2 * q + 1 + 1 by omega, Nat.add_mul, Nat.one_mul, succ_mul_s] at this
  omega
theorem Merged.done {s q n : Nat} {d d' : Array α} (h : Merged lt s q n d) (hn : q * (2 * s) ≤ n) (hn' : n ≤ q * (2 * s) + 2 * s) (hp : PermIn (q * (2 * s)) n d d') (hs : SortedIn lt (q * (2 * s)) n d') : Blocks lt (2 * s) n d' := h.1.all hn hn' hp hs
theorem Blocks.sorted {s n : Nat} {d : Array α} (h : Blocks lt s n d) (hn : n ≤ s) : SortedIn lt 0 n d := by
  have := h 0
  rw [Nat.zero_mul, Nat.min_eq_right (by omega)] at this; exact this
end Go.Proofs.YtcdcpfcmhmhdjaaGreatDoor
