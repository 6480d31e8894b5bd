/- MatchesRow and admits: the plain law and the walks. -/
import Derived.Test.YtcdcpfcmhmhdjaaLawD
import Derived.Test.YtcdcpfcmhmhdjaaLawJ
import Derived.Test.YtcdcpfcmhmhdjaaExt
namespace Go.Proofs.Ytcdcpfcmhmhdjaa
open Go.RowKit
theorem calls_b {P : Program} {f : FuncId} {args : Array Value} {w : World} {c b : Bool} {R : World → Prop} (h : Calls P f args w fun e w' => e = .returned (.bool c) ∧ R w') (hb : c = b) :
    Calls P f args w fun e w' => e = .returned (.bool b) ∧ R w' := hb ▸ h
theorem all_no {α : Type} {p : α → Bool} {xs : List α} {k : Nat} (h : k < xs.length) (hp : p xs[k] = false) : xs.all p = false := by
  rw [List.all_eq_false]; exact ⟨xs[k], List.getElem_mem h, by simp [hp]⟩
theorem all_yes {α : Type} {p : α → Bool} {xs : List α} (h : ∀ j (h : j < xs.length), p xs[j] = true) : xs.all p = true := by
  rw [List.all_eq_true]; intro x hx; obtain ⟨i, hi, rfl⟩ := List.getElem_of_mem hx; exact h i hi
theorem below_suc {α : Type} {xs : List α} {k : Nat} {p : α → Prop} (h : ∀ j (h : j < xs.length), j < k → p xs[j]) (hk : k < xs.length) (hp : p xs[k]) : ∀ j (h : j < xs.length), j < k + 1 → p xs[j] := fun j hj hjk => by
  rcases Nat.lt_succ_iff_lt_or_eq.1 hjk with h' | rfl
  · exact h j hj h'
  · exact hp
def admC (f v : Int) (c : DCond) : Bool := !(c.field == f && !inB v c.low c.high)
def admB (q : DQuery) (f v : Int) : Bool := q.conds.all (admC f v)
def admV (q : DQuery) (vals : List Int) (j : Nat) : Bool := admB q (j : Int) (vals.getD j 0)
def matchB (q : DQuery) (r : DRow) : Bool := (isQueryB q && isRowB r) && allB r.vals.length (admV q r.vals)
def condIn (vals : List Int) (c : DCond) : Bool := inB (vals.getD c.field.toNat 0) c.low c.high
theorem isQueryB_parts {q : DQuery} (h : isQueryB q = true) : (∀ j (h : j < q.conds.length), isCondB q.conds[j] = true) ∧ (0 ≤ q.id ∧ q.id ≤ 23) ∧ q.conds.length ≤ 3 ∧ (∀ j (h : j < q.out.length), 0 ≤ q.out[j] ∧ q.out[j] ≤ 2) ∧ 1 ≤ q.out.length ∧ q.out.length ≤ 3 := by
  unfold isQueryB at h
  simp only [Bool.and_eq_true, decide_eq_true_eq] at h
  obtain ⟨h1, h2, h3, h4, h5⟩ := h
  rw [allB_iff] at h1
  unfold fieldsB at h5
  simp only [Bool.and_eq_true, allB_iff] at h5
  refine ⟨fun j hj => ?_, inB_true h2, h4, fun j hj => ?_, ?_, ?_⟩
  · have := h1 j hj
    unfold condAt condOk at this
    rw [getD_lt hj] at this
    simp only [Bool.and_eq_true] at this
    exact this.1
  · have := h5.1 j hj
    rw [fieldAt_eq hj] at this
    exact inB_true this
  · have := inB_true h5.2; omega
  · have := inB_true h5.2; omega
theorem isCondB_parts {c : DCond} (h : isCondB c = true) : 0 ≤ c.field ∧ c.field ≤ 2 ∧ 0 ≤ c.low ∧ c.low ≤ c.high ∧ c.high ≤ 99 := by
  unfold isCondB at h
  simp only [Bool.and_eq_true, decide_eq_true_eq] at h
  obtain ⟨⟨h1, h2⟩, h3⟩ := h
  have := inB_true h1; have := inB_true h2
  omega
theorem isRowB_parts {r : DRow} (h : isRowB r = true) : (∀ j (h : j < r.vals.length), 0 ≤ r.vals[j] ∧ r.vals[j] ≤ 99) ∧ (0 ≤ r.id ∧ r.id ≤ 999) ∧ r.vals.length = 3 := by
  unfold isRowB at h
  simp only [Bool.and_eq_true, decide_eq_true_eq, allB_iff] at h
  obtain ⟨h1, h2, h3⟩ := h
  refine ⟨fun j hj => ?_, inB_true h2, h3⟩
  have := h1 j hj
  unfold valAt at this
  rw [getD_lt hj] at this
  exact inB_true this
theorem matchB_no1 {q : DQuery} {r : DRow} (h : isQueryB q = false) : matchB q r = false := by unfold matchB; rw [h]; rfl
theorem matchB_no2 {q : DQuery} {r : DRow} (h : isRowB r = false) : matchB q r = false := by unfold matchB; rw [h, Bool.and_false]; rfl
theorem matchB_no3 {q : DQuery} {r : DRow} {k : Nat} (hk : k < r.vals.length) (h : admB q (k : Int) r.vals[k] = false) : matchB q r = false := by
  unfold matchB; rw [allB_false (p := admV q r.vals) k hk (by unfold admV; rw [getD_lt hk]; exact h), Bool.and_false]
theorem matchB_yes {q : DQuery} {r : DRow} (h1 : isQueryB q = true) (h2 : isRowB r = true) (h : ∀ j (hj : j < r.vals.length), admB q (j : Int) r.vals[j] = true) : matchB q r = true := by
  unfold matchB; rw [h1, h2, allB_true (fun j hj => by unfold admV; rw [getD_lt hj]; exact h j hj)]; rfl
theorem matchB_conds {q : DQuery} {r : DRow} (h1 : isQueryB q = true) (h2 : isRowB r = true) : matchB q r = q.conds.all (condIn r.vals) := by
  obtain ⟨hc, _, _, _, _, _⟩ := isQueryB_parts h1
  obtain ⟨_, _, h3⟩ := isRowB_parts h2
  unfold matchB
  rw [h1, h2, Bool.true_and, Bool.true_and, Bool.eq_iff_iff, allB_iff, List.all_eq_true]
  constructor
  · intro h c hcm
    obtain ⟨i, hi, rfl⟩ := List.getElem_of_mem hcm
    have hp := isCondB_parts (hc i hi)
    have h4 := h q.conds[i].field.toNat (by omega)
    unfold admV admB at h4
    rw [List.all_eq_true] at h4
    have h5 := h4 _ hcm
    have e : (q.conds[i].field == ((q.conds[i].field.toNat : Nat) : Int)) = true := by simp; omega
    unfold admC at h5
    rw [e, Bool.true_and, Bool.not_not] at h5
    exact h5
  · intro h j hj
    unfold admV admB
    rw [List.all_eq_true]
    intro c hcm
    unfold admC
    by_cases e : c.field = (j : Int)
    · have h4 := h c hcm
      unfold condIn at h4
      have e2 : c.field.toNat = j := by omega
      rw [e2] at h4
      rw [h4]; simp
    · have e2 : (c.field == (j : Int)) = false := by simp [e]
      rw [e2]; simp
theorem condIn_at {vals : List Int} {c : DCond} {F : Nat} (hF : c.field = (F : Int)) (h : F < vals.length) : condIn vals c = inB vals[F] c.low c.high := by
  unfold condIn; rw [hF, Int.toNat_natCast, getD_lt h]
set_option maxRecDepth 100000 in
set_option maxHeartbeats 1000000 in
theorem impl_admits (q : DQuery) (f v : Int) (u u' : Value) (w : World) (hu : RConds w u q.conds) : Calls Try.prog 75 #[.agg #[.int .i64 q.id, .int .i64 q.tenant, u, u'], .int .i64 f, .int .i64 v] w fun e w' => e = .returned (.bool (admB q f v)) ∧ Gr w w' := by
  obtain ⟨id, ten, xs, ys⟩ := q
  obtain ⟨a, cap, rfl, hl, hm, hx⟩ := hu
  dsimp only at *
  have g0 : Gr w (w.alloc (.cells #[.int .i64 id, .int .i64 ten, .slice a xs.length cap, u'] 44)) := (Gr.refl w).alloc _
  go_enter Try.func75, Try.ntmps75
  go_wp2
  go_loopw [12] (fun i wr => ∃ k : Nat, k ≤ xs.length ∧ i = .int .i64 k ∧ Gr w wr ∧ Hid (∀ j (h : j < xs.length), j < k → admC f v xs[j] = true)) (fun i _ => xs.length - (intOf i).toNat)
  case atStart => exact ⟨0, Nat.zero_le _, rfl, g0, Lib.hid fun _ _ h => absurd h (Nat.not_lt_zero _)⟩
  case round =>
    obtain ⟨k, hk, rfl, hgr, hn⟩ := hrel
    by_cases hlt : k < xs.length
    · obtain ⟨b, off, cs, rfl, hlen, ⟨rfl, i_field, i_low, i_high⟩, hc⟩ := hx k hlt
      have c0 := hgr.cellv (hc 0 (by simp))
      have c1 := hgr.cellv (hc 1 (by simp))
      have c2 := hgr.cellv (hc 2 (by simp))
      simp only [Nat.add_zero, List.getElem_cons_zero, List.getElem_cons_succ] at c0 c1 c2
      clear hc hlen
      have gb := hgr.alloc (.cells #[.int .i64 xs[k].field, .int .i64 xs[k].low, .int .i64 xs[k].high] 66)
      cases h1 : (xs[k].field == f) with
      | false =>
        have HE : Hid (admC f v xs[k] = true) := Lib.hid (by unfold admC; rw [h1]; rfl)
        go_wp2_with fail
        go_roundw
        case rel => exact ⟨k + 1, by omega, by go_num, gb, Lib.hid (below_suc (p := fun c => admC f v c = true) hn.out hlt HE.out)⟩
        case measure => simp [intOf]; omega
      | true =>
        cases h2 : inB v xs[k].low xs[k].high with
        | true =>
          have HE : Hid (admC f v xs[k] = true) := Lib.hid (by unfold admC; rw [h1, h2]; rfl)
          have H2 := Lib.hid h2
          clear h2
          go_wp2_with fail
          refine (calls_b (impl_within _ _ _ _) H2.out).mono ?_
          rintro e w' ⟨rfl, rfl⟩
          go_wp2_with fail
          go_roundw
          case rel => exact ⟨k + 1, by omega, by go_num, gb, Lib.hid (below_suc (p := fun c => admC f v c = true) hn.out hlt HE.out)⟩
          case measure => simp [intOf]; omega
        | false =>
          have HE : Hid (admB ⟨id, ten, xs, ys⟩ f v = false) := Lib.hid (all_no hlt (by unfold admC; rw [h1, h2]; rfl))
          have H2 := Lib.hid h2
          clear h2
          go_wp2_with fail
          refine (calls_b (impl_within _ _ _ _) H2.out).mono ?_
          rintro e w' ⟨rfl, rfl⟩
          go_wp2_with fail
          go_ret
          exact ⟨ret_bool HE.out.symm, gb⟩
    · have HE : Hid (admB ⟨id, ten, xs, ys⟩ f v = true) := Lib.hid (all_yes (p := admC f v) (xs := xs) fun j hj => hn.out j hj (by omega))
      go_wp2_with fail
      go_ret
      exact ⟨ret_bool HE.out.symm, hgr⟩
set_option maxRecDepth 100000 in
set_option maxHeartbeats 2000000 in
theorem spec_MatchesRow (q : DQuery) (u u' : Value) (r : DRow) (t : Value) (w : World) (hu : RConds w u q.conds) (hu' : RInts w u' q.out) (ht : RInts w t r.vals) :
    Calls Try.prog 15 #[.agg #[.int .i64 q.id, .int .i64 q.tenant, u, u'], .agg #[.int .i64 r.id, t]] w fun e w' => e = .returned (.bool (matchB q r)) ∧ Gr w w' := by
  obtain ⟨ra, rcap, rfl, rl, rm, rx⟩ := ht.open
  obtain ⟨va, vn, vc, rfl⟩ := RSlice.isSl hu'
  have HU := Lib.hid hu
  obtain ⟨a, cap, rfl, hl, hm, hx⟩ := hu
  have HT := Lib.hid ht
  have HU' := Lib.hid hu'
  clear ht hu'
  have g0 : Gr w ((w.alloc (.cells #[.int .i64 q.id, .int .i64 q.tenant, .slice a q.conds.length cap, .slice va vn vc] 44)).alloc (.cells #[.int .i64 r.id, .slice ra r.vals.length rcap] 30)) := ((Gr.refl w).alloc _).alloc _
  have p0 : ((w.alloc (.cells #[.int .i64 q.id, .int .i64 q.tenant, .slice a q.conds.length cap, .slice va vn vc] 44)).alloc (.cells #[.int .i64 r.id, .slice ra r.vals.length rcap] 30)).cell? ⟨w.heap.size, 0, none⟩ = some (.int .i64 q.id) := by simp [go_sem]
  have p1 : ((w.alloc (.cells #[.int .i64 q.id, .int .i64 q.tenant, .slice a q.conds.length cap, .slice va vn vc] 44)).alloc (.cells #[.int .i64 r.id, .slice ra r.vals.length rcap] 30)).cell? ⟨w.heap.size, 1, none⟩ = some (.int .i64 q.tenant) := by simp [go_sem]
  have p2 : ((w.alloc (.cells #[.int .i64 q.id, .int .i64 q.tenant, .slice a q.conds.length cap, .slice va vn vc] 44)).alloc (.cells #[.int .i64 r.id, .slice ra r.vals.length rcap] 30)).cell? ⟨w.heap.size, 2, none⟩ = some (.slice a q.conds.length cap) := by simp [go_sem]
  have p3 : ((w.alloc (.cells #[.int .i64 q.id, .int .i64 q.tenant, .slice a q.conds.length cap, .slice va vn vc] 44)).alloc (.cells #[.int .i64 r.id, .slice ra r.vals.length rcap] 30)).cell? ⟨w.heap.size, 3, none⟩ = some (.slice va vn vc) := by simp [go_sem]
  have k0 : ((w.alloc (.cells #[.int .i64 q.id, .int .i64 q.tenant, .slice a q.conds.length cap, .slice va vn vc] 44)).alloc (.cells #[.int .i64 r.id, .slice ra r.vals.length rcap] 30)).cell? ⟨w.heap.size + 1, 0, none⟩ = some (.int .i64 r.id) := by simp [go_sem]
  have k1 : ((w.alloc (.cells #[.int .i64 q.id, .int .i64 q.tenant, .slice a q.conds.length cap, .slice va vn vc] 44)).alloc (.cells #[.int .i64 r.id, .slice ra r.vals.length rcap] 30)).cell? ⟨w.heap.size + 1, 1, none⟩ = some (.slice ra r.vals.length rcap) := by simp [go_sem]
  go_enter Try.func15, Try.ntmps15
  go_wp2
  go_loopw [5] (fun i wr => ∃ k : Nat, k ≤ q.conds.length ∧ i = .int .i64 k ∧ Gr ((w.alloc (.cells #[.int .i64 q.id, .int .i64 q.tenant, .slice a q.conds.length cap, .slice va vn vc] 44)).alloc (.cells #[.int .i64 r.id, .slice ra r.vals.length rcap] 30)) wr ∧ Hid (∀ j (h : j < q.conds.length), j < k → condIn r.vals q.conds[j] = true)) (fun i _ => q.conds.length - (intOf i).toNat)
  case atStart => exact ⟨0, Nat.zero_le _, rfl, Gr.refl _, Lib.hid fun _ _ h => absurd h (Nat.not_lt_zero _)⟩
  case round =>
    obtain ⟨k, hk, rfl, hgW, hn⟩ := hrel
    have hgr := g0.trans hgW
    have i0 : (0 : Int) ≤ (k : Int) := Int.natCast_nonneg _
    have d0 := hgW.cellv p0
    have d1 := hgW.cellv p1
    have d2 := hgW.cellv p2
    have d3 := hgW.cellv p3
    have e0 := hgW.cellv k0
    have e1 := hgW.cellv k1
    by_cases hlt : k < q.conds.length
    · have i1 : (k : Int) < (q.conds.length : Int) := by omega
      cases h1 : isRowB r with
      | false =>
        have HE : Hid (matchB q r = false) := Lib.hid (matchB_no2 h1)
        have H1 := Lib.hid h1
        clear h1
        go_wp2_with fail
        refine (calls_b (spec_IsRow r _ _ (HT.out.mono hgr)) H1.out).mono ?_
        rintro e w1 ⟨rfl, g1⟩
        have gw1 := hgr.trans g1
        have f0 := g1.cellv e0
        have f1 := g1.cellv e1
        go_wp2_with fail
        refine (calls_b (spec_IsRow r _ _ (HT.out.mono gw1)) H1.out).mono ?_
        rintro e w2 ⟨rfl, g2⟩
        go_wp2_with fail
        go_ret
        exact ⟨ret_bool HE.out.symm, gw1.trans g2⟩
      | true =>
        cases h2 : isQueryB q with
        | false =>
          have HE : Hid (matchB q r = false) := Lib.hid (matchB_no1 h2)
          have H1 := Lib.hid h1
          have H2 := Lib.hid h2
          clear h1 h2
          go_wp2_with fail
          refine (calls_b (spec_IsRow r _ _ (HT.out.mono hgr)) H1.out).mono ?_
          rintro e w1 ⟨rfl, g1⟩
          have gw1 := hgr.trans g1
          have f0 := g1.cellv d0
          have f1 := g1.cellv d1
          have f2 := g1.cellv d2
          have f3 := g1.cellv d3
          have f4 := g1.cellv e0
          have f5 := g1.cellv e1
          go_wp2_with fail
          refine (calls_b (spec_IsQuery q _ _ _ (RSlice.mono keeps_cond gw1 HU.out) (HU'.out.mono gw1)) H2.out).mono ?_
          rintro e w2 ⟨rfl, g2⟩
          have gw2 := gw1.trans g2
          replace f0 := g2.cellv f0
          replace f1 := g2.cellv f1
          replace f2 := g2.cellv f2
          replace f3 := g2.cellv f3
          replace f4 := g2.cellv f4
          replace f5 := g2.cellv f5
          go_wp2_with fail
          refine (calls_b (spec_IsRow r _ _ (HT.out.mono gw2)) H1.out).mono ?_
          rintro e w3 ⟨rfl, g3⟩
          have gw3 := gw2.trans g3
          replace f0 := g3.cellv f0
          replace f1 := g3.cellv f1
          replace f2 := g3.cellv f2
          replace f3 := g3.cellv f3
          go_wp2_with fail
          refine (calls_b (spec_IsQuery q _ _ _ (RSlice.mono keeps_cond gw3 HU.out) (HU'.out.mono gw3)) H2.out).mono ?_
          rintro e w4 ⟨rfl, g4⟩
          go_wp2_with fail
          go_ret
          exact ⟨ret_bool HE.out.symm, gw3.trans g4⟩
        | true =>
          have hv3 := (isRowB_parts h1).2.2
          have hcp := isCondB_parts ((isQueryB_parts h2).1 k hlt)
          obtain ⟨F, hF⟩ := Int.eq_ofNat_of_zero_le hcp.1
          have hF3 : F < r.vals.length := by omega
          obtain ⟨rb, roff, rfl, hrc, _⟩ := rx F hF3
          obtain ⟨b, off, cs, rfl, hlen, ⟨rfl, i_field, i_low, i_high⟩, hc⟩ := hx k hlt
          have c0 := hgr.cellv (hc 0 (by simp))
          have c1 := hgr.cellv (hc 1 (by simp))
          have c2 := hgr.cellv (hc 2 (by simp))
          simp only [Nat.add_zero, List.getElem_cons_zero, List.getElem_cons_succ] at c0 c1 c2
          clear hc hlen
          rw [hF] at c0
          have j0 : (0 : Int) ≤ (F : Int) := Int.natCast_nonneg _
          have j1 : (F : Int) < (r.vals.length : Int) := by omega
          have H1 := Lib.hid h1
          have H2 := Lib.hid h2
          clear h1 h2 hcp hv3
          go_wp2_with fail
          refine (calls_b (spec_IsRow r _ _ (HT.out.mono hgr)) H1.out).mono ?_
          rintro e w1 ⟨rfl, g1⟩
          have gw1 := hgr.trans g1
          have f0 := g1.cellv d0
          have f1 := g1.cellv d1
          have f2 := g1.cellv d2
          have f3 := g1.cellv d3
          go_wp2_with fail
          refine (calls_b (spec_IsQuery q _ _ _ (RSlice.mono keeps_cond gw1 HU.out) (HU'.out.mono gw1)) H2.out).mono ?_
          rintro e w2 ⟨rfl, g2⟩
          have gw2 := gw1.trans g2
          have g12 := g1.trans g2
          replace c0 := g12.cellv c0
          replace c1 := g12.cellv c1
          replace c2 := g12.cellv c2
          replace f2 := g2.cellv f2
          clear f0 f1 f3
          have gb : Gr w2 (w2.alloc (.cells #[.int .i64 (F : Int), .int .i64 q.conds[k].low, .int .i64 q.conds[k].high] 66)) := (Gr.refl _).alloc _
          have b0 : (w2.alloc (.cells #[.int .i64 (F : Int), .int .i64 q.conds[k].low, .int .i64 q.conds[k].high] 66)).cell? ⟨w2.heap.size, 0, none⟩ = some (.int .i64 (F : Int)) := by simp [go_sem]
          have b1 : (w2.alloc (.cells #[.int .i64 (F : Int), .int .i64 q.conds[k].low, .int .i64 q.conds[k].high] 66)).cell? ⟨w2.heap.size, 1, none⟩ = some (.int .i64 q.conds[k].low) := by simp [go_sem]
          have b2 : (w2.alloc (.cells #[.int .i64 (F : Int), .int .i64 q.conds[k].low, .int .i64 q.conds[k].high] 66)).cell? ⟨w2.heap.size, 2, none⟩ = some (.int .i64 q.conds[k].high) := by simp [go_sem]
          have b3 := gb.cellv (g12.cellv e1)
          have b4 := gb.cellv (gw2.cellv hrc)
          have q0 := fun x : Ext (w2.alloc (.cells #[.int .i64 (F : Int), .int .i64 q.conds[k].low, .int .i64 q.conds[k].high] 66)) => Ext.cell b0 x
          have q1 := fun x : Ext (w2.alloc (.cells #[.int .i64 (F : Int), .int .i64 q.conds[k].low, .int .i64 q.conds[k].high] 66)) => Ext.cell b1 x
          have q2 := fun x : Ext (w2.alloc (.cells #[.int .i64 (F : Int), .int .i64 q.conds[k].low, .int .i64 q.conds[k].high] 66)) => Ext.cell b2 x
          have q3 := fun x : Ext (w2.alloc (.cells #[.int .i64 (F : Int), .int .i64 q.conds[k].low, .int .i64 q.conds[k].high] 66)) => Ext.cell b3 x
          have q4 := fun x : Ext (w2.alloc (.cells #[.int .i64 (F : Int), .int .i64 q.conds[k].low, .int .i64 q.conds[k].high] 66)) => Ext.cell b4 x
          have gW := g12.trans gb
          clear b0 b1 b2 b3 b4 d0 d1 d2 d3
          cases hp : inB r.vals[F] q.conds[k].low q.conds[k].high with
          | false =>
            have HE : Hid (matchB q r = false) := Lib.hid (by rw [matchB_conds H2.out H1.out]; exact all_no hlt (by rw [condIn_at hF hF3]; exact hp))
            have HP := Lib.hid hp
            clear hp
            go_wp2
            refine wp_region_ext (by kernel_rfl) (by kernel_rfl) ?_
            repeat (go_big_quiet_step ((go_at_call 37; exact quiet_ext (calls_b ((spec_l1In _ _ _ _).mono fun _ _ h => ⟨h.1, h.2 ▸ Gr.refl _⟩) HP.out))))
            refine wpQuiet_nil ?_
            intro w3 hw3
            have g3 := Ext.out hw3
            clear hw3 q0 q1 q2 q3 q4
            go_wp2
            go_ret
            exact ⟨ret_bool HE.out.symm, (hgr.trans gW).trans g3⟩
          | true =>
            have HE : Hid (condIn r.vals q.conds[k] = true) := Lib.hid (by rw [condIn_at hF hF3]; exact hp)
            have HP := Lib.hid hp
            clear hp
            go_wp2
            refine wp_region_ext (by kernel_rfl) (by kernel_rfl) ?_
            repeat (go_big_quiet_step ((go_at_call 37; exact quiet_ext (calls_b ((spec_l1In _ _ _ _).mono fun _ _ h => ⟨h.1, h.2 ▸ Gr.refl _⟩) HP.out))))
            refine wpQuiet_nil ?_
            intro w3 hw3
            have g3 := Ext.out hw3
            clear hw3 q0 q1 q2 q3 q4
            have hgW3 := (hgW.trans gW).trans g3
            go_wp2
            go_roundw
            case rel => exact ⟨k + 1, by omega, by go_num, hgW3, Lib.hid (below_suc (p := fun c => condIn r.vals c = true) hn.out hlt HE.out)⟩
            case measure => simp [intOf]; omega
    · obtain rfl : k = q.conds.length := by omega
      cases h1 : isRowB r with
      | false =>
        have HE : Hid (matchB q r = false) := Lib.hid (matchB_no2 h1)
        have H1 := Lib.hid h1
        clear h1
        go_wp2_with fail
        refine (calls_b (spec_IsRow r _ _ (HT.out.mono hgr)) H1.out).mono ?_
        rintro e w1 ⟨rfl, g1⟩
        go_wp2_with fail
        go_ret
        exact ⟨ret_bool HE.out.symm, hgr.trans g1⟩
      | true =>
        have HE : Hid (matchB q r = isQueryB q) := Lib.hid (by
          cases h2 : isQueryB q with
          | false => exact matchB_no1 h2
          | true => rw [matchB_conds h2 h1]; exact all_yes fun j hj => hn.out j hj hj)
        have H1 := Lib.hid h1
        clear h1
        go_wp2_with fail
        refine (calls_b (spec_IsRow r _ _ (HT.out.mono hgr)) H1.out).mono ?_
        rintro e w1 ⟨rfl, g1⟩
        have gw1 := hgr.trans g1
        have f0 := g1.cellv d0
        have f1 := g1.cellv d1
        have f2 := g1.cellv d2
        have f3 := g1.cellv d3
        go_wp2_with fail
        refine (spec_IsQuery q _ _ _ (RSlice.mono keeps_cond gw1 HU.out) (HU'.out.mono gw1)).mono ?_
        rintro e w2 ⟨rfl, g2⟩
        go_wp2_with fail
        go_ret
        exact ⟨ret_bool HE.out.symm, gw1.trans g2⟩
end Go.Proofs.Ytcdcpfcmhmhdjaa
