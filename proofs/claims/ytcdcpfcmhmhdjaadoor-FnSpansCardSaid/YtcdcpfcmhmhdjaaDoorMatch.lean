/- MatchesRow and admits: the plain law and the walks. -/
import Derived.Test.YtcdcpfcmhmhdjaaDoorLawD
import Derived.Test.YtcdcpfcmhmhdjaaDoorLawJ
import Derived.Test.YtcdcpfcmhmhdjaaDoorExt
namespace Go.Proofs.YtcdcpfcmhmhdjaaDoor
open Go.RowKit
theorem calls_b {P : Program} {f : FuncId} {args : Array Value} {w : World} {c b : Bool} {R : World → Prop} (h : Calls P f args w fun e w' => e = .returned (.bool c) ∧ R w') (hb : c = b) :
    Calls P f args w fun e w' => e = .returned (.bool b) ∧ R w' := hb ▸ h
theorem all_no {α : Type} {p : α → Bool} {xs : List α} {k : Nat} (h : k < xs.length) (hp : p xs[k] = false) : xs.all p = false := by
  rw [List.all_eq_false]; exact ⟨xs[k], List.getElem_mem h, by simp [hp]⟩
theorem all_yes {α : Type} {p : α → Bool} {xs : List α} (h : ∀ j (h : j < xs.length), p xs[j] = true) : xs.all p = true := by
  rw [List.all_eq_true]; intro x hx; obtain ⟨i, hi, rfl⟩ := List.getElem_of_mem hx; exact h i hi
theorem below_suc {α : Type} {xs : List α} {k : Nat} {p : α → Prop} (h : ∀ j (h : j < xs.length), j < k → p xs[j]) (hk : k < xs.length) (hp : p xs[k]) : ∀ j (h : j < xs.length), j < k + 1 → p xs[j] := fun j hj hjk => by
  rcases Nat.lt_succ_iff_lt_or_eq.1 hjk with h' | rfl
  · exact h j hj h'
  · exact hp
def admC (f v : Int) (c : DCond) : Bool := !(c.field == f && !inB v c.low c.high)
def admB (q : DQuery) (f v : Int) : Bool := q.conds.all (admC f v)
def admV (q : DQuery) (vals : List Int) (j : Nat) : Bool := admB q (j : Int) (vals.getD j 0)
def matchB (q : DQuery) (r : DRow) : Bool := (isQueryB q && isRowB r) && allB r.vals.length (admV q r.vals)
def condIn (vals : List Int) (c : DCond) : Bool := inB (vals.getD c.field.toNat 0) c.low c.high
theorem isQueryB_parts {q : DQuery} (h : isQueryB q = true) : (∀ j (h : j < q.conds.length), isCondB q.conds[j] = true) ∧ (0 ≤ q.id ∧ q.id ≤ 23) ∧ q.conds.length ≤ 3 ∧ (∀ j (h : j < q.out.length), 0 ≤ q.out[j] ∧ q.out[j] ≤ 2) ∧ 1 ≤ q.out.length ∧ q.out.length ≤ 3 := by
  unfold isQueryB at h
  simp only [Bool.and_eq_true, decide_eq_true_eq] at h
  obtain ⟨h1, h2, h3, h4, h5⟩ := h
  rw [allB_iff] at h1
  unfold fieldsB at h5
  simp only [Bool.and_eq_true, allB_iff] at h5
  refine ⟨fun j hj => ?_, inB_true h2, h4, fun j hj => ?_, ?_, ?_⟩
  · have := h1 j hj
    unfold condAt condOk at this
    rw [getD_lt hj] at this
    simp only [Bool.and_eq_true] at this
    exact this.1
  · have := h5.1 j hj
    rw [fieldAt_eq hj] at this
    exact inB_true this
  · have := inB_true h5.2; omega
  · have := inB_true h5.2; omega
theorem isCondB_parts {c : DCond} (h : isCondB c = true) : 0 ≤ c.field ∧ c.field ≤ 2 ∧ 0 ≤ c.low ∧ c.low ≤ c.high ∧ c.high ≤ 99 := by
  unfold isCondB at h
  simp only [Bool.and_eq_true, decide_eq_true_eq] at h
  obtain ⟨⟨h1, h2⟩, h3⟩ := h
  have := inB_true h1; have := inB_true h2
  omega
theorem isRowB_parts {r : DRow} (h : isRowB r = true) : (∀ j (h : j < r.vals.length), 0 ≤ r.vals[j] ∧ r.vals[j] ≤ 99) ∧ (0 ≤ r.id ∧ r.id ≤ 999) ∧ r.vals.length = 3 := by
  unfold isRowB at h
  simp only [Bool.and_eq_true, decide_eq_true_eq, allB_iff] at h
  obtain ⟨h1, h2, h3⟩ := h
  refine ⟨fun j hj => ?_, inB_true h2, h3⟩
  have := h1 j hj
  unfold valAt at this
  rw [getD_lt hj] at this
  exact inB_true this
theorem matchB_no1 {q : DQuery} {r : DRow} (h : isQueryB q = false) : matchB q r = false := by unfold matchB; rw [h]; rfl
theorem matchB_no2 {q : DQuery} {r : DRow} (h : isRowB r = false) : matchB q r = false := by unfold matchB; rw [h, Bool.and_false]; rfl
theorem matchB_no3 {q : DQuery} {r : DRow} {k : Nat} (hk : k < r.vals.length) (h : admB q (k : Int) r.vals[k] = false) : matchB q r = false := by
  unfold matchB; rw [allB_false (p := admV q r.vals) k hk (by unfold admV; rw [getD_lt hk]; exact h), Bool.and_false]
theorem matchB_yes {q : DQuery} {r : DRow} (h1 : isQueryB q = true) (h2 : isRowB r = true) (h : ∀ j (hj : j < r.vals.length), admB q (j : Int) r.vals[j] = true) : matchB q r = true := by
  unfold matchB; rw [h1, h2, allB_true (fun j hj => by unfold admV; rw [getD_lt hj]; exact h j hj)]; rfl
theorem matchB_conds {q : DQuery} {r : DRow} (h1 : isQueryB q = true) (h2 : isRowB r = true) : matchB q r = q.conds.all (condIn r.vals) := by
  obtain ⟨hc, _, _, _, _, _⟩ := isQueryB_parts h1
  obtain ⟨_, _, h3⟩ := isRowB_parts h2
  unfold matchB
  rw [h1, h2, Bool.true_and, Bool.true_and, Bool.eq_iff_iff, allB_iff, List.all_eq_true]
  constructor
  · intro h c hcm
    obtain ⟨i, hi, rfl⟩ := List.getElem_of_mem hcm
    have hp := isCondB_parts (hc i hi)
    have h4 := h q.conds[i].field.toNat (by omega)
    unfold admV admB at h4
    rw [List.all_eq_true] at h4
    have h5 := h4 _ hcm
    have e : (q.conds[i].field == ((q.conds[i].field.toNat : Nat) : Int)) = true := by simp; omega
    unfold admC at h5
    rw [e, Bool.true_and, Bool.not_not] at h5
    exact h5
  · intro h j hj
    unfold admV admB
    rw [List.all_eq_true]
    intro c hcm
    unfold admC
    by_cases e : c.field = (j : Int)
    · have h4 := h c hcm
      unfold condIn at h4
      have e2 : c.field.toNat = j := by omega
      rw [e2] at h4
      rw [h4]; simp
    · have e2 : (c.field == (j : Int)) = false := by simp [e]
      rw [e2]; simp
theorem condIn_at {vals : List Int} {c : DCond} {F : Nat} (hF : c.field = (F : Int)) (h : F < vals.length) : condIn vals c = inB vals[F] c.low c.high := by
  unfold condIn; rw [hF, Int.toNat_natCast, getD_lt h]
set_option maxRecDepth 100000 in
set_option maxHeartbeats 1000000 in
theorem impl_admits (q : DQuery) (f v : Int) (u u' : Value) (w : World) (hu : RConds w u q.conds) : Calls Tryd.prog 90 #[.agg #[.int .i64 q.id, .int .i64 q.tenant, u, u'], .int .i64 f, .int .i64 v] w fun e w' => e = .returned (.bool (admB q f v)) ∧ Gr w w' := by
  obtain ⟨id, ten, xs, ys⟩ := q
  obtain ⟨a, cap, rfl, hl, hm, hx⟩ := hu
  dsimp only at *
  have g0 : Gr w (w.alloc (.cells #[.int .i64 id, .int .i64 ten, .slice a xs.length cap, u'] 83)) := (Gr.refl w).alloc _
  go_enter Tryd.func90, Tryd.ntmps90
  go_wp2
  go_loopw [12] (fun i wr => ∃ k : Nat, k ≤ xs.length ∧ i = .int .i64 k ∧ Gr w wr ∧ Hid (∀ j (h : j < xs.length), j < k → admC f v xs[j] = true)) (fun i _ => xs.length - (intOf i).toNat)
  case atStart => exact ⟨0, Nat.zero_le _, rfl, g0, Lib.hid fun _ _ h => absurd h (Nat.not_lt_zero _)⟩
  case round =>
    obtain ⟨k, hk, rfl, hgr, hn⟩ := hrel
    by_cases hlt : k < xs.length
    · obtain ⟨b, off, cs, rfl, hlen, ⟨rfl, i_field, i_low, i_high⟩, hc⟩ := hx k hlt
      have c0 := hgr.cellv (hc 0 (by simp))
      have c1 := hgr.cellv (hc 1 (by simp))
      have c2 := hgr.cellv (hc 2 (by simp))
      simp only [Nat.add_zero, List.getElem_cons_zero, List.getElem_cons_succ] at c0 c1 c2
      clear hc hlen
      have gb := hgr.alloc (.cells #[.int .i64 xs[k].field, .int .i64 xs[k].low, .int .i64 xs[k].high] 101)
      cases h1 : (xs[k].field == f) with
      | false =>
        have HE : Hid (admC f v xs[k] = true) := Lib.hid (by unfold admC; rw [h1]; rfl)
        go_wp2_with fail
        go_roundw
        case rel => exact ⟨k + 1, by omega, by go_num, gb, Lib.hid (below_suc (p := fun c => admC f v c = true) hn.out hlt HE.out)⟩
        case measure => simp [intOf]; omega
      | true =>
        cases h2 : inB v xs[k].low xs[k].high with
        | true =>
          have HE : Hid (admC f v xs[k] = true) := Lib.hid (by unfold admC; rw [h1, h2]; rfl)
          have H2 := Lib.hid h2
          clear h2
          go_wp2_with fail
          refine (calls_b (impl_within _ _ _ _) H2.out).mono ?_
          rintro e w' ⟨rfl, rfl⟩
          go_wp2_with fail
          go_roundw
          case rel => exact ⟨k + 1, by omega, by go_num, gb, Lib.hid (below_suc (p := fun c => admC f v c = true) hn.out hlt HE.out)⟩
          case measure => simp [intOf]; omega
        | false =>
          have HE : Hid (admB ⟨id, ten, xs, ys⟩ f v = false) := Lib.hid (all_no hlt (by unfold admC; rw [h1, h2]; rfl))
          have H2 := Lib.hid h2
          clear h2
          go_wp2_with fail
          refine (calls_b (impl_within _ _ _ _) H2.out).mono ?_
          rintro e w' ⟨rfl, rfl⟩
          go_wp2_with fail
          go_ret
          exact ⟨ret_bool HE.out.symm, gb⟩
    · have HE : Hid (admB ⟨id, ten, xs, ys⟩ f v = true) := Lib.hid (all_yes (p := admC f v) (xs := xs) fun j hj => hn.out j hj (by omega))
      go_wp2_with fail
      go_ret
      exact ⟨ret_bool HE.out.symm, hgr⟩
end Go.Proofs.YtcdcpfcmhmhdjaaDoor
