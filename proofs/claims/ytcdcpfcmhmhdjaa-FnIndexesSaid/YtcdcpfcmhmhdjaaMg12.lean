/- The laws' own small functions over numbers. -/
import Derived.Test.YtcdcpfcmhmhdjaaLawF
import Derived.Test.YtcdcpfcmhmhdjaaInts
import Derived.Test.YtcdcpfcmhmhdjaaMg0
import Derived.Test.YtcdcpfcmhmhdjaaMg5
namespace Go.Proofs.Ytcdcpfcmhmhdjaa
open Go.RowKit
set_option maxRecDepth 100000 in
set_option maxHeartbeats 1000000 in
theorem laws_sameInts (v u : Value) (xs ys : List Int) (w : World) (hx : RInts w v xs) (hy : RInts w u ys) :
    Calls Try.prog 8 #[v, u] w fun e w' => e = .returned (.bool (eqL xs ys)) ∧ Gr w w' := by
  obtain ⟨a, cap, rfl, hl, hm, hx⟩ := hx.open
  obtain ⟨a', cap', rfl, hl', hm', hy⟩ := hy.open
  by_cases hn : xs.length = ys.length
  · have hd : ((xs.length : Int) != (ys.length : Int)) = false := by simp; omega
    have HN := Lib.hid hn
    have hle : xs.length ≤ ys.length := by omega
    clear hn
    go_enter Try.func8, Try.ntmps8
    go_wp2
    go_loopw [5] (fun i wr => ∃ k : Nat, k ≤ xs.length ∧ i = .int .i64 k ∧ Hid (∀ j, j < k → (xs.getD j 0 == ys.getD j 0) = true) ∧ Gr w wr) (fun i _ => xs.length - (intOf i).toNat)
    case atStart => exact ⟨0, Nat.zero_le _, rfl, Lib.hid (fun _ h => absurd h (Nat.not_lt_zero _)), Gr.refl _⟩
    case round =>
      obtain ⟨k, hk, rfl, hall, hgr⟩ := hrel
      by_cases hlt : k < xs.length
      · obtain ⟨b, off, rfl, hc, _⟩ := hx k hlt
        have hlt' : k < ys.length := by omega
        obtain ⟨b', off', rfl, hc', _⟩ := hy k hlt'
        have gc := hgr.cellv hc
        have gc' := hgr.cellv hc'
        have i0 : (0 : Int) ≤ (k : Int) := Int.natCast_nonneg _
        have i1 : (k : Int) < (xs.length : Int) := by omega
        have i2 : (k : Int) < (ys.length : Int) := by omega
        clear hc hc'
        go_wp2
        go_quiet (fail)
        go_wp2
        · go_ret
          have h : (xs[k] != ys[k]) = true := by assumption
          exact ⟨ret_bool (eqL_no k hlt hlt' h).symm, hgr.drewN _⟩
        · go_roundw
          have h : (xs[k] != ys[k]) = false := by assumption
          case rel => exact ⟨k+1, by omega, by go_num, Lib.hid (below_succ hall.out (by rw [getD_lt hlt, getD_lt hlt']; simpa using h)), hgr.drewN _⟩
          case measure => simp [intOf]; omega
      · go_wp2
        go_ret
        exact ⟨ret_bool (eqL_yes HN.out (fun j hj => hall.out j (by omega))).symm, hgr⟩
  · have hd : ((xs.length : Int) != (ys.length : Int)) = true := by simp; omega
    go_enter Try.func8, Try.ntmps8
    go_wp2
    go_ret
    exact ⟨ret_bool (by simp [eqL]; intro h; exact hn (by rw [h])), Gr.refl _⟩
theorem laws_sameInts_of {xs ys : List Int} {b : Bool} (h : eqL xs ys = b) (v u : Value) (w : World) (hx : RInts w v xs) (hy : RInts w u ys) : Calls Try.prog 8 #[v, u] w fun e w' => e = .returned (.bool b) ∧ Gr w w' := h ▸ laws_sameInts v u xs ys w hx hy
theorem eqL_self (xs : List Int) : eqL xs xs = true := by simp [eqL]
theorem laws_sameInts_self {xs : List Int} (v u : Value) (w : World) (hx : RInts w v xs) (hy : RInts w u xs) : Calls Try.prog 8 #[v, u] w fun e w' => e = .returned (.bool true) ∧ Gr w w' := laws_sameInts_of (eqL_self xs) v u w hx hy
set_option maxHeartbeats 400000 in
theorem laws_has (v : Value) (n : Int) (xs : List Int) (w : World) (hx : RInts w v xs) :
    Calls Try.prog 14 #[v, .int .i64 n] w fun e w' => e = .returned (.bool (hasB xs n)) ∧ w = w' := by
  obtain ⟨a, cap, rfl, hl, hm, hx⟩ := hx.open
  go_enter Try.func14, Try.ntmps14
  go_wp2
  go_loop [5] (fun i => ∃ k : Nat, k ≤ xs.length ∧ i = .int .i64 k ∧ Hid (∀ j, j < k → (xs.getD j 0 == n) = false)) (fun i => xs.length - (intOf i).toNat)
  case atStart => exact ⟨0, Nat.zero_le _, rfl, Lib.hid (fun _ h => absurd h (Nat.not_lt_zero _))⟩
  case round =>
    obtain ⟨k, hk, rfl, hn⟩ := hrel
    by_cases hlt : k < xs.length
    · obtain ⟨b, off, rfl, hc, _⟩ := hx k hlt
      go_wp2
      · go_ret
        have h : (xs[k] == n) = true := by assumption
        exact ⟨ret_bool (anyB_true k hlt (by rw [getD_lt hlt]; exact h)).symm, rfl⟩
      · go_round
        have h : (xs[k] == n) = false := by assumption
        case rel => exact ⟨k+1, by omega, by go_num, Lib.hid (below_succ hn.out (by rw [getD_lt hlt]; exact h))⟩
        case measure => simp [intOf]; omega
    · go_wp2
      go_ret
      exact ⟨ret_bool (anyB_false (fun j hj => hn.out j (by omega))).symm, rfl⟩
theorem laws_has_of {xs : List Int} {n : Int} {b : Bool} (h : hasB xs n = b) (v : Value) (w : World) (hx : RInts w v xs) : Calls Try.prog 14 #[v, .int .i64 n] w fun e w' => e = .returned (.bool b) ∧ w = w' := h ▸ laws_has v n xs w hx
theorem laws_big (a : Option Addr) (n c : Nat) (w : World) : Calls Try.prog 4 #[.slice a n c] w fun e w' => e = .returned (.bool (decide ((n : Int) > 1048576))) ∧ w' = w := by
  go_enter Try.func4, Try.ntmps4
  go_wp2_with fail
  go_ret
  exact ⟨ret_bool (by simp), rfl⟩
theorem laws_big_yes {n : Nat} (h : (n : Int) > 1048576) (a : Option Addr) (c : Nat) (w : World) : Calls Try.prog 4 #[.slice a n c] w fun e w' => e = .returned (.bool true) ∧ w' = w := by
  have := laws_big a n c w
  rwa [decide_eq_true h] at this
theorem laws_big_no {n : Nat} (h : ¬ (n : Int) > 1048576) (a : Option Addr) (c : Nat) (w : World) : Calls Try.prog 4 #[.slice a n c] w fun e w' => e = .returned (.bool false) ∧ w' = w := by
  have := laws_big a n c w
  rwa [decide_eq_false h] at this
end Go.Proofs.Ytcdcpfcmhmhdjaa

/- MatchSet: the walks. Written by gen_probe3.py. -/
namespace Go.Proofs.Ytcdcpfcmhmhdjaa
open Go.RowKit
set_option maxRecDepth 100000 in
set_option maxHeartbeats 1000000 in
theorem impl_MatchSet (x : DIndex) (u v : Value) (r : DRow) (t : Value) (w : World) (hu : RQueries w u x.queries) (hv : RSpanss w v x.fields) (ht : RInts w t r.vals) (hb : totIndex x ≤ 4294967296) :
    Calls Try.prog 11 #[.agg #[u, v], .agg #[.int .i64 r.id, t]] w fun e w' => ∃ q, e = .returned (q) ∧ Gr w w' ∧ PInts (In w.heap.size w'.heap.size) w' q (probeL x r [0, 1, 2]).1 := by
  obtain ⟨ua, un, uc, rfl⟩ := hu.isSl
  obtain ⟨fa, fn, fc, rfl⟩ := hv.isSl
  obtain ⟨ta, tn, tc, rfl⟩ := ht.isSl
  have g0 : Gr w (((w.alloc (.cells #[.slice ua un uc, .slice fa fn fc] 27)).alloc (.cells #[.int .i64 r.id, .slice ta tn tc] 30)).alloc (.cells #[.int .i64 0, .int .i64 1, .int .i64 2] 3)) := (((Gr.refl w).alloc _).alloc _).alloc _
  have hord : RInts (((w.alloc (.cells #[.slice ua un uc, .slice fa fn fc] 27)).alloc (.cells #[.int .i64 r.id, .slice ta tn tc] 30)).alloc (.cells #[.int .i64 0, .int .i64 1, .int .i64 2] 3)) (.slice (some ⟨w.heap.size + 1 + 1, 0, none⟩) 3 3) [0, 1, 2] := by
    refine ⟨some ⟨w.heap.size + 1 + 1, 0, none⟩, 3, rfl, by decide, by decide, fun i hi => ⟨w.heap.size + 1 + 1, 0, [.int .i64 ([0, 1, 2] : List Int)[i]], rfl, rfl, ⟨rfl, ?_⟩, fun j hj => ?_⟩⟩
    · rcases i with _ | _ | _ | i
      · simp [I64]
      · simp [I64]
      · simp [I64]
      · simp at hi; omega
    · have hj0 : j = 0 := by simpa using hj
      subst hj0
      rcases i with _ | _ | _ | i
      · simp [go_sem]
      · simp [go_sem]
      · simp [go_sem]
      · simp at hi; omega
  have HO := Lib.hid hord
  clear hord
  go_enter Try.func11, Try.ntmps11
  go_wp2_with fail
  refine (impl_ProbeSet x _ _ r _ _ [0, 1, 2] _ (RSlice.mono keeps_query g0 hu) (RSlice.mono (keeps_of keeps_span) g0 hv) (ht.mono g0) HO.out hb).mono ?_
  rintro e w1 ⟨q, rfl, g1, hq⟩
  obtain ⟨qa, qn, rfl⟩ := (rd_pints hq).form
  have HQ := Lib.hid (hq.wide (lo' := w.heap.size) (hi' := w1.heap.size) g0.size (Nat.le_refl _))
  clear hq
  go_wp2_with fail
  go_ret
  exact ⟨_, rfl, g0.trans g1, HQ.out⟩
end Go.Proofs.Ytcdcpfcmhmhdjaa

/- A region that draws its order: two operations come up in either order, and what follows is one. No program in sight. -/
namespace Go.Proofs.Ytcdcpfcmhmhdjaa
open Go.ChangeShapes Go.WideShapes Go.RowKit Go.Deep
section
variable {P : Program} {ops : Array Oper} {Q : Exit → Act → World → Prop} {md : Region.Mode} {S : World → Prop} {m : Nat}
theorem wpAnyG_pair {R : Act → World → Prop} {i j : Nat} {oi oj : Oper} {fuel : Nat} {listed : Array Bool} {a : Act} {w : World} (hi : ops[i]? = some oi) (hj : ops[j]? = some oj) (hij : i ≠ j)
    (hr : Region.ready md ops listed = [i, j]) (hr1 : Region.ready md ops (listed.setIfInBounds i true) = [j]) (hr2 : Region.ready md ops (listed.setIfInBounds j true) = [i])
    (h1 : ∀ K : Act → World → Prop, Go.Shut (∀ a' w', (i ≠ m → S w') → (∀ K' : Act → World → Prop, Go.Shut (∀ a'' w'', (j ≠ m → S w'') → R a'' w'' → K' a'' w'') → if Region.wanted oj (yielded ops a'.tmps) = true then Oper.wp P oj a' w' K' Q else K' (a'.put oj.dst undef) w') → K a' w') → if Region.wanted oi (yielded ops a.tmps) = true then Oper.wp P oi a w K Q else K (a.put oi.dst undef) w)
    (h2 : ∀ K : Act → World → Prop, Go.Shut (∀ a' w', (j ≠ m → S w') → (∀ K' : Act → World → Prop, Go.Shut (∀ a'' w'', (i ≠ m → S w'') → R a'' w'' → K' a'' w'') → if Region.wanted oi (yielded ops a'.tmps) = true then Oper.wp P oi a' w' K' Q else K' (a'.put oi.dst undef) w') → K a' w') → if Region.wanted oj (yielded ops a.tmps) = true then Oper.wp P oj a w K Q else K (a.put oj.dst undef) w)
    (h : ∀ a' w', R a' w' → wpAnyG P md ops Q S m fuel ((listed.setIfInBounds i true).setIfInBounds j true) a' w') :
    wpAnyG P md ops Q S m (fuel + 2) listed a w := by
  refine wpAnyG_two hi hj hr (fun K hK => h1 K fun a' w' hS hst => hK a' w' hS (wpAnyG_one hj hr1 fun K' hK' => hst K' fun a'' w'' hS' hR => hK' a'' w'' hS' (h a'' w'' hR))) (fun K hK => h2 K fun a' w' hS hst => hK a' w' hS (wpAnyG_one hi hr2 fun K' hK' => hst K' fun a'' w'' hS' hR => hK' a'' w'' hS' ?_))
  rw [Array.setIfInBounds_comm _ _ (Ne.symm hij)]
  exact h a'' w'' hR
/-- What both orders leave: the act A p for some number p. -/
theorem wpAnyG_pairA {A : Nat → Act} {G : World → Nat → Prop} {i j : Nat} {oi oj : Oper} {fuel : Nat} {listed : Array Bool} {a : Act} {w : World} (hi : ops[i]? = some oi) (hj : ops[j]? = some oj) (hij : i ≠ j)
    (hr : Region.ready md ops listed = [i, j]) (hr1 : Region.ready md ops (listed.setIfInBounds i true) = [j]) (hr2 : Region.ready md ops (listed.setIfInBounds j true) = [i])
    (h1 : ∀ K : Act → World → Prop, Go.Shut (∀ a' w', (i ≠ m → S w') → (∀ K' : Act → World → Prop, Go.Shut (∀ a'' w'', (j ≠ m → S w'') → (∃ p, G w'' p ∧ a'' = A p) → K' a'' w'') → if Region.wanted oj (yielded ops a'.tmps) = true then Oper.wp P oj a' w' K' Q else K' (a'.put oj.dst undef) w') → K a' w') → if Region.wanted oi (yielded ops a.tmps) = true then Oper.wp P oi a w K Q else K (a.put oi.dst undef) w)
    (h2 : ∀ K : Act → World → Prop, Go.Shut (∀ a' w', (j ≠ m → S w') → (∀ K' : Act → World → Prop, Go.Shut (∀ a'' w'', (i ≠ m → S w'') → (∃ p, G w'' p ∧ a'' = A p) → K' a'' w'') → if Region.wanted oi (yielded ops a'.tmps) = true then Oper.wp P oi a' w' K' Q else K' (a'.put oi.dst undef) w') → K a' w') → if Region.wanted oj (yielded ops a.tmps) = true then Oper.wp P oj a w K Q else K (a.put oj.dst undef) w)
    (h : ∀ p w', G w' p → wpAnyG P md ops Q S m fuel ((listed.setIfInBounds i true).setIfInBounds j true) (A p) w') :
    wpAnyG P md ops Q S m (fuel + 2) listed a w :=
  wpAnyG_pair (R := fun a' w' => ∃ p, G w' p ∧ a' = A p) hi hj hij hr hr1 hr2 h1 h2 fun _ w' ⟨p, hG, e⟩ => e ▸ h p w' hG
/-! ### The same over a list of operations: each comes up as it is written, and its slot's number with it -/
variable {l : List Oper} {tl : List Value}
theorem wpAnyG_takeL {i d : Nat} {oi : Oper} {v : Value} {fuel : Nat} {listed : Array Bool} {df : List Deferred} {w : World} (hS : S w) (hi : l[i]? = some oi) (hd : oi.dst = some d)
    (hs : Region.noSelect l.toArray = true) (hf : Region.free md l.toArray listed i = true) (hr : (Region.ready md l.toArray listed).contains i = true) (hw : waitsB md l.toArray m i = true)
    (hQ : ∀ c a w, Q (.panic c) (a.put oi.dst v) w → Q (.panic c) a w) (hy : YieldsIf P l.toArray S oi v ⟨tl.toArray, df⟩)
    (h : wpAnyG P md l.toArray Q S m fuel (listed.setIfInBounds i true) ⟨(tl.set d v).toArray, df⟩ w) : wpAnyG P md l.toArray Q S m (fuel + 1) listed ⟨tl.toArray, df⟩ w := by
  refine wpAnyG_take (v := v) hS (by simpa using hi) hs hf hr hw hQ hy ?_
  unfold Act.put
  rw [hd]
  simpa using h
theorem wpAnyG_oneL {i : Nat} {o : Oper} {fuel : Nat} {listed : Array Bool} {a : Act} {w : World} (hi : l[i]? = some o) (hr : Region.ready md l.toArray listed = [i])
    (h : ∀ K : Act → World → Prop, Go.Shut (∀ a w, (i ≠ m → S w) → wpAnyG P md l.toArray Q S m fuel (listed.setIfInBounds i true) a w → K a w) → if Region.wanted o (yielded l.toArray a.tmps) = true then Oper.wp P o a w K Q else K (a.put o.dst undef) w) :
    wpAnyG P md l.toArray Q S m (fuel + 1) listed a w := wpAnyG_one (by simpa using hi) hr h
theorem wpAnyG_pairL {A : Nat → Act} {G : World → Nat → Prop} {i j : Nat} {oi oj : Oper} {fuel : Nat} {listed : Array Bool} {a : Act} {w : World} (hi : l[i]? = some oi) (hj : l[j]? = some oj) (hij : i ≠ j)
    (hr : Region.ready md l.toArray listed = [i, j]) (hr1 : Region.ready md l.toArray (listed.setIfInBounds i true) = [j]) (hr2 : Region.ready md l.toArray (listed.setIfInBounds j true) = [i])
    (h1 : ∀ K : Act → World → Prop, Go.Shut (∀ a' w', (i ≠ m → S w') → (∀ K' : Act → World → Prop, Go.Shut (∀ a'' w'', (j ≠ m → S w'') → (∃ p, G w'' p ∧ a'' = A p) → K' a'' w'') → if Region.wanted oj (yielded l.toArray a'.tmps) = true then Oper.wp P oj a' w' K' Q else K' (a'.put oj.dst undef) w') → K a' w') → if Region.wanted oi (yielded l.toArray a.tmps) = true then Oper.wp P oi a w K Q else K (a.put oi.dst undef) w)
    (h2 : ∀ K : Act → World → Prop, Go.Shut (∀ a' w', (j ≠ m → S w') → (∀ K' : Act → World → Prop, Go.Shut (∀ a'' w'', (i ≠ m → S w'') → (∃ p, G w'' p ∧ a'' = A p) → K' a'' w'') → if Region.wanted oi (yielded l.toArray a'.tmps) = true then Oper.wp P oi a' w' K' Q else K' (a'.put oi.dst undef) w') → K a' w') → if Region.wanted oj (yielded l.toArray a.tmps) = true then Oper.wp P oj a w K Q else K (a.put oj.dst undef) w)
    (h : ∀ p w', G w' p → wpAnyG P md l.toArray Q S m fuel ((listed.setIfInBounds i true).setIfInBounds j true) (A p) w') :
    wpAnyG P md l.toArray Q S m (fuel + 2) listed a w :=
  wpAnyG_pairA (by simpa using hi) (by simpa using hj) hij hr hr1 hr2 h1 h2 h
end
end Go.Proofs.Ytcdcpfcmhmhdjaa
