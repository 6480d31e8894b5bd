/- A region that draws its order: two operations come up in either order, and what follows is one. No program in sight. -/
import Derived.Test.YtcdcpfcmhmhdjaaGreatDoorHeld
import Derived.Test.YtcdcpfcmhmhdjaaGreatDoorGenInt
import Derived.Test.YtcdcpfcmhmhdjaaGreatDoorGenRow
import Derived.Test.YtcdcpfcmhmhdjaaGreatDoorGenVersion
import Derived.Test.YtcdcpfcmhmhdjaaGreatDoorInts
import Derived.Test.YtcdcpfcmhmhdjaaGreatDoorLawD
import Derived.Test.YtcdcpfcmhmhdjaaGreatDoorLawJ
import Derived.Test.YtcdcpfcmhmhdjaaGreatDoorExt
namespace Go.Proofs.YtcdcpfcmhmhdjaaGreatDoor
open Go.ChangeShapes Go.WideShapes Go.RowKit Go.Deep
section
variable {P : Program} {ops : Array Oper} {Q : Exit → Act → World → Prop} {md : Region.Mode} {S : World → Prop} {m : Nat}
theorem wpAnyG_pair {R : Act → World → Prop} {i j : Nat} {oi oj : Oper} {fuel : Nat} {listed : Array Bool} {a : Act} {w : World} (hi : ops[i]? = some oi) (hj : ops[j]? = some oj) (hij : i ≠ j)
    (hr : Region.ready md ops listed = [i, j]) (hr1 : Region.ready md ops (listed.setIfInBounds i true) = [j]) (hr2 : Region.ready md ops (listed.setIfInBounds j true) = [i])
    (h1 : ∀ K : Act → World → Prop, Go.Shut (∀ a' w', (i ≠ m → S w') → (∀ K' : Act → World → Prop, Go.Shut (∀ a'' w'', (j ≠ m → S w'') → R a'' w'' → K' a'' w'') → if Region.wanted oj (yielded ops a'.tmps) = true then Oper.wp P oj a' w' K' Q else K' (a'.put oj.dst undef) w') → K a' w') → if Region.wanted oi (yielded ops a.tmps) = true then Oper.wp P oi a w K Q else K (a.put oi.dst undef) w)
    (h2 : ∀ K : Act → World → Prop, Go.Shut (∀ a' w', (j ≠ m → S w') → (∀ K' : Act → World → Prop, Go.Shut (∀ a'' w'', (i ≠ m → S w'') → R a'' w'' → K' a'' w'') → if Region.wanted oi (yielded ops a'.tmps) = true then Oper.wp P oi a' w' K' Q else K' (a'.put oi.dst undef) w') → K a' w') → if Region.wanted oj (yielded ops a.tmps) = true then Oper.wp P oj a w K Q else K (a.put oj.dst undef) w)
    (h : ∀ a' w', R a' w' → wpAnyG P md ops Q S m fuel ((listed.setIfInBounds i true).setIfInBounds j true) a' w') :
    wpAnyG P md ops Q S m (fuel + 2) listed a w := by
  refine wpAnyG_two hi hj hr (fun K hK => h1 K fun a' w' hS hst => hK a' w' hS (wpAnyG_one hj hr1 fun K' hK' => hst K' fun a'' w'' hS' hR => hK' a'' w'' hS' (h a'' w'' hR))) (fun K hK => h2 K fun a' w' hS hst => hK a' w' hS (wpAnyG_one hi hr2 fun K' hK' => hst K' fun a'' w'' hS' hR => hK' a'' w'' hS' ?_))
  rw [Array.setIfInBounds_comm _ _ (Ne.symm hij)]
  exact h a'' w'' hR
/-- What both orders leave: the act A p for some number p. -/
theorem wpAnyG_pairA {A : Nat → Act} {G : World → Nat → Prop} {i j : Nat} {oi oj : Oper} {fuel : Nat} {listed : Array Bool} {a : Act} {w : World} (hi : ops[i]? = some oi) (hj : ops[j]? = some oj) (hij : i ≠ j)
    (hr : Region.ready md ops listed = [i, j]) (hr1 : Region.ready md ops (listed.setIfInBounds i true) = [j]) (hr2 : Region.ready md ops (listed.setIfInBounds j true) = [i])
    (h1 : ∀ K : Act → World → Prop, Go.Shut (∀ a' w', (i ≠ m → S w') → (∀ K' : Act → World → Prop, Go.Shut (∀ a'' w'', (j ≠ m → S w'') → (∃ p, G w'' p ∧ a'' = A p) → K' a'' w'') → if Region.wanted oj (yielded ops a'.tmps) = true then Oper.wp P oj a' w' K' Q else K' (a'.put oj.dst undef) w') → K a' w') → if Region.wanted oi (yielded ops a.tmps) = true then Oper.wp P oi a w K Q else K (a.put oi.dst undef) w)
    (h2 : ∀ K : Act → World → Prop, Go.Shut (∀ a' w', (j ≠ m → S w') → (∀ K' : Act → World → Prop, Go.Shut (∀ a'' w'', (i ≠ m → S w'') → (∃ p, G w'' p ∧ a'' = A p) → K' a'' w'') → if Region.wanted oi (yielded ops a'.tmps) = true then Oper.wp P oi a' w' K' Q else K' (a'.put oi.dst undef) w') → K a' w') → if Region.wanted oj (yielded ops a.tmps) = true then Oper.wp P oj a w K Q else K (a.put oj.dst undef) w)
    (h : ∀ p w', G w' p → wpAnyG P md ops Q S m fuel ((listed.setIfInBounds i true).setIfInBounds j true) (A p) w') :
    wpAnyG P md ops Q S m (fuel + 2) listed a w :=
  wpAnyG_pair (R := fun a' w' => ∃ p, G w' p ∧ a' = A p) hi hj hij hr hr1 hr2 h1 h2 fun _ w' ⟨p, hG, e⟩ => e ▸ h p w' hG
/-! ### The same over a list of operations: each comes up as it is written, and its slot's number with it -/
variable {l : List Oper} {tl : List Value}
theorem wpAnyG_takeL {i d : Nat} {oi : Oper} {v : Value} {fuel : Nat} {listed : Array Bool} {df : List Deferred} {w : World} (hS : S w) (hi : l[i]? = some oi) (hd : oi.dst = some d)
    (hs : Region.noSelect l.toArray = true) (hf : Region.free md l.toArray listed i = true) (hr : (Region.ready md l.toArray listed).contains i = true) (hw : waitsB md l.toArray m i = true)
    (hQ : ∀ c a w, Q (.panic c) (a.put oi.dst v) w → Q (.panic c) a w) (hy : YieldsIf P l.toArray S oi v ⟨tl.toArray, df⟩)
    (h : wpAnyG P md l.toArray Q S m fuel (listed.setIfInBounds i true) ⟨(tl.set d v).toArray, df⟩ w) : wpAnyG P md l.toArray Q S m (fuel + 1) listed ⟨tl.toArray, df⟩ w := by
  refine wpAnyG_take (v := v) hS (by simpa using hi) hs hf hr hw hQ hy ?_
  unfold Act.put
  rw [hd]
  simpa using h
theorem wpAnyG_oneL {i : Nat} {o : Oper} {fuel : Nat} {listed : Array Bool} {a : Act} {w : World} (hi : l[i]? = some o) (hr : Region.ready md l.toArray listed = [i])
    (h : ∀ K : Act → World → Prop, Go.Shut (∀ a w, (i ≠ m → S w) → wpAnyG P md l.toArray Q S m fuel (listed.setIfInBounds i true) a w → K a w) → if Region.wanted o (yielded l.toArray a.tmps) = true then Oper.wp P o a w K Q else K (a.put o.dst undef) w) :
    wpAnyG P md l.toArray Q S m (fuel + 1) listed a w := wpAnyG_one (by simpa using hi) hr h
theorem wpAnyG_pairL {A : Nat → Act} {G : World → Nat → Prop} {i j : Nat} {oi oj : Oper} {fuel : Nat} {listed : Array Bool} {a : Act} {w : World} (hi : l[i]? = some oi) (hj : l[j]? = some oj) (hij : i ≠ j)
    (hr : Region.ready md l.toArray listed = [i, j]) (hr1 : Region.ready md l.toArray (listed.setIfInBounds i true) = [j]) (hr2 : Region.ready md l.toArray (listed.setIfInBounds j true) = [i])
    (h1 : ∀ K : Act → World → Prop, Go.Shut (∀ a' w', (i ≠ m → S w') → (∀ K' : Act → World → Prop, Go.Shut (∀ a'' w'', (j ≠ m → S w'') → (∃ p, G w'' p ∧ a'' = A p) → K' a'' w'') → if Region.wanted oj (yielded l.toArray a'.tmps) = true then Oper.wp P oj a' w' K' Q else K' (a'.put oj.dst undef) w') → K a' w') → if Region.wanted oi (yielded l.toArray a.tmps) = true then Oper.wp P oi a w K Q else K (a.put oi.dst undef) w)
    (h2 : ∀ K : Act → World → Prop, Go.Shut (∀ a' w', (j ≠ m → S w') → (∀ K' : Act → World → Prop, Go.Shut (∀ a'' w'', (i ≠ m → S w'') → (∃ p, G w'' p ∧ a'' = A p) → K' a'' w'') → if Region.wanted oi (yielded l.toArray a'.tmps) = true then Oper.wp P oi a' w' K' Q else K' (a'.put oi.dst undef) w') → K a' w') → if Region.wanted oj (yielded l.toArray a.tmps) = true then Oper.wp P oj a w K Q else K (a.put oj.dst undef) w)
    (h : ∀ p w', G w' p → wpAnyG P md l.toArray Q S m fuel ((listed.setIfInBounds i true).setIfInBounds j true) (A p) w') :
    wpAnyG P md l.toArray Q S m (fuel + 2) listed a w :=
  wpAnyG_pairA (by simpa using hi) (by simpa using hj) hij hr hr1 hr2 h1 h2 h
end
end Go.Proofs.YtcdcpfcmhmhdjaaGreatDoor

/- The law's own helpers: GenSpan. Written by gen_law.py. -/
namespace Go.Proofs.YtcdcpfcmhmhdjaaGreatDoor
open Go.RowKit
set_option linter.unusedSimpArgs false
end Go.Proofs.YtcdcpfcmhmhdjaaGreatDoor

/- EqualRows, EqualSpans: the walks. -/
namespace Go.Proofs.YtcdcpfcmhmhdjaaGreatDoor
open Go.RowKit
set_option maxRecDepth 100000 in
set_option maxHeartbeats 1000000 in
theorem spec_l2Ints (v u : Value) (xs ys : List Int) (w : World) (hx : RInts w v xs) (hy : RInts w u ys) :
    Calls Tryz.prog 57 #[v, u] w fun e w' => e = .returned (.bool (eqL xs ys)) ∧ Gr w w' := by
  obtain ⟨a, cap, rfl, hl, hm, hx⟩ := hx.open
  obtain ⟨a', cap', rfl, hl', hm', hy⟩ := hy.open
  by_cases hn : xs.length = ys.length
  · have hd : ((xs.length : Int) != (ys.length : Int)) = false := by simp; omega
    have HN := Lib.hid hn
    have hle : xs.length ≤ ys.length := by omega
    clear hn
    go_enter Tryz.func57, Tryz.ntmps57
    go_wp2
    go_loopw [5] (fun i wr => ∃ k : Nat, k ≤ xs.length ∧ i = .int .i64 k ∧ Hid (∀ j, j < k → (xs.getD j 0 == ys.getD j 0) = true) ∧ Gr w wr) (fun i _ => xs.length - (intOf i).toNat)
    case atStart => exact ⟨0, Nat.zero_le _, rfl, Lib.hid (fun _ h => absurd h (Nat.not_lt_zero _)), Gr.refl _⟩
    case round =>
      obtain ⟨k, hk, rfl, hall, hgr⟩ := hrel
      by_cases hlt : k < xs.length
      · obtain ⟨b, off, rfl, hc, _⟩ := hx k hlt
        have hlt' : k < ys.length := by omega
        obtain ⟨b', off', rfl, hc', _⟩ := hy k hlt'
        have gc := hgr.cellv hc
        have gc' := hgr.cellv hc'
        have i0 : (0 : Int) ≤ (k : Int) := Int.natCast_nonneg _
        have i1 : (k : Int) < (xs.length : Int) := by omega
        have i2 : (k : Int) < (ys.length : Int) := by omega
        clear hc hc'
        go_wp2
        go_quiet (fail)
        go_wp2
        · go_ret
          have h : (xs[k] != ys[k]) = true := by assumption
          exact ⟨ret_bool (eqL_no k hlt hlt' h).symm, hgr.drewN _⟩
        · go_roundw
          have h : (xs[k] != ys[k]) = false := by assumption
          case rel => exact ⟨k+1, by omega, by go_num, Lib.hid (below_succ hall.out (by rw [getD_lt hlt, getD_lt hlt']; simpa using h)), hgr.drewN _⟩
          case measure => simp [intOf]; omega
      · go_wp2
        go_ret
        exact ⟨ret_bool (eqL_yes HN.out (fun j hj => hall.out j (by omega))).symm, hgr⟩
  · have hd : ((xs.length : Int) != (ys.length : Int)) = true := by simp; omega
    go_enter Tryz.func57, Tryz.ntmps57
    go_wp2
    go_ret
    exact ⟨ret_bool (by simp [eqL]; intro h; exact hn (by rw [h])), Gr.refl _⟩
set_option maxRecDepth 100000 in
set_option maxHeartbeats 1000000 in
theorem impl_sameInts (v u : Value) (xs ys : List Int) (w : World) (hx : RInts w v xs) (hy : RInts w u ys) :
    Calls Tryz.prog 71 #[v, u] w fun e w' => e = .returned (.bool (eqL xs ys)) ∧ Gr w w' := by
  obtain ⟨a, cap, rfl, hl, hm, hx⟩ := hx.open
  obtain ⟨a', cap', rfl, hl', hm', hy⟩ := hy.open
  by_cases hn : xs.length = ys.length
  · have hd : ((xs.length : Int) != (ys.length : Int)) = false := by simp; omega
    have HN := Lib.hid hn
    have hle : xs.length ≤ ys.length := by omega
    clear hn
    go_enter Tryz.func71, Tryz.ntmps71
    go_wp2
    go_loopw [13] (fun i wr => ∃ k : Nat, k ≤ xs.length ∧ i = .int .i64 k ∧ Hid (∀ j, j < k → (xs.getD j 0 == ys.getD j 0) = true) ∧ Gr w wr) (fun i _ => xs.length - (intOf i).toNat)
    case atStart => exact ⟨0, Nat.zero_le _, rfl, Lib.hid (fun _ h => absurd h (Nat.not_lt_zero _)), Gr.refl _⟩
    case round =>
      obtain ⟨k, hk, rfl, hall, hgr⟩ := hrel
      by_cases hlt : k < xs.length
      · obtain ⟨b, off, rfl, hc, _⟩ := hx k hlt
        have hlt' : k < ys.length := by omega
        obtain ⟨b', off', rfl, hc', _⟩ := hy k hlt'
        have gc := hgr.cellv hc
        have gc' := hgr.cellv hc'
        have i0 : (0 : Int) ≤ (k : Int) := Int.natCast_nonneg _
        have i1 : (k : Int) < (xs.length : Int) := by omega
        have i2 : (k : Int) < (ys.length : Int) := by omega
        clear hc hc'
        go_wp2
        go_quiet (fail)
        go_wp2
        · go_ret
          have h : (xs[k] != ys[k]) = true := by assumption
          exact ⟨ret_bool (eqL_no k hlt hlt' h).symm, hgr.drewN _⟩
        · go_roundw
          have h : (xs[k] != ys[k]) = false := by assumption
          case rel => exact ⟨k+1, by omega, by go_num, Lib.hid (below_succ hall.out (by rw [getD_lt hlt, getD_lt hlt']; simpa using h)), hgr.drewN _⟩
          case measure => simp [intOf]; omega
      · go_wp2
        go_ret
        exact ⟨ret_bool (eqL_yes HN.out (fun j hj => hall.out j (by omega))).symm, hgr⟩
  · have hd : ((xs.length : Int) != (ys.length : Int)) = true := by simp; omega
    go_enter Tryz.func71, Tryz.ntmps71
    go_wp2
    go_ret
    exact ⟨ret_bool (by simp [eqL]; intro h; exact hn (by rw [h])), Gr.refl _⟩
def eqRowB (x y : DRow) : Bool := x.id == y.id && eqL x.vals y.vals
set_option maxRecDepth 100000 in
set_option maxHeartbeats 1000000 in
theorem spec_l3Same (x y : DRow) (u v : Value) (w : World) (hx : RInts w u x.vals) (hy : RInts w v y.vals) : Calls Tryz.prog 25 #[.agg #[.int .i64 x.id, u], .agg #[.int .i64 y.id, v]] w fun e w' => e = .returned (.bool (eqRowB x y)) ∧ Gr w w' := by
  obtain ⟨id, xs⟩ := x
  obtain ⟨jd, ys⟩ := y
  dsimp only at *
  have g0 : Gr w ((w.alloc (.cells #[.int .i64 id, u] 36)).alloc (.cells #[.int .i64 jd, v] 36)) := ((Gr.refl w).alloc _).alloc _
  by_cases h1 : id = jd
  · have h2 : (id == jd) = true := by simp [h1]
    have HF : Hid (eqRowB ⟨id, xs⟩ ⟨jd, ys⟩ = eqL xs ys) := Lib.hid (by simp [eqRowB, h1])
    clear h1
    go_enter Tryz.func25, Tryz.ntmps25
    go_wp2_with fail
    refine (spec_l2Ints u v xs ys _ (hx.mono g0) (hy.mono g0)).mono ?_
    rintro e w1 ⟨rfl, g1⟩
    go_wp2_with fail
    go_ret
    exact ⟨ret_bool (by rw [HF.out]), g0.trans g1⟩
  · have h2 : (id == jd) = false := by simpa using h1
    have HF : Hid (eqRowB ⟨id, xs⟩ ⟨jd, ys⟩ = false) := Lib.hid (by simp [eqRowB, h1])
    clear h1
    go_enter Tryz.func25, Tryz.ntmps25
    go_wp2
    go_ret
    exact ⟨ret_bool HF.out.symm, g0⟩
set_option maxRecDepth 100000 in
set_option maxHeartbeats 1000000 in
theorem impl_equalRow (x y : DRow) (u v : Value) (w : World) (hx : RInts w u x.vals) (hy : RInts w v y.vals) : Calls Tryz.prog 47 #[.agg #[.int .i64 x.id, u], .agg #[.int .i64 y.id, v]] w fun e w' => e = .returned (.bool (eqRowB x y)) ∧ Gr w w' := by
  obtain ⟨id, xs⟩ := x
  obtain ⟨jd, ys⟩ := y
  dsimp only at *
  have g0 : Gr w ((w.alloc (.cells #[.int .i64 id, u] 36)).alloc (.cells #[.int .i64 jd, v] 36)) := ((Gr.refl w).alloc _).alloc _
  by_cases h1 : id = jd
  · have h2 : (id == jd) = true := by simp [h1]
    have HF : Hid (eqRowB ⟨id, xs⟩ ⟨jd, ys⟩ = eqL xs ys) := Lib.hid (by simp [eqRowB, h1])
    clear h1
    go_enter Tryz.func47, Tryz.ntmps47
    go_wp2_with fail
    refine (impl_sameInts u v xs ys _ (hx.mono g0) (hy.mono g0)).mono ?_
    rintro e w1 ⟨rfl, g1⟩
    go_wp2_with fail
    go_ret
    exact ⟨ret_bool (by rw [HF.out]), g0.trans g1⟩
  · have h2 : (id == jd) = false := by simpa using h1
    have HF : Hid (eqRowB ⟨id, xs⟩ ⟨jd, ys⟩ = false) := Lib.hid (by simp [eqRowB, h1])
    clear h1
    go_enter Tryz.func47, Tryz.ntmps47
    go_wp2
    go_ret
    exact ⟨ret_bool HF.out.symm, g0⟩
end Go.Proofs.YtcdcpfcmhmhdjaaGreatDoor

/- The laws' own small functions over numbers. -/
namespace Go.Proofs.YtcdcpfcmhmhdjaaGreatDoor
open Go.RowKit
set_option maxRecDepth 100000 in
set_option maxHeartbeats 1000000 in
theorem laws_sameInts (v u : Value) (xs ys : List Int) (w : World) (hx : RInts w v xs) (hy : RInts w u ys) :
    Calls Tryz.prog 16 #[v, u] w fun e w' => e = .returned (.bool (eqL xs ys)) ∧ Gr w w' := by
  obtain ⟨a, cap, rfl, hl, hm, hx⟩ := hx.open
  obtain ⟨a', cap', rfl, hl', hm', hy⟩ := hy.open
  by_cases hn : xs.length = ys.length
  · have hd : ((xs.length : Int) != (ys.length : Int)) = false := by simp; omega
    have HN := Lib.hid hn
    have hle : xs.length ≤ ys.length := by omega
    clear hn
    go_enter Tryz.func16, Tryz.ntmps16
    go_wp2
    go_loopw [5] (fun i wr => ∃ k : Nat, k ≤ xs.length ∧ i = .int .i64 k ∧ Hid (∀ j, j < k → (xs.getD j 0 == ys.getD j 0) = true) ∧ Gr w wr) (fun i _ => xs.length - (intOf i).toNat)
    case atStart => exact ⟨0, Nat.zero_le _, rfl, Lib.hid (fun _ h => absurd h (Nat.not_lt_zero _)), Gr.refl _⟩
    case round =>
      obtain ⟨k, hk, rfl, hall, hgr⟩ := hrel
      by_cases hlt : k < xs.length
      · obtain ⟨b, off, rfl, hc, _⟩ := hx k hlt
        have hlt' : k < ys.length := by omega
        obtain ⟨b', off', rfl, hc', _⟩ := hy k hlt'
        have gc := hgr.cellv hc
        have gc' := hgr.cellv hc'
        have i0 : (0 : Int) ≤ (k : Int) := Int.natCast_nonneg _
        have i1 : (k : Int) < (xs.length : Int) := by omega
        have i2 : (k : Int) < (ys.length : Int) := by omega
        clear hc hc'
        go_wp2
        go_quiet (fail)
        go_wp2
        · go_ret
          have h : (xs[k] != ys[k]) = true := by assumption
          exact ⟨ret_bool (eqL_no k hlt hlt' h).symm, hgr.drewN _⟩
        · go_roundw
          have h : (xs[k] != ys[k]) = false := by assumption
          case rel => exact ⟨k+1, by omega, by go_num, Lib.hid (below_succ hall.out (by rw [getD_lt hlt, getD_lt hlt']; simpa using h)), hgr.drewN _⟩
          case measure => simp [intOf]; omega
      · go_wp2
        go_ret
        exact ⟨ret_bool (eqL_yes HN.out (fun j hj => hall.out j (by omega))).symm, hgr⟩
  · have hd : ((xs.length : Int) != (ys.length : Int)) = true := by simp; omega
    go_enter Tryz.func16, Tryz.ntmps16
    go_wp2
    go_ret
    exact ⟨ret_bool (by simp [eqL]; intro h; exact hn (by rw [h])), Gr.refl _⟩
theorem laws_sameInts_of {xs ys : List Int} {b : Bool} (h : eqL xs ys = b) (v u : Value) (w : World) (hx : RInts w v xs) (hy : RInts w u ys) : Calls Tryz.prog 16 #[v, u] w fun e w' => e = .returned (.bool b) ∧ Gr w w' := h ▸ laws_sameInts v u xs ys w hx hy
theorem eqL_self (xs : List Int) : eqL xs xs = true := by simp [eqL]
theorem laws_sameInts_self {xs : List Int} (v u : Value) (w : World) (hx : RInts w v xs) (hy : RInts w u xs) : Calls Tryz.prog 16 #[v, u] w fun e w' => e = .returned (.bool true) ∧ Gr w w' := laws_sameInts_of (eqL_self xs) v u w hx hy
theorem laws_big (a : Option Addr) (n c : Nat) (w : World) : Calls Tryz.prog 4 #[.slice a n c] w fun e w' => e = .returned (.bool (decide ((n : Int) > 1048576))) ∧ w' = w := by
  go_enter Tryz.func4, Tryz.ntmps4
  go_wp2_with fail
  go_ret
  exact ⟨ret_bool (by simp), rfl⟩
theorem laws_big_yes {n : Nat} (h : (n : Int) > 1048576) (a : Option Addr) (c : Nat) (w : World) : Calls Tryz.prog 4 #[.slice a n c] w fun e w' => e = .returned (.bool true) ∧ w' = w := by
  have := laws_big a n c w
  rwa [decide_eq_true h] at this
theorem laws_big_no {n : Nat} (h : ¬ (n : Int) > 1048576) (a : Option Addr) (c : Nat) (w : World) : Calls Tryz.prog 4 #[.slice a n c] w fun e w' => e = .returned (.bool false) ∧ w' = w := by
  have := laws_big a n c w
  rwa [decide_eq_false h] at this
end Go.Proofs.YtcdcpfcmhmhdjaaGreatDoor

/- EqualRows: the walks. -/
namespace Go.Proofs.YtcdcpfcmhmhdjaaGreatDoor
open Go.RowKit
def rowsEqAt (xs ys : List DRow) (j : Nat) : Bool := eqRowB (xs.getD j ⟨0, []⟩) (ys.getD j ⟨0, []⟩)
def eqRowsB (xs ys : List DRow) : Bool := decide (xs.length = ys.length) && allB xs.length (rowsEqAt xs ys)
theorem rowsEqAt_eq {xs ys : List DRow} {k : Nat} (h : k < xs.length) (h' : k < ys.length) : rowsEqAt xs ys k = eqRowB xs[k] ys[k] := by unfold rowsEqAt; rw [getD_lt h, getD_lt h']
theorem eqRowsB_no {xs ys : List DRow} {k : Nat} (h : k < xs.length) (h' : k < ys.length) (he : eqRowB xs[k] ys[k] = false) : eqRowsB xs ys = false := by
  unfold eqRowsB; rw [allB_false (p := rowsEqAt xs ys) k h (by rw [rowsEqAt_eq h h']; exact he)]; simp
theorem eqRowsB_yes {xs ys : List DRow} (hl : xs.length = ys.length) (h : ∀ j, j < xs.length → rowsEqAt xs ys j = true) : eqRowsB xs ys = true := by
  unfold eqRowsB; rw [allB_true h]; simp [hl]
theorem spec_l3Same_of {x y : DRow} {b : Bool} (h : eqRowB x y = b) (u v : Value) (w : World) (hx : RInts w u x.vals) (hy : RInts w v y.vals) : Calls Tryz.prog 25 #[.agg #[.int .i64 x.id, u], .agg #[.int .i64 y.id, v]] w fun e w' => e = .returned (.bool b) ∧ Gr w w' := h ▸ spec_l3Same x y u v w hx hy
set_option maxRecDepth 100000 in
set_option maxHeartbeats 2000000 in
theorem spec_EqualRows (v : Value) (xs : List DRow) (v' : Value) (ys : List DRow) (w : World) (hx : RRows w v xs) (hy : RRows w v' ys) : Calls Tryz.prog 7 #[v, v'] w fun e w' => e = .returned (.bool (eqRowsB xs ys)) ∧ Gr w w' := by
  obtain ⟨a, cap, rfl, hl, hm, hx⟩ := hx
  obtain ⟨a', cap', rfl, hl', hm', hx'⟩ := hy
  by_cases hn : xs.length = ys.length
  · have hd : ((xs.length : Int) != (ys.length : Int)) = false := by simp; omega
    have HN := Lib.hid hn
    have hle : xs.length ≤ ys.length := by omega
    clear hn
    go_enter Tryz.func7, Tryz.ntmps7
    go_wp2
    go_loopw [5] (fun i wr => ∃ k : Nat, k ≤ xs.length ∧ i = .int .i64 k ∧ Hid (∀ j, j < k → rowsEqAt xs ys j = true) ∧ Gr w wr) (fun i _ => xs.length - (intOf i).toNat)
    case atStart => exact ⟨0, Nat.zero_le _, rfl, Lib.hid (fun _ h => absurd h (Nat.not_lt_zero _)), Gr.refl _⟩
    case round =>
      obtain ⟨k, hk, rfl, hall, hgr⟩ := hrel
      by_cases hlt : k < xs.length
      · have hlt' : k < ys.length := by omega
        obtain ⟨b, off, cs, rfl, hlen, ⟨u_vals, rfl, i_id, h_vals⟩, hc⟩ := hx k hlt
        have c0 := hgr.cellv (hc 0 (by simp))
        have c1 := hgr.cellv (hc 1 (by simp))
        simp only [Nat.add_zero, List.getElem_cons_zero, List.getElem_cons_succ] at c0 c1
        clear hc hlen
        obtain ⟨b', off', cs', rfl, hlen', ⟨u_vals', rfl, i_id', h_vals'⟩, hc'⟩ := hx' k hlt'
        have d0 := hgr.cellv (hc' 0 (by simp))
        have d1 := hgr.cellv (hc' 1 (by simp))
        simp only [Nat.add_zero, List.getElem_cons_zero, List.getElem_cons_succ] at d0 d1
        clear hc' hlen'
        have r0 := RSlice.mono keeps_int hgr h_vals
        have r1 := RSlice.mono keeps_int hgr h_vals'
        have i0 : (0 : Int) ≤ (k : Int) := Int.natCast_nonneg _
        have i1 : (k : Int) < (xs.length : Int) := by omega
        have i2 : (k : Int) < (ys.length : Int) := by omega
        cases hr : eqRowB xs[k] ys[k] with
        | false =>
          have HR := Lib.hid hr
          clear hr
          go_wp2
          go_region_held3 (fun w' => w'.cell? ⟨b, off + k * 2, none⟩ = some (.int .i64 xs[k].id) ∧ w'.cell? ⟨b, off + k * 2 + 1, none⟩ = some u_vals ∧ w'.cell? ⟨b', off' + k * 2, none⟩ = some (.int .i64 ys[k].id) ∧ w'.cell? ⟨b', off' + k * 2 + 1, none⟩ = some u_vals' ∧ RInts w' u_vals xs[k].vals ∧ RInts w' u_vals' ys[k].vals ∧ Gr wr w')
            (first | exact ⟨c0, c1, d0, d1, r0, r1, Gr.refl _⟩ | exact ⟨c0, c1, d0, d1, r0, r1, (Gr.refl _).drew⟩ | (go_split_ands; exact ⟨Gr.cellv g1 (by assumption), Gr.cellv g1 (by assumption), Gr.cellv g1 (by assumption), Gr.cellv g1 (by assumption), RSlice.mono keeps_int g1 (by assumption), RSlice.mono keeps_int g1 (by assumption), Gr.trans (by assumption) g1⟩))
            ((go_at_call 25; go_split_ands; refine (spec_l3Same_of HR.out u_vals u_vals' _ (by assumption) (by assumption)).mono ?_; rintro e w1 ⟨rfl, g1⟩))
          all_goals
            have hgr1 : Gr w w1 := hgr.drew.trans g1
            go_wp2
            go_ret
            exact ⟨ret_bool (eqRowsB_no hlt hlt' HR.out).symm, hgr1⟩
        | true =>
          have HR := Lib.hid hr
          clear hr
          go_wp2
          go_region_held3 (fun w' => w'.cell? ⟨b, off + k * 2, none⟩ = some (.int .i64 xs[k].id) ∧ w'.cell? ⟨b, off + k * 2 + 1, none⟩ = some u_vals ∧ w'.cell? ⟨b', off' + k * 2, none⟩ = some (.int .i64 ys[k].id) ∧ w'.cell? ⟨b', off' + k * 2 + 1, none⟩ = some u_vals' ∧ RInts w' u_vals xs[k].vals ∧ RInts w' u_vals' ys[k].vals ∧ Gr wr w')
            (first | exact ⟨c0, c1, d0, d1, r0, r1, Gr.refl _⟩ | exact ⟨c0, c1, d0, d1, r0, r1, (Gr.refl _).drew⟩ | (go_split_ands; exact ⟨Gr.cellv g1 (by assumption), Gr.cellv g1 (by assumption), Gr.cellv g1 (by assumption), Gr.cellv g1 (by assumption), RSlice.mono keeps_int g1 (by assumption), RSlice.mono keeps_int g1 (by assumption), Gr.trans (by assumption) g1⟩))
            ((go_at_call 25; go_split_ands; refine (spec_l3Same_of HR.out u_vals u_vals' _ (by assumption) (by assumption)).mono ?_; rintro e w1 ⟨rfl, g1⟩))
          all_goals
            have hgr1 : Gr w w1 := hgr.drew.trans g1
            go_wp2
            go_roundw
            case rel => exact ⟨k + 1, by omega, by go_num, Lib.hid (below_succ hall.out (by rw [rowsEqAt_eq hlt hlt']; exact HR.out)), hgr1⟩
            case measure => simp [intOf]; omega
      · go_wp2
        go_ret
        exact ⟨ret_bool (eqRowsB_yes HN.out (fun j hj => hall.out j (by omega))).symm, hgr⟩
  · have hd : ((xs.length : Int) != (ys.length : Int)) = true := by simp; omega
    have HN := Lib.hid hn
    clear hn
    go_enter Tryz.func7, Tryz.ntmps7
    go_wp2
    go_ret
    exact ⟨ret_bool (by have := HN.out; simp [eqRowsB, this]), Gr.refl _⟩
set_option maxRecDepth 100000 in
set_option maxHeartbeats 2000000 in
theorem slices_EqualRows (v : Value) (xs : List DRow) (v' : Value) (ys : List DRow) (w : World) (hx : RRows w v xs) (hy : RRows w v' ys) : Calls Tryz.prog 46 #[v, v', .func (.func 47) #[] #[]] w fun e w' => e = .returned (.bool (eqRowsB xs ys)) ∧ Gr w w' := by
  obtain ⟨a, cap, rfl, hl, hm, hx⟩ := hx
  obtain ⟨a', cap', rfl, hl', hm', hx'⟩ := hy
  by_cases hn : xs.length = ys.length
  · have hd : ((xs.length : Int) != (ys.length : Int)) = false := by simp; omega
    have HN := Lib.hid hn
    have hle : xs.length ≤ ys.length := by omega
    clear hn
    go_enter Tryz.func46, Tryz.ntmps46
    go_wp2
    go_loopw [17] (fun i wr => ∃ k : Nat, k ≤ xs.length ∧ i = .int .i64 k ∧ Hid (∀ j, j < k → rowsEqAt xs ys j = true) ∧ Gr w wr) (fun i _ => xs.length - (intOf i).toNat)
    case atStart => exact ⟨0, Nat.zero_le _, rfl, Lib.hid (fun _ h => absurd h (Nat.not_lt_zero _)), Gr.refl _⟩
    case round =>
      obtain ⟨k, hk, rfl, hall, hgr⟩ := hrel
      by_cases hlt : k < xs.length
      · have hlt' : k < ys.length := by omega
        obtain ⟨b, off, cs, rfl, hlen, ⟨u_vals, rfl, i_id, h_vals⟩, hc⟩ := hx k hlt
        have c0 := hgr.cellv (hc 0 (by simp))
        have c1 := hgr.cellv (hc 1 (by simp))
        simp only [Nat.add_zero, List.getElem_cons_zero, List.getElem_cons_succ] at c0 c1
        clear hc hlen
        obtain ⟨b', off', cs', rfl, hlen', ⟨u_vals', rfl, i_id', h_vals'⟩, hc'⟩ := hx' k hlt'
        have d0 := hgr.cellv (hc' 0 (by simp))
        have d1 := hgr.cellv (hc' 1 (by simp))
        simp only [Nat.add_zero, List.getElem_cons_zero, List.getElem_cons_succ] at d0 d1
        clear hc' hlen'
        obtain ⟨ua, un, uc, rfl⟩ := RSlice.isSl h_vals
        obtain ⟨va, vn, vc, rfl⟩ := RSlice.isSl h_vals'
        have e0 := ((Gr.refl wr).alloc (.cells #[.int .i64 xs[k].id, .slice ua un uc] 36)).cellv d0
        have e1 := ((Gr.refl wr).alloc (.cells #[.int .i64 xs[k].id, .slice ua un uc] 36)).cellv d1
        have gb := ((hgr.alloc (.cells #[.int .i64 xs[k].id, .slice ua un uc] 36)).alloc (.cells #[.int .i64 ys[k].id, .slice va vn vc] 36))
        cases hr : eqRowB xs[k] ys[k] with
        | false =>
          have HR := Lib.hid hr
          clear hr
          go_wp2_with fail
          refine (impl_equalRow xs[k] ys[k] _ _ _ (RSlice.mono keeps_int gb h_vals) (RSlice.mono keeps_int gb h_vals')).mono ?_
          rintro e w1 ⟨rfl, g1⟩
          rw [HR.out]
          go_wp2_with fail
          go_ret
          exact ⟨ret_bool (eqRowsB_no hlt hlt' HR.out).symm, gb.trans g1⟩
        | true =>
          have HR := Lib.hid hr
          clear hr
          go_wp2_with fail
          refine (impl_equalRow xs[k] ys[k] _ _ _ (RSlice.mono keeps_int gb h_vals) (RSlice.mono keeps_int gb h_vals')).mono ?_
          rintro e w1 ⟨rfl, g1⟩
          rw [HR.out]
          have hgr1 : Gr w w1 := gb.trans g1
          go_wp2_with fail
          go_roundw
          case rel => exact ⟨k + 1, by omega, by go_num, Lib.hid (below_succ hall.out (by rw [rowsEqAt_eq hlt hlt']; exact HR.out)), hgr1⟩
          case measure => simp [intOf]; omega
      · go_wp2
        go_ret
        exact ⟨ret_bool (eqRowsB_yes HN.out (fun j hj => hall.out j (by omega))).symm, hgr⟩
  · have hd : ((xs.length : Int) != (ys.length : Int)) = true := by simp; omega
    have HN := Lib.hid hn
    clear hn
    go_enter Tryz.func46, Tryz.ntmps46
    go_wp2
    go_ret
    exact ⟨ret_bool (by have := HN.out; simp [eqRowsB, this]), Gr.refl _⟩
set_option maxRecDepth 100000 in
set_option maxHeartbeats 1000000 in
theorem impl_EqualRows (v : Value) (xs : List DRow) (v' : Value) (ys : List DRow) (w : World) (hx : RRows w v xs) (hy : RRows w v' ys) : Calls Tryz.prog 20 #[v, v'] w fun e w' => e = .returned (.bool (eqRowsB xs ys)) ∧ Gr w w' := by
  go_enter Tryz.func20, Tryz.ntmps20
  go_wp2_with fail
  refine (slices_EqualRows _ xs _ ys _ hx hy).mono ?_
  rintro e w1 ⟨rfl, g1⟩
  go_wp2_with fail
  go_ret
  exact ⟨ret_bool rfl, g1⟩
-- gen FnExactEqualRows EqualRows RowS RowS
-- endgen
end Go.Proofs.YtcdcpfcmhmhdjaaGreatDoor

/- MatchesRow and admits: the plain law and the walks. -/
namespace Go.Proofs.YtcdcpfcmhmhdjaaGreatDoor
open Go.RowKit
theorem calls_b {P : Program} {f : FuncId} {args : Array Value} {w : World} {c b : Bool} {R : World → Prop} (h : Calls P f args w fun e w' => e = .returned (.bool c) ∧ R w') (hb : c = b) :
    Calls P f args w fun e w' => e = .returned (.bool b) ∧ R w' := hb ▸ h
theorem all_no {α : Type} {p : α → Bool} {xs : List α} {k : Nat} (h : k < xs.length) (hp : p xs[k] = false) : xs.all p = false := by
  rw [List.all_eq_false]; exact ⟨xs[k], List.getElem_mem h, by simp [hp]⟩
theorem all_yes {α : Type} {p : α → Bool} {xs : List α} (h : ∀ j (h : j < xs.length), p xs[j] = true) : xs.all p = true := by
  rw [List.all_eq_true]; intro x hx; obtain ⟨i, hi, rfl⟩ := List.getElem_of_mem hx; exact h i hi
theorem below_suc {α : Type} {xs : List α} {k : Nat} {p : α → Prop} (h : ∀ j (h : j < xs.length), j < k → p xs[j]) (hk : k < xs.length) (hp : p xs[k]) : ∀ j (h : j < xs.length), j < k + 1 → p xs[j] := fun j hj hjk => by
  rcases Nat.lt_succ_iff_lt_or_eq.1 hjk with h' | rfl
  · exact h j hj h'
  · exact hp
def admC (f v : Int) (c : DCond) : Bool := !(c.field == f && !inB v c.low c.high)
def admB (q : DQuery) (f v : Int) : Bool := q.conds.all (admC f v)
def admV (q : DQuery) (vals : List Int) (j : Nat) : Bool := admB q (j : Int) (vals.getD j 0)
def matchB (q : DQuery) (r : DRow) : Bool := (isQueryB q && isRowB r) && allB r.vals.length (admV q r.vals)
def condIn (vals : List Int) (c : DCond) : Bool := inB (vals.getD c.field.toNat 0) c.low c.high
theorem isQueryB_parts {q : DQuery} (h : isQueryB q = true) : (∀ j (h : j < q.conds.length), isCondB q.conds[j] = true) ∧ (0 ≤ q.id ∧ q.id ≤ 23) ∧ q.conds.length ≤ 3 ∧ (∀ j (h : j < q.out.length), 0 ≤ q.out[j] ∧ q.out[j] ≤ 2) ∧ 1 ≤ q.out.length ∧ q.out.length ≤ 3 := by
  unfold isQueryB at h
  simp only [Bool.and_eq_true, decide_eq_true_eq] at h
  obtain ⟨h1, h2, h3, h4, h5⟩ := h
  rw [allB_iff] at h1
  unfold fieldsB at h5
  simp only [Bool.and_eq_true, allB_iff] at h5
  refine ⟨fun j hj => ?_, inB_true h2, h4, fun j hj => ?_, ?_, ?_⟩
  · have := h1 j hj
    unfold condAt condOk at this
    rw [getD_lt hj] at this
    simp only [Bool.and_eq_true] at this
    exact this.1
  · have := h5.1 j hj
    rw [fieldAt_eq hj] at this
    exact inB_true this
  · have := inB_true h5.2; omega
  · have := inB_true h5.2; omega
theorem isCondB_parts {c : DCond} (h : isCondB c = true) : 0 ≤ c.field ∧ c.field ≤ 2 ∧ 0 ≤ c.low ∧ c.low ≤ c.high ∧ c.high ≤ 99 := by
  unfold isCondB at h
  simp only [Bool.and_eq_true, decide_eq_true_eq] at h
  obtain ⟨⟨h1, h2⟩, h3⟩ := h
  have := inB_true h1; have := inB_true h2
  omega
theorem isRowB_parts {r : DRow} (h : isRowB r = true) : (∀ j (h : j < r.vals.length), 0 ≤ r.vals[j] ∧ r.vals[j] ≤ 99) ∧ (0 ≤ r.id ∧ r.id ≤ 999) ∧ r.vals.length = 3 := by
  unfold isRowB at h
  simp only [Bool.and_eq_true, decide_eq_true_eq, allB_iff] at h
  obtain ⟨h1, h2, h3⟩ := h
  refine ⟨fun j hj => ?_, inB_true h2, h3⟩
  have := h1 j hj
  unfold valAt at this
  rw [getD_lt hj] at this
  exact inB_true this
theorem matchB_no1 {q : DQuery} {r : DRow} (h : isQueryB q = false) : matchB q r = false := by unfold matchB; rw [h]; rfl
theorem matchB_no2 {q : DQuery} {r : DRow} (h : isRowB r = false) : matchB q r = false := by unfold matchB; rw [h, Bool.and_false]; rfl
theorem matchB_no3 {q : DQuery} {r : DRow} {k : Nat} (hk : k < r.vals.length) (h : admB q (k : Int) r.vals[k] = false) : matchB q r = false := by
  unfold matchB; rw [allB_false (p := admV q r.vals) k hk (by unfold admV; rw [getD_lt hk]; exact h), Bool.and_false]
theorem matchB_yes {q : DQuery} {r : DRow} (h1 : isQueryB q = true) (h2 : isRowB r = true) (h : ∀ j (hj : j < r.vals.length), admB q (j : Int) r.vals[j] = true) : matchB q r = true := by
  unfold matchB; rw [h1, h2, allB_true (fun j hj => by unfold admV; rw [getD_lt hj]; exact h j hj)]; rfl
theorem matchB_conds {q : DQuery} {r : DRow} (h1 : isQueryB q = true) (h2 : isRowB r = true) : matchB q r = q.conds.all (condIn r.vals) := by
  obtain ⟨hc, _, _, _, _, _⟩ := isQueryB_parts h1
  obtain ⟨_, _, h3⟩ := isRowB_parts h2
  unfold matchB
  rw [h1, h2, Bool.true_and, Bool.true_and, Bool.eq_iff_iff, allB_iff, List.all_eq_true]
  constructor
  · intro h c hcm
    obtain ⟨i, hi, rfl⟩ := List.getElem_of_mem hcm
    have hp := isCondB_parts (hc i hi)
    have h4 := h q.conds[i].field.toNat (by omega)
    unfold admV admB at h4
    rw [List.all_eq_true] at h4
    have h5 := h4 _ hcm
    have e : (q.conds[i].field == ((q.conds[i].field.toNat : Nat) : Int)) = true := by simp; omega
    unfold admC at h5
    rw [e, Bool.true_and, Bool.not_not] at h5
    exact h5
  · intro h j hj
    unfold admV admB
    rw [List.all_eq_true]
    intro c hcm
    unfold admC
    by_cases e : c.field = (j : Int)
    · have h4 := h c hcm
      unfold condIn at h4
      have e2 : c.field.toNat = j := by omega
      rw [e2] at h4
      rw [h4]; simp
    · have e2 : (c.field == (j : Int)) = false := by simp [e]
      rw [e2]; simp
theorem condIn_at {vals : List Int} {c : DCond} {F : Nat} (hF : c.field = (F : Int)) (h : F < vals.length) : condIn vals c = inB vals[F] c.low c.high := by
  unfold condIn; rw [hF, Int.toNat_natCast, getD_lt h]
set_option maxRecDepth 100000 in
set_option maxHeartbeats 1000000 in
theorem impl_admits (q : DQuery) (f v : Int) (u u' : Value) (w : World) (hu : RConds w u q.conds) : Calls Tryz.prog 30 #[.agg #[.int .i64 q.id, .int .i64 q.tenant, u, u'], .int .i64 f, .int .i64 v] w fun e w' => e = .returned (.bool (admB q f v)) ∧ Gr w w' := by
  obtain ⟨id, ten, xs, ys⟩ := q
  obtain ⟨a, cap, rfl, hl, hm, hx⟩ := hu
  dsimp only at *
  have g0 : Gr w (w.alloc (.cells #[.int .i64 id, .int .i64 ten, .slice a xs.length cap, u'] 27)) := (Gr.refl w).alloc _
  go_enter Tryz.func30, Tryz.ntmps30
  go_wp2
  go_loopw [12] (fun i wr => ∃ k : Nat, k ≤ xs.length ∧ i = .int .i64 k ∧ Gr w wr ∧ Hid (∀ j (h : j < xs.length), j < k → admC f v xs[j] = true)) (fun i _ => xs.length - (intOf i).toNat)
  case atStart => exact ⟨0, Nat.zero_le _, rfl, g0, Lib.hid fun _ _ h => absurd h (Nat.not_lt_zero _)⟩
  case round =>
    obtain ⟨k, hk, rfl, hgr, hn⟩ := hrel
    by_cases hlt : k < xs.length
    · obtain ⟨b, off, cs, rfl, hlen, ⟨rfl, i_field, i_low, i_high⟩, hc⟩ := hx k hlt
      have c0 := hgr.cellv (hc 0 (by simp))
      have c1 := hgr.cellv (hc 1 (by simp))
      have c2 := hgr.cellv (hc 2 (by simp))
      simp only [Nat.add_zero, List.getElem_cons_zero, List.getElem_cons_succ] at c0 c1 c2
      clear hc hlen
      have gb := hgr.alloc (.cells #[.int .i64 xs[k].field, .int .i64 xs[k].low, .int .i64 xs[k].high] 57)
      cases h1 : (xs[k].field == f) with
      | false =>
        have HE : Hid (admC f v xs[k] = true) := Lib.hid (by unfold admC; rw [h1]; rfl)
        go_wp2_with fail
        go_roundw
        case rel => exact ⟨k + 1, by omega, by go_num, gb, Lib.hid (below_suc (p := fun c => admC f v c = true) hn.out hlt HE.out)⟩
        case measure => simp [intOf]; omega
      | true =>
        cases h2 : inB v xs[k].low xs[k].high with
        | true =>
          have HE : Hid (admC f v xs[k] = true) := Lib.hid (by unfold admC; rw [h1, h2]; rfl)
          have H2 := Lib.hid h2
          clear h2
          go_wp2_with fail
          refine (calls_b (impl_within _ _ _ _) H2.out).mono ?_
          rintro e w' ⟨rfl, rfl⟩
          go_wp2_with fail
          go_roundw
          case rel => exact ⟨k + 1, by omega, by go_num, gb, Lib.hid (below_suc (p := fun c => admC f v c = true) hn.out hlt HE.out)⟩
          case measure => simp [intOf]; omega
        | false =>
          have HE : Hid (admB ⟨id, ten, xs, ys⟩ f v = false) := Lib.hid (all_no hlt (by unfold admC; rw [h1, h2]; rfl))
          have H2 := Lib.hid h2
          clear h2
          go_wp2_with fail
          refine (calls_b (impl_within _ _ _ _) H2.out).mono ?_
          rintro e w' ⟨rfl, rfl⟩
          go_wp2_with fail
          go_ret
          exact ⟨ret_bool HE.out.symm, gb⟩
    · have HE : Hid (admB ⟨id, ten, xs, ys⟩ f v = true) := Lib.hid (all_yes (p := admC f v) (xs := xs) fun j hj => hn.out j hj (by omega))
      go_wp2_with fail
      go_ret
      exact ⟨ret_bool HE.out.symm, hgr⟩
set_option maxRecDepth 100000 in
set_option maxHeartbeats 1000000 in
theorem impl_MatchesRow (q : DQuery) (u u' : Value) (r : DRow) (t : Value) (w : World) (hu : RConds w u q.conds) (hu' : RInts w u' q.out) (ht : RInts w t r.vals) :
    Calls Tryz.prog 10 #[.agg #[.int .i64 q.id, .int .i64 q.tenant, u, u'], .agg #[.int .i64 r.id, t]] w fun e w' => e = .returned (.bool (matchB q r)) ∧ Gr w w' := by
  obtain ⟨a, cap, rfl, hl, hm, hx⟩ := ht.open
  obtain ⟨ua, un, uc, rfl⟩ := RSlice.isSl hu
  obtain ⟨va, vn, vc, rfl⟩ := RSlice.isSl hu'
  have g0 : Gr w ((w.alloc (.cells #[.int .i64 q.id, .int .i64 q.tenant, .slice ua un uc, .slice va vn vc] 27)).alloc (.cells #[.int .i64 r.id, .slice a r.vals.length cap] 36)) := ((Gr.refl w).alloc _).alloc _
  have HX := Lib.hid ht
  clear ht
  cases h1 : isQueryB q with
  | false =>
    have HE : Hid (matchB q r = false) := Lib.hid (matchB_no1 h1)
    have H1 := Lib.hid h1
    clear h1
    go_enter Tryz.func10, Tryz.ntmps10
    go_wp2_with fail
    refine (calls_b (impl_IsQuery q _ _ _ (RSlice.mono keeps_cond g0 hu) (RSlice.mono keeps_int g0 hu')) H1.out).mono ?_
    rintro e w1 ⟨rfl, g1⟩
    go_wp2_with fail
    go_ret
    exact ⟨ret_bool HE.out.symm, g0.trans g1⟩
  | true =>
    cases h2 : isRowB r with
    | false =>
      have HE : Hid (matchB q r = false) := Lib.hid (matchB_no2 h2)
      have H1 := Lib.hid h1
      have H2 := Lib.hid h2
      clear h1 h2
      go_enter Tryz.func10, Tryz.ntmps10
      go_wp2_with fail
      refine (calls_b (impl_IsQuery q _ _ _ (RSlice.mono keeps_cond g0 hu) (RSlice.mono keeps_int g0 hu')) H1.out).mono ?_
      rintro e w1 ⟨rfl, g1⟩
      have gw1 := g0.trans g1
      have k0 : w1.cell? ⟨w.heap.size + 1, 0, none⟩ = some (.int .i64 r.id) := g1.cellv (by simp [go_sem])
      have k1 : w1.cell? ⟨w.heap.size + 1, 1, none⟩ = some (.slice a r.vals.length cap) := g1.cellv (by simp [go_sem])
      go_wp2_with fail
      refine (calls_b (impl_IsRow r _ _ (HX.out.mono gw1)) H2.out).mono ?_
      rintro e w2 ⟨rfl, g2⟩
      go_wp2_with fail
      go_ret
      exact ⟨ret_bool HE.out.symm, gw1.trans g2⟩
    | true =>
      have HQ := Lib.hid h1
      have HR := Lib.hid h2
      clear h1 h2
      go_enter Tryz.func10, Tryz.ntmps10
      go_wp2_with fail
      refine (calls_b (impl_IsQuery q _ _ _ (RSlice.mono keeps_cond g0 hu) (RSlice.mono keeps_int g0 hu')) HQ.out).mono ?_
      rintro e w1 ⟨rfl, g1⟩
      have gw1 := g0.trans g1
      have k0 : w1.cell? ⟨w.heap.size + 1, 0, none⟩ = some (.int .i64 r.id) := g1.cellv (by simp [go_sem])
      have k1 : w1.cell? ⟨w.heap.size + 1, 1, none⟩ = some (.slice a r.vals.length cap) := g1.cellv (by simp [go_sem])
      have p0 : w1.cell? ⟨w.heap.size, 0, none⟩ = some (.int .i64 q.id) := g1.cellv (by simp [go_sem])
      have p1 : w1.cell? ⟨w.heap.size, 1, none⟩ = some (.int .i64 q.tenant) := g1.cellv (by simp [go_sem])
      have p2 : w1.cell? ⟨w.heap.size, 2, none⟩ = some (.slice ua un uc) := g1.cellv (by simp [go_sem])
      have p3 : w1.cell? ⟨w.heap.size, 3, none⟩ = some (.slice va vn vc) := g1.cellv (by simp [go_sem])
      go_wp2_with fail
      refine (calls_b (impl_IsRow r _ _ (HX.out.mono gw1)) HR.out).mono ?_
      rintro e w2 ⟨rfl, g2⟩
      have gw2 := gw1.trans g2
      replace k1 := g2.cellv k1
      replace p0 := g2.cellv p0
      replace p1 := g2.cellv p1
      replace p2 := g2.cellv p2
      replace p3 := g2.cellv p3
      clear k0 g1 g2
      go_wp2
      go_loopw [18] (fun i wr => ∃ k : Nat, k ≤ r.vals.length ∧ i = .int .i64 k ∧ Gr w2 wr ∧ Hid (∀ j (h : j < r.vals.length), j < k → admB q (j : Int) r.vals[j] = true)) (fun i _ => r.vals.length - (intOf i).toNat)
      case atStart => exact ⟨0, Nat.zero_le _, rfl, Gr.refl _, Lib.hid fun _ _ h => absurd h (Nat.not_lt_zero _)⟩
      case round =>
        obtain ⟨k, hk, rfl, hgr, hn⟩ := hrel
        have gw := gw2.trans hgr
        by_cases hlt : k < r.vals.length
        · obtain ⟨b, off, rfl, hc, _⟩ := hx k hlt
          have hc' := gw.cellv hc
          have d0 := hgr.cellv p0
          have d1 := hgr.cellv p1
          have d2 := hgr.cellv p2
          have d3 := hgr.cellv p3
          cases ha : admB q (k : Int) r.vals[k] with
          | false =>
            have HE : Hid (matchB q r = false) := Lib.hid (matchB_no3 hlt ha)
            have HA := Lib.hid ha
            clear ha
            go_wp2_with fail
            refine (calls_b (impl_admits q _ _ _ _ _ (RSlice.mono keeps_cond gw hu)) HA.out).mono ?_
            rintro e w3 ⟨rfl, g3⟩
            go_wp2_with fail
            go_ret
            exact ⟨ret_bool HE.out.symm, gw.trans g3⟩
          | true =>
            have HA := Lib.hid ha
            clear ha
            go_wp2_with fail
            refine (calls_b (impl_admits q _ _ _ _ _ (RSlice.mono keeps_cond gw hu)) HA.out).mono ?_
            rintro e w3 ⟨rfl, g3⟩
            go_wp2_with fail
            go_roundw
            case rel => exact ⟨k + 1, by omega, by go_num, hgr.trans g3, Lib.hid fun j hj hjk => by
              rcases Nat.lt_succ_iff_lt_or_eq.1 hjk with h | rfl
              · exact hn.out j hj h
              · exact HA.out⟩
            case measure => simp [intOf]; omega
        · have HE : Hid (matchB q r = true) := Lib.hid (matchB_yes HQ.out HR.out fun j hj => hn.out j hj (by omega))
          go_wp2_with fail
          go_ret
          exact ⟨ret_bool HE.out.symm, gw⟩
set_option maxRecDepth 100000 in
set_option maxHeartbeats 2000000 in
theorem spec_MatchesRow (q : DQuery) (u u' : Value) (r : DRow) (t : Value) (w : World) (hu : RConds w u q.conds) (hu' : RInts w u' q.out) (ht : RInts w t r.vals) :
    Calls Tryz.prog 19 #[.agg #[.int .i64 q.id, .int .i64 q.tenant, u, u'], .agg #[.int .i64 r.id, t]] w fun e w' => e = .returned (.bool (matchB q r)) ∧ Gr w w' := by
  obtain ⟨ra, rcap, rfl, rl, rm, rx⟩ := ht.open
  obtain ⟨va, vn, vc, rfl⟩ := RSlice.isSl hu'
  have HU := Lib.hid hu
  obtain ⟨a, cap, rfl, hl, hm, hx⟩ := hu
  have HT := Lib.hid ht
  have HU' := Lib.hid hu'
  clear ht hu'
  have g0 : Gr w ((w.alloc (.cells #[.int .i64 q.id, .int .i64 q.tenant, .slice a q.conds.length cap, .slice va vn vc] 27)).alloc (.cells #[.int .i64 r.id, .slice ra r.vals.length rcap] 36)) := ((Gr.refl w).alloc _).alloc _
  have p0 : ((w.alloc (.cells #[.int .i64 q.id, .int .i64 q.tenant, .slice a q.conds.length cap, .slice va vn vc] 27)).alloc (.cells #[.int .i64 r.id, .slice ra r.vals.length rcap] 36)).cell? ⟨w.heap.size, 0, none⟩ = some (.int .i64 q.id) := by simp [go_sem]
  have p1 : ((w.alloc (.cells #[.int .i64 q.id, .int .i64 q.tenant, .slice a q.conds.length cap, .slice va vn vc] 27)).alloc (.cells #[.int .i64 r.id, .slice ra r.vals.length rcap] 36)).cell? ⟨w.heap.size, 1, none⟩ = some (.int .i64 q.tenant) := by simp [go_sem]
  have p2 : ((w.alloc (.cells #[.int .i64 q.id, .int .i64 q.tenant, .slice a q.conds.length cap, .slice va vn vc] 27)).alloc (.cells #[.int .i64 r.id, .slice ra r.vals.length rcap] 36)).cell? ⟨w.heap.size, 2, none⟩ = some (.slice a q.conds.length cap) := by simp [go_sem]
  have p3 : ((w.alloc (.cells #[.int .i64 q.id, .int .i64 q.tenant, .slice a q.conds.length cap, .slice va vn vc] 27)).alloc (.cells #[.int .i64 r.id, .slice ra r.vals.length rcap] 36)).cell? ⟨w.heap.size, 3, none⟩ = some (.slice va vn vc) := by simp [go_sem]
  have k0 : ((w.alloc (.cells #[.int .i64 q.id, .int .i64 q.tenant, .slice a q.conds.length cap, .slice va vn vc] 27)).alloc (.cells #[.int .i64 r.id, .slice ra r.vals.length rcap] 36)).cell? ⟨w.heap.size + 1, 0, none⟩ = some (.int .i64 r.id) := by simp [go_sem]
  have k1 : ((w.alloc (.cells #[.int .i64 q.id, .int .i64 q.tenant, .slice a q.conds.length cap, .slice va vn vc] 27)).alloc (.cells #[.int .i64 r.id, .slice ra r.vals.length rcap] 36)).cell? ⟨w.heap.size + 1, 1, none⟩ = some (.slice ra r.vals.length rcap) := by simp [go_sem]
  go_enter Tryz.func19, Tryz.ntmps19
  go_wp2
  go_loopw [5] (fun i wr => ∃ k : Nat, k ≤ q.conds.length ∧ i = .int .i64 k ∧ Gr ((w.alloc (.cells #[.int .i64 q.id, .int .i64 q.tenant, .slice a q.conds.length cap, .slice va vn vc] 27)).alloc (.cells #[.int .i64 r.id, .slice ra r.vals.length rcap] 36)) wr ∧ Hid (∀ j (h : j < q.conds.length), j < k → condIn r.vals q.conds[j] = true)) (fun i _ => q.conds.length - (intOf i).toNat)
  case atStart => exact ⟨0, Nat.zero_le _, rfl, Gr.refl _, Lib.hid fun _ _ h => absurd h (Nat.not_lt_zero _)⟩
  case round =>
    obtain ⟨k, hk, rfl, hgW, hn⟩ := hrel
    have hgr := g0.trans hgW
    have i0 : (0 : Int) ≤ (k : Int) := Int.natCast_nonneg _
    have d0 := hgW.cellv p0
    have d1 := hgW.cellv p1
    have d2 := hgW.cellv p2
    have d3 := hgW.cellv p3
    have e0 := hgW.cellv k0
    have e1 := hgW.cellv k1
    by_cases hlt : k < q.conds.length
    · have i1 : (k : Int) < (q.conds.length : Int) := by omega
      cases h1 : isRowB r with
      | false =>
        have HE : Hid (matchB q r = false) := Lib.hid (matchB_no2 h1)
        have H1 := Lib.hid h1
        clear h1
        go_wp2_with fail
        refine (calls_b (spec_IsRow r _ _ (HT.out.mono hgr)) H1.out).mono ?_
        rintro e w1 ⟨rfl, g1⟩
        have gw1 := hgr.trans g1
        have f0 := g1.cellv e0
        have f1 := g1.cellv e1
        go_wp2_with fail
        refine (calls_b (spec_IsRow r _ _ (HT.out.mono gw1)) H1.out).mono ?_
        rintro e w2 ⟨rfl, g2⟩
        go_wp2_with fail
        go_ret
        exact ⟨ret_bool HE.out.symm, gw1.trans g2⟩
      | true =>
        cases h2 : isQueryB q with
        | false =>
          have HE : Hid (matchB q r = false) := Lib.hid (matchB_no1 h2)
          have H1 := Lib.hid h1
          have H2 := Lib.hid h2
          clear h1 h2
          go_wp2_with fail
          refine (calls_b (spec_IsRow r _ _ (HT.out.mono hgr)) H1.out).mono ?_
          rintro e w1 ⟨rfl, g1⟩
          have gw1 := hgr.trans g1
          have f0 := g1.cellv d0
          have f1 := g1.cellv d1
          have f2 := g1.cellv d2
          have f3 := g1.cellv d3
          have f4 := g1.cellv e0
          have f5 := g1.cellv e1
          go_wp2_with fail
          refine (calls_b (spec_IsQuery q _ _ _ (RSlice.mono keeps_cond gw1 HU.out) (HU'.out.mono gw1)) H2.out).mono ?_
          rintro e w2 ⟨rfl, g2⟩
          have gw2 := gw1.trans g2
          replace f0 := g2.cellv f0
          replace f1 := g2.cellv f1
          replace f2 := g2.cellv f2
          replace f3 := g2.cellv f3
          replace f4 := g2.cellv f4
          replace f5 := g2.cellv f5
          go_wp2_with fail
          refine (calls_b (spec_IsRow r _ _ (HT.out.mono gw2)) H1.out).mono ?_
          rintro e w3 ⟨rfl, g3⟩
          have gw3 := gw2.trans g3
          replace f0 := g3.cellv f0
          replace f1 := g3.cellv f1
          replace f2 := g3.cellv f2
          replace f3 := g3.cellv f3
          go_wp2_with fail
          refine (calls_b (spec_IsQuery q _ _ _ (RSlice.mono keeps_cond gw3 HU.out) (HU'.out.mono gw3)) H2.out).mono ?_
          rintro e w4 ⟨rfl, g4⟩
          go_wp2_with fail
          go_ret
          exact ⟨ret_bool HE.out.symm, gw3.trans g4⟩
        | true =>
          have hv3 := (isRowB_parts h1).2.2
          have hcp := isCondB_parts ((isQueryB_parts h2).1 k hlt)
          obtain ⟨F, hF⟩ := Int.eq_ofNat_of_zero_le hcp.1
          have hF3 : F < r.vals.length := by omega
          obtain ⟨rb, roff, rfl, hrc, _⟩ := rx F hF3
          obtain ⟨b, off, cs, rfl, hlen, ⟨rfl, i_field, i_low, i_high⟩, hc⟩ := hx k hlt
          have c0 := hgr.cellv (hc 0 (by simp))
          have c1 := hgr.cellv (hc 1 (by simp))
          have c2 := hgr.cellv (hc 2 (by simp))
          simp only [Nat.add_zero, List.getElem_cons_zero, List.getElem_cons_succ] at c0 c1 c2
          clear hc hlen
          rw [hF] at c0
          have j0 : (0 : Int) ≤ (F : Int) := Int.natCast_nonneg _
          have j1 : (F : Int) < (r.vals.length : Int) := by omega
          have H1 := Lib.hid h1
          have H2 := Lib.hid h2
          clear h1 h2 hcp hv3
          go_wp2_with fail
          refine (calls_b (spec_IsRow r _ _ (HT.out.mono hgr)) H1.out).mono ?_
          rintro e w1 ⟨rfl, g1⟩
          have gw1 := hgr.trans g1
          have f0 := g1.cellv d0
          have f1 := g1.cellv d1
          have f2 := g1.cellv d2
          have f3 := g1.cellv d3
          go_wp2_with fail
          refine (calls_b (spec_IsQuery q _ _ _ (RSlice.mono keeps_cond gw1 HU.out) (HU'.out.mono gw1)) H2.out).mono ?_
          rintro e w2 ⟨rfl, g2⟩
          have gw2 := gw1.trans g2
          have g12 := g1.trans g2
          replace c0 := g12.cellv c0
          replace c1 := g12.cellv c1
          replace c2 := g12.cellv c2
          replace f2 := g2.cellv f2
          clear f0 f1 f3
          have gb : Gr w2 (w2.alloc (.cells #[.int .i64 (F : Int), .int .i64 q.conds[k].low, .int .i64 q.conds[k].high] 57)) := (Gr.refl _).alloc _
          have b0 : (w2.alloc (.cells #[.int .i64 (F : Int), .int .i64 q.conds[k].low, .int .i64 q.conds[k].high] 57)).cell? ⟨w2.heap.size, 0, none⟩ = some (.int .i64 (F : Int)) := by simp [go_sem]
          have b1 : (w2.alloc (.cells #[.int .i64 (F : Int), .int .i64 q.conds[k].low, .int .i64 q.conds[k].high] 57)).cell? ⟨w2.heap.size, 1, none⟩ = some (.int .i64 q.conds[k].low) := by simp [go_sem]
          have b2 : (w2.alloc (.cells #[.int .i64 (F : Int), .int .i64 q.conds[k].low, .int .i64 q.conds[k].high] 57)).cell? ⟨w2.heap.size, 2, none⟩ = some (.int .i64 q.conds[k].high) := by simp [go_sem]
          have b3 := gb.cellv (g12.cellv e1)
          have b4 := gb.cellv (gw2.cellv hrc)
          have q0 := fun x : Ext (w2.alloc (.cells #[.int .i64 (F : Int), .int .i64 q.conds[k].low, .int .i64 q.conds[k].high] 57)) => Ext.cell b0 x
          have q1 := fun x : Ext (w2.alloc (.cells #[.int .i64 (F : Int), .int .i64 q.conds[k].low, .int .i64 q.conds[k].high] 57)) => Ext.cell b1 x
          have q2 := fun x : Ext (w2.alloc (.cells #[.int .i64 (F : Int), .int .i64 q.conds[k].low, .int .i64 q.conds[k].high] 57)) => Ext.cell b2 x
          have q3 := fun x : Ext (w2.alloc (.cells #[.int .i64 (F : Int), .int .i64 q.conds[k].low, .int .i64 q.conds[k].high] 57)) => Ext.cell b3 x
          have q4 := fun x : Ext (w2.alloc (.cells #[.int .i64 (F : Int), .int .i64 q.conds[k].low, .int .i64 q.conds[k].high] 57)) => Ext.cell b4 x
          have gW := g12.trans gb
          clear b0 b1 b2 b3 b4 d0 d1 d2 d3
          cases hp : inB r.vals[F] q.conds[k].low q.conds[k].high with
          | false =>
            have HE : Hid (matchB q r = false) := Lib.hid (by rw [matchB_conds H2.out H1.out]; exact all_no hlt (by rw [condIn_at hF hF3]; exact hp))
            have HP := Lib.hid hp
            clear hp
            go_wp2
            refine wp_region_ext (by kernel_rfl) (by kernel_rfl) ?_
            repeat (go_big_quiet_step ((go_at_call 43; exact quiet_ext (calls_b ((spec_l1In _ _ _ _).mono fun _ _ h => ⟨h.1, h.2 ▸ Gr.refl _⟩) HP.out))))
            refine wpQuiet_nil ?_
            intro w3 hw3
            have g3 := Ext.out hw3
            clear hw3 q0 q1 q2 q3 q4
            go_wp2
            go_ret
            exact ⟨ret_bool HE.out.symm, (hgr.trans gW).trans g3⟩
          | true =>
            have HE : Hid (condIn r.vals q.conds[k] = true) := Lib.hid (by rw [condIn_at hF hF3]; exact hp)
            have HP := Lib.hid hp
            clear hp
            go_wp2
            refine wp_region_ext (by kernel_rfl) (by kernel_rfl) ?_
            repeat (go_big_quiet_step ((go_at_call 43; exact quiet_ext (calls_b ((spec_l1In _ _ _ _).mono fun _ _ h => ⟨h.1, h.2 ▸ Gr.refl _⟩) HP.out))))
            refine wpQuiet_nil ?_
            intro w3 hw3
            have g3 := Ext.out hw3
            clear hw3 q0 q1 q2 q3 q4
            have hgW3 := (hgW.trans gW).trans g3
            go_wp2
            go_roundw
            case rel => exact ⟨k + 1, by omega, by go_num, hgW3, Lib.hid (below_suc (p := fun c => condIn r.vals c = true) hn.out hlt HE.out)⟩
            case measure => simp [intOf]; omega
    · obtain rfl : k = q.conds.length := by omega
      cases h1 : isRowB r with
      | false =>
        have HE : Hid (matchB q r = false) := Lib.hid (matchB_no2 h1)
        have H1 := Lib.hid h1
        clear h1
        go_wp2_with fail
        refine (calls_b (spec_IsRow r _ _ (HT.out.mono hgr)) H1.out).mono ?_
        rintro e w1 ⟨rfl, g1⟩
        go_wp2_with fail
        go_ret
        exact ⟨ret_bool HE.out.symm, hgr.trans g1⟩
      | true =>
        have HE : Hid (matchB q r = isQueryB q) := Lib.hid (by
          cases h2 : isQueryB q with
          | false => exact matchB_no1 h2
          | true => rw [matchB_conds h2 h1]; exact all_yes fun j hj => hn.out j hj hj)
        have H1 := Lib.hid h1
        clear h1
        go_wp2_with fail
        refine (calls_b (spec_IsRow r _ _ (HT.out.mono hgr)) H1.out).mono ?_
        rintro e w1 ⟨rfl, g1⟩
        have gw1 := hgr.trans g1
        have f0 := g1.cellv d0
        have f1 := g1.cellv d1
        have f2 := g1.cellv d2
        have f3 := g1.cellv d3
        go_wp2_with fail
        refine (spec_IsQuery q _ _ _ (RSlice.mono keeps_cond gw1 HU.out) (HU'.out.mono gw1)).mono ?_
        rintro e w2 ⟨rfl, g2⟩
        go_wp2_with fail
        go_ret
        exact ⟨ret_bool HE.out.symm, gw1.trans g2⟩
end Go.Proofs.YtcdcpfcmhmhdjaaGreatDoor
