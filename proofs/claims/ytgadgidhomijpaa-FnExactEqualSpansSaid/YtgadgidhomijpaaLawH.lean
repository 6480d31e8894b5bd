/- EqualSpans: the walks. -/
import Derived.Test.YtgadgidhomijpaaLawF
import Derived.Test.YtgadgidhomijpaaExt
namespace Go.Proofs.Ytgadgidhomijpaa
open Go.RowKit
def eqSpanB (x y : DSpan) : Bool := x.lo == y.lo && (x.hi == y.hi && eqL x.set y.set)
def spansEqAt (xs ys : List DSpan) (j : Nat) : Bool := eqSpanB (xs.getD j ⟨0, 0, []⟩) (ys.getD j ⟨0, 0, []⟩)
def eqSpansB (xs ys : List DSpan) : Bool := decide (xs.length = ys.length) && allB xs.length (spansEqAt xs ys)
theorem spansEqAt_eq {xs ys : List DSpan} {k : Nat} (h : k < xs.length) (h' : k < ys.length) : spansEqAt xs ys k = eqSpanB xs[k] ys[k] := by unfold spansEqAt; rw [getD_lt h, getD_lt h']
theorem eqSpansB_no {xs ys : List DSpan} {k : Nat} (h : k < xs.length) (h' : k < ys.length) (he : eqSpanB xs[k] ys[k] = false) : eqSpansB xs ys = false := by
  unfold eqSpansB; rw [allB_false (p := spansEqAt xs ys) k h (by rw [spansEqAt_eq h h']; exact he)]; simp
theorem eqSpansB_yes {xs ys : List DSpan} (hl : xs.length = ys.length) (h : ∀ j, j < xs.length → spansEqAt xs ys j = true) : eqSpansB xs ys = true := by
  unfold eqSpansB; rw [allB_true h]; simp [hl]
theorem eqL_of {P : Program} {f : FuncId} {args : Array Value} {w : World} {xs ys : List Int} {b : Bool} (h : Calls P f args w fun e w' => e = .returned (.bool (eqL xs ys)) ∧ Gr w w') (hb : eqL xs ys = b) :
    Calls P f args w fun e w' => e = .returned (.bool b) ∧ Gr w w' := hb ▸ h
set_option maxRecDepth 100000 in
set_option maxHeartbeats 4000000 in
theorem spec_EqualSpans (v : Value) (xs : List DSpan) (v' : Value) (ys : List DSpan) (w : World) (hx : RSpans w v xs) (hy : RSpans w v' ys) : Calls Try.prog 31 #[v, v'] w fun e w' => e = .returned (.bool (eqSpansB xs ys)) ∧ Gr w w' := by
  obtain ⟨a, cap, rfl, hl, hm, hx⟩ := hx
  obtain ⟨a', cap', rfl, hl', hm', hx'⟩ := hy
  by_cases hn : xs.length = ys.length
  · have hd : ((xs.length : Int) != (ys.length : Int)) = false := by simp; omega
    have HN := Lib.hid hn
    have hle : xs.length ≤ ys.length := by omega
    clear hn
    go_enter Try.func31, Try.ntmps31
    go_wp2
    go_loopw [5] (fun i wr => ∃ k : Nat, k ≤ xs.length ∧ i = .int .i64 k ∧ Hid (∀ j, j < k → spansEqAt xs ys j = true) ∧ Gr w wr) (fun i _ => xs.length - (intOf i).toNat)
    case atStart => exact ⟨0, Nat.zero_le _, rfl, Lib.hid (fun _ h => absurd h (Nat.not_lt_zero _)), Gr.refl _⟩
    case round =>
      obtain ⟨k, hk, rfl, hall, hgr⟩ := hrel
      by_cases hlt : k < xs.length
      · have hlt' : k < ys.length := by omega
        obtain ⟨b, off, cs, rfl, hlen, ⟨u_set, rfl, i_lo, i_hi, h_set⟩, hc⟩ := hx k hlt
        have c0 := hgr.cellv (hc 0 (by simp))
        have c1 := hgr.cellv (hc 1 (by simp))
        have c2 := hgr.cellv (hc 2 (by simp))
        simp only [Nat.add_zero, List.getElem_cons_zero, List.getElem_cons_succ] at c0 c1 c2
        clear hc hlen
        obtain ⟨b', off', cs', rfl, hlen', ⟨u_set', rfl, i_lo', i_hi', h_set'⟩, hc'⟩ := hx' k hlt'
        have d0 := hgr.cellv (hc' 0 (by simp))
        have d1 := hgr.cellv (hc' 1 (by simp))
        have d2 := hgr.cellv (hc' 2 (by simp))
        simp only [Nat.add_zero, List.getElem_cons_zero, List.getElem_cons_succ] at d0 d1 d2
        clear hc' hlen'
        have i0 : (0 : Int) ≤ (k : Int) := Int.natCast_nonneg _
        have i1 : (k : Int) < (xs.length : Int) := by omega
        have i2 : (k : Int) < (ys.length : Int) := by omega
        by_cases h1 : xs[k].lo = ys[k].lo
        · by_cases h2 : xs[k].hi = ys[k].hi
          · cases h3 : eqL xs[k].set ys[k].set with
            | false =>
              have n_lo : (xs[k].lo != ys[k].lo) = false := by simp [*]
              have n_hi : (xs[k].hi != ys[k].hi) = false := by simp [*]
              have H3 := Lib.hid h3
              have HE : Hid (eqSpanB xs[k] ys[k] = false) := Lib.hid (by simp [eqSpanB, *])
              have hgW := hgr
              have q0 := fun q : Ext wr => Ext.cell c0 q
              have q1 := fun q : Ext wr => Ext.cell c1 q
              have q2 := fun q : Ext wr => Ext.cell c2 q
              have p0 := fun q : Ext wr => Ext.cell d0 q
              have p1 := fun q : Ext wr => Ext.cell d1 q
              have p2 := fun q : Ext wr => Ext.cell d2 q
              clear h1 h2 h3
              go_wp2
              refine wp_region_ext (by kernel_rfl) (by kernel_rfl) ?_
              repeat (go_big_quiet_step ((go_at_call 73; exact quiet_ext (eqL_of (spec_l2Ints u_set u_set' xs[k].set ys[k].set _ (RSlice.mono keeps_int (hgW.trans (Ext.gr _)) h_set) (RSlice.mono keeps_int (hgW.trans (Ext.gr _)) h_set')) H3.out))))
              refine wpQuiet_nil ?_
              intro w1 hw1
              have g1 := Ext.out hw1
              clear hw1 q0 q1 q2 p0 p1 p2
              have hgr1 : Gr w w1 := hgW.trans g1
              go_wp2
              go_ret
              exact ⟨ret_bool (eqSpansB_no hlt hlt' HE.out).symm, hgr1⟩
            | true =>
              have n_lo : (xs[k].lo != ys[k].lo) = false := by simp [*]
              have n_hi : (xs[k].hi != ys[k].hi) = false := by simp [*]
              have H3 := Lib.hid h3
              have HE : Hid (eqSpanB xs[k] ys[k] = true) := Lib.hid (by simp [eqSpanB, *])
              have hgW := hgr
              have q0 := fun q : Ext wr => Ext.cell c0 q
              have q1 := fun q : Ext wr => Ext.cell c1 q
              have q2 := fun q : Ext wr => Ext.cell c2 q
              have p0 := fun q : Ext wr => Ext.cell d0 q
              have p1 := fun q : Ext wr => Ext.cell d1 q
              have p2 := fun q : Ext wr => Ext.cell d2 q
              clear h1 h2 h3
              go_wp2
              refine wp_region_ext (by kernel_rfl) (by kernel_rfl) ?_
              repeat (go_big_quiet_step ((go_at_call 73; exact quiet_ext (eqL_of (spec_l2Ints u_set u_set' xs[k].set ys[k].set _ (RSlice.mono keeps_int (hgW.trans (Ext.gr _)) h_set) (RSlice.mono keeps_int (hgW.trans (Ext.gr _)) h_set')) H3.out))))
              refine wpQuiet_nil ?_
              intro w1 hw1
              have g1 := Ext.out hw1
              clear hw1 q0 q1 q2 p0 p1 p2
              have hgr1 : Gr w w1 := hgW.trans g1
              go_wp2
              go_roundw
              case rel => exact ⟨k + 1, by omega, by go_num, Lib.hid (below_succ hall.out (by rw [spansEqAt_eq hlt hlt']; exact HE.out)), hgr1⟩
              case measure => simp [intOf]; omega
          · have n_lo : (xs[k].lo != ys[k].lo) = false := by simp [*]
            have n_hi : (xs[k].hi != ys[k].hi) = true := by simp [*]
            have HE : Hid (eqSpanB xs[k] ys[k] = false) := Lib.hid (by simp [eqSpanB, *])
            have hgW := hgr
            have q0 := fun q : Ext wr => Ext.cell c0 q
            have q1 := fun q : Ext wr => Ext.cell c1 q
            have q2 := fun q : Ext wr => Ext.cell c2 q
            have p0 := fun q : Ext wr => Ext.cell d0 q
            have p1 := fun q : Ext wr => Ext.cell d1 q
            have p2 := fun q : Ext wr => Ext.cell d2 q
            clear h1 h2
            go_wp2
            refine wp_region_ext (by kernel_rfl) (by kernel_rfl) ?_
            repeat (go_big_quiet_step (fail))
            refine wpQuiet_nil ?_
            intro w1 hw1
            have g1 := Ext.out hw1
            clear hw1 q0 q1 q2 p0 p1 p2
            have hgr1 : Gr w w1 := hgW.trans g1
            go_wp2
            go_ret
            exact ⟨ret_bool (eqSpansB_no hlt hlt' HE.out).symm, hgr1⟩
        · have n_lo : (xs[k].lo != ys[k].lo) = true := by simp [*]
          have HE : Hid (eqSpanB xs[k] ys[k] = false) := Lib.hid (by simp [eqSpanB, *])
          have hgW := hgr
          have q0 := fun q : Ext wr => Ext.cell c0 q
          have q1 := fun q : Ext wr => Ext.cell c1 q
          have q2 := fun q : Ext wr => Ext.cell c2 q
          have p0 := fun q : Ext wr => Ext.cell d0 q
          have p1 := fun q : Ext wr => Ext.cell d1 q
          have p2 := fun q : Ext wr => Ext.cell d2 q
          clear h1
          go_wp2
          refine wp_region_ext (by kernel_rfl) (by kernel_rfl) ?_
          repeat (go_big_quiet_step (fail))
          refine wpQuiet_nil ?_
          intro w1 hw1
          have g1 := Ext.out hw1
          clear hw1 q0 q1 q2 p0 p1 p2
          have hgr1 : Gr w w1 := hgW.trans g1
          go_wp2
          go_ret
          exact ⟨ret_bool (eqSpansB_no hlt hlt' HE.out).symm, hgr1⟩
      · go_wp2
        go_ret
        exact ⟨ret_bool (eqSpansB_yes HN.out (fun j hj => hall.out j (by omega))).symm, hgr⟩
  · have hd : ((xs.length : Int) != (ys.length : Int)) = true := by simp; omega
    have HN := Lib.hid hn
    clear hn
    go_enter Try.func31, Try.ntmps31
    go_wp2
    go_ret
    exact ⟨ret_bool (by have := HN.out; simp [eqSpansB, this]), Gr.refl _⟩
set_option maxRecDepth 100000 in
set_option maxHeartbeats 4000000 in
theorem impl_EqualSpans (v : Value) (xs : List DSpan) (v' : Value) (ys : List DSpan) (w : World) (hx : RSpans w v xs) (hy : RSpans w v' ys) : Calls Try.prog 33 #[v, v'] w fun e w' => e = .returned (.bool (eqSpansB xs ys)) ∧ Gr w w' := by
  obtain ⟨a, cap, rfl, hl, hm, hx⟩ := hx
  obtain ⟨a', cap', rfl, hl', hm', hx'⟩ := hy
  by_cases hn : xs.length = ys.length
  · have hd : ((xs.length : Int) != (ys.length : Int)) = false := by simp; omega
    have HN := Lib.hid hn
    have hle : xs.length ≤ ys.length := by omega
    clear hn
    go_enter Try.func33, Try.ntmps33
    go_wp2
    go_loopw [14] (fun i wr => ∃ k : Nat, k ≤ xs.length ∧ i = .int .i64 k ∧ Hid (∀ j, j < k → spansEqAt xs ys j = true) ∧ Gr w wr) (fun i _ => xs.length - (intOf i).toNat)
    case atStart => exact ⟨0, Nat.zero_le _, rfl, Lib.hid (fun _ h => absurd h (Nat.not_lt_zero _)), Gr.refl _⟩
    case round =>
      obtain ⟨k, hk, rfl, hall, hgr⟩ := hrel
      by_cases hlt : k < xs.length
      · have hlt' : k < ys.length := by omega
        obtain ⟨b, off, cs, rfl, hlen, ⟨u_set, rfl, i_lo, i_hi, h_set⟩, hc⟩ := hx k hlt
        have c0 := hgr.cellv (hc 0 (by simp))
        have c1 := hgr.cellv (hc 1 (by simp))
        have c2 := hgr.cellv (hc 2 (by simp))
        simp only [Nat.add_zero, List.getElem_cons_zero, List.getElem_cons_succ] at c0 c1 c2
        clear hc hlen
        obtain ⟨b', off', cs', rfl, hlen', ⟨u_set', rfl, i_lo', i_hi', h_set'⟩, hc'⟩ := hx' k hlt'
        have d0 := hgr.cellv (hc' 0 (by simp))
        have d1 := hgr.cellv (hc' 1 (by simp))
        have d2 := hgr.cellv (hc' 2 (by simp))
        simp only [Nat.add_zero, List.getElem_cons_zero, List.getElem_cons_succ] at d0 d1 d2
        clear hc' hlen'
        obtain ⟨ua, un, uc, rfl⟩ := RSlice.isSl h_set
        have i0 : (0 : Int) ≤ (k : Int) := Int.natCast_nonneg _
        have i1 : (k : Int) < (xs.length : Int) := by omega
        have i2 : (k : Int) < (ys.length : Int) := by omega
        by_cases h1 : xs[k].lo = ys[k].lo
        · by_cases h2 : xs[k].hi = ys[k].hi
          · cases h3 : eqL xs[k].set ys[k].set with
            | false =>
              have n_lo : (xs[k].lo != ys[k].lo) = false := by simp [*]
              have n_hi : (xs[k].hi != ys[k].hi) = false := by simp [*]
              have H3 := Lib.hid h3
              have HE : Hid (eqSpanB xs[k] ys[k] = false) := Lib.hid (by simp [eqSpanB, *])
              have gWW : Gr wr (wr.alloc (.cells #[.int .i64 xs[k].lo, .int .i64 xs[k].hi, .slice ua un uc] 90)) := (Gr.refl wr).alloc _
              have hgW := hgr.trans gWW
              have q0 : ∀ q : Ext (wr.alloc (.cells #[.int .i64 xs[k].lo, .int .i64 xs[k].hi, .slice ua un uc] 90)), q.val.cell? ⟨wr.heap.size, 0, none⟩ = some (.int .i64 xs[k].lo) := fun q => Ext.cell (by simp [go_sem]) q
              have q1 : ∀ q : Ext (wr.alloc (.cells #[.int .i64 xs[k].lo, .int .i64 xs[k].hi, .slice ua un uc] 90)), q.val.cell? ⟨wr.heap.size, 1, none⟩ = some (.int .i64 xs[k].hi) := fun q => Ext.cell (by simp [go_sem]) q
              have q2 : ∀ q : Ext (wr.alloc (.cells #[.int .i64 xs[k].lo, .int .i64 xs[k].hi, .slice ua un uc] 90)), q.val.cell? ⟨wr.heap.size, 2, none⟩ = some (.slice ua un uc) := fun q => Ext.cell (by simp [go_sem]) q
              have p0 := fun q : Ext (wr.alloc (.cells #[.int .i64 xs[k].lo, .int .i64 xs[k].hi, .slice ua un uc] 90)) => Ext.cell (gWW.cellv d0) q
              have p1 := fun q : Ext (wr.alloc (.cells #[.int .i64 xs[k].lo, .int .i64 xs[k].hi, .slice ua un uc] 90)) => Ext.cell (gWW.cellv d1) q
              have p2 := fun q : Ext (wr.alloc (.cells #[.int .i64 xs[k].lo, .int .i64 xs[k].hi, .slice ua un uc] 90)) => Ext.cell (gWW.cellv d2) q
              clear h1 h2 h3
              go_wp2
              refine wp_region_ext (by kernel_rfl) (by kernel_rfl) ?_
              repeat (go_big_quiet_step ((go_at_call 75; exact quiet_ext (eqL_of (impl_sameInts (.slice ua un uc) u_set' xs[k].set ys[k].set _ (RSlice.mono keeps_int (hgW.trans (Ext.gr _)) h_set) (RSlice.mono keeps_int (hgW.trans (Ext.gr _)) h_set')) H3.out))))
              refine wpQuiet_nil ?_
              intro w1 hw1
              have g1 := Ext.out hw1
              clear hw1 q0 q1 q2 p0 p1 p2
              have hgr1 : Gr w w1 := hgW.trans g1
              go_wp2
              go_ret
              exact ⟨ret_bool (eqSpansB_no hlt hlt' HE.out).symm, hgr1⟩
            | true =>
              have n_lo : (xs[k].lo != ys[k].lo) = false := by simp [*]
              have n_hi : (xs[k].hi != ys[k].hi) = false := by simp [*]
              have H3 := Lib.hid h3
              have HE : Hid (eqSpanB xs[k] ys[k] = true) := Lib.hid (by simp [eqSpanB, *])
              have gWW : Gr wr (wr.alloc (.cells #[.int .i64 xs[k].lo, .int .i64 xs[k].hi, .slice ua un uc] 90)) := (Gr.refl wr).alloc _
              have hgW := hgr.trans gWW
              have q0 : ∀ q : Ext (wr.alloc (.cells #[.int .i64 xs[k].lo, .int .i64 xs[k].hi, .slice ua un uc] 90)), q.val.cell? ⟨wr.heap.size, 0, none⟩ = some (.int .i64 xs[k].lo) := fun q => Ext.cell (by simp [go_sem]) q
              have q1 : ∀ q : Ext (wr.alloc (.cells #[.int .i64 xs[k].lo, .int .i64 xs[k].hi, .slice ua un uc] 90)), q.val.cell? ⟨wr.heap.size, 1, none⟩ = some (.int .i64 xs[k].hi) := fun q => Ext.cell (by simp [go_sem]) q
              have q2 : ∀ q : Ext (wr.alloc (.cells #[.int .i64 xs[k].lo, .int .i64 xs[k].hi, .slice ua un uc] 90)), q.val.cell? ⟨wr.heap.size, 2, none⟩ = some (.slice ua un uc) := fun q => Ext.cell (by simp [go_sem]) q
              have p0 := fun q : Ext (wr.alloc (.cells #[.int .i64 xs[k].lo, .int .i64 xs[k].hi, .slice ua un uc] 90)) => Ext.cell (gWW.cellv d0) q
              have p1 := fun q : Ext (wr.alloc (.cells #[.int .i64 xs[k].lo, .int .i64 xs[k].hi, .slice ua un uc] 90)) => Ext.cell (gWW.cellv d1) q
              have p2 := fun q : Ext (wr.alloc (.cells #[.int .i64 xs[k].lo, .int .i64 xs[k].hi, .slice ua un uc] 90)) => Ext.cell (gWW.cellv d2) q
              clear h1 h2 h3
              go_wp2
              refine wp_region_ext (by kernel_rfl) (by kernel_rfl) ?_
              repeat (go_big_quiet_step ((go_at_call 75; exact quiet_ext (eqL_of (impl_sameInts (.slice ua un uc) u_set' xs[k].set ys[k].set _ (RSlice.mono keeps_int (hgW.trans (Ext.gr _)) h_set) (RSlice.mono keeps_int (hgW.trans (Ext.gr _)) h_set')) H3.out))))
              refine wpQuiet_nil ?_
              intro w1 hw1
              have g1 := Ext.out hw1
              clear hw1 q0 q1 q2 p0 p1 p2
              have hgr1 : Gr w w1 := hgW.trans g1
              go_wp2
              go_roundw
              case rel => exact ⟨k + 1, by omega, by go_num, Lib.hid (below_succ hall.out (by rw [spansEqAt_eq hlt hlt']; exact HE.out)), hgr1⟩
              case measure => simp [intOf]; omega
          · have n_lo : (xs[k].lo != ys[k].lo) = false := by simp [*]
            have n_hi : (xs[k].hi != ys[k].hi) = true := by simp [*]
            have HE : Hid (eqSpanB xs[k] ys[k] = false) := Lib.hid (by simp [eqSpanB, *])
            have gWW : Gr wr (wr.alloc (.cells #[.int .i64 xs[k].lo, .int .i64 xs[k].hi, .slice ua un uc] 90)) := (Gr.refl wr).alloc _
            have hgW := hgr.trans gWW
            have q0 : ∀ q : Ext (wr.alloc (.cells #[.int .i64 xs[k].lo, .int .i64 xs[k].hi, .slice ua un uc] 90)), q.val.cell? ⟨wr.heap.size, 0, none⟩ = some (.int .i64 xs[k].lo) := fun q => Ext.cell (by simp [go_sem]) q
            have q1 : ∀ q : Ext (wr.alloc (.cells #[.int .i64 xs[k].lo, .int .i64 xs[k].hi, .slice ua un uc] 90)), q.val.cell? ⟨wr.heap.size, 1, none⟩ = some (.int .i64 xs[k].hi) := fun q => Ext.cell (by simp [go_sem]) q
            have q2 : ∀ q : Ext (wr.alloc (.cells #[.int .i64 xs[k].lo, .int .i64 xs[k].hi, .slice ua un uc] 90)), q.val.cell? ⟨wr.heap.size, 2, none⟩ = some (.slice ua un uc) := fun q => Ext.cell (by simp [go_sem]) q
            have p0 := fun q : Ext (wr.alloc (.cells #[.int .i64 xs[k].lo, .int .i64 xs[k].hi, .slice ua un uc] 90)) => Ext.cell (gWW.cellv d0) q
            have p1 := fun q : Ext (wr.alloc (.cells #[.int .i64 xs[k].lo, .int .i64 xs[k].hi, .slice ua un uc] 90)) => Ext.cell (gWW.cellv d1) q
            have p2 := fun q : Ext (wr.alloc (.cells #[.int .i64 xs[k].lo, .int .i64 xs[k].hi, .slice ua un uc] 90)) => Ext.cell (gWW.cellv d2) q
            clear h1 h2
            go_wp2
            refine wp_region_ext (by kernel_rfl) (by kernel_rfl) ?_
            repeat (go_big_quiet_step (fail))
            refine wpQuiet_nil ?_
            intro w1 hw1
            have g1 := Ext.out hw1
            clear hw1 q0 q1 q2 p0 p1 p2
            have hgr1 : Gr w w1 := hgW.trans g1
            go_wp2
            go_ret
            exact ⟨ret_bool (eqSpansB_no hlt hlt' HE.out).symm, hgr1⟩
        · have n_lo : (xs[k].lo != ys[k].lo) = true := by simp [*]
          have HE : Hid (eqSpanB xs[k] ys[k] = false) := Lib.hid (by simp [eqSpanB, *])
          have gWW : Gr wr (wr.alloc (.cells #[.int .i64 xs[k].lo, .int .i64 xs[k].hi, .slice ua un uc] 90)) := (Gr.refl wr).alloc _
          have hgW := hgr.trans gWW
          have q0 : ∀ q : Ext (wr.alloc (.cells #[.int .i64 xs[k].lo, .int .i64 xs[k].hi, .slice ua un uc] 90)), q.val.cell? ⟨wr.heap.size, 0, none⟩ = some (.int .i64 xs[k].lo) := fun q => Ext.cell (by simp [go_sem]) q
          have q1 : ∀ q : Ext (wr.alloc (.cells #[.int .i64 xs[k].lo, .int .i64 xs[k].hi, .slice ua un uc] 90)), q.val.cell? ⟨wr.heap.size, 1, none⟩ = some (.int .i64 xs[k].hi) := fun q => Ext.cell (by simp [go_sem]) q
          have q2 : ∀ q : Ext (wr.alloc (.cells #[.int .i64 xs[k].lo, .int .i64 xs[k].hi, .slice ua un uc] 90)), q.val.cell? ⟨wr.heap.size, 2, none⟩ = some (.slice ua un uc) := fun q => Ext.cell (by simp [go_sem]) q
          have p0 := fun q : Ext (wr.alloc (.cells #[.int .i64 xs[k].lo, .int .i64 xs[k].hi, .slice ua un uc] 90)) => Ext.cell (gWW.cellv d0) q
          have p1 := fun q : Ext (wr.alloc (.cells #[.int .i64 xs[k].lo, .int .i64 xs[k].hi, .slice ua un uc] 90)) => Ext.cell (gWW.cellv d1) q
          have p2 := fun q : Ext (wr.alloc (.cells #[.int .i64 xs[k].lo, .int .i64 xs[k].hi, .slice ua un uc] 90)) => Ext.cell (gWW.cellv d2) q
          clear h1
          go_wp2
          refine wp_region_ext (by kernel_rfl) (by kernel_rfl) ?_
          repeat (go_big_quiet_step (fail))
          refine wpQuiet_nil ?_
          intro w1 hw1
          have g1 := Ext.out hw1
          clear hw1 q0 q1 q2 p0 p1 p2
          have hgr1 : Gr w w1 := hgW.trans g1
          go_wp2
          go_ret
          exact ⟨ret_bool (eqSpansB_no hlt hlt' HE.out).symm, hgr1⟩
      · go_wp2
        go_ret
        exact ⟨ret_bool (eqSpansB_yes HN.out (fun j hj => hall.out j (by omega))).symm, hgr⟩
  · have hd : ((xs.length : Int) != (ys.length : Int)) = true := by simp; omega
    have HN := Lib.hid hn
    clear hn
    go_enter Try.func33, Try.ntmps33
    go_wp2
    go_ret
    exact ⟨ret_bool (by have := HN.out; simp [eqSpansB, this]), Gr.refl _⟩
-- gen FnExactEqualSpans EqualSpans SpanS SpanS
set_option maxRecDepth 100000 in
set_option maxHeartbeats 4000000 in
theorem law_FnExactEqualSpans (w : World) (v0 : Value) (x0 : List DSpan) (hv0 : RSpans w v0 x0) (v1 : Value) (x1 : List DSpan) (hv1 : RSpans w v1 x1) : Calls Try.prog 7 #[v0, v1] w fun e w' => e = .returned (.bool true) ∧ Gr w w' := by
  have hsl0 : IsSl v0 := hv0.isSl
  obtain ⟨a0, n0, c0, hve0⟩ := hsl0
  subst hve0
  have hsl1 : IsSl v1 := hv1.isSl
  obtain ⟨a1, n1, c1, hve1⟩ := hsl1
  subst hve1
  by_cases hs0 : ((totL totSpan x0) : Int) ≤ (1048576 : Int)
  · by_cases hs1 : ((totL totSpan x1) : Int) ≤ (1048576 - ((totL totSpan x0) : Int))
    · have HZ0 := Lib.hid (szV_yes (t := (totL totSpan x0)) (left := (1048576 : Int)) (by omega))
      have HA0 := Lib.hid (show (0 : Int) ≤ (1048576 : Int) ∧ (1048576 : Int) ≤ 1048576 from by omega)
      have HB0 := Lib.hid (show (0 : Int) ≤ (1048576 : Int) - ((totL totSpan x0) : Int) ∧ (1048576 : Int) - ((totL totSpan x0) : Int) ≤ 1048576 from by omega)
      have HZ1 := Lib.hid (szV_yes (t := (totL totSpan x1)) (left := (1048576 - ((totL totSpan x0) : Int))) (by omega))
      have HA1 := Lib.hid (show (0 : Int) ≤ (1048576 - ((totL totSpan x0) : Int)) ∧ (1048576 - ((totL totSpan x0) : Int)) ≤ 1048576 from by omega)
      have HB1 := Lib.hid (show (0 : Int) ≤ (1048576 - ((totL totSpan x0) : Int)) - ((totL totSpan x1) : Int) ∧ (1048576 - ((totL totSpan x0) : Int)) - ((totL totSpan x1) : Int) ≤ 1048576 from by omega)
      have HT0 := Lib.hid (show (totL totSpan x0) ≤ 4294967296 from by omega)
      have HT1 := Lib.hid (show (totL totSpan x1) ≤ 4294967296 from by omega)
      clear hs0 hs1
      go_enter Try.func7, Try.ntmps7
      go_wp2_with fail
      refine (laws_szSpanS _ _ x0 _ hv0 HA0.out.1 HA0.out.2).mono ?_
      rintro e w1 ⟨rfl, g1⟩
      replace hv0 : RSpans w1 (.slice a0 n0 c0) x0 := (RSlice.mono keeps_span g1 hv0)
      replace hv1 : RSpans w1 (.slice a1 n1 c1) x1 := (RSlice.mono keeps_span g1 hv1)
      have gw : Gr w w1 := g1
      rw [HZ0.out]
      have hB0 := HB0.out.1
      have hC0 := HB0.out.2
      go_wp2_with fail
      refine (laws_szSpanS _ _ x1 _ hv1 HA1.out.1 HA1.out.2).mono ?_
      rintro e w2 ⟨rfl, g2⟩
      replace hv0 : RSpans w2 (.slice a0 n0 c0) x0 := (RSlice.mono keeps_span g2 hv0)
      replace hv1 : RSpans w2 (.slice a1 n1 c1) x1 := (RSlice.mono keeps_span g2 hv1)
      replace gw : Gr w w2 := gw.trans g2
      rw [HZ1.out]
      have hB1 := HB1.out.1
      have hC1 := HB1.out.2
      go_wp2_with fail
      refine (laws_toSpanS_fresh _ x0 _ hv0 HT0.out).mono ?_
      rintro e w3 ⟨_, rfl, ⟨ap0, np0, cp0, rfl⟩, r_hp0, g3⟩
      replace hv0 : RSpans w3 (.slice a0 n0 c0) x0 := (RSlice.mono keeps_span g3 hv0)
      replace hv1 : RSpans w3 (.slice a1 n1 c1) x1 := (RSlice.mono keeps_span g3 hv1)
      replace gw : Gr w w3 := gw.trans g3
      have hp0 : RSpans w3 (.slice ap0 np0 cp0) x0 := r_hp0 _ (Loc.refl _ _)
      clear r_hp0
      go_wp2_with fail
      refine (laws_toSpanS_fresh _ x1 _ hv1 HT1.out).mono ?_
      rintro e w4 ⟨_, rfl, ⟨ap1, np1, cp1, rfl⟩, r_hp1, g4⟩
      replace hv0 : RSpans w4 (.slice a0 n0 c0) x0 := (RSlice.mono keeps_span g4 hv0)
      replace hv1 : RSpans w4 (.slice a1 n1 c1) x1 := (RSlice.mono keeps_span g4 hv1)
      replace hp0 : RSpans w4 (.slice ap0 np0 cp0) x0 := (RSlice.mono keeps_span g4 hp0)
      replace gw : Gr w w4 := gw.trans g4
      have hp1 : RSpans w4 (.slice ap1 np1 cp1) x1 := r_hp1 _ (Loc.refl _ _)
      clear r_hp1
      go_wp2_with fail
      refine (spec_EqualSpans _ x0 _ x1 _ hp0 hp1).mono ?_
      rintro e w5 ⟨rfl, g5⟩
      replace hv0 : RSpans w5 (.slice a0 n0 c0) x0 := (RSlice.mono keeps_span g5 hv0)
      replace hv1 : RSpans w5 (.slice a1 n1 c1) x1 := (RSlice.mono keeps_span g5 hv1)
      replace hp0 : RSpans w5 (.slice ap0 np0 cp0) x0 := (RSlice.mono keeps_span g5 hp0)
      replace hp1 : RSpans w5 (.slice ap1 np1 cp1) x1 := (RSlice.mono keeps_span g5 hp1)
      replace gw : Gr w w5 := gw.trans g5
      clear hp0
      clear hp1
      go_wp2_with fail
      refine (laws_toSpanS_fresh _ x0 _ hv0 HT0.out).mono ?_
      rintro e w6 ⟨_, rfl, ⟨ax0, nx0, cx0, rfl⟩, r_hx0, g6⟩
      replace hv0 : RSpans w6 (.slice a0 n0 c0) x0 := (RSlice.mono keeps_span g6 hv0)
      replace hv1 : RSpans w6 (.slice a1 n1 c1) x1 := (RSlice.mono keeps_span g6 hv1)
      replace gw : Gr w w6 := gw.trans g6
      have hx0 : RSpans w6 (.slice ax0 nx0 cx0) x0 := r_hx0 _ (Loc.refl _ _)
      clear r_hx0
      go_wp2_with fail
      refine (laws_toSpanS_fresh _ x1 _ hv1 HT1.out).mono ?_
      rintro e w7 ⟨_, rfl, ⟨ax1, nx1, cx1, rfl⟩, r_hx1, g7⟩
      replace hv0 : RSpans w7 (.slice a0 n0 c0) x0 := (RSlice.mono keeps_span g7 hv0)
      replace hv1 : RSpans w7 (.slice a1 n1 c1) x1 := (RSlice.mono keeps_span g7 hv1)
      replace hx0 : RSpans w7 (.slice ax0 nx0 cx0) x0 := (RSlice.mono keeps_span g7 hx0)
      replace gw : Gr w w7 := gw.trans g7
      have hx1 : RSpans w7 (.slice ax1 nx1 cx1) x1 := r_hx1 _ (Loc.refl _ _)
      clear r_hx1
      go_wp2_with fail
      refine (impl_EqualSpans _ x0 _ x1 _ hx0 hx1).mono ?_
      rintro e w8 ⟨rfl, g8⟩
      replace hv0 : RSpans w8 (.slice a0 n0 c0) x0 := (RSlice.mono keeps_span g8 hv0)
      replace hv1 : RSpans w8 (.slice a1 n1 c1) x1 := (RSlice.mono keeps_span g8 hv1)
      replace hx0 : RSpans w8 (.slice ax0 nx0 cx0) x0 := (RSlice.mono keeps_span g8 hx0)
      replace hx1 : RSpans w8 (.slice ax1 nx1 cx1) x1 := (RSlice.mono keeps_span g8 hx1)
      replace gw : Gr w w8 := gw.trans g8
      go_wp2_with fail
      refine (laws_toSpanS_fresh _ x0 _ hv0 HT0.out).mono ?_
      rintro e w9 ⟨_, rfl, ⟨ay0, ny0, cy0, rfl⟩, r_hy0, g9⟩
      replace hv0 : RSpans w9 (.slice a0 n0 c0) x0 := (RSlice.mono keeps_span g9 hv0)
      replace hv1 : RSpans w9 (.slice a1 n1 c1) x1 := (RSlice.mono keeps_span g9 hv1)
      replace hx0 : RSpans w9 (.slice ax0 nx0 cx0) x0 := (RSlice.mono keeps_span g9 hx0)
      replace hx1 : RSpans w9 (.slice ax1 nx1 cx1) x1 := (RSlice.mono keeps_span g9 hx1)
      replace gw : Gr w w9 := gw.trans g9
      have hy0 : RSpans w9 (.slice ay0 ny0 cy0) x0 := r_hy0 _ (Loc.refl _ _)
      clear r_hy0
      go_wp2_with fail
      refine (laws_eqSpanS_same _ _ x0 _ hx0 hy0).mono ?_
      rintro e w10 ⟨rfl, g10⟩
      replace hv0 : RSpans w10 (.slice a0 n0 c0) x0 := (RSlice.mono keeps_span g10 hv0)
      replace hv1 : RSpans w10 (.slice a1 n1 c1) x1 := (RSlice.mono keeps_span g10 hv1)
      replace hx0 : RSpans w10 (.slice ax0 nx0 cx0) x0 := (RSlice.mono keeps_span g10 hx0)
      replace hx1 : RSpans w10 (.slice ax1 nx1 cx1) x1 := (RSlice.mono keeps_span g10 hx1)
      replace hy0 : RSpans w10 (.slice ay0 ny0 cy0) x0 := (RSlice.mono keeps_span g10 hy0)
      replace gw : Gr w w10 := gw.trans g10
      clear hy0
      go_wp2_with fail
      refine (laws_toSpanS_fresh _ x1 _ hv1 HT1.out).mono ?_
      rintro e w11 ⟨_, rfl, ⟨ay1, ny1, cy1, rfl⟩, r_hy1, g11⟩
      replace hv0 : RSpans w11 (.slice a0 n0 c0) x0 := (RSlice.mono keeps_span g11 hv0)
      replace hv1 : RSpans w11 (.slice a1 n1 c1) x1 := (RSlice.mono keeps_span g11 hv1)
      replace hx0 : RSpans w11 (.slice ax0 nx0 cx0) x0 := (RSlice.mono keeps_span g11 hx0)
      replace hx1 : RSpans w11 (.slice ax1 nx1 cx1) x1 := (RSlice.mono keeps_span g11 hx1)
      replace gw : Gr w w11 := gw.trans g11
      have hy1 : RSpans w11 (.slice ay1 ny1 cy1) x1 := r_hy1 _ (Loc.refl _ _)
      clear r_hy1
      go_wp2_with fail
      refine (laws_eqSpanS_same _ _ x1 _ hx1 hy1).mono ?_
      rintro e w12 ⟨rfl, g12⟩
      replace hv0 : RSpans w12 (.slice a0 n0 c0) x0 := (RSlice.mono keeps_span g12 hv0)
      replace hv1 : RSpans w12 (.slice a1 n1 c1) x1 := (RSlice.mono keeps_span g12 hv1)
      replace hx0 : RSpans w12 (.slice ax0 nx0 cx0) x0 := (RSlice.mono keeps_span g12 hx0)
      replace hx1 : RSpans w12 (.slice ax1 nx1 cx1) x1 := (RSlice.mono keeps_span g12 hx1)
      replace hy1 : RSpans w12 (.slice ay1 ny1 cy1) x1 := (RSlice.mono keeps_span g12 hy1)
      replace gw : Gr w w12 := gw.trans g12
      clear hy1
      go_wp2_with fail
      go_ret
      exact ⟨rfl, gw⟩
    · have HZ0 := Lib.hid (szV_yes (t := (totL totSpan x0)) (left := (1048576 : Int)) (by omega))
      have HA0 := Lib.hid (show (0 : Int) ≤ (1048576 : Int) ∧ (1048576 : Int) ≤ 1048576 from by omega)
      have HB0 := Lib.hid (show (0 : Int) ≤ (1048576 : Int) - ((totL totSpan x0) : Int) ∧ (1048576 : Int) - ((totL totSpan x0) : Int) ≤ 1048576 from by omega)
      have HZ1 := Lib.hid (szV_no (t := (totL totSpan x1)) (left := (1048576 - ((totL totSpan x0) : Int))) (by omega))
      have HA1 := Lib.hid (show (0 : Int) ≤ (1048576 - ((totL totSpan x0) : Int)) ∧ (1048576 - ((totL totSpan x0) : Int)) ≤ 1048576 from by omega)
      clear hs0 hs1
      go_enter Try.func7, Try.ntmps7
      go_wp2_with fail
      refine (laws_szSpanS _ _ x0 _ hv0 HA0.out.1 HA0.out.2).mono ?_
      rintro e w1 ⟨rfl, g1⟩
      replace hv0 : RSpans w1 (.slice a0 n0 c0) x0 := (RSlice.mono keeps_span g1 hv0)
      replace hv1 : RSpans w1 (.slice a1 n1 c1) x1 := (RSlice.mono keeps_span g1 hv1)
      have gw : Gr w w1 := g1
      rw [HZ0.out]
      have hB0 := HB0.out.1
      have hC0 := HB0.out.2
      go_wp2_with fail
      refine (laws_szSpanS _ _ x1 _ hv1 HA1.out.1 HA1.out.2).mono ?_
      rintro e w2 ⟨rfl, g2⟩
      replace hv0 : RSpans w2 (.slice a0 n0 c0) x0 := (RSlice.mono keeps_span g2 hv0)
      replace hv1 : RSpans w2 (.slice a1 n1 c1) x1 := (RSlice.mono keeps_span g2 hv1)
      replace gw : Gr w w2 := gw.trans g2
      rw [HZ1.out]
      go_wp2_with fail
      go_ret
      exact ⟨rfl, gw⟩
  · have HZ0 := Lib.hid (szV_no (t := (totL totSpan x0)) (left := (1048576 : Int)) (by omega))
    have HA0 := Lib.hid (show (0 : Int) ≤ (1048576 : Int) ∧ (1048576 : Int) ≤ 1048576 from by omega)
    clear hs0
    go_enter Try.func7, Try.ntmps7
    go_wp2_with fail
    refine (laws_szSpanS _ _ x0 _ hv0 HA0.out.1 HA0.out.2).mono ?_
    rintro e w1 ⟨rfl, g1⟩
    replace hv0 : RSpans w1 (.slice a0 n0 c0) x0 := (RSlice.mono keeps_span g1 hv0)
    replace hv1 : RSpans w1 (.slice a1 n1 c1) x1 := (RSlice.mono keeps_span g1 hv1)
    have gw : Gr w w1 := g1
    rw [HZ0.out]
    go_wp2_with fail
    go_ret
    exact ⟨rfl, gw⟩

-- endgen
end Go.Proofs.Ytgadgidhomijpaa
