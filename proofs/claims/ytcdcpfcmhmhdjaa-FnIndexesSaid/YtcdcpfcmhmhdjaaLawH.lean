/- EqualSpans: the walks. -/
import Derived.Test.YtcdcpfcmhmhdjaaLawF
import Derived.Test.YtcdcpfcmhmhdjaaExt
namespace Go.Proofs.Ytcdcpfcmhmhdjaa
open Go.RowKit
def eqSpanB (x y : DSpan) : Bool := x.lo == y.lo && (x.hi == y.hi && eqL x.set y.set)
def spansEqAt (xs ys : List DSpan) (j : Nat) : Bool := eqSpanB (xs.getD j ⟨0, 0, []⟩) (ys.getD j ⟨0, 0, []⟩)
def eqSpansB (xs ys : List DSpan) : Bool := decide (xs.length = ys.length) && allB xs.length (spansEqAt xs ys)
theorem spansEqAt_eq {xs ys : List DSpan} {k : Nat} (h : k < xs.length) (h' : k < ys.length) : spansEqAt xs ys k = eqSpanB xs[k] ys[k] := by unfold spansEqAt; rw [getD_lt h, getD_lt h']
theorem eqSpansB_no {xs ys : List DSpan} {k : Nat} (h : k < xs.length) (h' : k < ys.length) (he : eqSpanB xs[k] ys[k] = false) : eqSpansB xs ys = false := by
  unfold eqSpansB; rw [allB_false (p := spansEqAt xs ys) k h (by rw [spansEqAt_eq h h']; exact he)]; simp
theorem eqSpansB_yes {xs ys : List DSpan} (hl : xs.length = ys.length) (h : ∀ j, j < xs.length → spansEqAt xs ys j = true) : eqSpansB xs ys = true := by
  unfold eqSpansB; rw [allB_true h]; simp [hl]
theorem eqL_of {P : Program} {f : FuncId} {args : Array Value} {w : World} {xs ys : List Int} {b : Bool} (h : Calls P f args w fun e w' => e = .returned (.bool (eqL xs ys)) ∧ Gr w w') (hb : eqL xs ys = b) :
    Calls P f args w fun e w' => e = .returned (.bool b) ∧ Gr w w' := hb ▸ h
set_option maxRecDepth 100000 in
set_option maxHeartbeats 4000000 in
theorem spec_EqualSpans (v : Value) (xs : List DSpan) (v' : Value) (ys : List DSpan) (w : World) (hx : RSpans w v xs) (hy : RSpans w v' ys) : Calls Try.prog 35 #[v, v'] w fun e w' => e = .returned (.bool (eqSpansB xs ys)) ∧ Gr w w' := by
  obtain ⟨a, cap, rfl, hl, hm, hx⟩ := hx
  obtain ⟨a', cap', rfl, hl', hm', hx'⟩ := hy
  by_cases hn : xs.length = ys.length
  · have hd : ((xs.length : Int) != (ys.length : Int)) = false := by simp; omega
    have HN := Lib.hid hn
    have hle : xs.length ≤ ys.length := by omega
    clear hn
    go_enter Try.func35, Try.ntmps35
    go_wp2
    go_loopw [5] (fun i wr => ∃ k : Nat, k ≤ xs.length ∧ i = .int .i64 k ∧ Hid (∀ j, j < k → spansEqAt xs ys j = true) ∧ Gr w wr) (fun i _ => xs.length - (intOf i).toNat)
    case atStart => exact ⟨0, Nat.zero_le _, rfl, Lib.hid (fun _ h => absurd h (Nat.not_lt_zero _)), Gr.refl _⟩
    case round =>
      obtain ⟨k, hk, rfl, hall, hgr⟩ := hrel
      by_cases hlt : k < xs.length
      · have hlt' : k < ys.length := by omega
        obtain ⟨b, off, cs, rfl, hlen, ⟨u_set, rfl, i_lo, i_hi, h_set⟩, hc⟩ := hx k hlt
        have c0 := hgr.cellv (hc 0 (by simp))
        have c1 := hgr.cellv (hc 1 (by simp))
        have c2 := hgr.cellv (hc 2 (by simp))
        simp only [Nat.add_zero, List.getElem_cons_zero, List.getElem_cons_succ] at c0 c1 c2
        clear hc hlen
        obtain ⟨b', off', cs', rfl, hlen', ⟨u_set', rfl, i_lo', i_hi', h_set'⟩, hc'⟩ := hx' k hlt'
        have d0 := hgr.cellv (hc' 0 (by simp))
        have d1 := hgr.cellv (hc' 1 (by simp))
        have d2 := hgr.cellv (hc' 2 (by simp))
        simp only [Nat.add_zero, List.getElem_cons_zero, List.getElem_cons_succ] at d0 d1 d2
        clear hc' hlen'
        have i0 : (0 : Int) ≤ (k : Int) := Int.natCast_nonneg _
        have i1 : (k : Int) < (xs.length : Int) := by omega
        have i2 : (k : Int) < (ys.length : Int) := by omega
        by_cases h1 : xs[k].lo = ys[k].lo
        · by_cases h2 : xs[k].hi = ys[k].hi
          · cases h3 : eqL xs[k].set ys[k].set with
            | false =>
              have n_lo : (xs[k].lo != ys[k].lo) = false := by simp [*]
              have n_hi : (xs[k].hi != ys[k].hi) = false := by simp [*]
              have H3 := Lib.hid h3
              have HE : Hid (eqSpanB xs[k] ys[k] = false) := Lib.hid (by simp [eqSpanB, *])
              have hgW := hgr
              have q0 := fun q : Ext wr => Ext.cell c0 q
              have q1 := fun q : Ext wr => Ext.cell c1 q
              have q2 := fun q : Ext wr => Ext.cell c2 q
              have p0 := fun q : Ext wr => Ext.cell d0 q
              have p1 := fun q : Ext wr => Ext.cell d1 q
              have p2 := fun q : Ext wr => Ext.cell d2 q
              clear h1 h2 h3
              go_wp2
              refine wp_region_ext (by kernel_rfl) (by kernel_rfl) ?_
              repeat (go_big_quiet_step ((go_at_call 60; exact quiet_ext (eqL_of (spec_l2Ints u_set u_set' xs[k].set ys[k].set _ (RSlice.mono keeps_int (hgW.trans (Ext.gr _)) h_set) (RSlice.mono keeps_int (hgW.trans (Ext.gr _)) h_set')) H3.out))))
              refine wpQuiet_nil ?_
              intro w1 hw1
              have g1 := Ext.out hw1
              clear hw1 q0 q1 q2 p0 p1 p2
              have hgr1 : Gr w w1 := hgW.trans g1
              go_wp2
              go_ret
              exact ⟨ret_bool (eqSpansB_no hlt hlt' HE.out).symm, hgr1⟩
            | true =>
              have n_lo : (xs[k].lo != ys[k].lo) = false := by simp [*]
              have n_hi : (xs[k].hi != ys[k].hi) = false := by simp [*]
              have H3 := Lib.hid h3
              have HE : Hid (eqSpanB xs[k] ys[k] = true) := Lib.hid (by simp [eqSpanB, *])
              have hgW := hgr
              have q0 := fun q : Ext wr => Ext.cell c0 q
              have q1 := fun q : Ext wr => Ext.cell c1 q
              have q2 := fun q : Ext wr => Ext.cell c2 q
              have p0 := fun q : Ext wr => Ext.cell d0 q
              have p1 := fun q : Ext wr => Ext.cell d1 q
              have p2 := fun q : Ext wr => Ext.cell d2 q
              clear h1 h2 h3
              go_wp2
              refine wp_region_ext (by kernel_rfl) (by kernel_rfl) ?_
              repeat (go_big_quiet_step ((go_at_call 60; exact quiet_ext (eqL_of (spec_l2Ints u_set u_set' xs[k].set ys[k].set _ (RSlice.mono keeps_int (hgW.trans (Ext.gr _)) h_set) (RSlice.mono keeps_int (hgW.trans (Ext.gr _)) h_set')) H3.out))))
              refine wpQuiet_nil ?_
              intro w1 hw1
              have g1 := Ext.out hw1
              clear hw1 q0 q1 q2 p0 p1 p2
              have hgr1 : Gr w w1 := hgW.trans g1
              go_wp2
              go_roundw
              case rel => exact ⟨k + 1, by omega, by go_num, Lib.hid (below_succ hall.out (by rw [spansEqAt_eq hlt hlt']; exact HE.out)), hgr1⟩
              case measure => simp [intOf]; omega
          · have n_lo : (xs[k].lo != ys[k].lo) = false := by simp [*]
            have n_hi : (xs[k].hi != ys[k].hi) = true := by simp [*]
            have HE : Hid (eqSpanB xs[k] ys[k] = false) := Lib.hid (by simp [eqSpanB, *])
            have hgW := hgr
            have q0 := fun q : Ext wr => Ext.cell c0 q
            have q1 := fun q : Ext wr => Ext.cell c1 q
            have q2 := fun q : Ext wr => Ext.cell c2 q
            have p0 := fun q : Ext wr => Ext.cell d0 q
            have p1 := fun q : Ext wr => Ext.cell d1 q
            have p2 := fun q : Ext wr => Ext.cell d2 q
            clear h1 h2
            go_wp2
            refine wp_region_ext (by kernel_rfl) (by kernel_rfl) ?_
            repeat (go_big_quiet_step (fail))
            refine wpQuiet_nil ?_
            intro w1 hw1
            have g1 := Ext.out hw1
            clear hw1 q0 q1 q2 p0 p1 p2
            have hgr1 : Gr w w1 := hgW.trans g1
            go_wp2
            go_ret
            exact ⟨ret_bool (eqSpansB_no hlt hlt' HE.out).symm, hgr1⟩
        · have n_lo : (xs[k].lo != ys[k].lo) = true := by simp [*]
          have HE : Hid (eqSpanB xs[k] ys[k] = false) := Lib.hid (by simp [eqSpanB, *])
          have hgW := hgr
          have q0 := fun q : Ext wr => Ext.cell c0 q
          have q1 := fun q : Ext wr => Ext.cell c1 q
          have q2 := fun q : Ext wr => Ext.cell c2 q
          have p0 := fun q : Ext wr => Ext.cell d0 q
          have p1 := fun q : Ext wr => Ext.cell d1 q
          have p2 := fun q : Ext wr => Ext.cell d2 q
          clear h1
          go_wp2
          refine wp_region_ext (by kernel_rfl) (by kernel_rfl) ?_
          repeat (go_big_quiet_step (fail))
          refine wpQuiet_nil ?_
          intro w1 hw1
          have g1 := Ext.out hw1
          clear hw1 q0 q1 q2 p0 p1 p2
          have hgr1 : Gr w w1 := hgW.trans g1
          go_wp2
          go_ret
          exact ⟨ret_bool (eqSpansB_no hlt hlt' HE.out).symm, hgr1⟩
      · go_wp2
        go_ret
        exact ⟨ret_bool (eqSpansB_yes HN.out (fun j hj => hall.out j (by omega))).symm, hgr⟩
  · have hd : ((xs.length : Int) != (ys.length : Int)) = true := by simp; omega
    have HN := Lib.hid hn
    clear hn
    go_enter Try.func35, Try.ntmps35
    go_wp2
    go_ret
    exact ⟨ret_bool (by have := HN.out; simp [eqSpansB, this]), Gr.refl _⟩
set_option maxRecDepth 100000 in
set_option maxHeartbeats 4000000 in
theorem impl_EqualSpans (v : Value) (xs : List DSpan) (v' : Value) (ys : List DSpan) (w : World) (hx : RSpans w v xs) (hy : RSpans w v' ys) : Calls Try.prog 32 #[v, v'] w fun e w' => e = .returned (.bool (eqSpansB xs ys)) ∧ Gr w w' := by
  obtain ⟨a, cap, rfl, hl, hm, hx⟩ := hx
  obtain ⟨a', cap', rfl, hl', hm', hx'⟩ := hy
  by_cases hn : xs.length = ys.length
  · have hd : ((xs.length : Int) != (ys.length : Int)) = false := by simp; omega
    have HN := Lib.hid hn
    have hle : xs.length ≤ ys.length := by omega
    clear hn
    go_enter Try.func32, Try.ntmps32
    go_wp2
    go_loopw [14] (fun i wr => ∃ k : Nat, k ≤ xs.length ∧ i = .int .i64 k ∧ Hid (∀ j, j < k → spansEqAt xs ys j = true) ∧ Gr w wr) (fun i _ => xs.length - (intOf i).toNat)
    case atStart => exact ⟨0, Nat.zero_le _, rfl, Lib.hid (fun _ h => absurd h (Nat.not_lt_zero _)), Gr.refl _⟩
    case round =>
      obtain ⟨k, hk, rfl, hall, hgr⟩ := hrel
      by_cases hlt : k < xs.length
      · have hlt' : k < ys.length := by omega
        obtain ⟨b, off, cs, rfl, hlen, ⟨u_set, rfl, i_lo, i_hi, h_set⟩, hc⟩ := hx k hlt
        have c0 := hgr.cellv (hc 0 (by simp))
        have c1 := hgr.cellv (hc 1 (by simp))
        have c2 := hgr.cellv (hc 2 (by simp))
        simp only [Nat.add_zero, List.getElem_cons_zero, List.getElem_cons_succ] at c0 c1 c2
        clear hc hlen
        obtain ⟨b', off', cs', rfl, hlen', ⟨u_set', rfl, i_lo', i_hi', h_set'⟩, hc'⟩ := hx' k hlt'
        have d0 := hgr.cellv (hc' 0 (by simp))
        have d1 := hgr.cellv (hc' 1 (by simp))
        have d2 := hgr.cellv (hc' 2 (by simp))
        simp only [Nat.add_zero, List.getElem_cons_zero, List.getElem_cons_succ] at d0 d1 d2
        clear hc' hlen'
        obtain ⟨ua, un, uc, rfl⟩ := RSlice.isSl h_set
        have i0 : (0 : Int) ≤ (k : Int) := Int.natCast_nonneg _
        have i1 : (k : Int) < (xs.length : Int) := by omega
        have i2 : (k : Int) < (ys.length : Int) := by omega
        by_cases h1 : xs[k].lo = ys[k].lo
        · by_cases h2 : xs[k].hi = ys[k].hi
          · cases h3 : eqL xs[k].set ys[k].set with
            | false =>
              have n_lo : (xs[k].lo != ys[k].lo) = false := by simp [*]
              have n_hi : (xs[k].hi != ys[k].hi) = false := by simp [*]
              have H3 := Lib.hid h3
              have HE : Hid (eqSpanB xs[k] ys[k] = false) := Lib.hid (by simp [eqSpanB, *])
              have gWW : Gr wr (wr.alloc (.cells #[.int .i64 xs[k].lo, .int .i64 xs[k].hi, .slice ua un uc] 83)) := (Gr.refl wr).alloc _
              have hgW := hgr.trans gWW
              have q0 : ∀ q : Ext (wr.alloc (.cells #[.int .i64 xs[k].lo, .int .i64 xs[k].hi, .slice ua un uc] 83)), q.val.cell? ⟨wr.heap.size, 0, none⟩ = some (.int .i64 xs[k].lo) := fun q => Ext.cell (by simp [go_sem]) q
              have q1 : ∀ q : Ext (wr.alloc (.cells #[.int .i64 xs[k].lo, .int .i64 xs[k].hi, .slice ua un uc] 83)), q.val.cell? ⟨wr.heap.size, 1, none⟩ = some (.int .i64 xs[k].hi) := fun q => Ext.cell (by simp [go_sem]) q
              have q2 : ∀ q : Ext (wr.alloc (.cells #[.int .i64 xs[k].lo, .int .i64 xs[k].hi, .slice ua un uc] 83)), q.val.cell? ⟨wr.heap.size, 2, none⟩ = some (.slice ua un uc) := fun q => Ext.cell (by simp [go_sem]) q
              have p0 := fun q : Ext (wr.alloc (.cells #[.int .i64 xs[k].lo, .int .i64 xs[k].hi, .slice ua un uc] 83)) => Ext.cell (gWW.cellv d0) q
              have p1 := fun q : Ext (wr.alloc (.cells #[.int .i64 xs[k].lo, .int .i64 xs[k].hi, .slice ua un uc] 83)) => Ext.cell (gWW.cellv d1) q
              have p2 := fun q : Ext (wr.alloc (.cells #[.int .i64 xs[k].lo, .int .i64 xs[k].hi, .slice ua un uc] 83)) => Ext.cell (gWW.cellv d2) q
              clear h1 h2 h3
              go_wp2
              refine wp_region_ext (by kernel_rfl) (by kernel_rfl) ?_
              repeat (go_big_quiet_step ((go_at_call 57; exact quiet_ext (eqL_of (impl_sameInts (.slice ua un uc) u_set' xs[k].set ys[k].set _ (RSlice.mono keeps_int (hgW.trans (Ext.gr _)) h_set) (RSlice.mono keeps_int (hgW.trans (Ext.gr _)) h_set')) H3.out))))
              refine wpQuiet_nil ?_
              intro w1 hw1
              have g1 := Ext.out hw1
              clear hw1 q0 q1 q2 p0 p1 p2
              have hgr1 : Gr w w1 := hgW.trans g1
              go_wp2
              go_ret
              exact ⟨ret_bool (eqSpansB_no hlt hlt' HE.out).symm, hgr1⟩
            | true =>
              have n_lo : (xs[k].lo != ys[k].lo) = false := by simp [*]
              have n_hi : (xs[k].hi != ys[k].hi) = false := by simp [*]
              have H3 := Lib.hid h3
              have HE : Hid (eqSpanB xs[k] ys[k] = true) := Lib.hid (by simp [eqSpanB, *])
              have gWW : Gr wr (wr.alloc (.cells #[.int .i64 xs[k].lo, .int .i64 xs[k].hi, .slice ua un uc] 83)) := (Gr.refl wr).alloc _
              have hgW := hgr.trans gWW
              have q0 : ∀ q : Ext (wr.alloc (.cells #[.int .i64 xs[k].lo, .int .i64 xs[k].hi, .slice ua un uc] 83)), q.val.cell? ⟨wr.heap.size, 0, none⟩ = some (.int .i64 xs[k].lo) := fun q => Ext.cell (by simp [go_sem]) q
              have q1 : ∀ q : Ext (wr.alloc (.cells #[.int .i64 xs[k].lo, .int .i64 xs[k].hi, .slice ua un uc] 83)), q.val.cell? ⟨wr.heap.size, 1, none⟩ = some (.int .i64 xs[k].hi) := fun q => Ext.cell (by simp [go_sem]) q
              have q2 : ∀ q : Ext (wr.alloc (.cells #[.int .i64 xs[k].lo, .int .i64 xs[k].hi, .slice ua un uc] 83)), q.val.cell? ⟨wr.heap.size, 2, none⟩ = some (.slice ua un uc) := fun q => Ext.cell (by simp [go_sem]) q
              have p0 := fun q : Ext (wr.alloc (.cells #[.int .i64 xs[k].lo, .int .i64 xs[k].hi, .slice ua un uc] 83)) => Ext.cell (gWW.cellv d0) q
              have p1 := fun q : Ext (wr.alloc (.cells #[.int .i64 xs[k].lo, .int .i64 xs[k].hi, .slice ua un uc] 83)) => Ext.cell (gWW.cellv d1) q
              have p2 := fun q : Ext (wr.alloc (.cells #[.int .i64 xs[k].lo, .int .i64 xs[k].hi, .slice ua un uc] 83)) => Ext.cell (gWW.cellv d2) q
              clear h1 h2 h3
              go_wp2
              refine wp_region_ext (by kernel_rfl) (by kernel_rfl) ?_
              repeat (go_big_quiet_step ((go_at_call 57; exact quiet_ext (eqL_of (impl_sameInts (.slice ua un uc) u_set' xs[k].set ys[k].set _ (RSlice.mono keeps_int (hgW.trans (Ext.gr _)) h_set) (RSlice.mono keeps_int (hgW.trans (Ext.gr _)) h_set')) H3.out))))
              refine wpQuiet_nil ?_
              intro w1 hw1
              have g1 := Ext.out hw1
              clear hw1 q0 q1 q2 p0 p1 p2
              have hgr1 : Gr w w1 := hgW.trans g1
              go_wp2
              go_roundw
              case rel => exact ⟨k + 1, by omega, by go_num, Lib.hid (below_succ hall.out (by rw [spansEqAt_eq hlt hlt']; exact HE.out)), hgr1⟩
              case measure => simp [intOf]; omega
          · have n_lo : (xs[k].lo != ys[k].lo) = false := by simp [*]
            have n_hi : (xs[k].hi != ys[k].hi) = true := by simp [*]
            have HE : Hid (eqSpanB xs[k] ys[k] = false) := Lib.hid (by simp [eqSpanB, *])
            have gWW : Gr wr (wr.alloc (.cells #[.int .i64 xs[k].lo, .int .i64 xs[k].hi, .slice ua un uc] 83)) := (Gr.refl wr).alloc _
            have hgW := hgr.trans gWW
            have q0 : ∀ q : Ext (wr.alloc (.cells #[.int .i64 xs[k].lo, .int .i64 xs[k].hi, .slice ua un uc] 83)), q.val.cell? ⟨wr.heap.size, 0, none⟩ = some (.int .i64 xs[k].lo) := fun q => Ext.cell (by simp [go_sem]) q
            have q1 : ∀ q : Ext (wr.alloc (.cells #[.int .i64 xs[k].lo, .int .i64 xs[k].hi, .slice ua un uc] 83)), q.val.cell? ⟨wr.heap.size, 1, none⟩ = some (.int .i64 xs[k].hi) := fun q => Ext.cell (by simp [go_sem]) q
            have q2 : ∀ q : Ext (wr.alloc (.cells #[.int .i64 xs[k].lo, .int .i64 xs[k].hi, .slice ua un uc] 83)), q.val.cell? ⟨wr.heap.size, 2, none⟩ = some (.slice ua un uc) := fun q => Ext.cell (by simp [go_sem]) q
            have p0 := fun q : Ext (wr.alloc (.cells #[.int .i64 xs[k].lo, .int .i64 xs[k].hi, .slice ua un uc] 83)) => Ext.cell (gWW.cellv d0) q
            have p1 := fun q : Ext (wr.alloc (.cells #[.int .i64 xs[k].lo, .int .i64 xs[k].hi, .slice ua un uc] 83)) => Ext.cell (gWW.cellv d1) q
            have p2 := fun q : Ext (wr.alloc (.cells #[.int .i64 xs[k].lo, .int .i64 xs[k].hi, .slice ua un uc] 83)) => Ext.cell (gWW.cellv d2) q
            clear h1 h2
            go_wp2
            refine wp_region_ext (by kernel_rfl) (by kernel_rfl) ?_
            repeat (go_big_quiet_step (fail))
            refine wpQuiet_nil ?_
            intro w1 hw1
            have g1 := Ext.out hw1
            clear hw1 q0 q1 q2 p0 p1 p2
            have hgr1 : Gr w w1 := hgW.trans g1
            go_wp2
            go_ret
            exact ⟨ret_bool (eqSpansB_no hlt hlt' HE.out).symm, hgr1⟩
        · have n_lo : (xs[k].lo != ys[k].lo) = true := by simp [*]
          have HE : Hid (eqSpanB xs[k] ys[k] = false) := Lib.hid (by simp [eqSpanB, *])
          have gWW : Gr wr (wr.alloc (.cells #[.int .i64 xs[k].lo, .int .i64 xs[k].hi, .slice ua un uc] 83)) := (Gr.refl wr).alloc _
          have hgW := hgr.trans gWW
          have q0 : ∀ q : Ext (wr.alloc (.cells #[.int .i64 xs[k].lo, .int .i64 xs[k].hi, .slice ua un uc] 83)), q.val.cell? ⟨wr.heap.size, 0, none⟩ = some (.int .i64 xs[k].lo) := fun q => Ext.cell (by simp [go_sem]) q
          have q1 : ∀ q : Ext (wr.alloc (.cells #[.int .i64 xs[k].lo, .int .i64 xs[k].hi, .slice ua un uc] 83)), q.val.cell? ⟨wr.heap.size, 1, none⟩ = some (.int .i64 xs[k].hi) := fun q => Ext.cell (by simp [go_sem]) q
          have q2 : ∀ q : Ext (wr.alloc (.cells #[.int .i64 xs[k].lo, .int .i64 xs[k].hi, .slice ua un uc] 83)), q.val.cell? ⟨wr.heap.size, 2, none⟩ = some (.slice ua un uc) := fun q => Ext.cell (by simp [go_sem]) q
          have p0 := fun q : Ext (wr.alloc (.cells #[.int .i64 xs[k].lo, .int .i64 xs[k].hi, .slice ua un uc] 83)) => Ext.cell (gWW.cellv d0) q
          have p1 := fun q : Ext (wr.alloc (.cells #[.int .i64 xs[k].lo, .int .i64 xs[k].hi, .slice ua un uc] 83)) => Ext.cell (gWW.cellv d1) q
          have p2 := fun q : Ext (wr.alloc (.cells #[.int .i64 xs[k].lo, .int .i64 xs[k].hi, .slice ua un uc] 83)) => Ext.cell (gWW.cellv d2) q
          clear h1
          go_wp2
          refine wp_region_ext (by kernel_rfl) (by kernel_rfl) ?_
          repeat (go_big_quiet_step (fail))
          refine wpQuiet_nil ?_
          intro w1 hw1
          have g1 := Ext.out hw1
          clear hw1 q0 q1 q2 p0 p1 p2
          have hgr1 : Gr w w1 := hgW.trans g1
          go_wp2
          go_ret
          exact ⟨ret_bool (eqSpansB_no hlt hlt' HE.out).symm, hgr1⟩
      · go_wp2
        go_ret
        exact ⟨ret_bool (eqSpansB_yes HN.out (fun j hj => hall.out j (by omega))).symm, hgr⟩
  · have hd : ((xs.length : Int) != (ys.length : Int)) = true := by simp; omega
    have HN := Lib.hid hn
    clear hn
    go_enter Try.func32, Try.ntmps32
    go_wp2
    go_ret
    exact ⟨ret_bool (by have := HN.out; simp [eqSpansB, this]), Gr.refl _⟩
-- gen FnExactEqualSpans EqualSpans SpanS SpanS
-- endgen
end Go.Proofs.Ytcdcpfcmhmhdjaa
