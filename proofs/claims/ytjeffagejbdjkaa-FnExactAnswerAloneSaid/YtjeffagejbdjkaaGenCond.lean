/- The law's own helpers: GenCond. Written by gen_law.py. -/
import Derived.Test.YtjeffagejbdjkaaGenInt
namespace Go.Proofs.Ytjeffagejbdjkaa
open Go.RowKit
set_option linter.unusedSimpArgs false
set_option maxRecDepth 100000 in
set_option maxHeartbeats 4000000 in
theorem laws_szCondS (v : Value) (left : Int) (xs : List DCond) (w : World) (hx : RConds w v xs) (h0 : 0 ≤ left) (h1 : left ≤ 1048576) :
    Calls Try.prog 29 #[v, .int .i64 left] w fun e w' => e = .returned (.int .i64 (szV xs.length left)) ∧ Gr w w' := by
  obtain ⟨a, cap, rfl, hl, hm, hx⟩ := hx
  by_cases hlt : left - xs.length < 0
  · have HZ := Lib.hid (szV_no (t := xs.length) (left := left) (by omega))
    go_enter Try.func29, Try.ntmps29
    go_wp2
    go_ret
    exact ⟨ret_int HZ.out.symm, Gr.refl _⟩
  · have HZ := Lib.hid (szV_yes (t := xs.length) (left := left) (by omega))
    go_enter Try.func29, Try.ntmps29
    go_wp2
    go_ret
    exact ⟨ret_int HZ.out.symm, Gr.refl _⟩
set_option maxRecDepth 100000 in
set_option maxHeartbeats 4000000 in
theorem laws_toCond_own (x : DCond) (w : World) :
    Calls Try.prog 45 #[.agg #[.int .i64 x.field, .int .i64 x.low, .int .i64 x.high]] w fun e w' => e = .returned (.agg #[.int .i64 x.field, .int .i64 x.low, .int .i64 x.high]) ∧ Gr w w' := by
  obtain ⟨field, low, high⟩ := x
  dsimp only at *
  have g0 : Gr w (((w.alloc (.cells #[.int .i64 field, .int .i64 low, .int .i64 high] 69)).alloc (.cells #[.int .i64 0, .int .i64 0, .int .i64 0] 66)).alloc (.cells #[.int .i64 field, .int .i64 low, .int .i64 high] 66)) := (((Gr.refl w).alloc _).alloc _).alloc _
  go_enter Try.func45, Try.ntmps45
  go_wp2_with fail
  refine bodyPost_ret (v := .agg #[.int .i64 field, .int .i64 low, .int .i64 high]) (by simp [results, Try.results45, go_sem]) rfl ⟨rfl, (by repeat' (first | with_reducible assumption | with_reducible exact Gr.refl _ | with_reducible refine Gr.alloc ?_ _ | with_reducible refine Gr.setCell ?_ ?_ _ | (dsimp only; omega)))⟩
theorem laws_toCond_gr (x : DCond) (w : World) :
    Calls Try.prog 45 #[.agg #[.int .i64 x.field, .int .i64 x.low, .int .i64 x.high]] w fun e w' => e = .returned (.agg #[.int .i64 x.field, .int .i64 x.low, .int .i64 x.high]) ∧ Gr w w' := (laws_toCond_own x w).mono fun _ _ h => h
set_option maxRecDepth 100000 in
set_option maxHeartbeats 4000000 in
theorem laws_toCondS_own (v : Value) (xs : List DCond) (w : World) (hx : RConds w v xs) (hb : xs.length ≤ 4294967296) :
    Calls Try.prog 32 #[v] w fun e w' => ∃ v', e = .returned v' ∧ IsSl v' ∧ Gr w w' ∧ PConds (In w.heap.size w'.heap.size) w' v' xs := by
  obtain ⟨a, cap, rfl, hl, hm, hx⟩ := hx
  have hb0 : xs.length ≤ 4294967296 := by omega
  have hmk : ∀ (w : World) (cs : Nat → List Value), (Instr.makeSlice 36 (.int .i64 xs.length) (.int .i64 xs.length)).run Try.prog w = .ok (.slice (some ⟨w.heap.size, 0, none⟩) xs.length xs.length) (w.alloc (.cells (fillC 3 xs.length 0 [.int .i64 0, .int .i64 0, .int .i64 0] cs).toArray 66)) := fun w cs => make_fill Try.underlying36 (z := .agg #[.int .i64 0, .int .i64 0, .int .i64 0]) (bytes := 24) (by kernel_rfl) rfl (by decide) w xs.length (by omega) cs
  have hmk0 := fun w : World => hmk w (fun _ => [])
  clear hmk hm
  go_enter Try.func32, Try.ntmps32
  go_wp2
  go_loopw [4] (fun i wr => ∃ (k : Nat) (cs : Nat → List Value), k ≤ xs.length ∧ i = .int .i64 k ∧ wr.heap[w.heap.size]? = some (.cells (fillC 3 xs.length k [.int .i64 0, .int .i64 0, .int .i64 0] cs).toArray 66 (0, 0)) ∧ Gr w wr ∧ ElemsO PCond 3 (w.heap.size + 1) wr (xs.take k) cs) (fun i _ => xs.length - (intOf i).toNat)
  case atStart => exact ⟨0, fun _ => [], Nat.zero_le _, rfl, heap_alloc_new w _, (Gr.refl _).alloc _, ElemsO.zero⟩
  case round =>
    obtain ⟨k, cs, hk, rfl, hg, hgr, hcs⟩ := hrel
    have HC := Lib.hid hcs
    clear hcs
    by_cases hlt : k < xs.length
    · obtain ⟨b, off, cs, rfl, hlen, ⟨rfl, i_field, i_low, i_high⟩, hc⟩ := hx k hlt
      have c0 := hgr.cellv (hc 0 (by simp))
      have c1 := hgr.cellv (hc 1 (by simp))
      have c2 := hgr.cellv (hc 2 (by simp))
      simp only [Nat.add_zero, List.getElem_cons_zero, List.getElem_cons_succ] at c0 c1 c2
      clear hc hlen
      have HG := Lib.hid hg
      have hgl : w.heap.size < wr.heap.size := (Array.getElem?_eq_some_iff.1 hg).1
      have hga : w.heap.size + 1 ≤ wr.heap.size := hgl
      clear hg
      go_wp2_with fail
      refine (laws_toCond_own xs[k] _).mono ?_
      rintro e w1 ⟨rfl, g1⟩
      have hg1 : w1.heap[w.heap.size]? = some (.cells (fillC 3 xs.length k [.int .i64 0, .int .i64 0, .int .i64 0] cs).toArray 66 (0, 0)) := by rw [g1.block _ hgl]; exact HG.out
      obtain ⟨x0, d0⟩ : ∃ x, w1.cell? ⟨w.heap.size, k * 3, none⟩ = some x := fill_cell hg1 (by omega)
      have f0 : w1.frozen? ⟨w.heap.size, k * 3, none⟩ = false := Joins.unfrozen_of_block hg1 _
      obtain ⟨x1, d1⟩ : ∃ x, w1.cell? ⟨w.heap.size, k * 3 + 1, none⟩ = some x := fill_cell hg1 (by omega)
      have f1 : w1.frozen? ⟨w.heap.size, k * 3 + 1, none⟩ = false := Joins.unfrozen_of_block hg1 _
      obtain ⟨x2, d2⟩ : ∃ x, w1.cell? ⟨w.heap.size, k * 3 + 2, none⟩ = some x := fill_cell hg1 (by omega)
      have f2 : w1.frozen? ⟨w.heap.size, k * 3 + 2, none⟩ = false := Joins.unfrozen_of_block hg1 _
      have HG1 := Lib.hid hg1
      have hgw := hgr.trans g1
      have HL : Hid (Loc (w.heap.size + 1) w1 (((w1.setCell ⟨w.heap.size, k * 3, none⟩ (.int .i64 xs[k].field)).setCell ⟨w.heap.size, k * 3 + 1, none⟩ (.int .i64 xs[k].low)).setCell ⟨w.heap.size, k * 3 + 2, none⟩ (.int .i64 xs[k].high))) := Lib.hid (by repeat' (first | with_reducible exact Loc.refl _ _ | with_reducible refine Loc.setCell ?_ ?_ _ | (dsimp only; omega)))
      have HO : Hid (PCond (In wr.heap.size w1.heap.size) (((w1.setCell ⟨w.heap.size, k * 3, none⟩ (.int .i64 xs[k].field)).setCell ⟨w.heap.size, k * 3 + 1, none⟩ (.int .i64 xs[k].low)).setCell ⟨w.heap.size, k * 3 + 2, none⟩ (.int .i64 xs[k].high)) [.int .i64 xs[k].field, .int .i64 xs[k].low, .int .i64 xs[k].high] xs[k]) := Lib.hid ⟨rfl, i_field, i_low, i_high⟩
      clear hg1 
      go_wp2_with fail
      go_roundw
      case rel => exact ⟨k + 1, updC cs k [.int .i64 xs[k].field, .int .i64 xs[k].low, .int .i64 xs[k].high], by omega, by go_num, by rw [Joins.block_setCell (Joins.block_setCell (Joins.block_setCell HG1.out _) _) _, fillC_set3 hlt], (by repeat' (first | with_reducible assumption | with_reducible exact Gr.refl _ | with_reducible refine Gr.alloc ?_ _ | with_reducible refine Gr.setCell ?_ ?_ _ | (dsimp only; omega))), HC.out.step fr_cond hlt hga (Nat.le_trans g1.size HL.out.1) (Loc.agree ((Loc.of_gr g1).trans HL.out) fun b hb => hb.1) HO.out (Nat.le_refl _) HL.out.1 rfl⟩
      case measure => simp [intOf]; omega
    · obtain rfl : k = xs.length := by omega
      have HG := Lib.hid hg
      clear hg
      go_wp2
      go_ret
      exact ⟨_, rfl, ⟨_, _, _, rfl⟩, hgr, fill_own (by decide) HG.out HC.out (Nat.le_refl _) (by omega)⟩
theorem laws_toCondS_fresh (v : Value) (xs : List DCond) (w : World) (hx : RConds w v xs) (hb : xs.length ≤ 4294967296) :
    Calls Try.prog 32 #[v] w fun e w' => ∃ v', e = .returned v' ∧ IsSl v' ∧ Fresh w.heap.size RConds w' v' xs ∧ Gr w w' :=
  (laws_toCondS_own v xs w hx hb).mono fun _ _ ⟨v, h1, h2, h3, h4⟩ => ⟨v, h1, h2, h4.fresh fr_cond (fun h => rd_pconds h), h3⟩
set_option maxRecDepth 100000 in
set_option maxHeartbeats 4000000 in
theorem laws_eqCond (x : DCond) (w : World) :
    Calls Try.prog 49 #[.agg #[.int .i64 x.field, .int .i64 x.low, .int .i64 x.high], .agg #[.int .i64 x.field, .int .i64 x.low, .int .i64 x.high]] w fun e w' => e = .returned (.bool true) ∧ Gr w w' := by
  obtain ⟨field, low, high⟩ := x
  dsimp only at *
  have g0 : Gr w ((w.alloc (.cells #[.int .i64 field, .int .i64 low, .int .i64 high] 66)).alloc (.cells #[.int .i64 field, .int .i64 low, .int .i64 high] 66)) := ((Gr.refl w).alloc _).alloc _
  have e_field : (field != field) = false := by simp
  have e_low : (low != low) = false := by simp
  have e_high : (high != high) = false := by simp
  go_enter Try.func49, Try.ntmps49
  go_wp2_with fail
  go_ret
  exact ⟨rfl, g0⟩
set_option maxRecDepth 100000 in
set_option maxHeartbeats 4000000 in
theorem laws_eqCondS_same (v v' : Value) (xs : List DCond) (w : World) (hx : RConds w v xs) (hx' : RConds w v' xs) :
    Calls Try.prog 35 #[v, v'] w fun e w' => e = .returned (.bool true) ∧ Gr w w' := by
  obtain ⟨a, cap, rfl, hl, hm, hx⟩ := hx
  obtain ⟨a', cap', rfl, hl', hm', hx'⟩ := hx'
  have hne : ((xs.length : Int) != (xs.length : Int)) = false := by simp
  go_enter Try.func35, Try.ntmps35
  go_wp2
  go_loopw [5] (fun i wr => ∃ k : Nat, k ≤ xs.length ∧ i = .int .i64 k ∧ Gr w wr) (fun i _ => xs.length - (intOf i).toNat)
  case atStart => exact ⟨0, Nat.zero_le _, rfl, Gr.refl _⟩
  case round =>
    obtain ⟨k, hk, rfl, hgr⟩ := hrel
    by_cases hlt : k < xs.length
    · obtain ⟨b, off, cs, rfl, hlen, ⟨rfl, i_field, i_low, i_high⟩, hc⟩ := hx k hlt
      have c0 := hgr.cellv (hc 0 (by simp))
      have c1 := hgr.cellv (hc 1 (by simp))
      have c2 := hgr.cellv (hc 2 (by simp))
      simp only [Nat.add_zero, List.getElem_cons_zero, List.getElem_cons_succ] at c0 c1 c2
      clear hc hlen
      obtain ⟨b', off', cs', rfl, hlen', ⟨rfl, i_field', i_low', i_high'⟩, hc'⟩ := hx' k hlt
      have d0 := hgr.cellv (hc' 0 (by simp))
      have d1 := hgr.cellv (hc' 1 (by simp))
      have d2 := hgr.cellv (hc' 2 (by simp))
      simp only [Nat.add_zero, List.getElem_cons_zero, List.getElem_cons_succ] at d0 d1 d2
      clear hc' hlen'
      have i0 : (0 : Int) ≤ (k : Int) := Int.natCast_nonneg _
      have i1 : (k : Int) < (xs.length : Int) := by omega
      clear hx hx'
      go_wp2
      go_region_held3 (fun w' => w'.cell? ⟨b, off + k * 3, none⟩ = some (.int .i64 xs[k].field) ∧ w'.cell? ⟨b, off + k * 3 + 1, none⟩ = some (.int .i64 xs[k].low) ∧ w'.cell? ⟨b, off + k * 3 + 2, none⟩ = some (.int .i64 xs[k].high) ∧ w'.cell? ⟨b', off' + k * 3, none⟩ = some (.int .i64 xs[k].field) ∧ w'.cell? ⟨b', off' + k * 3 + 1, none⟩ = some (.int .i64 xs[k].low) ∧ w'.cell? ⟨b', off' + k * 3 + 2, none⟩ = some (.int .i64 xs[k].high) ∧ Gr w w')
        (first | exact ⟨c0, c1, c2, d0, d1, d2, hgr⟩ | exact ⟨c0, c1, c2, d0, d1, d2, hgr.drew⟩ | (go_split_ands; exact ⟨Gr.cellv g1 (by assumption), Gr.cellv g1 (by assumption), Gr.cellv g1 (by assumption), Gr.cellv g1 (by assumption), Gr.cellv g1 (by assumption), Gr.cellv g1 (by assumption), Gr.trans (by assumption) g1⟩))
        ((go_at_call 49; go_split_ands; refine (laws_eqCond xs[k] _).mono ?_; rintro e w1 ⟨rfl, g1⟩))
      all_goals
        have hgr1 : Gr w w1 := hgr.drew.trans g1
        go_wp2
        go_roundw
        case rel => exact ⟨k + 1, by omega, by go_num, hgr1⟩
        case measure => simp [intOf]; omega
    · go_wp2
      go_ret
      exact ⟨rfl, hgr⟩
end Go.Proofs.Ytjeffagejbdjkaa
