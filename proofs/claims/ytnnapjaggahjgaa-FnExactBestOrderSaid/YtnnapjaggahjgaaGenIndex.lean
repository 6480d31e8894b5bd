/- The law's own helpers: GenIndex. Written by gen_law.py. -/
import Derived.Test.YtnnapjaggahjgaaGenQuery
import Derived.Test.YtnnapjaggahjgaaGenSpan
namespace Go.Proofs.Ytnnapjaggahjgaa
open Go.RowKit
set_option linter.unusedSimpArgs false
set_option maxRecDepth 100000 in
set_option maxHeartbeats 4000000 in
theorem laws_szSpanSS (v : Value) (left : Int) (xs : List (List DSpan)) (w : World) (hx : RSpanss w v xs) (h0 : 0 ≤ left) (h1 : left ≤ 1048576) :
    Calls Try.prog 107 #[v, .int .i64 left] w fun e w' => e = .returned (.int .i64 (szV (totL (totL totSpan) xs) left)) ∧ Gr w w' := by
  obtain ⟨a, cap, rfl, hl, hm, hx⟩ := hx
  by_cases hlt0 : left < (xs.length : Int)
  · have HZ := Lib.hid (szV_no (t := (totL (totL totSpan) xs)) (left := left) (by have hTL := totL_eq (totL totSpan) xs; omega))
    go_enter Try.func107, Try.ntmps107
    go_wp2
    go_ret
    exact ⟨ret_int HZ.out.symm, Gr.refl _⟩
  · go_enter Try.func107, Try.ntmps107
    go_wp2
    go_loopw [1, 5] (fun l i wr => ∃ (k : Nat) (L : Int), k ≤ xs.length ∧ i = .int .i64 k ∧ l = .int .i64 L ∧ 0 ≤ L ∧ L ≤ 1048576 ∧ Gr w wr ∧ Hid (left = L + xs.length + sumT (totL totSpan) (xs.take k))) (fun _ i _ => xs.length - (intOf i).toNat)
    case atStart => exact ⟨0, _, Nat.zero_le _, rfl, rfl, by omega, by omega, Gr.refl _, Lib.hid (by simp [sumT])⟩
    case round =>
      obtain ⟨k, L, hk, rfl, rfl, hL0, hL1, hgr, hsum⟩ := hrel
      by_cases hlt : k < xs.length
      · obtain ⟨b, off, cs, rfl, hlen, ⟨u, rfl, hu⟩, hc⟩ := hx k hlt
        have c0 := hgr.cellv (hc 0 (by simp))
        simp only [Nat.add_zero, Nat.mul_one, List.getElem_cons_zero] at c0
        clear hc hlen
        have hT : left = L + xs.length + sumT (totL totSpan) (xs.take k) := hsum.out
        have hS := sumT_take (totL totSpan) xs k hlt
        have hM := sumT_le (totL totSpan) xs (k + 1)
        by_cases hle : ((totL totSpan) xs[k] : Int) ≤ L
        · have HZ := Lib.hid (szV_yes hle)
          have HL := Lib.hid (show 0 ≤ L - (totL totSpan) xs[k] ∧ L - (totL totSpan) xs[k] ≤ 1048576 ∧ left = (L - (totL totSpan) xs[k]) + xs.length + sumT (totL totSpan) (xs.take (k + 1)) from by omega)
          clear hT hS hM hle
          go_wp2_with fail
          refine (laws_szSpanS u L xs[k] _ (RSlice.mono keeps_span hgr hu) hL0 hL1).mono ?_
          rintro e w1 ⟨rfl, g1⟩
          rw [HZ.out]
          have hnn : 0 ≤ L - ((totL totSpan) xs[k] : Int) := HL.out.1
          have hnb : L - ((totL totSpan) xs[k] : Int) ≤ 1048576 := HL.out.2.1
          go_wp2_with fail
          go_roundw
          case rel => exact ⟨k + 1, L - (totL totSpan) xs[k], by omega, by go_num, rfl, hnn, hnb, hgr.trans g1, Lib.hid HL.out.2.2⟩
          case measure => simp [intOf]; omega
        · have HZ := Lib.hid (szV_no (t := (totL totSpan) xs[k]) (left := L) (by omega))
          have HF := Lib.hid (szV_no (t := (totL (totL totSpan) xs)) (left := left) (by have hTL := totL_eq (totL totSpan) xs; omega))
          clear hT hS hM hle
          go_wp2_with fail
          refine (laws_szSpanS u L xs[k] _ (RSlice.mono keeps_span hgr hu) hL0 hL1).mono ?_
          rintro e w1 ⟨rfl, g1⟩
          rw [HZ.out]
          go_wp2_with fail
          go_ret
          exact ⟨ret_int HF.out.symm, hgr.trans g1⟩
      · have HF := Lib.hid (szV_yes (t := (totL (totL totSpan) xs)) (left := left) (by have := hsum.out; rw [List.take_of_length_le (by omega)] at this; have hTL := totL_eq (totL totSpan) xs; omega))
        go_wp2_with fail
        go_ret
        exact ⟨ret_int (by have := hsum.out; rw [List.take_of_length_le (by omega)] at this; rw [HF.out]; have hTL := totL_eq (totL totSpan) xs; omega), hgr⟩
set_option maxRecDepth 100000 in
set_option maxHeartbeats 4000000 in
theorem laws_toSpanSS_own (v : Value) (xs : List (List DSpan)) (w : World) (hx : RSpanss w v xs) (hb : (totL (totL totSpan) xs) ≤ 4294967296) :
    Calls Try.prog 109 #[v] w fun e w' => ∃ v', e = .returned v' ∧ IsSl v' ∧ Gr w w' ∧ PSpanss (In w.heap.size w'.heap.size) w' v' xs := by
  obtain ⟨a, cap, rfl, hl, hm, hx⟩ := hx
  have hb0 : xs.length ≤ 4294967296 := by unfold totL at hb; omega
  have hmk : ∀ (w : World) (cs : Nat → List Value), (Instr.makeSlice 85 (.int .i64 xs.length) (.int .i64 xs.length)).run Try.prog w = .ok (.slice (some ⟨w.heap.size, 0, none⟩) xs.length xs.length) (w.alloc (.cells (fillC 1 xs.length 0 [.slice none 0 0] cs).toArray 75)) := fun w cs => make_fill Try.underlying85 (z := .slice none 0 0) (bytes := 24) (by kernel_rfl) rfl (by decide) w xs.length (by omega) cs
  have hmk0 := fun w : World => hmk w (fun _ => [])
  clear hmk hm
  go_enter Try.func109, Try.ntmps109
  go_wp2
  go_loopw [4] (fun i wr => ∃ (k : Nat) (cs : Nat → List Value), k ≤ xs.length ∧ i = .int .i64 k ∧ wr.heap[w.heap.size]? = some (.cells (fillC 1 xs.length k [.slice none 0 0] cs).toArray 75 (0, 0)) ∧ Gr w wr ∧ ElemsO (POf PSpans) 1 (w.heap.size + 1) wr (xs.take k) cs) (fun i _ => xs.length - (intOf i).toNat)
  case atStart => exact ⟨0, fun _ => [], Nat.zero_le _, rfl, heap_alloc_new w _, (Gr.refl _).alloc _, ElemsO.zero⟩
  case round =>
    obtain ⟨k, cs, hk, rfl, hg, hgr, hcs⟩ := hrel
    have HC := Lib.hid hcs
    clear hcs
    by_cases hlt : k < xs.length
    · obtain ⟨b, off, cs, rfl, hlen, ⟨u, rfl, hu⟩, hc⟩ := hx k hlt
      have c0 := hgr.cellv (hc 0 (by simp))
      simp only [Nat.add_zero, Nat.mul_one, List.getElem_cons_zero] at c0
      clear hc hlen
      have HG := Lib.hid hg
      have hgl : w.heap.size < wr.heap.size := (Array.getElem?_eq_some_iff.1 hg).1
      have hga : w.heap.size + 1 ≤ wr.heap.size := hgl
      clear hg
      go_wp2_with fail
      refine (laws_toSpanS_own u xs[k] _ (RSlice.mono keeps_span hgr hu) (by have := sumT_mem (totL totSpan) xs k hlt; unfold totL at hb this; unfold totL; omega)).mono ?_
      rintro e w1 ⟨v1, rfl, ⟨a_, n_, c_, rfl⟩, g1, r_⟩
      have hg1 : w1.heap[w.heap.size]? = some (.cells (fillC 1 xs.length k [.slice none 0 0] cs).toArray 75 (0, 0)) := by rw [g1.block _ hgl]; exact HG.out
      obtain ⟨x0, d0⟩ : ∃ x, w1.cell? ⟨w.heap.size, k, none⟩ = some x := fill_cell hg1 (by omega)
      have f0 : w1.frozen? ⟨w.heap.size, k, none⟩ = false := Joins.unfrozen_of_block hg1 _
      have HG1 := Lib.hid hg1
      have R_ := Lib.hid r_
      have hgw := hgr.trans g1
      have HL : Hid (Loc (w.heap.size + 1) w1 (w1.setCell ⟨w.heap.size, k, none⟩ (.slice a_ n_ c_))) := Lib.hid (by repeat' (first | with_reducible exact Loc.refl _ _ | with_reducible refine Loc.setCell ?_ ?_ _ | (dsimp only; omega)))
      have HO : Hid ((POf PSpans) (In wr.heap.size w1.heap.size) (w1.setCell ⟨w.heap.size, k, none⟩ (.slice a_ n_ c_)) [.slice a_ n_ c_] xs[k]) := Lib.hid ⟨_, rfl, (OSl.loc fr_span R_.out HL.out hga)⟩
      clear hg1 r_
      go_wp2_with fail
      go_roundw
      case rel => exact ⟨k + 1, updC cs k [.slice a_ n_ c_], by omega, by go_num, by rw [Joins.block_setCell HG1.out _, fillC_set1 hlt], (by repeat' (first | with_reducible assumption | with_reducible exact Gr.refl _ | with_reducible refine Gr.alloc ?_ _ | with_reducible refine Gr.setCell ?_ ?_ _ | (dsimp only; omega))), HC.out.step (fr_of fr_span) hlt hga (Nat.le_trans g1.size HL.out.1) (Loc.agree ((Loc.of_gr g1).trans HL.out) fun b hb => hb.1) HO.out (Nat.le_refl _) HL.out.1 rfl⟩
      case measure => simp [intOf]; omega
    · obtain rfl : k = xs.length := by omega
      have HG := Lib.hid hg
      clear hg
      go_wp2
      go_ret
      exact ⟨_, rfl, ⟨_, _, _, rfl⟩, hgr, fill_own (by decide) HG.out HC.out (Nat.le_refl _) (by omega)⟩
theorem laws_toSpanSS_fresh (v : Value) (xs : List (List DSpan)) (w : World) (hx : RSpanss w v xs) (hb : (totL (totL totSpan) xs) ≤ 4294967296) :
    Calls Try.prog 109 #[v] w fun e w' => ∃ v', e = .returned v' ∧ IsSl v' ∧ Fresh w.heap.size RSpanss w' v' xs ∧ Gr w w' :=
  (laws_toSpanSS_own v xs w hx hb).mono fun _ _ ⟨v, h1, h2, h3, h4⟩ => ⟨v, h1, h2, h4.fresh (fr_of fr_span) (fun h => rd_pspanss h), h3⟩
set_option maxRecDepth 100000 in
set_option maxHeartbeats 4000000 in
theorem laws_eqSpanSS_same (v v' : Value) (xs : List (List DSpan)) (w : World) (hx : RSpanss w v xs) (hx' : RSpanss w v' xs) :
    Calls Try.prog 111 #[v, v'] w fun e w' => e = .returned (.bool true) ∧ Gr w w' := by
  obtain ⟨a, cap, rfl, hl, hm, hx⟩ := hx
  obtain ⟨a', cap', rfl, hl', hm', hx'⟩ := hx'
  have hne : ((xs.length : Int) != (xs.length : Int)) = false := by simp
  go_enter Try.func111, Try.ntmps111
  go_wp2
  go_loopw [5] (fun i wr => ∃ k : Nat, k ≤ xs.length ∧ i = .int .i64 k ∧ Gr w wr) (fun i _ => xs.length - (intOf i).toNat)
  case atStart => exact ⟨0, Nat.zero_le _, rfl, Gr.refl _⟩
  case round =>
    obtain ⟨k, hk, rfl, hgr⟩ := hrel
    by_cases hlt : k < xs.length
    · obtain ⟨b, off, cs, rfl, hlen, ⟨u, rfl, hu⟩, hc⟩ := hx k hlt
      have c0 := hgr.cellv (hc 0 (by simp))
      simp only [Nat.add_zero, Nat.mul_one, List.getElem_cons_zero] at c0
      clear hc hlen
      obtain ⟨b', off', cs', rfl, hlen', ⟨u', rfl, hu'⟩, hc'⟩ := hx' k hlt
      have d0 := hgr.cellv (hc' 0 (by simp))
      simp only [Nat.add_zero, Nat.mul_one, List.getElem_cons_zero] at d0
      clear hc' hlen'
      have r0 := (RSlice.mono keeps_span hgr hu)
      have r1 := (RSlice.mono keeps_span hgr hu')
      have i0 : (0 : Int) ≤ (k : Int) := Int.natCast_nonneg _
      have i1 : (k : Int) < (xs.length : Int) := by omega
      clear hx hx'
      go_wp2
      go_region_held3 (fun w' => w'.cell? ⟨b, off + k, none⟩ = some u ∧ w'.cell? ⟨b', off' + k, none⟩ = some u' ∧ RSpans w' u xs[k] ∧ RSpans w' u' xs[k] ∧ Gr w w')
        (first | exact ⟨c0, d0, r0, r1, hgr⟩ | exact ⟨c0, d0, r0, r1, hgr.drew⟩ | (go_split_ands; exact ⟨Gr.cellv g1 (by assumption), Gr.cellv g1 (by assumption), (RSlice.mono keeps_span g1 (by assumption)), (RSlice.mono keeps_span g1 (by assumption)), Gr.trans (by assumption) g1⟩))
        ((go_at_call 52; go_split_ands; refine (laws_eqSpanS_same u u' xs[k] _ (by assumption) (by assumption)).mono ?_; rintro e w1 ⟨rfl, g1⟩))
      all_goals
        have hgr1 : Gr w w1 := hgr.drew.trans g1
        go_wp2
        go_roundw
        case rel => exact ⟨k + 1, by omega, by go_num, hgr1⟩
        case measure => simp [intOf]; omega
    · go_wp2
      go_ret
      exact ⟨rfl, hgr⟩
set_option maxRecDepth 100000 in
set_option maxHeartbeats 4000000 in
theorem laws_szIndex (x : DIndex) (u_queries : Value) (u_fields : Value) (left : Int) (w : World) (h_queries : RQueries w u_queries x.queries) (h_fields : RSpanss w u_fields x.fields) (h0 : 0 ≤ left) (h1 : left ≤ 1048576) :
    Calls Try.prog 55 #[.agg #[u_queries, u_fields], .int .i64 left] w fun e w' => e = .returned (.int .i64 (szV (totIndex x) left)) ∧ Gr w w' := by
  unfold totIndex
  obtain ⟨queries, fields⟩ := x
  dsimp only at *
  have g0 : Gr w (w.alloc (.cells #[u_queries, u_fields] 82)) := (Gr.refl w).alloc _
  by_cases hs0 : ((totL totQuery queries) : Int) ≤ left
  · by_cases hs1 : ((totL (totL totSpan) fields) : Int) ≤ (left - ((totL totQuery queries) : Int))
    · have HZ0 := Lib.hid (szV_yes (t := (totL totQuery queries)) (left := left) (by omega))
      have HA0 := Lib.hid (show 0 ≤ left ∧ left ≤ 1048576 from by omega)
      have HZ1 := Lib.hid (szV_yes (t := (totL (totL totSpan) fields)) (left := (left - ((totL totQuery queries) : Int))) (by omega))
      have HA1 := Lib.hid (show 0 ≤ (left - ((totL totQuery queries) : Int)) ∧ (left - ((totL totQuery queries) : Int)) ≤ 1048576 from by omega)
      have HF := Lib.hid (szV_yes (t := (totL totQuery queries) + (totL (totL totSpan) fields)) (left := left) (by omega))
      go_enter Try.func55, Try.ntmps55
      go_wp2_with fail
      refine (laws_szQueryS u_queries _ queries _ (RSlice.mono keeps_query g0 h_queries) HA0.out.1 HA0.out.2).mono ?_
      rintro e w1 ⟨rfl, g1⟩
      have gw1 : Gr w w1 := g0.trans g1
      have k1_0 : w1.cell? ⟨w.heap.size, 0, none⟩ = some u_queries := g1.cellv (by simp [go_sem])
      have k1_1 : w1.cell? ⟨w.heap.size, 1, none⟩ = some u_fields := g1.cellv (by simp [go_sem])
      rw [HZ0.out]
      go_wp2_with fail
      refine (laws_szSpanSS u_fields _ fields _ (RSlice.mono (keeps_of keeps_span) gw1 h_fields) HA1.out.1 HA1.out.2).mono ?_
      rintro e w2 ⟨rfl, g2⟩
      have gw2 : Gr w w2 := gw1.trans g2
      have k2_0 : w2.cell? ⟨w.heap.size, 0, none⟩ = some u_queries := g2.cellv (by simp [k1_0])
      have k2_1 : w2.cell? ⟨w.heap.size, 1, none⟩ = some u_fields := g2.cellv (by simp [k1_1])
      rw [HZ1.out]
      go_wp2_with fail
      go_ret
      exact ⟨ret_int (by rw [HF.out]; omega), gw2⟩
    · have HZ0 := Lib.hid (szV_yes (t := (totL totQuery queries)) (left := left) (by omega))
      have HA0 := Lib.hid (show 0 ≤ left ∧ left ≤ 1048576 from by omega)
      have HZ1 := Lib.hid (szV_no (t := (totL (totL totSpan) fields)) (left := (left - ((totL totQuery queries) : Int))) (by omega))
      have HA1 := Lib.hid (show 0 ≤ (left - ((totL totQuery queries) : Int)) ∧ (left - ((totL totQuery queries) : Int)) ≤ 1048576 from by omega)
      have HF := Lib.hid (szV_no (t := (totL totQuery queries) + (totL (totL totSpan) fields)) (left := left) (by omega))
      go_enter Try.func55, Try.ntmps55
      go_wp2_with fail
      refine (laws_szQueryS u_queries _ queries _ (RSlice.mono keeps_query g0 h_queries) HA0.out.1 HA0.out.2).mono ?_
      rintro e w1 ⟨rfl, g1⟩
      have gw1 : Gr w w1 := g0.trans g1
      have k1_0 : w1.cell? ⟨w.heap.size, 0, none⟩ = some u_queries := g1.cellv (by simp [go_sem])
      have k1_1 : w1.cell? ⟨w.heap.size, 1, none⟩ = some u_fields := g1.cellv (by simp [go_sem])
      rw [HZ0.out]
      go_wp2_with fail
      refine (laws_szSpanSS u_fields _ fields _ (RSlice.mono (keeps_of keeps_span) gw1 h_fields) HA1.out.1 HA1.out.2).mono ?_
      rintro e w2 ⟨rfl, g2⟩
      have gw2 : Gr w w2 := gw1.trans g2
      have k2_0 : w2.cell? ⟨w.heap.size, 0, none⟩ = some u_queries := g2.cellv (by simp [k1_0])
      have k2_1 : w2.cell? ⟨w.heap.size, 1, none⟩ = some u_fields := g2.cellv (by simp [k1_1])
      rw [HZ1.out]
      go_wp2_with fail
      go_ret
      exact ⟨ret_int (by rw [HF.out]), gw2⟩
  · have HZ0 := Lib.hid (szV_no (t := (totL totQuery queries)) (left := left) (by omega))
    have HA0 := Lib.hid (show 0 ≤ left ∧ left ≤ 1048576 from by omega)
    have HF := Lib.hid (szV_no (t := (totL totQuery queries) + (totL (totL totSpan) fields)) (left := left) (by omega))
    go_enter Try.func55, Try.ntmps55
    go_wp2_with fail
    refine (laws_szQueryS u_queries _ queries _ (RSlice.mono keeps_query g0 h_queries) HA0.out.1 HA0.out.2).mono ?_
    rintro e w1 ⟨rfl, g1⟩
    have gw1 : Gr w w1 := g0.trans g1
    have k1_0 : w1.cell? ⟨w.heap.size, 0, none⟩ = some u_queries := g1.cellv (by simp [go_sem])
    have k1_1 : w1.cell? ⟨w.heap.size, 1, none⟩ = some u_fields := g1.cellv (by simp [go_sem])
    rw [HZ0.out]
    go_wp2_with fail
    go_ret
    exact ⟨ret_int (by rw [HF.out]), gw1⟩
set_option maxRecDepth 100000 in
set_option maxHeartbeats 4000000 in
theorem laws_toIndex_own (x : DIndex) (u_queries : Value) (u_fields : Value) (w : World) (h_queries : RQueries w u_queries x.queries) (h_fields : RSpanss w u_fields x.fields) (hb : totIndex x ≤ 4294967296) :
    Calls Try.prog 57 #[.agg #[u_queries, u_fields]] w fun e w' => ∃ v_queries v_fields, e = .returned (.agg #[v_queries, v_fields]) ∧ Gr w w' ∧ ∃ m, w.heap.size ≤ m ∧ m ≤ w'.heap.size ∧ PQueries (In w.heap.size m) w' v_queries x.queries ∧ PSpanss (In m w'.heap.size) w' v_fields x.fields := by
  unfold totIndex at hb
  obtain ⟨queries, fields⟩ := x
  dsimp only at *
  have g0 : Gr w (((w.alloc (.cells #[u_queries, u_fields] 82)).alloc (.cells #[.slice none 0 0, .slice none 0 0] 87)).alloc (.cells #[.slice none 0 0, .slice none 0 0] 87)) := (((Gr.refl w).alloc _).alloc _).alloc _
  go_enter Try.func57, Try.ntmps57
  go_wp2_with fail
  refine (laws_toQueryS_own u_queries queries _ (RSlice.mono keeps_query g0 h_queries) (by omega)).mono ?_
  rintro e w1 ⟨v_queries, rfl, ⟨a1, n1, c1, rfl⟩, g1, r1⟩
  have gw1 : Gr w w1 := Gr.trans g0 g1
  have hz1 : w.heap.size + 1 + 1 + 1 ≤ w1.heap.size := by have := g1.size; simpa using this
  have r1 := r1.wide (lo' := w.heap.size + 1 + 1 + 1) (hi' := w1.heap.size) (by first | omega | (simp; done) | (simp; omega)) (Nat.le_refl _)
  have kb1_0 : w1.cell? ⟨w.heap.size, 0, none⟩ = some (u_queries) := g1.cellv (by simp [go_sem])
  have kb1_1 : w1.cell? ⟨w.heap.size, 1, none⟩ = some (u_fields) := g1.cellv (by simp [go_sem])
  have k11_0 : w1.cell? ⟨w.heap.size + 1, 0, none⟩ = some (.slice none 0 0) := g1.cellv (by simp [go_sem])
  have fk11_0 : w1.frozen? ⟨w.heap.size + 1, 0, none⟩ = false := by rw [g1.frozen (by first | omega | (simp; done) | (simp; omega))]; simp [go_sem]
  have k11_1 : w1.cell? ⟨w.heap.size + 1, 1, none⟩ = some (.slice none 0 0) := g1.cellv (by simp [go_sem])
  have fk11_1 : w1.frozen? ⟨w.heap.size + 1, 1, none⟩ = false := by rw [g1.frozen (by first | omega | (simp; done) | (simp; omega))]; simp [go_sem]
  have k21_0 : w1.cell? ⟨w.heap.size + 1 + 1, 0, none⟩ = some (.slice none 0 0) := g1.cellv (by simp [go_sem])
  have fk21_0 : w1.frozen? ⟨w.heap.size + 1 + 1, 0, none⟩ = false := by rw [g1.frozen (by first | omega | (simp; done) | (simp; omega))]; simp [go_sem]
  have k21_1 : w1.cell? ⟨w.heap.size + 1 + 1, 1, none⟩ = some (.slice none 0 0) := g1.cellv (by simp [go_sem])
  have fk21_1 : w1.frozen? ⟨w.heap.size + 1 + 1, 1, none⟩ = false := by rw [g1.frozen (by first | omega | (simp; done) | (simp; omega))]; simp [go_sem]
  clear g1
  go_wp2_with fail
  refine (laws_toSpanSS_own u_fields fields _ (RSlice.mono (keeps_of keeps_span) (by repeat' (first | with_reducible assumption | with_reducible exact Gr.refl _ | with_reducible refine Gr.alloc ?_ _ | with_reducible refine Gr.setCell ?_ ?_ _ | (dsimp only; omega))) h_fields) (by omega)).mono ?_
  rintro e w2 ⟨v_fields, rfl, ⟨a2, n2, c2, rfl⟩, g2, r2⟩
  have gw2 : Gr w w2 := Gr.trans (by repeat' (first | with_reducible assumption | with_reducible exact Gr.refl _ | with_reducible refine Gr.alloc ?_ _ | with_reducible refine Gr.setCell ?_ ?_ _ | (dsimp only; omega))) g2
  have hz2 : w.heap.size + 1 + 1 + 1 ≤ w2.heap.size := by have := g2.size; simp at this; omega
  have hy2 : w1.heap.size ≤ w2.heap.size := by have := g2.size; simp at this; omega
  have r2 := r2.wide (lo' := w1.heap.size) (hi' := w2.heap.size) (by first | omega | (simp; done) | (simp; omega)) (Nat.le_refl _)
  have r1 := OSl.gr fr_query (OSl.loc (lo' := w.heap.size + 1 + 1 + 1) fr_query r1 (by repeat' (first | with_reducible exact Loc.refl _ _ | with_reducible refine Loc.setCell ?_ ?_ _ | (dsimp only; omega))) (by omega)) g2
  have kb2_0 : w2.cell? ⟨w.heap.size, 0, none⟩ = some (u_queries) := g2.cellv (by simp [go_sem, kb1_0, kb1_1])
  have kb2_1 : w2.cell? ⟨w.heap.size, 1, none⟩ = some (u_fields) := g2.cellv (by simp [go_sem, kb1_0, kb1_1])
  have k12_0 : w2.cell? ⟨w.heap.size + 1, 0, none⟩ = some (.slice none 0 0) := g2.cellv (by simp [go_sem, k11_0, k11_1])
  have fk12_0 : w2.frozen? ⟨w.heap.size + 1, 0, none⟩ = false := by rw [g2.frozen (by first | omega | (simp; done) | (simp; omega))]; simp [go_sem, fk11_0, fk11_1]
  have k12_1 : w2.cell? ⟨w.heap.size + 1, 1, none⟩ = some (.slice none 0 0) := g2.cellv (by simp [go_sem, k11_0, k11_1])
  have fk12_1 : w2.frozen? ⟨w.heap.size + 1, 1, none⟩ = false := by rw [g2.frozen (by first | omega | (simp; done) | (simp; omega))]; simp [go_sem, fk11_0, fk11_1]
  have k22_0 : w2.cell? ⟨w.heap.size + 1 + 1, 0, none⟩ = some (.slice a1 n1 c1) := g2.cellv (by simp [go_sem, k21_0, k21_1])
  have fk22_0 : w2.frozen? ⟨w.heap.size + 1 + 1, 0, none⟩ = false := by rw [g2.frozen (by first | omega | (simp; done) | (simp; omega))]; simp [go_sem, fk21_0, fk21_1]
  have k22_1 : w2.cell? ⟨w.heap.size + 1 + 1, 1, none⟩ = some (.slice none 0 0) := g2.cellv (by simp [go_sem, k21_0, k21_1])
  have fk22_1 : w2.frozen? ⟨w.heap.size + 1 + 1, 1, none⟩ = false := by rw [g2.frozen (by first | omega | (simp; done) | (simp; omega))]; simp [go_sem, fk21_0, fk21_1]
  clear kb1_0 kb1_1 k11_0 k11_1 k21_0 k21_1 fk11_0 fk11_1 fk21_0 fk21_1 g2
  have R1 := Lib.hid r1
  have R2 := Lib.hid r2
  clear r1 r2
  go_wp2_with fail
  refine bodyPost_ret (v := .agg #[.slice a1 n1 c1, .slice a2 n2 c2]) (by simp [results, Try.results57, go_sem, *]) rfl ⟨_, _, rfl, (by repeat' (first | with_reducible assumption | with_reducible exact Gr.refl _ | with_reducible refine Gr.alloc ?_ _ | with_reducible refine Gr.setCell ?_ ?_ _ | (dsimp only; omega))), w1.heap.size, (by omega), (by first | omega | (simp [World.setCell]; done) | (simp [World.setCell]; omega)), ((OSl.loc (lo' := w.heap.size + 1 + 1 + 1) fr_query R1.out (by repeat' (first | with_reducible exact Loc.refl _ _ | with_reducible refine Loc.setCell ?_ ?_ _ | (dsimp only; omega))) (by omega)).wide (by first | omega | (simp [World.setCell]; done) | (simp [World.setCell]; omega)) (by first | omega | (simp [World.setCell]; done) | (simp [World.setCell]; omega))), ((OSl.loc (lo' := w.heap.size + 1 + 1 + 1) (fr_of fr_span) R2.out (by repeat' (first | with_reducible exact Loc.refl _ _ | with_reducible refine Loc.setCell ?_ ?_ _ | (dsimp only; omega))) (by omega)).wide (by first | omega | (simp [World.setCell]; done) | (simp [World.setCell]; omega)) (by first | omega | (simp [World.setCell]; done) | (simp [World.setCell]; omega)))⟩
theorem laws_toIndex_gr (x : DIndex) (u_queries : Value) (u_fields : Value) (w : World) (h_queries : RQueries w u_queries x.queries) (h_fields : RSpanss w u_fields x.fields) (hb : totIndex x ≤ 4294967296) :
    Calls Try.prog 57 #[.agg #[u_queries, u_fields]] w fun e w' => ∃ v_queries v_fields, e = .returned (.agg #[v_queries, v_fields]) ∧ IsSl v_queries ∧ Fresh w.heap.size RQueries w' v_queries x.queries ∧ IsSl v_fields ∧ Fresh w.heap.size RSpanss w' v_fields x.fields ∧ Gr w w' := (laws_toIndex_own x u_queries u_fields w h_queries h_fields hb).mono fun _ _ ⟨v, u, h1, h2, _, hm, _, h3, h4⟩ => ⟨v, u, h1, h3.isSl, h3.fresh fr_query (fun h => rd_pqueries h), h4.isSl, (h4.fresh (fr_of fr_span) (fun h => rd_pspanss h)).le hm, h2⟩
set_option maxRecDepth 100000 in
set_option maxHeartbeats 4000000 in
theorem laws_eqIndex (x : DIndex) (u_queries : Value) (u_fields : Value) (t_queries : Value) (t_fields : Value) (w : World) (h_queries : RQueries w u_queries x.queries) (h_fields : RSpanss w u_fields x.fields) (k_queries : RQueries w t_queries x.queries) (k_fields : RSpanss w t_fields x.fields) :
    Calls Try.prog 59 #[.agg #[u_queries, u_fields], .agg #[t_queries, t_fields]] w fun e w' => e = .returned (.bool true) ∧ Gr w w' := by
  obtain ⟨queries, fields⟩ := x
  dsimp only at *
  have g0 : Gr w ((w.alloc (.cells #[u_queries, u_fields] 87)).alloc (.cells #[t_queries, t_fields] 87)) := ((Gr.refl w).alloc _).alloc _
  go_enter Try.func59, Try.ntmps59
  go_wp2_with fail
  refine (laws_eqQueryS_same u_queries t_queries _ _ (RSlice.mono keeps_query g0 h_queries) (RSlice.mono keeps_query g0 k_queries)).mono ?_
  rintro e w1 ⟨rfl, g1⟩
  have gw1 : Gr w w1 := g0.trans g1
  have k1_0 : w1.cell? ⟨w.heap.size, 0, none⟩ = some u_queries := g1.cellv (by simp [go_sem])
  have l1_0 : w1.cell? ⟨w.heap.size + 1, 0, none⟩ = some t_queries := g1.cellv (by simp [go_sem])
  have k1_1 : w1.cell? ⟨w.heap.size, 1, none⟩ = some u_fields := g1.cellv (by simp [go_sem])
  have l1_1 : w1.cell? ⟨w.heap.size + 1, 1, none⟩ = some t_fields := g1.cellv (by simp [go_sem])
  go_wp2_with fail
  refine (laws_eqSpanSS_same u_fields t_fields _ _ (RSlice.mono (keeps_of keeps_span) gw1 h_fields) (RSlice.mono (keeps_of keeps_span) gw1 k_fields)).mono ?_
  rintro e w2 ⟨rfl, g2⟩
  have gw2 : Gr w w2 := gw1.trans g2
  have k2_0 : w2.cell? ⟨w.heap.size, 0, none⟩ = some u_queries := g2.cellv (by simp [k1_0])
  have l2_0 : w2.cell? ⟨w.heap.size + 1, 0, none⟩ = some t_queries := g2.cellv (by simp [l1_0])
  have k2_1 : w2.cell? ⟨w.heap.size, 1, none⟩ = some u_fields := g2.cellv (by simp [k1_1])
  have l2_1 : w2.cell? ⟨w.heap.size + 1, 1, none⟩ = some t_fields := g2.cellv (by simp [l1_1])
  go_wp2_with fail
  go_ret
  exact ⟨rfl, gw2⟩
end Go.Proofs.Ytnnapjaggahjgaa
