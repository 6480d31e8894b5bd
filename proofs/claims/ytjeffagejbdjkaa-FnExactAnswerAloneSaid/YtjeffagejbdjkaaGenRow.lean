/- The law's own helpers: GenRow. Written by gen_law.py. -/
import Derived.Test.YtjeffagejbdjkaaGenInt
namespace Go.Proofs.Ytjeffagejbdjkaa
open Go.RowKit
set_option linter.unusedSimpArgs false
set_option maxRecDepth 100000 in
set_option maxHeartbeats 4000000 in
theorem laws_szRow (x : DRow) (u_vals : Value) (left : Int) (w : World) (h_vals : RInts w u_vals x.vals) (h0 : 0 ≤ left) (h1 : left ≤ 1048576) :
    Calls Try.prog 18 #[.agg #[.int .i64 x.id, u_vals], .int .i64 left] w fun e w' => e = .returned (.int .i64 (szV (totRow x) left)) ∧ Gr w w' := by
  unfold totRow
  obtain ⟨id, vals⟩ := x
  dsimp only at *
  have g0 : Gr w (w.alloc (.cells #[.int .i64 id, u_vals] 45)) := (Gr.refl w).alloc _
  by_cases hs0 : (vals.length : Int) ≤ left
  · have HZ0 := Lib.hid (szV_yes (t := vals.length) (left := left) (by omega))
    have HA0 := Lib.hid (show 0 ≤ left ∧ left ≤ 1048576 from by omega)
    have HF := Lib.hid (szV_yes (t := vals.length) (left := left) (by omega))
    go_enter Try.func18, Try.ntmps18
    go_wp2_with fail
    refine (laws_szIntS_gr u_vals _ vals _ (RSlice.mono keeps_int g0 h_vals) HA0.out.1 HA0.out.2).mono ?_
    rintro e w1 ⟨rfl, g1⟩
    have gw1 : Gr w w1 := g0.trans g1
    have k1_0 : w1.cell? ⟨w.heap.size, 0, none⟩ = some (.int .i64 id) := g1.cellv (by simp [go_sem])
    have k1_1 : w1.cell? ⟨w.heap.size, 1, none⟩ = some u_vals := g1.cellv (by simp [go_sem])
    rw [HZ0.out]
    go_wp2_with fail
    go_ret
    exact ⟨ret_int (by rw [HF.out]), gw1⟩
  · have HZ0 := Lib.hid (szV_no (t := vals.length) (left := left) (by omega))
    have HA0 := Lib.hid (show 0 ≤ left ∧ left ≤ 1048576 from by omega)
    have HF := Lib.hid (szV_no (t := vals.length) (left := left) (by omega))
    go_enter Try.func18, Try.ntmps18
    go_wp2_with fail
    refine (laws_szIntS_gr u_vals _ vals _ (RSlice.mono keeps_int g0 h_vals) HA0.out.1 HA0.out.2).mono ?_
    rintro e w1 ⟨rfl, g1⟩
    have gw1 : Gr w w1 := g0.trans g1
    have k1_0 : w1.cell? ⟨w.heap.size, 0, none⟩ = some (.int .i64 id) := g1.cellv (by simp [go_sem])
    have k1_1 : w1.cell? ⟨w.heap.size, 1, none⟩ = some u_vals := g1.cellv (by simp [go_sem])
    rw [HZ0.out]
    go_wp2_with fail
    go_ret
    exact ⟨ret_int (by rw [HF.out]), gw1⟩
set_option maxRecDepth 100000 in
set_option maxHeartbeats 4000000 in
theorem laws_szRowS (v : Value) (left : Int) (xs : List DRow) (w : World) (hx : RRows w v xs) (h0 : 0 ≤ left) (h1 : left ≤ 1048576) :
    Calls Try.prog 5 #[v, .int .i64 left] w fun e w' => e = .returned (.int .i64 (szV (totL totRow xs) left)) ∧ Gr w w' := by
  obtain ⟨a, cap, rfl, hl, hm, hx⟩ := hx
  by_cases hlt0 : left < (xs.length : Int)
  · have HZ := Lib.hid (szV_no (t := (totL totRow xs)) (left := left) (by have hTL := totL_eq totRow xs; omega))
    go_enter Try.func5, Try.ntmps5
    go_wp2
    go_ret
    exact ⟨ret_int HZ.out.symm, Gr.refl _⟩
  · go_enter Try.func5, Try.ntmps5
    go_wp2
    go_loopw [1, 5] (fun l i wr => ∃ (k : Nat) (L : Int), k ≤ xs.length ∧ i = .int .i64 k ∧ l = .int .i64 L ∧ 0 ≤ L ∧ L ≤ 1048576 ∧ Gr w wr ∧ Hid (left = L + xs.length + sumT totRow (xs.take k))) (fun _ i _ => xs.length - (intOf i).toNat)
    case atStart => exact ⟨0, _, Nat.zero_le _, rfl, rfl, by omega, by omega, Gr.refl _, Lib.hid (by simp [sumT])⟩
    case round =>
      obtain ⟨k, L, hk, rfl, rfl, hL0, hL1, hgr, hsum⟩ := hrel
      by_cases hlt : k < xs.length
      · obtain ⟨b, off, cs, rfl, hlen, ⟨u_vals, rfl, i_id, h_vals⟩, hc⟩ := hx k hlt
        have c0 := hgr.cellv (hc 0 (by simp))
        have c1 := hgr.cellv (hc 1 (by simp))
        simp only [Nat.add_zero, List.getElem_cons_zero, List.getElem_cons_succ] at c0 c1
        clear hc hlen
        have hT : left = L + xs.length + sumT totRow (xs.take k) := hsum.out
        have hS := sumT_take totRow xs k hlt
        have hM := sumT_le totRow xs (k + 1)
        by_cases hle : (totRow xs[k] : Int) ≤ L
        · have HZ := Lib.hid (szV_yes hle)
          have HL := Lib.hid (show 0 ≤ L - totRow xs[k] ∧ L - totRow xs[k] ≤ 1048576 ∧ left = (L - totRow xs[k]) + xs.length + sumT totRow (xs.take (k + 1)) from by omega)
          clear hT hS hM hle
          go_wp2_with fail
          refine (laws_szRow xs[k] u_vals L _ (RSlice.mono keeps_int hgr h_vals) hL0 hL1).mono ?_
          rintro e w1 ⟨rfl, g1⟩
          rw [HZ.out]
          have hnn : 0 ≤ L - (totRow xs[k] : Int) := HL.out.1
          have hnb : L - (totRow xs[k] : Int) ≤ 1048576 := HL.out.2.1
          go_wp2_with fail
          go_roundw
          case rel => exact ⟨k + 1, L - totRow xs[k], by omega, by go_num, rfl, hnn, hnb, hgr.trans g1, Lib.hid HL.out.2.2⟩
          case measure => simp [intOf]; omega
        · have HZ := Lib.hid (szV_no (t := totRow xs[k]) (left := L) (by omega))
          have HF := Lib.hid (szV_no (t := (totL totRow xs)) (left := left) (by have hTL := totL_eq totRow xs; omega))
          clear hT hS hM hle
          go_wp2_with fail
          refine (laws_szRow xs[k] u_vals L _ (RSlice.mono keeps_int hgr h_vals) hL0 hL1).mono ?_
          rintro e w1 ⟨rfl, g1⟩
          rw [HZ.out]
          go_wp2_with fail
          go_ret
          exact ⟨ret_int HF.out.symm, hgr.trans g1⟩
      · have HF := Lib.hid (szV_yes (t := (totL totRow xs)) (left := left) (by have := hsum.out; rw [List.take_of_length_le (by omega)] at this; have hTL := totL_eq totRow xs; omega))
        go_wp2_with fail
        go_ret
        exact ⟨ret_int (by have := hsum.out; rw [List.take_of_length_le (by omega)] at this; rw [HF.out]; have hTL := totL_eq totRow xs; omega), hgr⟩
set_option maxRecDepth 100000 in
set_option maxHeartbeats 4000000 in
theorem laws_toRow_own (x : DRow) (u_vals : Value) (w : World) (h_vals : RInts w u_vals x.vals) (hb : totRow x ≤ 4294967296) :
    Calls Try.prog 21 #[.agg #[.int .i64 x.id, u_vals]] w fun e w' => ∃ v_vals, e = .returned (.agg #[.int .i64 x.id, v_vals]) ∧ Gr w w' ∧ PInts (In w.heap.size w'.heap.size) w' v_vals x.vals := by
  unfold totRow at hb
  obtain ⟨id, vals⟩ := x
  dsimp only at *
  have g0 : Gr w (((w.alloc (.cells #[.int .i64 id, u_vals] 45)).alloc (.cells #[.int .i64 0, .slice none 0 0] 47)).alloc (.cells #[.int .i64 id, .slice none 0 0] 47)) := (((Gr.refl w).alloc _).alloc _).alloc _
  go_enter Try.func21, Try.ntmps21
  go_wp2_with fail
  refine (laws_toIntS_own u_vals vals _ (RSlice.mono keeps_int g0 h_vals) (by omega)).mono ?_
  rintro e w1 ⟨v_vals, rfl, ⟨a1, n1, c1, rfl⟩, g1, r1⟩
  have gw1 : Gr w w1 := Gr.trans g0 g1
  have hz1 : w.heap.size + 1 + 1 + 1 ≤ w1.heap.size := by have := g1.size; simpa using this
  have r1 := r1.wide (lo' := w.heap.size + 1 + 1 + 1) (hi' := w1.heap.size) (by first | omega | (simp; done) | (simp; omega)) (Nat.le_refl _)
  have kb1_0 : w1.cell? ⟨w.heap.size, 0, none⟩ = some (.int .i64 id) := g1.cellv (by simp [go_sem])
  have kb1_1 : w1.cell? ⟨w.heap.size, 1, none⟩ = some (u_vals) := g1.cellv (by simp [go_sem])
  have k11_0 : w1.cell? ⟨w.heap.size + 1, 0, none⟩ = some (.int .i64 0) := g1.cellv (by simp [go_sem])
  have fk11_0 : w1.frozen? ⟨w.heap.size + 1, 0, none⟩ = false := by rw [g1.frozen (by first | omega | (simp; done) | (simp; omega))]; simp [go_sem]
  have k11_1 : w1.cell? ⟨w.heap.size + 1, 1, none⟩ = some (.slice none 0 0) := g1.cellv (by simp [go_sem])
  have fk11_1 : w1.frozen? ⟨w.heap.size + 1, 1, none⟩ = false := by rw [g1.frozen (by first | omega | (simp; done) | (simp; omega))]; simp [go_sem]
  have k21_0 : w1.cell? ⟨w.heap.size + 1 + 1, 0, none⟩ = some (.int .i64 id) := g1.cellv (by simp [go_sem])
  have fk21_0 : w1.frozen? ⟨w.heap.size + 1 + 1, 0, none⟩ = false := by rw [g1.frozen (by first | omega | (simp; done) | (simp; omega))]; simp [go_sem]
  have k21_1 : w1.cell? ⟨w.heap.size + 1 + 1, 1, none⟩ = some (.slice none 0 0) := g1.cellv (by simp [go_sem])
  have fk21_1 : w1.frozen? ⟨w.heap.size + 1 + 1, 1, none⟩ = false := by rw [g1.frozen (by first | omega | (simp; done) | (simp; omega))]; simp [go_sem]
  clear g1
  have R1 := Lib.hid r1
  clear r1
  go_wp2_with fail
  refine bodyPost_ret (v := .agg #[.int .i64 id, .slice a1 n1 c1]) (by simp [results, Try.results21, go_sem, *]) rfl ⟨_, rfl, (by repeat' (first | with_reducible assumption | with_reducible exact Gr.refl _ | with_reducible refine Gr.alloc ?_ _ | with_reducible refine Gr.setCell ?_ ?_ _ | (dsimp only; omega))), ((OSl.loc (lo' := w.heap.size + 1 + 1 + 1) fr_int R1.out (by repeat' (first | with_reducible exact Loc.refl _ _ | with_reducible refine Loc.setCell ?_ ?_ _ | (dsimp only; omega))) (by omega)).wide (by first | omega | (simp [World.setCell]; done) | (simp [World.setCell]; omega)) (by first | omega | (simp [World.setCell]; done) | (simp [World.setCell]; omega)))⟩
theorem laws_toRow_gr (x : DRow) (u_vals : Value) (w : World) (h_vals : RInts w u_vals x.vals) (hb : totRow x ≤ 4294967296) :
    Calls Try.prog 21 #[.agg #[.int .i64 x.id, u_vals]] w fun e w' => ∃ v_vals, e = .returned (.agg #[.int .i64 x.id, v_vals]) ∧ IsSl v_vals ∧ Fresh w.heap.size RInts w' v_vals x.vals ∧ Gr w w' := (laws_toRow_own x u_vals w h_vals hb).mono fun _ _ ⟨v, h1, h2, h3⟩ => ⟨v, h1, h3.isSl, h3.fresh fr_int (fun h => rd_pints h), h2⟩
set_option maxRecDepth 100000 in
set_option maxHeartbeats 4000000 in
theorem laws_toRowS_own (v : Value) (xs : List DRow) (w : World) (hx : RRows w v xs) (hb : (totL totRow xs) ≤ 4294967296) :
    Calls Try.prog 7 #[v] w fun e w' => ∃ v', e = .returned v' ∧ IsSl v' ∧ Gr w w' ∧ PRows (In w.heap.size w'.heap.size) w' v' xs := by
  obtain ⟨a, cap, rfl, hl, hm, hx⟩ := hx
  have hb0 : xs.length ≤ 4294967296 := by unfold totL at hb; omega
  have hmk : ∀ (w : World) (cs : Nat → List Value), (Instr.makeSlice 24 (.int .i64 xs.length) (.int .i64 xs.length)).run Try.prog w = .ok (.slice (some ⟨w.heap.size, 0, none⟩) xs.length xs.length) (w.alloc (.cells (fillC 2 xs.length 0 [.int .i64 0, .slice none 0 0] cs).toArray 47)) := fun w cs => make_fill Try.underlying24 (z := .agg #[.int .i64 0, .slice none 0 0]) (bytes := 32) (by kernel_rfl) rfl (by decide) w xs.length (by omega) cs
  have hmk0 := fun w : World => hmk w (fun _ => [])
  clear hmk hm
  go_enter Try.func7, Try.ntmps7
  go_wp2
  go_loopw [4] (fun i wr => ∃ (k : Nat) (cs : Nat → List Value), k ≤ xs.length ∧ i = .int .i64 k ∧ wr.heap[w.heap.size]? = some (.cells (fillC 2 xs.length k [.int .i64 0, .slice none 0 0] cs).toArray 47 (0, 0)) ∧ Gr w wr ∧ ElemsO PRow 2 (w.heap.size + 1) wr (xs.take k) cs) (fun i _ => xs.length - (intOf i).toNat)
  case atStart => exact ⟨0, fun _ => [], Nat.zero_le _, rfl, heap_alloc_new w _, (Gr.refl _).alloc _, ElemsO.zero⟩
  case round =>
    obtain ⟨k, cs, hk, rfl, hg, hgr, hcs⟩ := hrel
    have HC := Lib.hid hcs
    clear hcs
    by_cases hlt : k < xs.length
    · obtain ⟨b, off, cs, rfl, hlen, ⟨u_vals, rfl, i_id, h_vals⟩, hc⟩ := hx k hlt
      have c0 := hgr.cellv (hc 0 (by simp))
      have c1 := hgr.cellv (hc 1 (by simp))
      simp only [Nat.add_zero, List.getElem_cons_zero, List.getElem_cons_succ] at c0 c1
      clear hc hlen
      have HG := Lib.hid hg
      have hgl : w.heap.size < wr.heap.size := (Array.getElem?_eq_some_iff.1 hg).1
      have hga : w.heap.size + 1 ≤ wr.heap.size := hgl
      clear hg
      go_wp2_with fail
      refine (laws_toRow_own xs[k] u_vals _ (RSlice.mono keeps_int hgr h_vals) (by have := sumT_mem totRow xs k hlt; unfold totL at hb; omega)).mono ?_
      rintro e w1 ⟨v_vals, rfl, g1, r_vals⟩
      obtain ⟨a_vals, n_vals, c_vals, rfl⟩ := r_vals.isSl
      have hg1 : w1.heap[w.heap.size]? = some (.cells (fillC 2 xs.length k [.int .i64 0, .slice none 0 0] cs).toArray 47 (0, 0)) := by rw [g1.block _ hgl]; exact HG.out
      obtain ⟨x0, d0⟩ : ∃ x, w1.cell? ⟨w.heap.size, k * 2, none⟩ = some x := fill_cell hg1 (by omega)
      have f0 : w1.frozen? ⟨w.heap.size, k * 2, none⟩ = false := Joins.unfrozen_of_block hg1 _
      obtain ⟨x1, d1⟩ : ∃ x, w1.cell? ⟨w.heap.size, k * 2 + 1, none⟩ = some x := fill_cell hg1 (by omega)
      have f1 : w1.frozen? ⟨w.heap.size, k * 2 + 1, none⟩ = false := Joins.unfrozen_of_block hg1 _
      have HG1 := Lib.hid hg1
      have R_vals := Lib.hid r_vals
      have hgw := hgr.trans g1
      have HL : Hid (Loc (w.heap.size + 1) w1 ((w1.setCell ⟨w.heap.size, k * 2, none⟩ (.int .i64 xs[k].id)).setCell ⟨w.heap.size, k * 2 + 1, none⟩ (.slice a_vals n_vals c_vals))) := Lib.hid (by repeat' (first | with_reducible exact Loc.refl _ _ | with_reducible refine Loc.setCell ?_ ?_ _ | (dsimp only; omega)))
      have HO : Hid (PRow (In wr.heap.size w1.heap.size) ((w1.setCell ⟨w.heap.size, k * 2, none⟩ (.int .i64 xs[k].id)).setCell ⟨w.heap.size, k * 2 + 1, none⟩ (.slice a_vals n_vals c_vals)) [.int .i64 xs[k].id, .slice a_vals n_vals c_vals] xs[k]) := Lib.hid ⟨_, rfl, i_id, (OSl.loc fr_int R_vals.out HL.out hga)⟩
      clear hg1 r_vals
      go_wp2_with fail
      go_roundw
      case rel => exact ⟨k + 1, updC cs k [.int .i64 xs[k].id, .slice a_vals n_vals c_vals], by omega, by go_num, by rw [Joins.block_setCell (Joins.block_setCell HG1.out _) _, fillC_set2 hlt], (by repeat' (first | with_reducible assumption | with_reducible exact Gr.refl _ | with_reducible refine Gr.alloc ?_ _ | with_reducible refine Gr.setCell ?_ ?_ _ | (dsimp only; omega))), HC.out.step fr_row hlt hga (Nat.le_trans g1.size HL.out.1) (Loc.agree ((Loc.of_gr g1).trans HL.out) fun b hb => hb.1) HO.out (Nat.le_refl _) HL.out.1 rfl⟩
      case measure => simp [intOf]; omega
    · obtain rfl : k = xs.length := by omega
      have HG := Lib.hid hg
      clear hg
      go_wp2
      go_ret
      exact ⟨_, rfl, ⟨_, _, _, rfl⟩, hgr, fill_own (by decide) HG.out HC.out (Nat.le_refl _) (by omega)⟩
theorem laws_toRowS_fresh (v : Value) (xs : List DRow) (w : World) (hx : RRows w v xs) (hb : (totL totRow xs) ≤ 4294967296) :
    Calls Try.prog 7 #[v] w fun e w' => ∃ v', e = .returned v' ∧ IsSl v' ∧ Fresh w.heap.size RRows w' v' xs ∧ Gr w w' :=
  (laws_toRowS_own v xs w hx hb).mono fun _ _ ⟨v, h1, h2, h3, h4⟩ => ⟨v, h1, h2, h4.fresh fr_row (fun h => rd_prows h), h3⟩
set_option maxRecDepth 100000 in
set_option maxHeartbeats 4000000 in
theorem laws_eqRow (x : DRow) (u_vals : Value) (t_vals : Value) (w : World) (h_vals : RInts w u_vals x.vals) (k_vals : RInts w t_vals x.vals) :
    Calls Try.prog 26 #[.agg #[.int .i64 x.id, u_vals], .agg #[.int .i64 x.id, t_vals]] w fun e w' => e = .returned (.bool true) ∧ Gr w w' := by
  obtain ⟨id, vals⟩ := x
  dsimp only at *
  have g0 : Gr w ((w.alloc (.cells #[.int .i64 id, u_vals] 47)).alloc (.cells #[.int .i64 id, t_vals] 47)) := ((Gr.refl w).alloc _).alloc _
  have e_id : (id != id) = false := by simp
  go_enter Try.func26, Try.ntmps26
  go_wp2_with fail
  refine (laws_eqIntS_same u_vals t_vals _ _ (RSlice.mono keeps_int g0 h_vals) (RSlice.mono keeps_int g0 k_vals)).mono ?_
  rintro e w1 ⟨rfl, g1⟩
  have gw1 : Gr w w1 := g0.trans g1
  have k1_0 : w1.cell? ⟨w.heap.size, 0, none⟩ = some (.int .i64 id) := g1.cellv (by simp [go_sem])
  have l1_0 : w1.cell? ⟨w.heap.size + 1, 0, none⟩ = some (.int .i64 id) := g1.cellv (by simp [go_sem])
  have k1_1 : w1.cell? ⟨w.heap.size, 1, none⟩ = some u_vals := g1.cellv (by simp [go_sem])
  have l1_1 : w1.cell? ⟨w.heap.size + 1, 1, none⟩ = some t_vals := g1.cellv (by simp [go_sem])
  go_wp2_with fail
  go_ret
  exact ⟨rfl, gw1⟩
set_option maxRecDepth 100000 in
set_option maxHeartbeats 4000000 in
theorem laws_eqRowS_same (v v' : Value) (xs : List DRow) (w : World) (hx : RRows w v xs) (hx' : RRows w v' xs) :
    Calls Try.prog 9 #[v, v'] w fun e w' => e = .returned (.bool true) ∧ Gr w w' := by
  obtain ⟨a, cap, rfl, hl, hm, hx⟩ := hx
  obtain ⟨a', cap', rfl, hl', hm', hx'⟩ := hx'
  have hne : ((xs.length : Int) != (xs.length : Int)) = false := by simp
  go_enter Try.func9, Try.ntmps9
  go_wp2
  go_loopw [5] (fun i wr => ∃ k : Nat, k ≤ xs.length ∧ i = .int .i64 k ∧ Gr w wr) (fun i _ => xs.length - (intOf i).toNat)
  case atStart => exact ⟨0, Nat.zero_le _, rfl, Gr.refl _⟩
  case round =>
    obtain ⟨k, hk, rfl, hgr⟩ := hrel
    by_cases hlt : k < xs.length
    · obtain ⟨b, off, cs, rfl, hlen, ⟨u_vals, rfl, i_id, h_vals⟩, hc⟩ := hx k hlt
      have c0 := hgr.cellv (hc 0 (by simp))
      have c1 := hgr.cellv (hc 1 (by simp))
      simp only [Nat.add_zero, List.getElem_cons_zero, List.getElem_cons_succ] at c0 c1
      clear hc hlen
      obtain ⟨b', off', cs', rfl, hlen', ⟨u_vals', rfl, i_id', h_vals'⟩, hc'⟩ := hx' k hlt
      have d0 := hgr.cellv (hc' 0 (by simp))
      have d1 := hgr.cellv (hc' 1 (by simp))
      simp only [Nat.add_zero, List.getElem_cons_zero, List.getElem_cons_succ] at d0 d1
      clear hc' hlen'
      have r0 := (RSlice.mono keeps_int hgr h_vals)
      have r1 := (RSlice.mono keeps_int hgr h_vals')
      have i0 : (0 : Int) ≤ (k : Int) := Int.natCast_nonneg _
      have i1 : (k : Int) < (xs.length : Int) := by omega
      clear hx hx'
      go_wp2
      go_region_held3 (fun w' => w'.cell? ⟨b, off + k * 2, none⟩ = some (.int .i64 xs[k].id) ∧ w'.cell? ⟨b, off + k * 2 + 1, none⟩ = some u_vals ∧ w'.cell? ⟨b', off' + k * 2, none⟩ = some (.int .i64 xs[k].id) ∧ w'.cell? ⟨b', off' + k * 2 + 1, none⟩ = some u_vals' ∧ RInts w' u_vals xs[k].vals ∧ RInts w' u_vals' xs[k].vals ∧ Gr w w')
        (first | exact ⟨c0, c1, d0, d1, r0, r1, hgr⟩ | exact ⟨c0, c1, d0, d1, r0, r1, hgr.drew⟩ | (go_split_ands; exact ⟨Gr.cellv g1 (by assumption), Gr.cellv g1 (by assumption), Gr.cellv g1 (by assumption), Gr.cellv g1 (by assumption), (RSlice.mono keeps_int g1 (by assumption)), (RSlice.mono keeps_int g1 (by assumption)), Gr.trans (by assumption) g1⟩))
        ((go_at_call 26; go_split_ands; refine (laws_eqRow xs[k] u_vals u_vals' _ (by assumption) (by assumption)).mono ?_; rintro e w1 ⟨rfl, g1⟩))
      all_goals
        have hgr1 : Gr w w1 := hgr.drew.trans g1
        go_wp2
        go_roundw
        case rel => exact ⟨k + 1, by omega, by go_num, hgr1⟩
        case measure => simp [intOf]; omega
    · go_wp2
      go_ret
      exact ⟨rfl, hgr⟩
end Go.Proofs.Ytjeffagejbdjkaa
