/- The law's own helpers: GenQuery. Written by gen_law.py. -/
import Derived.Test.YtnnapjaggahjgaaGenCond
namespace Go.Proofs.Ytnnapjaggahjgaa
open Go.RowKit
set_option linter.unusedSimpArgs false
set_option maxRecDepth 100000 in
set_option maxHeartbeats 4000000 in
theorem laws_szQuery (x : DQuery) (u_conds : Value) (u_out : Value) (left : Int) (w : World) (h_conds : RConds w u_conds x.conds) (h_out : RInts w u_out x.out) (h0 : 0 ≤ left) (h1 : left ≤ 1048576) :
    Calls Try.prog 20 #[.agg #[.int .i64 x.id, .int .i64 x.tenant, u_conds, u_out], .int .i64 left] w fun e w' => e = .returned (.int .i64 (szV (totQuery x) left)) ∧ Gr w w' := by
  unfold totQuery
  obtain ⟨id, tenant, conds, out⟩ := x
  dsimp only at *
  have g0 : Gr w (w.alloc (.cells #[.int .i64 id, .int .i64 tenant, u_conds, u_out] 36)) := (Gr.refl w).alloc _
  by_cases hs0 : (conds.length : Int) ≤ left
  · by_cases hs1 : (out.length : Int) ≤ (left - (conds.length : Int))
    · have HZ0 := Lib.hid (szV_yes (t := conds.length) (left := left) (by omega))
      have HA0 := Lib.hid (show 0 ≤ left ∧ left ≤ 1048576 from by omega)
      have HZ1 := Lib.hid (szV_yes (t := out.length) (left := (left - (conds.length : Int))) (by omega))
      have HA1 := Lib.hid (show 0 ≤ (left - (conds.length : Int)) ∧ (left - (conds.length : Int)) ≤ 1048576 from by omega)
      have HF := Lib.hid (szV_yes (t := conds.length + out.length) (left := left) (by omega))
      go_enter Try.func20, Try.ntmps20
      go_wp2_with fail
      refine (laws_szCondS u_conds _ conds _ (RSlice.mono keeps_cond g0 h_conds) HA0.out.1 HA0.out.2).mono ?_
      rintro e w1 ⟨rfl, g1⟩
      have gw1 : Gr w w1 := g0.trans g1
      have k1_0 : w1.cell? ⟨w.heap.size, 0, none⟩ = some (.int .i64 id) := g1.cellv (by simp [go_sem])
      have k1_1 : w1.cell? ⟨w.heap.size, 1, none⟩ = some (.int .i64 tenant) := g1.cellv (by simp [go_sem])
      have k1_2 : w1.cell? ⟨w.heap.size, 2, none⟩ = some u_conds := g1.cellv (by simp [go_sem])
      have k1_3 : w1.cell? ⟨w.heap.size, 3, none⟩ = some u_out := g1.cellv (by simp [go_sem])
      rw [HZ0.out]
      go_wp2_with fail
      refine (laws_szIntS_gr u_out _ out _ (RSlice.mono keeps_int gw1 h_out) HA1.out.1 HA1.out.2).mono ?_
      rintro e w2 ⟨rfl, g2⟩
      have gw2 : Gr w w2 := gw1.trans g2
      have k2_0 : w2.cell? ⟨w.heap.size, 0, none⟩ = some (.int .i64 id) := g2.cellv (by simp [k1_0])
      have k2_1 : w2.cell? ⟨w.heap.size, 1, none⟩ = some (.int .i64 tenant) := g2.cellv (by simp [k1_1])
      have k2_2 : w2.cell? ⟨w.heap.size, 2, none⟩ = some u_conds := g2.cellv (by simp [k1_2])
      have k2_3 : w2.cell? ⟨w.heap.size, 3, none⟩ = some u_out := g2.cellv (by simp [k1_3])
      rw [HZ1.out]
      go_wp2_with fail
      go_ret
      exact ⟨ret_int (by rw [HF.out]; omega), gw2⟩
    · have HZ0 := Lib.hid (szV_yes (t := conds.length) (left := left) (by omega))
      have HA0 := Lib.hid (show 0 ≤ left ∧ left ≤ 1048576 from by omega)
      have HZ1 := Lib.hid (szV_no (t := out.length) (left := (left - (conds.length : Int))) (by omega))
      have HA1 := Lib.hid (show 0 ≤ (left - (conds.length : Int)) ∧ (left - (conds.length : Int)) ≤ 1048576 from by omega)
      have HF := Lib.hid (szV_no (t := conds.length + out.length) (left := left) (by omega))
      go_enter Try.func20, Try.ntmps20
      go_wp2_with fail
      refine (laws_szCondS u_conds _ conds _ (RSlice.mono keeps_cond g0 h_conds) HA0.out.1 HA0.out.2).mono ?_
      rintro e w1 ⟨rfl, g1⟩
      have gw1 : Gr w w1 := g0.trans g1
      have k1_0 : w1.cell? ⟨w.heap.size, 0, none⟩ = some (.int .i64 id) := g1.cellv (by simp [go_sem])
      have k1_1 : w1.cell? ⟨w.heap.size, 1, none⟩ = some (.int .i64 tenant) := g1.cellv (by simp [go_sem])
      have k1_2 : w1.cell? ⟨w.heap.size, 2, none⟩ = some u_conds := g1.cellv (by simp [go_sem])
      have k1_3 : w1.cell? ⟨w.heap.size, 3, none⟩ = some u_out := g1.cellv (by simp [go_sem])
      rw [HZ0.out]
      go_wp2_with fail
      refine (laws_szIntS_gr u_out _ out _ (RSlice.mono keeps_int gw1 h_out) HA1.out.1 HA1.out.2).mono ?_
      rintro e w2 ⟨rfl, g2⟩
      have gw2 : Gr w w2 := gw1.trans g2
      have k2_0 : w2.cell? ⟨w.heap.size, 0, none⟩ = some (.int .i64 id) := g2.cellv (by simp [k1_0])
      have k2_1 : w2.cell? ⟨w.heap.size, 1, none⟩ = some (.int .i64 tenant) := g2.cellv (by simp [k1_1])
      have k2_2 : w2.cell? ⟨w.heap.size, 2, none⟩ = some u_conds := g2.cellv (by simp [k1_2])
      have k2_3 : w2.cell? ⟨w.heap.size, 3, none⟩ = some u_out := g2.cellv (by simp [k1_3])
      rw [HZ1.out]
      go_wp2_with fail
      go_ret
      exact ⟨ret_int (by rw [HF.out]), gw2⟩
  · have HZ0 := Lib.hid (szV_no (t := conds.length) (left := left) (by omega))
    have HA0 := Lib.hid (show 0 ≤ left ∧ left ≤ 1048576 from by omega)
    have HF := Lib.hid (szV_no (t := conds.length + out.length) (left := left) (by omega))
    go_enter Try.func20, Try.ntmps20
    go_wp2_with fail
    refine (laws_szCondS u_conds _ conds _ (RSlice.mono keeps_cond g0 h_conds) HA0.out.1 HA0.out.2).mono ?_
    rintro e w1 ⟨rfl, g1⟩
    have gw1 : Gr w w1 := g0.trans g1
    have k1_0 : w1.cell? ⟨w.heap.size, 0, none⟩ = some (.int .i64 id) := g1.cellv (by simp [go_sem])
    have k1_1 : w1.cell? ⟨w.heap.size, 1, none⟩ = some (.int .i64 tenant) := g1.cellv (by simp [go_sem])
    have k1_2 : w1.cell? ⟨w.heap.size, 2, none⟩ = some u_conds := g1.cellv (by simp [go_sem])
    have k1_3 : w1.cell? ⟨w.heap.size, 3, none⟩ = some u_out := g1.cellv (by simp [go_sem])
    rw [HZ0.out]
    go_wp2_with fail
    go_ret
    exact ⟨ret_int (by rw [HF.out]), gw1⟩
set_option maxRecDepth 100000 in
set_option maxHeartbeats 4000000 in
theorem laws_szQueryS (v : Value) (left : Int) (xs : List DQuery) (w : World) (hx : RQueries w v xs) (h0 : 0 ≤ left) (h1 : left ≤ 1048576) :
    Calls Try.prog 33 #[v, .int .i64 left] w fun e w' => e = .returned (.int .i64 (szV (totL totQuery xs) left)) ∧ Gr w w' := by
  obtain ⟨a, cap, rfl, hl, hm, hx⟩ := hx
  by_cases hlt0 : left < (xs.length : Int)
  · have HZ := Lib.hid (szV_no (t := (totL totQuery xs)) (left := left) (by have hTL := totL_eq totQuery xs; omega))
    go_enter Try.func33, Try.ntmps33
    go_wp2
    go_ret
    exact ⟨ret_int HZ.out.symm, Gr.refl _⟩
  · go_enter Try.func33, Try.ntmps33
    go_wp2
    go_loopw [1, 5] (fun l i wr => ∃ (k : Nat) (L : Int), k ≤ xs.length ∧ i = .int .i64 k ∧ l = .int .i64 L ∧ 0 ≤ L ∧ L ≤ 1048576 ∧ Gr w wr ∧ Hid (left = L + xs.length + sumT totQuery (xs.take k))) (fun _ i _ => xs.length - (intOf i).toNat)
    case atStart => exact ⟨0, _, Nat.zero_le _, rfl, rfl, by omega, by omega, Gr.refl _, Lib.hid (by simp [sumT])⟩
    case round =>
      obtain ⟨k, L, hk, rfl, rfl, hL0, hL1, hgr, hsum⟩ := hrel
      by_cases hlt : k < xs.length
      · obtain ⟨b, off, cs, rfl, hlen, ⟨u_conds, u_out, rfl, i_id, i_tenant, h_conds, h_out⟩, hc⟩ := hx k hlt
        have c0 := hgr.cellv (hc 0 (by simp))
        have c1 := hgr.cellv (hc 1 (by simp))
        have c2 := hgr.cellv (hc 2 (by simp))
        have c3 := hgr.cellv (hc 3 (by simp))
        simp only [Nat.add_zero, List.getElem_cons_zero, List.getElem_cons_succ] at c0 c1 c2 c3
        clear hc hlen
        have hT : left = L + xs.length + sumT totQuery (xs.take k) := hsum.out
        have hS := sumT_take totQuery xs k hlt
        have hM := sumT_le totQuery xs (k + 1)
        by_cases hle : (totQuery xs[k] : Int) ≤ L
        · have HZ := Lib.hid (szV_yes hle)
          have HL := Lib.hid (show 0 ≤ L - totQuery xs[k] ∧ L - totQuery xs[k] ≤ 1048576 ∧ left = (L - totQuery xs[k]) + xs.length + sumT totQuery (xs.take (k + 1)) from by omega)
          clear hT hS hM hle
          go_wp2_with fail
          refine (laws_szQuery xs[k] u_conds u_out L _ (RSlice.mono keeps_cond hgr h_conds) (RSlice.mono keeps_int hgr h_out) hL0 hL1).mono ?_
          rintro e w1 ⟨rfl, g1⟩
          rw [HZ.out]
          have hnn : 0 ≤ L - (totQuery xs[k] : Int) := HL.out.1
          have hnb : L - (totQuery xs[k] : Int) ≤ 1048576 := HL.out.2.1
          go_wp2_with fail
          go_roundw
          case rel => exact ⟨k + 1, L - totQuery xs[k], by omega, by go_num, rfl, hnn, hnb, hgr.trans g1, Lib.hid HL.out.2.2⟩
          case measure => simp [intOf]; omega
        · have HZ := Lib.hid (szV_no (t := totQuery xs[k]) (left := L) (by omega))
          have HF := Lib.hid (szV_no (t := (totL totQuery xs)) (left := left) (by have hTL := totL_eq totQuery xs; omega))
          clear hT hS hM hle
          go_wp2_with fail
          refine (laws_szQuery xs[k] u_conds u_out L _ (RSlice.mono keeps_cond hgr h_conds) (RSlice.mono keeps_int hgr h_out) hL0 hL1).mono ?_
          rintro e w1 ⟨rfl, g1⟩
          rw [HZ.out]
          go_wp2_with fail
          go_ret
          exact ⟨ret_int HF.out.symm, hgr.trans g1⟩
      · have HF := Lib.hid (szV_yes (t := (totL totQuery xs)) (left := left) (by have := hsum.out; rw [List.take_of_length_le (by omega)] at this; have hTL := totL_eq totQuery xs; omega))
        go_wp2_with fail
        go_ret
        exact ⟨ret_int (by have := hsum.out; rw [List.take_of_length_le (by omega)] at this; rw [HF.out]; have hTL := totL_eq totQuery xs; omega), hgr⟩
set_option maxRecDepth 100000 in
set_option maxHeartbeats 4000000 in
theorem laws_toQuery_own (x : DQuery) (u_conds : Value) (u_out : Value) (w : World) (h_conds : RConds w u_conds x.conds) (h_out : RInts w u_out x.out) (hb : totQuery x ≤ 4294967296) :
    Calls Try.prog 23 #[.agg #[.int .i64 x.id, .int .i64 x.tenant, u_conds, u_out]] w fun e w' => ∃ v_conds v_out, e = .returned (.agg #[.int .i64 x.id, .int .i64 x.tenant, v_conds, v_out]) ∧ Gr w w' ∧ ∃ m, w.heap.size ≤ m ∧ m ≤ w'.heap.size ∧ PConds (In w.heap.size m) w' v_conds x.conds ∧ PInts (In m w'.heap.size) w' v_out x.out := by
  unfold totQuery at hb
  obtain ⟨id, tenant, conds, out⟩ := x
  dsimp only at *
  have g0 : Gr w (((w.alloc (.cells #[.int .i64 id, .int .i64 tenant, u_conds, u_out] 36)).alloc (.cells #[.int .i64 0, .int .i64 0, .slice none 0 0, .slice none 0 0] 44)).alloc (.cells #[.int .i64 id, .int .i64 tenant, .slice none 0 0, .slice none 0 0] 44)) := (((Gr.refl w).alloc _).alloc _).alloc _
  go_enter Try.func23, Try.ntmps23
  go_wp2_with fail
  refine (laws_toCondS_own u_conds conds _ (RSlice.mono keeps_cond g0 h_conds) (by omega)).mono ?_
  rintro e w1 ⟨v_conds, rfl, ⟨a1, n1, c1, rfl⟩, g1, r1⟩
  have gw1 : Gr w w1 := Gr.trans g0 g1
  have hz1 : w.heap.size + 1 + 1 + 1 ≤ w1.heap.size := by have := g1.size; simpa using this
  have r1 := r1.wide (lo' := w.heap.size + 1 + 1 + 1) (hi' := w1.heap.size) (by first | omega | (simp; done) | (simp; omega)) (Nat.le_refl _)
  have kb1_0 : w1.cell? ⟨w.heap.size, 0, none⟩ = some (.int .i64 id) := g1.cellv (by simp [go_sem])
  have kb1_1 : w1.cell? ⟨w.heap.size, 1, none⟩ = some (.int .i64 tenant) := g1.cellv (by simp [go_sem])
  have kb1_2 : w1.cell? ⟨w.heap.size, 2, none⟩ = some (u_conds) := g1.cellv (by simp [go_sem])
  have kb1_3 : w1.cell? ⟨w.heap.size, 3, none⟩ = some (u_out) := g1.cellv (by simp [go_sem])
  have k11_0 : w1.cell? ⟨w.heap.size + 1, 0, none⟩ = some (.int .i64 0) := g1.cellv (by simp [go_sem])
  have fk11_0 : w1.frozen? ⟨w.heap.size + 1, 0, none⟩ = false := by rw [g1.frozen (by first | omega | (simp; done) | (simp; omega))]; simp [go_sem]
  have k11_1 : w1.cell? ⟨w.heap.size + 1, 1, none⟩ = some (.int .i64 0) := g1.cellv (by simp [go_sem])
  have fk11_1 : w1.frozen? ⟨w.heap.size + 1, 1, none⟩ = false := by rw [g1.frozen (by first | omega | (simp; done) | (simp; omega))]; simp [go_sem]
  have k11_2 : w1.cell? ⟨w.heap.size + 1, 2, none⟩ = some (.slice none 0 0) := g1.cellv (by simp [go_sem])
  have fk11_2 : w1.frozen? ⟨w.heap.size + 1, 2, none⟩ = false := by rw [g1.frozen (by first | omega | (simp; done) | (simp; omega))]; simp [go_sem]
  have k11_3 : w1.cell? ⟨w.heap.size + 1, 3, none⟩ = some (.slice none 0 0) := g1.cellv (by simp [go_sem])
  have fk11_3 : w1.frozen? ⟨w.heap.size + 1, 3, none⟩ = false := by rw [g1.frozen (by first | omega | (simp; done) | (simp; omega))]; simp [go_sem]
  have k21_0 : w1.cell? ⟨w.heap.size + 1 + 1, 0, none⟩ = some (.int .i64 id) := g1.cellv (by simp [go_sem])
  have fk21_0 : w1.frozen? ⟨w.heap.size + 1 + 1, 0, none⟩ = false := by rw [g1.frozen (by first | omega | (simp; done) | (simp; omega))]; simp [go_sem]
  have k21_1 : w1.cell? ⟨w.heap.size + 1 + 1, 1, none⟩ = some (.int .i64 tenant) := g1.cellv (by simp [go_sem])
  have fk21_1 : w1.frozen? ⟨w.heap.size + 1 + 1, 1, none⟩ = false := by rw [g1.frozen (by first | omega | (simp; done) | (simp; omega))]; simp [go_sem]
  have k21_2 : w1.cell? ⟨w.heap.size + 1 + 1, 2, none⟩ = some (.slice none 0 0) := g1.cellv (by simp [go_sem])
  have fk21_2 : w1.frozen? ⟨w.heap.size + 1 + 1, 2, none⟩ = false := by rw [g1.frozen (by first | omega | (simp; done) | (simp; omega))]; simp [go_sem]
  have k21_3 : w1.cell? ⟨w.heap.size + 1 + 1, 3, none⟩ = some (.slice none 0 0) := g1.cellv (by simp [go_sem])
  have fk21_3 : w1.frozen? ⟨w.heap.size + 1 + 1, 3, none⟩ = false := by rw [g1.frozen (by first | omega | (simp; done) | (simp; omega))]; simp [go_sem]
  clear g1
  go_wp2_with fail
  refine (laws_toIntS_own u_out out _ (RSlice.mono keeps_int (by repeat' (first | with_reducible assumption | with_reducible exact Gr.refl _ | with_reducible refine Gr.alloc ?_ _ | with_reducible refine Gr.setCell ?_ ?_ _ | (dsimp only; omega))) h_out) (by omega)).mono ?_
  rintro e w2 ⟨v_out, rfl, ⟨a2, n2, c2, rfl⟩, g2, r2⟩
  have gw2 : Gr w w2 := Gr.trans (by repeat' (first | with_reducible assumption | with_reducible exact Gr.refl _ | with_reducible refine Gr.alloc ?_ _ | with_reducible refine Gr.setCell ?_ ?_ _ | (dsimp only; omega))) g2
  have hz2 : w.heap.size + 1 + 1 + 1 ≤ w2.heap.size := by have := g2.size; simp at this; omega
  have hy2 : w1.heap.size ≤ w2.heap.size := by have := g2.size; simp at this; omega
  have r2 := r2.wide (lo' := w1.heap.size) (hi' := w2.heap.size) (by first | omega | (simp; done) | (simp; omega)) (Nat.le_refl _)
  have r1 := OSl.gr fr_cond (OSl.loc (lo' := w.heap.size + 1 + 1 + 1) fr_cond r1 (by repeat' (first | with_reducible exact Loc.refl _ _ | with_reducible refine Loc.setCell ?_ ?_ _ | (dsimp only; omega))) (by omega)) g2
  have kb2_0 : w2.cell? ⟨w.heap.size, 0, none⟩ = some (.int .i64 id) := g2.cellv (by simp [go_sem, kb1_0, kb1_1, kb1_2, kb1_3])
  have kb2_1 : w2.cell? ⟨w.heap.size, 1, none⟩ = some (.int .i64 tenant) := g2.cellv (by simp [go_sem, kb1_0, kb1_1, kb1_2, kb1_3])
  have kb2_2 : w2.cell? ⟨w.heap.size, 2, none⟩ = some (u_conds) := g2.cellv (by simp [go_sem, kb1_0, kb1_1, kb1_2, kb1_3])
  have kb2_3 : w2.cell? ⟨w.heap.size, 3, none⟩ = some (u_out) := g2.cellv (by simp [go_sem, kb1_0, kb1_1, kb1_2, kb1_3])
  have k12_0 : w2.cell? ⟨w.heap.size + 1, 0, none⟩ = some (.int .i64 0) := g2.cellv (by simp [go_sem, k11_0, k11_1, k11_2, k11_3])
  have fk12_0 : w2.frozen? ⟨w.heap.size + 1, 0, none⟩ = false := by rw [g2.frozen (by first | omega | (simp; done) | (simp; omega))]; simp [go_sem, fk11_0, fk11_1, fk11_2, fk11_3]
  have k12_1 : w2.cell? ⟨w.heap.size + 1, 1, none⟩ = some (.int .i64 0) := g2.cellv (by simp [go_sem, k11_0, k11_1, k11_2, k11_3])
  have fk12_1 : w2.frozen? ⟨w.heap.size + 1, 1, none⟩ = false := by rw [g2.frozen (by first | omega | (simp; done) | (simp; omega))]; simp [go_sem, fk11_0, fk11_1, fk11_2, fk11_3]
  have k12_2 : w2.cell? ⟨w.heap.size + 1, 2, none⟩ = some (.slice none 0 0) := g2.cellv (by simp [go_sem, k11_0, k11_1, k11_2, k11_3])
  have fk12_2 : w2.frozen? ⟨w.heap.size + 1, 2, none⟩ = false := by rw [g2.frozen (by first | omega | (simp; done) | (simp; omega))]; simp [go_sem, fk11_0, fk11_1, fk11_2, fk11_3]
  have k12_3 : w2.cell? ⟨w.heap.size + 1, 3, none⟩ = some (.slice none 0 0) := g2.cellv (by simp [go_sem, k11_0, k11_1, k11_2, k11_3])
  have fk12_3 : w2.frozen? ⟨w.heap.size + 1, 3, none⟩ = false := by rw [g2.frozen (by first | omega | (simp; done) | (simp; omega))]; simp [go_sem, fk11_0, fk11_1, fk11_2, fk11_3]
  have k22_0 : w2.cell? ⟨w.heap.size + 1 + 1, 0, none⟩ = some (.int .i64 id) := g2.cellv (by simp [go_sem, k21_0, k21_1, k21_2, k21_3])
  have fk22_0 : w2.frozen? ⟨w.heap.size + 1 + 1, 0, none⟩ = false := by rw [g2.frozen (by first | omega | (simp; done) | (simp; omega))]; simp [go_sem, fk21_0, fk21_1, fk21_2, fk21_3]
  have k22_1 : w2.cell? ⟨w.heap.size + 1 + 1, 1, none⟩ = some (.int .i64 tenant) := g2.cellv (by simp [go_sem, k21_0, k21_1, k21_2, k21_3])
  have fk22_1 : w2.frozen? ⟨w.heap.size + 1 + 1, 1, none⟩ = false := by rw [g2.frozen (by first | omega | (simp; done) | (simp; omega))]; simp [go_sem, fk21_0, fk21_1, fk21_2, fk21_3]
  have k22_2 : w2.cell? ⟨w.heap.size + 1 + 1, 2, none⟩ = some (.slice a1 n1 c1) := g2.cellv (by simp [go_sem, k21_0, k21_1, k21_2, k21_3])
  have fk22_2 : w2.frozen? ⟨w.heap.size + 1 + 1, 2, none⟩ = false := by rw [g2.frozen (by first | omega | (simp; done) | (simp; omega))]; simp [go_sem, fk21_0, fk21_1, fk21_2, fk21_3]
  have k22_3 : w2.cell? ⟨w.heap.size + 1 + 1, 3, none⟩ = some (.slice none 0 0) := g2.cellv (by simp [go_sem, k21_0, k21_1, k21_2, k21_3])
  have fk22_3 : w2.frozen? ⟨w.heap.size + 1 + 1, 3, none⟩ = false := by rw [g2.frozen (by first | omega | (simp; done) | (simp; omega))]; simp [go_sem, fk21_0, fk21_1, fk21_2, fk21_3]
  clear kb1_0 kb1_1 kb1_2 kb1_3 k11_0 k11_1 k11_2 k11_3 k21_0 k21_1 k21_2 k21_3 fk11_0 fk11_1 fk11_2 fk11_3 fk21_0 fk21_1 fk21_2 fk21_3 g2
  have R1 := Lib.hid r1
  have R2 := Lib.hid r2
  clear r1 r2
  go_wp2_with fail
  refine bodyPost_ret (v := .agg #[.int .i64 id, .int .i64 tenant, .slice a1 n1 c1, .slice a2 n2 c2]) (by simp [results, Try.results23, go_sem, *]) rfl ⟨_, _, rfl, (by repeat' (first | with_reducible assumption | with_reducible exact Gr.refl _ | with_reducible refine Gr.alloc ?_ _ | with_reducible refine Gr.setCell ?_ ?_ _ | (dsimp only; omega))), w1.heap.size, (by omega), (by first | omega | (simp [World.setCell]; done) | (simp [World.setCell]; omega)), ((OSl.loc (lo' := w.heap.size + 1 + 1 + 1) fr_cond R1.out (by repeat' (first | with_reducible exact Loc.refl _ _ | with_reducible refine Loc.setCell ?_ ?_ _ | (dsimp only; omega))) (by omega)).wide (by first | omega | (simp [World.setCell]; done) | (simp [World.setCell]; omega)) (by first | omega | (simp [World.setCell]; done) | (simp [World.setCell]; omega))), ((OSl.loc (lo' := w.heap.size + 1 + 1 + 1) fr_int R2.out (by repeat' (first | with_reducible exact Loc.refl _ _ | with_reducible refine Loc.setCell ?_ ?_ _ | (dsimp only; omega))) (by omega)).wide (by first | omega | (simp [World.setCell]; done) | (simp [World.setCell]; omega)) (by first | omega | (simp [World.setCell]; done) | (simp [World.setCell]; omega)))⟩
theorem laws_toQuery_gr (x : DQuery) (u_conds : Value) (u_out : Value) (w : World) (h_conds : RConds w u_conds x.conds) (h_out : RInts w u_out x.out) (hb : totQuery x ≤ 4294967296) :
    Calls Try.prog 23 #[.agg #[.int .i64 x.id, .int .i64 x.tenant, u_conds, u_out]] w fun e w' => ∃ v_conds v_out, e = .returned (.agg #[.int .i64 x.id, .int .i64 x.tenant, v_conds, v_out]) ∧ IsSl v_conds ∧ Fresh w.heap.size RConds w' v_conds x.conds ∧ IsSl v_out ∧ Fresh w.heap.size RInts w' v_out x.out ∧ Gr w w' := (laws_toQuery_own x u_conds u_out w h_conds h_out hb).mono fun _ _ ⟨v, u, h1, h2, _, hm, _, h3, h4⟩ => ⟨v, u, h1, h3.isSl, h3.fresh fr_cond (fun h => rd_pconds h), h4.isSl, (h4.fresh fr_int (fun h => rd_pints h)).le hm, h2⟩
set_option maxRecDepth 100000 in
set_option maxHeartbeats 4000000 in
theorem laws_toQueryS_own (v : Value) (xs : List DQuery) (w : World) (hx : RQueries w v xs) (hb : (totL totQuery xs) ≤ 4294967296) :
    Calls Try.prog 35 #[v] w fun e w' => ∃ v', e = .returned v' ∧ IsSl v' ∧ Gr w w' ∧ PQueries (In w.heap.size w'.heap.size) w' v' xs := by
  obtain ⟨a, cap, rfl, hl, hm, hx⟩ := hx
  have hb0 : xs.length ≤ 4294967296 := by unfold totL at hb; omega
  have hmk : ∀ (w : World) (cs : Nat → List Value), (Instr.makeSlice 58 (.int .i64 xs.length) (.int .i64 xs.length)).run Try.prog w = .ok (.slice (some ⟨w.heap.size, 0, none⟩) xs.length xs.length) (w.alloc (.cells (fillC 4 xs.length 0 [.int .i64 0, .int .i64 0, .slice none 0 0, .slice none 0 0] cs).toArray 44)) := fun w cs => make_fill Try.underlying58 (z := .agg #[.int .i64 0, .int .i64 0, .slice none 0 0, .slice none 0 0]) (bytes := 64) (by kernel_rfl) rfl (by decide) w xs.length (by omega) cs
  have hmk0 := fun w : World => hmk w (fun _ => [])
  clear hmk hm
  go_enter Try.func35, Try.ntmps35
  go_wp2
  go_loopw [4] (fun i wr => ∃ (k : Nat) (cs : Nat → List Value), k ≤ xs.length ∧ i = .int .i64 k ∧ wr.heap[w.heap.size]? = some (.cells (fillC 4 xs.length k [.int .i64 0, .int .i64 0, .slice none 0 0, .slice none 0 0] cs).toArray 44 (0, 0)) ∧ Gr w wr ∧ ElemsO PQuery 4 (w.heap.size + 1) wr (xs.take k) cs) (fun i _ => xs.length - (intOf i).toNat)
  case atStart => exact ⟨0, fun _ => [], Nat.zero_le _, rfl, heap_alloc_new w _, (Gr.refl _).alloc _, ElemsO.zero⟩
  case round =>
    obtain ⟨k, cs, hk, rfl, hg, hgr, hcs⟩ := hrel
    have HC := Lib.hid hcs
    clear hcs
    by_cases hlt : k < xs.length
    · obtain ⟨b, off, cs, rfl, hlen, ⟨u_conds, u_out, rfl, i_id, i_tenant, h_conds, h_out⟩, hc⟩ := hx k hlt
      have c0 := hgr.cellv (hc 0 (by simp))
      have c1 := hgr.cellv (hc 1 (by simp))
      have c2 := hgr.cellv (hc 2 (by simp))
      have c3 := hgr.cellv (hc 3 (by simp))
      simp only [Nat.add_zero, List.getElem_cons_zero, List.getElem_cons_succ] at c0 c1 c2 c3
      clear hc hlen
      have HG := Lib.hid hg
      have hgl : w.heap.size < wr.heap.size := (Array.getElem?_eq_some_iff.1 hg).1
      have hga : w.heap.size + 1 ≤ wr.heap.size := hgl
      clear hg
      go_wp2_with fail
      refine (laws_toQuery_own xs[k] u_conds u_out _ (RSlice.mono keeps_cond hgr h_conds) (RSlice.mono keeps_int hgr h_out) (by have := sumT_mem totQuery xs k hlt; unfold totL at hb; omega)).mono ?_
      rintro e w1 ⟨v_conds, v_out, rfl, g1, m, hm, hm', r_conds, r_out⟩
      obtain ⟨a_conds, n_conds, c_conds, rfl⟩ := r_conds.isSl
      obtain ⟨a_out, n_out, c_out, rfl⟩ := r_out.isSl
      have hg1 : w1.heap[w.heap.size]? = some (.cells (fillC 4 xs.length k [.int .i64 0, .int .i64 0, .slice none 0 0, .slice none 0 0] cs).toArray 44 (0, 0)) := by rw [g1.block _ hgl]; exact HG.out
      obtain ⟨x0, d0⟩ : ∃ x, w1.cell? ⟨w.heap.size, k * 4, none⟩ = some x := fill_cell hg1 (by omega)
      have f0 : w1.frozen? ⟨w.heap.size, k * 4, none⟩ = false := Joins.unfrozen_of_block hg1 _
      obtain ⟨x1, d1⟩ : ∃ x, w1.cell? ⟨w.heap.size, k * 4 + 1, none⟩ = some x := fill_cell hg1 (by omega)
      have f1 : w1.frozen? ⟨w.heap.size, k * 4 + 1, none⟩ = false := Joins.unfrozen_of_block hg1 _
      obtain ⟨x2, d2⟩ : ∃ x, w1.cell? ⟨w.heap.size, k * 4 + 2, none⟩ = some x := fill_cell hg1 (by omega)
      have f2 : w1.frozen? ⟨w.heap.size, k * 4 + 2, none⟩ = false := Joins.unfrozen_of_block hg1 _
      obtain ⟨x3, d3⟩ : ∃ x, w1.cell? ⟨w.heap.size, k * 4 + 3, none⟩ = some x := fill_cell hg1 (by omega)
      have f3 : w1.frozen? ⟨w.heap.size, k * 4 + 3, none⟩ = false := Joins.unfrozen_of_block hg1 _
      have HG1 := Lib.hid hg1
      have R_conds := Lib.hid r_conds
      have R_out := Lib.hid r_out
      have hgw := hgr.trans g1
      have HL : Hid (Loc (w.heap.size + 1) w1 ((((w1.setCell ⟨w.heap.size, k * 4, none⟩ (.int .i64 xs[k].id)).setCell ⟨w.heap.size, k * 4 + 1, none⟩ (.int .i64 xs[k].tenant)).setCell ⟨w.heap.size, k * 4 + 2, none⟩ (.slice a_conds n_conds c_conds)).setCell ⟨w.heap.size, k * 4 + 3, none⟩ (.slice a_out n_out c_out))) := Lib.hid (by repeat' (first | with_reducible exact Loc.refl _ _ | with_reducible refine Loc.setCell ?_ ?_ _ | (dsimp only; omega)))
      have HO : Hid (PQuery (In wr.heap.size w1.heap.size) ((((w1.setCell ⟨w.heap.size, k * 4, none⟩ (.int .i64 xs[k].id)).setCell ⟨w.heap.size, k * 4 + 1, none⟩ (.int .i64 xs[k].tenant)).setCell ⟨w.heap.size, k * 4 + 2, none⟩ (.slice a_conds n_conds c_conds)).setCell ⟨w.heap.size, k * 4 + 3, none⟩ (.slice a_out n_out c_out)) [.int .i64 xs[k].id, .int .i64 xs[k].tenant, .slice a_conds n_conds c_conds, .slice a_out n_out c_out] xs[k]) := Lib.hid ⟨_, _, _, _, rfl, i_id, i_tenant, (OSl.loc fr_cond R_conds.out HL.out hga), (OSl.loc fr_int R_out.out HL.out (by have := hm; omega)), fun b hb => ⟨⟨hb.1, by have := hb.2; have := hm'; omega⟩, fun hc => by have := hb.2; have := hc.1; omega⟩, fun b hb => ⟨by have := hb.1; omega, hb.2⟩⟩
      clear hg1 r_conds r_out
      go_wp2_with fail
      go_roundw
      case rel => exact ⟨k + 1, updC cs k [.int .i64 xs[k].id, .int .i64 xs[k].tenant, .slice a_conds n_conds c_conds, .slice a_out n_out c_out], by omega, by go_num, by rw [Joins.block_setCell (Joins.block_setCell (Joins.block_setCell (Joins.block_setCell HG1.out _) _) _) _, fillC_set4 hlt], (by repeat' (first | with_reducible assumption | with_reducible exact Gr.refl _ | with_reducible refine Gr.alloc ?_ _ | with_reducible refine Gr.setCell ?_ ?_ _ | (dsimp only; omega))), HC.out.step fr_query hlt hga (Nat.le_trans g1.size HL.out.1) (Loc.agree ((Loc.of_gr g1).trans HL.out) fun b hb => hb.1) HO.out (Nat.le_refl _) HL.out.1 rfl⟩
      case measure => simp [intOf]; omega
    · obtain rfl : k = xs.length := by omega
      have HG := Lib.hid hg
      clear hg
      go_wp2
      go_ret
      exact ⟨_, rfl, ⟨_, _, _, rfl⟩, hgr, fill_own (by decide) HG.out HC.out (Nat.le_refl _) (by omega)⟩
theorem laws_toQueryS_fresh (v : Value) (xs : List DQuery) (w : World) (hx : RQueries w v xs) (hb : (totL totQuery xs) ≤ 4294967296) :
    Calls Try.prog 35 #[v] w fun e w' => ∃ v', e = .returned v' ∧ IsSl v' ∧ Fresh w.heap.size RQueries w' v' xs ∧ Gr w w' :=
  (laws_toQueryS_own v xs w hx hb).mono fun _ _ ⟨v, h1, h2, h3, h4⟩ => ⟨v, h1, h2, h4.fresh fr_query (fun h => rd_pqueries h), h3⟩
set_option maxRecDepth 100000 in
set_option maxHeartbeats 4000000 in
theorem laws_eqQuery (x : DQuery) (u_conds : Value) (u_out : Value) (t_conds : Value) (t_out : Value) (w : World) (h_conds : RConds w u_conds x.conds) (h_out : RInts w u_out x.out) (k_conds : RConds w t_conds x.conds) (k_out : RInts w t_out x.out) :
    Calls Try.prog 27 #[.agg #[.int .i64 x.id, .int .i64 x.tenant, u_conds, u_out], .agg #[.int .i64 x.id, .int .i64 x.tenant, t_conds, t_out]] w fun e w' => e = .returned (.bool true) ∧ Gr w w' := by
  obtain ⟨id, tenant, conds, out⟩ := x
  dsimp only at *
  have g0 : Gr w ((w.alloc (.cells #[.int .i64 id, .int .i64 tenant, u_conds, u_out] 44)).alloc (.cells #[.int .i64 id, .int .i64 tenant, t_conds, t_out] 44)) := ((Gr.refl w).alloc _).alloc _
  have e_id : (id != id) = false := by simp
  have e_tenant : (tenant != tenant) = false := by simp
  go_enter Try.func27, Try.ntmps27
  go_wp2_with fail
  refine (laws_eqCondS_same u_conds t_conds _ _ (RSlice.mono keeps_cond g0 h_conds) (RSlice.mono keeps_cond g0 k_conds)).mono ?_
  rintro e w1 ⟨rfl, g1⟩
  have gw1 : Gr w w1 := g0.trans g1
  have k1_0 : w1.cell? ⟨w.heap.size, 0, none⟩ = some (.int .i64 id) := g1.cellv (by simp [go_sem])
  have l1_0 : w1.cell? ⟨w.heap.size + 1, 0, none⟩ = some (.int .i64 id) := g1.cellv (by simp [go_sem])
  have k1_1 : w1.cell? ⟨w.heap.size, 1, none⟩ = some (.int .i64 tenant) := g1.cellv (by simp [go_sem])
  have l1_1 : w1.cell? ⟨w.heap.size + 1, 1, none⟩ = some (.int .i64 tenant) := g1.cellv (by simp [go_sem])
  have k1_2 : w1.cell? ⟨w.heap.size, 2, none⟩ = some u_conds := g1.cellv (by simp [go_sem])
  have l1_2 : w1.cell? ⟨w.heap.size + 1, 2, none⟩ = some t_conds := g1.cellv (by simp [go_sem])
  have k1_3 : w1.cell? ⟨w.heap.size, 3, none⟩ = some u_out := g1.cellv (by simp [go_sem])
  have l1_3 : w1.cell? ⟨w.heap.size + 1, 3, none⟩ = some t_out := g1.cellv (by simp [go_sem])
  go_wp2_with fail
  refine (laws_eqIntS_same u_out t_out _ _ (RSlice.mono keeps_int gw1 h_out) (RSlice.mono keeps_int gw1 k_out)).mono ?_
  rintro e w2 ⟨rfl, g2⟩
  have gw2 : Gr w w2 := gw1.trans g2
  have k2_0 : w2.cell? ⟨w.heap.size, 0, none⟩ = some (.int .i64 id) := g2.cellv (by simp [k1_0])
  have l2_0 : w2.cell? ⟨w.heap.size + 1, 0, none⟩ = some (.int .i64 id) := g2.cellv (by simp [l1_0])
  have k2_1 : w2.cell? ⟨w.heap.size, 1, none⟩ = some (.int .i64 tenant) := g2.cellv (by simp [k1_1])
  have l2_1 : w2.cell? ⟨w.heap.size + 1, 1, none⟩ = some (.int .i64 tenant) := g2.cellv (by simp [l1_1])
  have k2_2 : w2.cell? ⟨w.heap.size, 2, none⟩ = some u_conds := g2.cellv (by simp [k1_2])
  have l2_2 : w2.cell? ⟨w.heap.size + 1, 2, none⟩ = some t_conds := g2.cellv (by simp [l1_2])
  have k2_3 : w2.cell? ⟨w.heap.size, 3, none⟩ = some u_out := g2.cellv (by simp [k1_3])
  have l2_3 : w2.cell? ⟨w.heap.size + 1, 3, none⟩ = some t_out := g2.cellv (by simp [l1_3])
  go_wp2_with fail
  go_ret
  exact ⟨rfl, gw2⟩
set_option maxRecDepth 100000 in
set_option maxHeartbeats 4000000 in
theorem laws_eqQueryS_same (v v' : Value) (xs : List DQuery) (w : World) (hx : RQueries w v xs) (hx' : RQueries w v' xs) :
    Calls Try.prog 37 #[v, v'] w fun e w' => e = .returned (.bool true) ∧ Gr w w' := by
  obtain ⟨a, cap, rfl, hl, hm, hx⟩ := hx
  obtain ⟨a', cap', rfl, hl', hm', hx'⟩ := hx'
  have hne : ((xs.length : Int) != (xs.length : Int)) = false := by simp
  go_enter Try.func37, Try.ntmps37
  go_wp2
  go_loopw [5] (fun i wr => ∃ k : Nat, k ≤ xs.length ∧ i = .int .i64 k ∧ Gr w wr) (fun i _ => xs.length - (intOf i).toNat)
  case atStart => exact ⟨0, Nat.zero_le _, rfl, Gr.refl _⟩
  case round =>
    obtain ⟨k, hk, rfl, hgr⟩ := hrel
    by_cases hlt : k < xs.length
    · obtain ⟨b, off, cs, rfl, hlen, ⟨u_conds, u_out, rfl, i_id, i_tenant, h_conds, h_out⟩, hc⟩ := hx k hlt
      have c0 := hgr.cellv (hc 0 (by simp))
      have c1 := hgr.cellv (hc 1 (by simp))
      have c2 := hgr.cellv (hc 2 (by simp))
      have c3 := hgr.cellv (hc 3 (by simp))
      simp only [Nat.add_zero, List.getElem_cons_zero, List.getElem_cons_succ] at c0 c1 c2 c3
      clear hc hlen
      obtain ⟨b', off', cs', rfl, hlen', ⟨u_conds', u_out', rfl, i_id', i_tenant', h_conds', h_out'⟩, hc'⟩ := hx' k hlt
      have d0 := hgr.cellv (hc' 0 (by simp))
      have d1 := hgr.cellv (hc' 1 (by simp))
      have d2 := hgr.cellv (hc' 2 (by simp))
      have d3 := hgr.cellv (hc' 3 (by simp))
      simp only [Nat.add_zero, List.getElem_cons_zero, List.getElem_cons_succ] at d0 d1 d2 d3
      clear hc' hlen'
      have r0 := (RSlice.mono keeps_cond hgr h_conds)
      have r1 := (RSlice.mono keeps_int hgr h_out)
      have r2 := (RSlice.mono keeps_cond hgr h_conds')
      have r3 := (RSlice.mono keeps_int hgr h_out')
      have i0 : (0 : Int) ≤ (k : Int) := Int.natCast_nonneg _
      have i1 : (k : Int) < (xs.length : Int) := by omega
      clear hx hx'
      go_wp2
      go_region_held3 (fun w' => w'.cell? ⟨b, off + k * 4, none⟩ = some (.int .i64 xs[k].id) ∧ w'.cell? ⟨b, off + k * 4 + 1, none⟩ = some (.int .i64 xs[k].tenant) ∧ w'.cell? ⟨b, off + k * 4 + 2, none⟩ = some u_conds ∧ w'.cell? ⟨b, off + k * 4 + 3, none⟩ = some u_out ∧ w'.cell? ⟨b', off' + k * 4, none⟩ = some (.int .i64 xs[k].id) ∧ w'.cell? ⟨b', off' + k * 4 + 1, none⟩ = some (.int .i64 xs[k].tenant) ∧ w'.cell? ⟨b', off' + k * 4 + 2, none⟩ = some u_conds' ∧ w'.cell? ⟨b', off' + k * 4 + 3, none⟩ = some u_out' ∧ RConds w' u_conds xs[k].conds ∧ RInts w' u_out xs[k].out ∧ RConds w' u_conds' xs[k].conds ∧ RInts w' u_out' xs[k].out ∧ Gr w w')
        (first | exact ⟨c0, c1, c2, c3, d0, d1, d2, d3, r0, r1, r2, r3, hgr⟩ | exact ⟨c0, c1, c2, c3, d0, d1, d2, d3, r0, r1, r2, r3, hgr.drew⟩ | (go_split_ands; exact ⟨Gr.cellv g1 (by assumption), Gr.cellv g1 (by assumption), Gr.cellv g1 (by assumption), Gr.cellv g1 (by assumption), Gr.cellv g1 (by assumption), Gr.cellv g1 (by assumption), Gr.cellv g1 (by assumption), Gr.cellv g1 (by assumption), (RSlice.mono keeps_cond g1 (by assumption)), (RSlice.mono keeps_int g1 (by assumption)), (RSlice.mono keeps_cond g1 (by assumption)), (RSlice.mono keeps_int g1 (by assumption)), Gr.trans (by assumption) g1⟩))
        ((go_at_call 27; go_split_ands; refine (laws_eqQuery xs[k] u_conds u_out u_conds' u_out' _ (by assumption) (by assumption) (by assumption) (by assumption)).mono ?_; rintro e w1 ⟨rfl, g1⟩))
      all_goals
        have hgr1 : Gr w w1 := hgr.drew.trans g1
        go_wp2
        go_roundw
        case rel => exact ⟨k + 1, by omega, by go_num, hgr1⟩
        case measure => simp [intOf]; omega
    · go_wp2
      go_ret
      exact ⟨rfl, hgr⟩
end Go.Proofs.Ytnnapjaggahjgaa
