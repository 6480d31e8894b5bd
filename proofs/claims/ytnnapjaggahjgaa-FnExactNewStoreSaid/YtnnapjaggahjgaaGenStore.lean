/- The law's own helpers: GenStore. Written by gen_law.py. -/
import Derived.Test.YtnnapjaggahjgaaGenVersion
namespace Go.Proofs.Ytnnapjaggahjgaa
open Go.RowKit
set_option linter.unusedSimpArgs false
set_option maxRecDepth 100000 in
set_option maxHeartbeats 4000000 in
theorem laws_szVersionSS (v : Value) (left : Int) (xs : List (List DVersion)) (w : World) (hx : RVersionss w v xs) (h0 : 0 ≤ left) (h1 : left ≤ 1048576) :
    Calls Try.prog 73 #[v, .int .i64 left] w fun e w' => e = .returned (.int .i64 (szV (totL (totL totVersion) xs) left)) ∧ Gr w w' := by
  obtain ⟨a, cap, rfl, hl, hm, hx⟩ := hx
  by_cases hlt0 : left < (xs.length : Int)
  · have HZ := Lib.hid (szV_no (t := (totL (totL totVersion) xs)) (left := left) (by have hTL := totL_eq (totL totVersion) xs; omega))
    go_enter Try.func73, Try.ntmps73
    go_wp2
    go_ret
    exact ⟨ret_int HZ.out.symm, Gr.refl _⟩
  · go_enter Try.func73, Try.ntmps73
    go_wp2
    go_loopw [1, 5] (fun l i wr => ∃ (k : Nat) (L : Int), k ≤ xs.length ∧ i = .int .i64 k ∧ l = .int .i64 L ∧ 0 ≤ L ∧ L ≤ 1048576 ∧ Gr w wr ∧ Hid (left = L + xs.length + sumT (totL totVersion) (xs.take k))) (fun _ i _ => xs.length - (intOf i).toNat)
    case atStart => exact ⟨0, _, Nat.zero_le _, rfl, rfl, by omega, by omega, Gr.refl _, Lib.hid (by simp [sumT])⟩
    case round =>
      obtain ⟨k, L, hk, rfl, rfl, hL0, hL1, hgr, hsum⟩ := hrel
      by_cases hlt : k < xs.length
      · obtain ⟨b, off, cs, rfl, hlen, ⟨u, rfl, hu⟩, hc⟩ := hx k hlt
        have c0 := hgr.cellv (hc 0 (by simp))
        simp only [Nat.add_zero, Nat.mul_one, List.getElem_cons_zero] at c0
        clear hc hlen
        have hT : left = L + xs.length + sumT (totL totVersion) (xs.take k) := hsum.out
        have hS := sumT_take (totL totVersion) xs k hlt
        have hM := sumT_le (totL totVersion) xs (k + 1)
        by_cases hle : ((totL totVersion) xs[k] : Int) ≤ L
        · have HZ := Lib.hid (szV_yes hle)
          have HL := Lib.hid (show 0 ≤ L - (totL totVersion) xs[k] ∧ L - (totL totVersion) xs[k] ≤ 1048576 ∧ left = (L - (totL totVersion) xs[k]) + xs.length + sumT (totL totVersion) (xs.take (k + 1)) from by omega)
          clear hT hS hM hle
          go_wp2_with fail
          refine (laws_szVersionS u L xs[k] _ (RSlice.mono keeps_version hgr hu) hL0 hL1).mono ?_
          rintro e w1 ⟨rfl, g1⟩
          rw [HZ.out]
          have hnn : 0 ≤ L - ((totL totVersion) xs[k] : Int) := HL.out.1
          have hnb : L - ((totL totVersion) xs[k] : Int) ≤ 1048576 := HL.out.2.1
          go_wp2_with fail
          go_roundw
          case rel => exact ⟨k + 1, L - (totL totVersion) xs[k], by omega, by go_num, rfl, hnn, hnb, hgr.trans g1, Lib.hid HL.out.2.2⟩
          case measure => simp [intOf]; omega
        · have HZ := Lib.hid (szV_no (t := (totL totVersion) xs[k]) (left := L) (by omega))
          have HF := Lib.hid (szV_no (t := (totL (totL totVersion) xs)) (left := left) (by have hTL := totL_eq (totL totVersion) xs; omega))
          clear hT hS hM hle
          go_wp2_with fail
          refine (laws_szVersionS u L xs[k] _ (RSlice.mono keeps_version hgr hu) hL0 hL1).mono ?_
          rintro e w1 ⟨rfl, g1⟩
          rw [HZ.out]
          go_wp2_with fail
          go_ret
          exact ⟨ret_int HF.out.symm, hgr.trans g1⟩
      · have HF := Lib.hid (szV_yes (t := (totL (totL totVersion) xs)) (left := left) (by have := hsum.out; rw [List.take_of_length_le (by omega)] at this; have hTL := totL_eq (totL totVersion) xs; omega))
        go_wp2_with fail
        go_ret
        exact ⟨ret_int (by have := hsum.out; rw [List.take_of_length_le (by omega)] at this; rw [HF.out]; have hTL := totL_eq (totL totVersion) xs; omega), hgr⟩
set_option maxRecDepth 100000 in
set_option maxHeartbeats 4000000 in
theorem laws_toVersionSS_own (v : Value) (xs : List (List DVersion)) (w : World) (hx : RVersionss w v xs) (hb : (totL (totL totVersion) xs) ≤ 4294967296) :
    Calls Try.prog 78 #[v] w fun e w' => ∃ v', e = .returned v' ∧ IsSl v' ∧ Gr w w' ∧ PVersionss (In w.heap.size w'.heap.size) w' v' xs := by
  obtain ⟨a, cap, rfl, hl, hm, hx⟩ := hx
  have hb0 : xs.length ≤ 4294967296 := by unfold totL at hb; omega
  have hmk : ∀ (w : World) (cs : Nat → List Value), (Instr.makeSlice 27 (.int .i64 xs.length) (.int .i64 xs.length)).run Try.prog w = .ok (.slice (some ⟨w.heap.size, 0, none⟩) xs.length xs.length) (w.alloc (.cells (fillC 1 xs.length 0 [.slice none 0 0] cs).toArray 106)) := fun w cs => make_fill Try.underlying27 (z := .slice none 0 0) (bytes := 24) (by kernel_rfl) rfl (by decide) w xs.length (by omega) cs
  have hmk0 := fun w : World => hmk w (fun _ => [])
  clear hmk hm
  go_enter Try.func78, Try.ntmps78
  go_wp2
  go_loopw [4] (fun i wr => ∃ (k : Nat) (cs : Nat → List Value), k ≤ xs.length ∧ i = .int .i64 k ∧ wr.heap[w.heap.size]? = some (.cells (fillC 1 xs.length k [.slice none 0 0] cs).toArray 106 (0, 0)) ∧ Gr w wr ∧ ElemsO (POf PVersions) 1 (w.heap.size + 1) wr (xs.take k) cs) (fun i _ => xs.length - (intOf i).toNat)
  case atStart => exact ⟨0, fun _ => [], Nat.zero_le _, rfl, heap_alloc_new w _, (Gr.refl _).alloc _, ElemsO.zero⟩
  case round =>
    obtain ⟨k, cs, hk, rfl, hg, hgr, hcs⟩ := hrel
    have HC := Lib.hid hcs
    clear hcs
    by_cases hlt : k < xs.length
    · obtain ⟨b, off, cs, rfl, hlen, ⟨u, rfl, hu⟩, hc⟩ := hx k hlt
      have c0 := hgr.cellv (hc 0 (by simp))
      simp only [Nat.add_zero, Nat.mul_one, List.getElem_cons_zero] at c0
      clear hc hlen
      have HG := Lib.hid hg
      have hgl : w.heap.size < wr.heap.size := (Array.getElem?_eq_some_iff.1 hg).1
      have hga : w.heap.size + 1 ≤ wr.heap.size := hgl
      clear hg
      go_wp2_with fail
      refine (laws_toVersionS_own u xs[k] _ (RSlice.mono keeps_version hgr hu) (by have := sumT_mem (totL totVersion) xs k hlt; unfold totL at hb this; unfold totL; omega)).mono ?_
      rintro e w1 ⟨v1, rfl, ⟨a_, n_, c_, rfl⟩, g1, r_⟩
      have hg1 : w1.heap[w.heap.size]? = some (.cells (fillC 1 xs.length k [.slice none 0 0] cs).toArray 106 (0, 0)) := by rw [g1.block _ hgl]; exact HG.out
      obtain ⟨x0, d0⟩ : ∃ x, w1.cell? ⟨w.heap.size, k, none⟩ = some x := fill_cell hg1 (by omega)
      have f0 : w1.frozen? ⟨w.heap.size, k, none⟩ = false := Joins.unfrozen_of_block hg1 _
      have HG1 := Lib.hid hg1
      have R_ := Lib.hid r_
      have hgw := hgr.trans g1
      have HL : Hid (Loc (w.heap.size + 1) w1 (w1.setCell ⟨w.heap.size, k, none⟩ (.slice a_ n_ c_))) := Lib.hid (by repeat' (first | with_reducible exact Loc.refl _ _ | with_reducible refine Loc.setCell ?_ ?_ _ | (dsimp only; omega)))
      have HO : Hid ((POf PVersions) (In wr.heap.size w1.heap.size) (w1.setCell ⟨w.heap.size, k, none⟩ (.slice a_ n_ c_)) [.slice a_ n_ c_] xs[k]) := Lib.hid ⟨_, rfl, (OSl.loc fr_version R_.out HL.out hga)⟩
      clear hg1 r_
      go_wp2_with fail
      go_roundw
      case rel => exact ⟨k + 1, updC cs k [.slice a_ n_ c_], by omega, by go_num, by rw [Joins.block_setCell HG1.out _, fillC_set1 hlt], (by repeat' (first | with_reducible assumption | with_reducible exact Gr.refl _ | with_reducible refine Gr.alloc ?_ _ | with_reducible refine Gr.setCell ?_ ?_ _ | (dsimp only; omega))), HC.out.step (fr_of fr_version) hlt hga (Nat.le_trans g1.size HL.out.1) (Loc.agree ((Loc.of_gr g1).trans HL.out) fun b hb => hb.1) HO.out (Nat.le_refl _) HL.out.1 rfl⟩
      case measure => simp [intOf]; omega
    · obtain rfl : k = xs.length := by omega
      have HG := Lib.hid hg
      clear hg
      go_wp2
      go_ret
      exact ⟨_, rfl, ⟨_, _, _, rfl⟩, hgr, fill_own (by decide) HG.out HC.out (Nat.le_refl _) (by omega)⟩
theorem laws_toVersionSS_fresh (v : Value) (xs : List (List DVersion)) (w : World) (hx : RVersionss w v xs) (hb : (totL (totL totVersion) xs) ≤ 4294967296) :
    Calls Try.prog 78 #[v] w fun e w' => ∃ v', e = .returned v' ∧ IsSl v' ∧ Fresh w.heap.size RVersionss w' v' xs ∧ Gr w w' :=
  (laws_toVersionSS_own v xs w hx hb).mono fun _ _ ⟨v, h1, h2, h3, h4⟩ => ⟨v, h1, h2, h4.fresh (fr_of fr_version) (fun h => rd_pversionss h), h3⟩
set_option maxRecDepth 100000 in
set_option maxHeartbeats 4000000 in
theorem laws_eqVersionSS_same (v v' : Value) (xs : List (List DVersion)) (w : World) (hx : RVersionss w v xs) (hx' : RVersionss w v' xs) :
    Calls Try.prog 83 #[v, v'] w fun e w' => e = .returned (.bool true) ∧ Gr w w' := by
  obtain ⟨a, cap, rfl, hl, hm, hx⟩ := hx
  obtain ⟨a', cap', rfl, hl', hm', hx'⟩ := hx'
  have hne : ((xs.length : Int) != (xs.length : Int)) = false := by simp
  go_enter Try.func83, Try.ntmps83
  go_wp2
  go_loopw [5] (fun i wr => ∃ k : Nat, k ≤ xs.length ∧ i = .int .i64 k ∧ Gr w wr) (fun i _ => xs.length - (intOf i).toNat)
  case atStart => exact ⟨0, Nat.zero_le _, rfl, Gr.refl _⟩
  case round =>
    obtain ⟨k, hk, rfl, hgr⟩ := hrel
    by_cases hlt : k < xs.length
    · obtain ⟨b, off, cs, rfl, hlen, ⟨u, rfl, hu⟩, hc⟩ := hx k hlt
      have c0 := hgr.cellv (hc 0 (by simp))
      simp only [Nat.add_zero, Nat.mul_one, List.getElem_cons_zero] at c0
      clear hc hlen
      obtain ⟨b', off', cs', rfl, hlen', ⟨u', rfl, hu'⟩, hc'⟩ := hx' k hlt
      have d0 := hgr.cellv (hc' 0 (by simp))
      simp only [Nat.add_zero, Nat.mul_one, List.getElem_cons_zero] at d0
      clear hc' hlen'
      have r0 := (RSlice.mono keeps_version hgr hu)
      have r1 := (RSlice.mono keeps_version hgr hu')
      have i0 : (0 : Int) ≤ (k : Int) := Int.natCast_nonneg _
      have i1 : (k : Int) < (xs.length : Int) := by omega
      clear hx hx'
      go_wp2
      go_region_held3 (fun w' => w'.cell? ⟨b, off + k, none⟩ = some u ∧ w'.cell? ⟨b', off' + k, none⟩ = some u' ∧ RVersions w' u xs[k] ∧ RVersions w' u' xs[k] ∧ Gr w w')
        (first | exact ⟨c0, d0, r0, r1, hgr⟩ | exact ⟨c0, d0, r0, r1, hgr.drew⟩ | (go_split_ands; exact ⟨Gr.cellv g1 (by assumption), Gr.cellv g1 (by assumption), (RSlice.mono keeps_version g1 (by assumption)), (RSlice.mono keeps_version g1 (by assumption)), Gr.trans (by assumption) g1⟩))
        ((go_at_call 125; go_split_ands; refine (laws_eqVersionS_same u u' xs[k] _ (by assumption) (by assumption)).mono ?_; rintro e w1 ⟨rfl, g1⟩))
      all_goals
        have hgr1 : Gr w w1 := hgr.drew.trans g1
        go_wp2
        go_roundw
        case rel => exact ⟨k + 1, by omega, by go_num, hgr1⟩
        case measure => simp [intOf]; omega
    · go_wp2
      go_ret
      exact ⟨rfl, hgr⟩
set_option maxRecDepth 100000 in
set_option maxHeartbeats 4000000 in
theorem laws_szStore (x : DStore) (u_segs : Value) (left : Int) (w : World) (h_segs : RVersionss w u_segs x.segs) (h0 : 0 ≤ left) (h1 : left ≤ 1048576) :
    Calls Try.prog 15 #[.agg #[u_segs, .int .i64 x.now], .int .i64 left] w fun e w' => e = .returned (.int .i64 (szV (totStore x) left)) ∧ Gr w w' := by
  unfold totStore
  obtain ⟨segs, now⟩ := x
  dsimp only at *
  have g0 : Gr w (w.alloc (.cells #[u_segs, .int .i64 now] 24)) := (Gr.refl w).alloc _
  by_cases hs0 : ((totL (totL totVersion) segs) : Int) ≤ left
  · have HZ0 := Lib.hid (szV_yes (t := (totL (totL totVersion) segs)) (left := left) (by omega))
    have HA0 := Lib.hid (show 0 ≤ left ∧ left ≤ 1048576 from by omega)
    have HF := Lib.hid (szV_yes (t := (totL (totL totVersion) segs)) (left := left) (by omega))
    go_enter Try.func15, Try.ntmps15
    go_wp2_with fail
    refine (laws_szVersionSS u_segs _ segs _ (RSlice.mono (keeps_of keeps_version) g0 h_segs) HA0.out.1 HA0.out.2).mono ?_
    rintro e w1 ⟨rfl, g1⟩
    have gw1 : Gr w w1 := g0.trans g1
    have k1_0 : w1.cell? ⟨w.heap.size, 0, none⟩ = some u_segs := g1.cellv (by simp [go_sem])
    have k1_1 : w1.cell? ⟨w.heap.size, 1, none⟩ = some (.int .i64 now) := g1.cellv (by simp [go_sem])
    rw [HZ0.out]
    go_wp2_with fail
    go_ret
    exact ⟨ret_int (by rw [HF.out]), gw1⟩
  · have HZ0 := Lib.hid (szV_no (t := (totL (totL totVersion) segs)) (left := left) (by omega))
    have HA0 := Lib.hid (show 0 ≤ left ∧ left ≤ 1048576 from by omega)
    have HF := Lib.hid (szV_no (t := (totL (totL totVersion) segs)) (left := left) (by omega))
    go_enter Try.func15, Try.ntmps15
    go_wp2_with fail
    refine (laws_szVersionSS u_segs _ segs _ (RSlice.mono (keeps_of keeps_version) g0 h_segs) HA0.out.1 HA0.out.2).mono ?_
    rintro e w1 ⟨rfl, g1⟩
    have gw1 : Gr w w1 := g0.trans g1
    have k1_0 : w1.cell? ⟨w.heap.size, 0, none⟩ = some u_segs := g1.cellv (by simp [go_sem])
    have k1_1 : w1.cell? ⟨w.heap.size, 1, none⟩ = some (.int .i64 now) := g1.cellv (by simp [go_sem])
    rw [HZ0.out]
    go_wp2_with fail
    go_ret
    exact ⟨ret_int (by rw [HF.out]), gw1⟩
set_option maxRecDepth 100000 in
set_option maxHeartbeats 4000000 in
theorem laws_toStore_own (x : DStore) (u_segs : Value) (w : World) (h_segs : RVersionss w u_segs x.segs) (hb : totStore x ≤ 4294967296) :
    Calls Try.prog 17 #[.agg #[u_segs, .int .i64 x.now]] w fun e w' => ∃ v_segs, e = .returned (.agg #[v_segs, .int .i64 x.now]) ∧ Gr w w' ∧ PVersionss (In w.heap.size w'.heap.size) w' v_segs x.segs := by
  unfold totStore at hb
  obtain ⟨segs, now⟩ := x
  dsimp only at *
  have g0 : Gr w (((w.alloc (.cells #[u_segs, .int .i64 now] 24)).alloc (.cells #[.slice none 0 0, .int .i64 0] 29)).alloc (.cells #[.slice none 0 0, .int .i64 0] 29)) := (((Gr.refl w).alloc _).alloc _).alloc _
  go_enter Try.func17, Try.ntmps17
  go_wp2_with fail
  refine (laws_toVersionSS_own u_segs segs _ (RSlice.mono (keeps_of keeps_version) g0 h_segs) (by omega)).mono ?_
  rintro e w1 ⟨v_segs, rfl, ⟨a1, n1, c1, rfl⟩, g1, r1⟩
  have gw1 : Gr w w1 := Gr.trans g0 g1
  have hz1 : w.heap.size + 1 + 1 + 1 ≤ w1.heap.size := by have := g1.size; simpa using this
  have r1 := r1.wide (lo' := w.heap.size + 1 + 1 + 1) (hi' := w1.heap.size) (by first | omega | (simp; done) | (simp; omega)) (Nat.le_refl _)
  have kb1_0 : w1.cell? ⟨w.heap.size, 0, none⟩ = some (u_segs) := g1.cellv (by simp [go_sem])
  have kb1_1 : w1.cell? ⟨w.heap.size, 1, none⟩ = some (.int .i64 now) := g1.cellv (by simp [go_sem])
  have k11_0 : w1.cell? ⟨w.heap.size + 1, 0, none⟩ = some (.slice none 0 0) := g1.cellv (by simp [go_sem])
  have fk11_0 : w1.frozen? ⟨w.heap.size + 1, 0, none⟩ = false := by rw [g1.frozen (by first | omega | (simp; done) | (simp; omega))]; simp [go_sem]
  have k11_1 : w1.cell? ⟨w.heap.size + 1, 1, none⟩ = some (.int .i64 0) := g1.cellv (by simp [go_sem])
  have fk11_1 : w1.frozen? ⟨w.heap.size + 1, 1, none⟩ = false := by rw [g1.frozen (by first | omega | (simp; done) | (simp; omega))]; simp [go_sem]
  have k21_0 : w1.cell? ⟨w.heap.size + 1 + 1, 0, none⟩ = some (.slice none 0 0) := g1.cellv (by simp [go_sem])
  have fk21_0 : w1.frozen? ⟨w.heap.size + 1 + 1, 0, none⟩ = false := by rw [g1.frozen (by first | omega | (simp; done) | (simp; omega))]; simp [go_sem]
  have k21_1 : w1.cell? ⟨w.heap.size + 1 + 1, 1, none⟩ = some (.int .i64 0) := g1.cellv (by simp [go_sem])
  have fk21_1 : w1.frozen? ⟨w.heap.size + 1 + 1, 1, none⟩ = false := by rw [g1.frozen (by first | omega | (simp; done) | (simp; omega))]; simp [go_sem]
  clear g1
  have R1 := Lib.hid r1
  clear r1
  go_wp2_with fail
  refine bodyPost_ret (v := .agg #[.slice a1 n1 c1, .int .i64 now]) (by simp [results, Try.results17, go_sem, *]) rfl ⟨_, rfl, (by repeat' (first | with_reducible assumption | with_reducible exact Gr.refl _ | with_reducible refine Gr.alloc ?_ _ | with_reducible refine Gr.setCell ?_ ?_ _ | (dsimp only; omega))), ((OSl.loc (lo' := w.heap.size + 1 + 1 + 1) (fr_of fr_version) R1.out (by repeat' (first | with_reducible exact Loc.refl _ _ | with_reducible refine Loc.setCell ?_ ?_ _ | (dsimp only; omega))) (by omega)).wide (by first | omega | (simp [World.setCell]; done) | (simp [World.setCell]; omega)) (by first | omega | (simp [World.setCell]; done) | (simp [World.setCell]; omega)))⟩
theorem laws_toStore_gr (x : DStore) (u_segs : Value) (w : World) (h_segs : RVersionss w u_segs x.segs) (hb : totStore x ≤ 4294967296) :
    Calls Try.prog 17 #[.agg #[u_segs, .int .i64 x.now]] w fun e w' => ∃ v_segs, e = .returned (.agg #[v_segs, .int .i64 x.now]) ∧ IsSl v_segs ∧ Fresh w.heap.size RVersionss w' v_segs x.segs ∧ Gr w w' := (laws_toStore_own x u_segs w h_segs hb).mono fun _ _ ⟨v, h1, h2, h3⟩ => ⟨v, h1, h3.isSl, h3.fresh (fr_of fr_version) (fun h => rd_pversionss h), h2⟩
set_option maxRecDepth 100000 in
set_option maxHeartbeats 4000000 in
theorem laws_eqStore (x : DStore) (u_segs : Value) (t_segs : Value) (w : World) (h_segs : RVersionss w u_segs x.segs) (k_segs : RVersionss w t_segs x.segs) :
    Calls Try.prog 19 #[.agg #[u_segs, .int .i64 x.now], .agg #[t_segs, .int .i64 x.now]] w fun e w' => e = .returned (.bool true) ∧ Gr w w' := by
  obtain ⟨segs, now⟩ := x
  dsimp only at *
  have g0 : Gr w ((w.alloc (.cells #[u_segs, .int .i64 now] 29)).alloc (.cells #[t_segs, .int .i64 now] 29)) := ((Gr.refl w).alloc _).alloc _
  have e_now : (now != now) = false := by simp
  go_enter Try.func19, Try.ntmps19
  go_wp2_with fail
  refine (laws_eqVersionSS_same u_segs t_segs _ _ (RSlice.mono (keeps_of keeps_version) g0 h_segs) (RSlice.mono (keeps_of keeps_version) g0 k_segs)).mono ?_
  rintro e w1 ⟨rfl, g1⟩
  have gw1 : Gr w w1 := g0.trans g1
  have k1_0 : w1.cell? ⟨w.heap.size, 0, none⟩ = some u_segs := g1.cellv (by simp [go_sem])
  have l1_0 : w1.cell? ⟨w.heap.size + 1, 0, none⟩ = some t_segs := g1.cellv (by simp [go_sem])
  have k1_1 : w1.cell? ⟨w.heap.size, 1, none⟩ = some (.int .i64 now) := g1.cellv (by simp [go_sem])
  have l1_1 : w1.cell? ⟨w.heap.size + 1, 1, none⟩ = some (.int .i64 now) := g1.cellv (by simp [go_sem])
  go_wp2_with fail
  go_ret
  exact ⟨rfl, gw1⟩
end Go.Proofs.Ytnnapjaggahjgaa
