/- EqualStores: the program's walk and the law. -/
import Derived.Test.YtgadgidhomijpaaLawM
namespace Go.Proofs.Ytgadgidhomijpaa
open Go.RowKit
set_option maxRecDepth 100000 in
set_option maxHeartbeats 8000000 in
theorem impl_EqualStores (x : DStore) (s : Value) (y : DStore) (s' : Value) (w : World) (hx : RVersionss w s x.segs) (hy : RVersionss w s' y.segs) : Calls Try.prog 56 #[.agg #[s, .int .i64 x.now], .agg #[s', .int .i64 y.now]] w fun e w' => e = .returned (.bool (eqStoreB x y)) ∧ Gr w w' := by
  obtain ⟨xs, n⟩ := x
  obtain ⟨ys, m⟩ := y
  dsimp only at *
  obtain ⟨a, cap, rfl, hl, hm, hx⟩ := hx
  obtain ⟨a', cap', rfl, hl', hm', hx'⟩ := hy
  have g0 : Gr w ((w.alloc (.cells #[.slice a xs.length cap, .int .i64 n] 62)).alloc (.cells #[.slice a' ys.length cap', .int .i64 m] 62)) := ((Gr.refl w).alloc _).alloc _
  by_cases hn : xs.length = ys.length
  · have hd : ((xs.length : Int) != (ys.length : Int)) = false := by simp; omega
    have HN := Lib.hid hn
    have hle : xs.length ≤ ys.length := by omega
    clear hn
    by_cases ht : n = m
    · have hd2 : (n != m) = false := by simp [ht]
      have HT := Lib.hid ht
      clear ht
      go_enter Try.func56, Try.ntmps56
      go_wp2
      go_loopw [26] (fun i wr => ∃ k : Nat, k ≤ xs.length ∧ i = .int .i64 k ∧ Hid (∀ j, j < k → segAt xs ys j = true) ∧ Gr w wr ∧ wr.cell? ⟨w.heap.size, 0, none⟩ = some (.slice a xs.length cap) ∧ wr.cell? ⟨w.heap.size + 1, 0, none⟩ = some (.slice a' ys.length cap')) (fun i _ => xs.length - (intOf i).toNat)
      case atStart => exact ⟨0, Nat.zero_le _, rfl, Lib.hid (fun _ h => absurd h (Nat.not_lt_zero _)), g0, by simp [go_sem], by simp [go_sem]⟩
      case round =>
        obtain ⟨k, hk, rfl, hall, hgr, k0, k1⟩ := hrel
        by_cases hlt : k < xs.length
        · have hlt' : k < ys.length := by omega
          obtain ⟨b, off, cs, rfl, hlen, ⟨u, rfl, hu⟩, hc⟩ := hx k hlt
          have c0 := hgr.cellv (hc 0 (by simp))
          simp only [Nat.add_zero, Nat.mul_one, List.getElem_cons_zero] at c0
          clear hc hlen
          obtain ⟨b', off', cs', rfl, hlen', ⟨u', rfl, hu'⟩, hc'⟩ := hx' k hlt'
          have d0 := hgr.cellv (hc' 0 (by simp))
          simp only [Nat.add_zero, Nat.mul_one, List.getElem_cons_zero] at d0
          clear hc' hlen'
          have o0 := c0
          have o1 := d0
          clear c0 d0 hx hx'
          obtain ⟨ea, ec, rfl, hl3, hm3, hx3⟩ := hu
          obtain ⟨ea', ec', rfl, hl4, hm4, hx4⟩ := hu'
          have i0 : (0 : Int) ≤ (k : Int) := Int.natCast_nonneg _
          have i1 : (k : Int) < (xs.length : Int) := by omega
          have i2 : (k : Int) < (ys.length : Int) := by omega
          by_cases hs : xs[k].length = ys[k].length
          · have hd3 : ((xs[k].length : Int) != (ys[k].length : Int)) = false := by simp; omega
            have HS := Lib.hid hs
            have hse : xs[k].length ≤ ys[k].length := by omega
            clear hs
            go_wp2
            go_loopw [42] (fun i ws => ∃ j : Nat, j ≤ xs[k].length ∧ i = .int .i64 j ∧ Hid (∀ i, i < j → verAt xs[k] ys[k] i = true) ∧ Gr w ws ∧ ws.cell? ⟨w.heap.size, 0, none⟩ = some (.slice (some ⟨b, off, none⟩) xs.length cap) ∧ ws.cell? ⟨w.heap.size + 1, 0, none⟩ = some (.slice (some ⟨b', off', none⟩) ys.length cap') ∧ ws.cell? ⟨b', off' + k, none⟩ = some (.slice ea' ys[k].length ec')) (fun i _ => xs[k].length - (intOf i).toNat)
            case atStart => exact ⟨0, Nat.zero_le _, rfl, Lib.hid (fun _ h => absurd h (Nat.not_lt_zero _)), hgr, k0, k1, o1⟩
            case round =>
              clear k0 k1 o0 o1
              obtain ⟨j, hjk, rfl, hin, hgs, k0, k1, o1⟩ := hrel
              by_cases hj : j < xs[k].length
              · have hj' : j < ys[k].length := by omega
                obtain ⟨b3, off3, cs3, rfl, hlen3, ⟨u_vals3, rfl, i_id3, h_vals3, i_born3, i_died3⟩, hc3⟩ := hx3 j hj
                have c0 := hgs.cellv (hc3 0 (by simp))
                have c1 := hgs.cellv (hc3 1 (by simp))
                have c2 := hgs.cellv (hc3 2 (by simp))
                have c3 := hgs.cellv (hc3 3 (by simp))
                simp only [Nat.add_zero, List.getElem_cons_zero, List.getElem_cons_succ] at c0 c1 c2 c3
                clear hc3 hlen3
                obtain ⟨b4, off4, cs4, rfl, hlen4, ⟨u_vals4, rfl, i_id4, h_vals4, i_born4, i_died4⟩, hc4⟩ := hx4 j hj'
                have d0 := hgs.cellv (hc4 0 (by simp))
                have d1 := hgs.cellv (hc4 1 (by simp))
                have d2 := hgs.cellv (hc4 2 (by simp))
                have d3 := hgs.cellv (hc4 3 (by simp))
                simp only [Nat.add_zero, List.getElem_cons_zero, List.getElem_cons_succ] at d0 d1 d2 d3
                clear hc4 hlen4
                obtain ⟨ua, un, uc, rfl⟩ := RSlice.isSl h_vals3
                have j0 : (0 : Int) ≤ (j : Int) := Int.natCast_nonneg _
                have j1 : (j : Int) < (xs[k].length : Int) := by omega
                have j2 : (j : Int) < (ys[k].length : Int) := by omega
                have gWW : Gr wr (wr.alloc (.cells #[.int .i64 xs[k][j].id, .slice ua un uc, .int .i64 xs[k][j].born, .int .i64 xs[k][j].died] 108)) := (Gr.refl wr).alloc _
                have hgW := hgs.trans gWW
                have q0 : ∀ q : Ext (wr.alloc (.cells #[.int .i64 xs[k][j].id, .slice ua un uc, .int .i64 xs[k][j].born, .int .i64 xs[k][j].died] 108)), q.val.cell? ⟨wr.heap.size, 0, none⟩ = some (.int .i64 xs[k][j].id) := fun q => Ext.cell (by simp [go_sem]) q
                have q1 : ∀ q : Ext (wr.alloc (.cells #[.int .i64 xs[k][j].id, .slice ua un uc, .int .i64 xs[k][j].born, .int .i64 xs[k][j].died] 108)), q.val.cell? ⟨wr.heap.size, 1, none⟩ = some (.slice ua un uc) := fun q => Ext.cell (by simp [go_sem]) q
                have q2 : ∀ q : Ext (wr.alloc (.cells #[.int .i64 xs[k][j].id, .slice ua un uc, .int .i64 xs[k][j].born, .int .i64 xs[k][j].died] 108)), q.val.cell? ⟨wr.heap.size, 2, none⟩ = some (.int .i64 xs[k][j].born) := fun q => Ext.cell (by simp [go_sem]) q
                have q3 : ∀ q : Ext (wr.alloc (.cells #[.int .i64 xs[k][j].id, .slice ua un uc, .int .i64 xs[k][j].born, .int .i64 xs[k][j].died] 108)), q.val.cell? ⟨wr.heap.size, 3, none⟩ = some (.int .i64 xs[k][j].died) := fun q => Ext.cell (by simp [go_sem]) q
                have p0 := fun q : Ext (wr.alloc (.cells #[.int .i64 xs[k][j].id, .slice ua un uc, .int .i64 xs[k][j].born, .int .i64 xs[k][j].died] 108)) => Ext.cell (gWW.cellv d0) q
                have p1 := fun q : Ext (wr.alloc (.cells #[.int .i64 xs[k][j].id, .slice ua un uc, .int .i64 xs[k][j].born, .int .i64 xs[k][j].died] 108)) => Ext.cell (gWW.cellv d1) q
                have p2 := fun q : Ext (wr.alloc (.cells #[.int .i64 xs[k][j].id, .slice ua un uc, .int .i64 xs[k][j].born, .int .i64 xs[k][j].died] 108)) => Ext.cell (gWW.cellv d2) q
                have p3 := fun q : Ext (wr.alloc (.cells #[.int .i64 xs[k][j].id, .slice ua un uc, .int .i64 xs[k][j].born, .int .i64 xs[k][j].died] 108)) => Ext.cell (gWW.cellv d3) q
                have p4 := fun q : Ext (wr.alloc (.cells #[.int .i64 xs[k][j].id, .slice ua un uc, .int .i64 xs[k][j].born, .int .i64 xs[k][j].died] 108)) => Ext.cell (gWW.cellv k1) q
                have p5 := fun q : Ext (wr.alloc (.cells #[.int .i64 xs[k][j].id, .slice ua un uc, .int .i64 xs[k][j].born, .int .i64 xs[k][j].died] 108)) => Ext.cell (gWW.cellv o1) q
                cases hr : eqVerB xs[k][j] ys[k][j] with
                | false =>
                  have HR := Lib.hid hr
                  clear hr
                  go_wp2
                  refine wp_region_ext (by kernel_rfl) (by kernel_rfl) ?_
                  repeat (go_big_quiet_step ((go_at_call 96; exact quiet_ext (calls_of (impl_equalVersion xs[k][j] ys[k][j] _ u_vals4 _ (RSlice.mono keeps_int (hgW.trans (Ext.gr _)) h_vals3) (RSlice.mono keeps_int (hgW.trans (Ext.gr _)) h_vals4)) HR.out))))
                  refine wpQuiet_nil ?_
                  intro w1 hw1
                  have g1 := Ext.out hw1
                  clear hw1 q0 q1 q2 q3 p0 p1 p2 p3 p4 p5
                  have hgr1 := hgW.trans g1
                  have gg := gWW.trans g1
                  go_wp2
                  go_ret
                  exact ⟨ret_bool (eqStoreB_no hlt hlt' (eqSegB_no hj hj' HR.out)).symm, hgr1⟩
                | true =>
                  have HR := Lib.hid hr
                  clear hr
                  go_wp2
                  refine wp_region_ext (by kernel_rfl) (by kernel_rfl) ?_
                  repeat (go_big_quiet_step ((go_at_call 96; exact quiet_ext (calls_of (impl_equalVersion xs[k][j] ys[k][j] _ u_vals4 _ (RSlice.mono keeps_int (hgW.trans (Ext.gr _)) h_vals3) (RSlice.mono keeps_int (hgW.trans (Ext.gr _)) h_vals4)) HR.out))))
                  refine wpQuiet_nil ?_
                  intro w1 hw1
                  have g1 := Ext.out hw1
                  clear hw1 q0 q1 q2 q3 p0 p1 p2 p3 p4 p5
                  have hgr1 := hgW.trans g1
                  have gg := gWW.trans g1
                  go_wp2
                  go_roundw
                  case rel => exact ⟨j + 1, by omega, by go_num, Lib.hid (below_succ hin.out (by rw [verAt_eq hj hj']; exact HR.out)), hgr1, gg.cellv k0, gg.cellv k1, gg.cellv o1⟩
                  case measure => simp [intOf]; omega
              · have HE : Hid (segAt xs ys k = true) := Lib.hid (by rw [segAt_eq hlt hlt']; exact eqSegB_yes HS.out (fun i hi => hin.out i (by omega)))
                clear hin
                go_wp2
                go_roundw
                case rel => exact ⟨k + 1, by omega, by go_num, Lib.hid (below_succ hall.out HE.out), hgs, k0, k1⟩
                case measure => simp [intOf]; omega
          · have hd3 : ((xs[k].length : Int) != (ys[k].length : Int)) = true := by simp; omega
            have HS := Lib.hid hs
            clear hs
            go_wp2
            go_ret
            exact ⟨ret_bool (eqStoreB_no hlt hlt' (eqSegB_len HS.out)).symm, hgr⟩
        · go_wp2
          go_ret
          exact ⟨ret_bool (eqStoreB_yes HN.out HT.out (fun j hj => hall.out j (by omega))).symm, hgr⟩
    · have hd2 : (n != m) = true := by simp [ht]
      have HT := Lib.hid ht
      clear ht
      go_enter Try.func56, Try.ntmps56
      go_wp2
      go_ret
      exact ⟨ret_bool (eqStoreB_now HT.out).symm, g0⟩
  · have hd : ((xs.length : Int) != (ys.length : Int)) = true := by simp; omega
    have HN := Lib.hid hn
    clear hn
    go_enter Try.func56, Try.ntmps56
    go_wp2
    go_ret
    exact ⟨ret_bool (eqStoreB_len HN.out).symm, g0⟩
end Go.Proofs.Ytgadgidhomijpaa
