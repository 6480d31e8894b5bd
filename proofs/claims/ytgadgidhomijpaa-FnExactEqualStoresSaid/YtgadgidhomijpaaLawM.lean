/- EqualStores: the walks of the two stores. -/
import Derived.Test.YtgadgidhomijpaaLawL
namespace Go.Proofs.Ytgadgidhomijpaa
open Go.RowKit
set_option maxRecDepth 100000 in
set_option maxHeartbeats 4000000 in
theorem spec_EqualStores (x : DStore) (s : Value) (y : DStore) (s' : Value) (w : World) (hx : RVersionss w s x.segs) (hy : RVersionss w s' y.segs) : Calls Try.prog 55 #[.agg #[s, .int .i64 x.now], .agg #[s', .int .i64 y.now]] w fun e w' => e = .returned (.bool (eqStoreB x y)) ∧ Gr w w' := by
  obtain ⟨xs, n⟩ := x
  obtain ⟨ys, m⟩ := y
  dsimp only at *
  obtain ⟨a, cap, rfl, hl, hm, hx⟩ := hx
  obtain ⟨a', cap', rfl, hl', hm', hx'⟩ := hy
  have g0 : Gr w ((w.alloc (.cells #[.slice a xs.length cap, .int .i64 n] 62)).alloc (.cells #[.slice a' ys.length cap', .int .i64 m] 62)) := ((Gr.refl w).alloc _).alloc _
  by_cases hn : xs.length = ys.length
  · have hd : ((xs.length : Int) != (ys.length : Int)) = false := by simp; omega
    have HN := Lib.hid hn
    have hle : xs.length ≤ ys.length := by omega
    clear hn
    by_cases ht : n = m
    · have hd2 : (n != m) = false := by simp [ht]
      have HT := Lib.hid ht
      clear ht
      go_enter Try.func55, Try.ntmps55
      go_wp2
      go_loopw [5] (fun i wr => ∃ k : Nat, k ≤ xs.length ∧ i = .int .i64 k ∧ Hid (∀ j, j < k → segAt xs ys j = true) ∧ Gr w wr ∧ wr.cell? ⟨w.heap.size, 0, none⟩ = some (.slice a xs.length cap) ∧ wr.cell? ⟨w.heap.size + 1, 0, none⟩ = some (.slice a' ys.length cap')) (fun i _ => xs.length - (intOf i).toNat)
      case atStart => exact ⟨0, Nat.zero_le _, rfl, Lib.hid (fun _ h => absurd h (Nat.not_lt_zero _)), g0, by simp [go_sem], by simp [go_sem]⟩
      case round =>
        obtain ⟨k, hk, rfl, hall, hgr, k0, k1⟩ := hrel
        by_cases hlt : k < xs.length
        · have hlt' : k < ys.length := by omega
          obtain ⟨b, off, cs, rfl, hlen, ⟨u, rfl, hu⟩, hc⟩ := hx k hlt
          have c0 := hgr.cellv (hc 0 (by simp))
          simp only [Nat.add_zero, Nat.mul_one, List.getElem_cons_zero] at c0
          clear hc hlen
          obtain ⟨b', off', cs', rfl, hlen', ⟨u', rfl, hu'⟩, hc'⟩ := hx' k hlt'
          have d0 := hgr.cellv (hc' 0 (by simp))
          simp only [Nat.add_zero, Nat.mul_one, List.getElem_cons_zero] at d0
          clear hc' hlen'
          have i0 : (0 : Int) ≤ (k : Int) := Int.natCast_nonneg _
          have i1 : (k : Int) < (xs.length : Int) := by omega
          have i2 : (k : Int) < (ys.length : Int) := by omega
          have q0 := fun q : Ext wr => Ext.cell c0 q
          have q1 := fun q : Ext wr => Ext.cell d0 q
          have q2 := fun q : Ext wr => Ext.cell k0 q
          have q3 := fun q : Ext wr => Ext.cell k1 q
          cases hr : eqSegB xs[k] ys[k] with
          | false =>
            have HR := Lib.hid hr
            clear hr
            go_wp2
            refine wp_region_ext (by kernel_rfl) (by kernel_rfl) ?_
            repeat (go_big_quiet_step ((go_at_call 95; exact quiet_ext (calls_of (spec_l7Same u xs[k] u' ys[k] _ (RSlice.mono keeps_version (hgr.trans (Ext.gr _)) hu) (RSlice.mono keeps_version (hgr.trans (Ext.gr _)) hu')) HR.out))))
            refine wpQuiet_nil ?_
            intro w1 hw1
            have g1 := Ext.out hw1
            clear hw1 q0 q1 q2 q3
            go_wp2
            go_ret
            exact ⟨ret_bool (eqStoreB_no hlt hlt' HR.out).symm, hgr.trans g1⟩
          | true =>
            have HR := Lib.hid hr
            clear hr
            go_wp2
            refine wp_region_ext (by kernel_rfl) (by kernel_rfl) ?_
            repeat (go_big_quiet_step ((go_at_call 95; exact quiet_ext (calls_of (spec_l7Same u xs[k] u' ys[k] _ (RSlice.mono keeps_version (hgr.trans (Ext.gr _)) hu) (RSlice.mono keeps_version (hgr.trans (Ext.gr _)) hu')) HR.out))))
            refine wpQuiet_nil ?_
            intro w1 hw1
            have g1 := Ext.out hw1
            clear hw1 q0 q1 q2 q3
            have hgr1 := hgr.trans g1
            go_wp2
            go_roundw
            case rel => exact ⟨k + 1, by omega, by go_num, Lib.hid (below_succ hall.out (by rw [segAt_eq hlt hlt']; exact HR.out)), hgr1, g1.cellv k0, g1.cellv k1⟩
            case measure => simp [intOf]; omega
        · go_wp2
          go_ret
          exact ⟨ret_bool (eqStoreB_yes HN.out HT.out (fun j hj => hall.out j (by omega))).symm, hgr⟩
    · have hd2 : (n != m) = true := by simp [ht]
      have HT := Lib.hid ht
      clear ht
      go_enter Try.func55, Try.ntmps55
      go_wp2
      go_ret
      exact ⟨ret_bool (eqStoreB_now HT.out).symm, g0⟩
  · have hd : ((xs.length : Int) != (ys.length : Int)) = true := by simp; omega
    have HN := Lib.hid hn
    clear hn
    go_enter Try.func55, Try.ntmps55
    go_wp2
    go_ret
    exact ⟨ret_bool (eqStoreB_len HN.out).symm, g0⟩
end Go.Proofs.Ytgadgidhomijpaa
