/- EqualStores: the walks. Written by gen_stores.py. -/
import Derived.Test.YtgadgidhomijpaaLawF
import Derived.Test.YtgadgidhomijpaaGenStore
import Derived.Test.YtgadgidhomijpaaExt
namespace Go.Proofs.Ytgadgidhomijpaa
open Go.RowKit
def eqVerB (x y : DVersion) : Bool := x.id == y.id && (x.born == y.born && (x.died == y.died && eqL x.vals y.vals))
def verAt (xs ys : List DVersion) (j : Nat) : Bool := eqVerB (xs.getD j ⟨0, [], 0, 0⟩) (ys.getD j ⟨0, [], 0, 0⟩)
def eqSegB (xs ys : List DVersion) : Bool := decide (xs.length = ys.length) && allB xs.length (verAt xs ys)
theorem verAt_eq {xs ys : List DVersion} {k : Nat} (h : k < xs.length) (h' : k < ys.length) : verAt xs ys k = eqVerB xs[k] ys[k] := by unfold verAt; rw [getD_lt h, getD_lt h']
theorem eqSegB_no {xs ys : List DVersion} {k : Nat} (h : k < xs.length) (h' : k < ys.length) (he : eqVerB xs[k] ys[k] = false) : eqSegB xs ys = false := by
  unfold eqSegB; rw [allB_false (p := verAt xs ys) k h (by rw [verAt_eq h h']; exact he)]; simp
theorem eqSegB_yes {xs ys : List DVersion} (hl : xs.length = ys.length) (h : ∀ j, j < xs.length → verAt xs ys j = true) : eqSegB xs ys = true := by
  unfold eqSegB; rw [allB_true h]; simp [hl]
theorem eqSegB_len {xs ys : List DVersion} (hl : ¬ xs.length = ys.length) : eqSegB xs ys = false := by unfold eqSegB; simp [hl]
def segAt (xs ys : List (List DVersion)) (j : Nat) : Bool := eqSegB (xs.getD j []) (ys.getD j [])
def eqStoreB (a b : DStore) : Bool := decide (a.segs.length = b.segs.length) && (a.now == b.now && allB a.segs.length (segAt a.segs b.segs))
theorem segAt_eq {xs ys : List (List DVersion)} {k : Nat} (h : k < xs.length) (h' : k < ys.length) : segAt xs ys k = eqSegB xs[k] ys[k] := by unfold segAt; rw [getD_lt h, getD_lt h']
theorem eqStoreB_no {xs ys : List (List DVersion)} {n m : Int} {k : Nat} (h : k < xs.length) (h' : k < ys.length) (he : eqSegB xs[k] ys[k] = false) : eqStoreB ⟨xs, n⟩ ⟨ys, m⟩ = false := by
  unfold eqStoreB; rw [allB_false (p := segAt xs ys) k h (by rw [segAt_eq h h']; exact he)]; simp
theorem eqStoreB_yes {xs ys : List (List DVersion)} {n m : Int} (hl : xs.length = ys.length) (hn : n = m) (h : ∀ j, j < xs.length → segAt xs ys j = true) : eqStoreB ⟨xs, n⟩ ⟨ys, m⟩ = true := by
  unfold eqStoreB; rw [allB_true h]; simp [hl, hn]
theorem eqStoreB_len {xs ys : List (List DVersion)} {n m : Int} (hl : ¬ xs.length = ys.length) : eqStoreB ⟨xs, n⟩ ⟨ys, m⟩ = false := by unfold eqStoreB; simp [hl]
theorem eqStoreB_now {xs ys : List (List DVersion)} {n m : Int} (hn : ¬ n = m) : eqStoreB ⟨xs, n⟩ ⟨ys, m⟩ = false := by unfold eqStoreB; simp [hn]
theorem calls_of {P : Program} {f : FuncId} {args : Array Value} {w : World} {c b : Bool} (h : Calls P f args w fun e w' => e = .returned (.bool c) ∧ Gr w w') (hb : c = b) :
    Calls P f args w fun e w' => e = .returned (.bool b) ∧ Gr w w' := hb ▸ h
set_option maxRecDepth 100000 in
set_option maxHeartbeats 4000000 in
theorem spec_l7Same (v : Value) (xs : List DVersion) (v' : Value) (ys : List DVersion) (w : World) (hx : RVersions w v xs) (hy : RVersions w v' ys) : Calls Try.prog 95 #[v, v'] w fun e w' => e = .returned (.bool (eqSegB xs ys)) ∧ Gr w w' := by
  obtain ⟨a, cap, rfl, hl, hm, hx⟩ := hx
  obtain ⟨a', cap', rfl, hl', hm', hx'⟩ := hy
  by_cases hn : xs.length = ys.length
  · have hd : ((xs.length : Int) != (ys.length : Int)) = false := by simp; omega
    have HN := Lib.hid hn
    have hle : xs.length ≤ ys.length := by omega
    clear hn
    go_enter Try.func95, Try.ntmps95
    go_wp2
    go_loopw [5] (fun i wr => ∃ k : Nat, k ≤ xs.length ∧ i = .int .i64 k ∧ Hid (∀ j, j < k → verAt xs ys j = true) ∧ Gr w wr) (fun i _ => xs.length - (intOf i).toNat)
    case atStart => exact ⟨0, Nat.zero_le _, rfl, Lib.hid (fun _ h => absurd h (Nat.not_lt_zero _)), Gr.refl _⟩
    case round =>
      obtain ⟨k, hk, rfl, hall, hgr⟩ := hrel
      by_cases hlt : k < xs.length
      · have hlt' : k < ys.length := by omega
        obtain ⟨b, off, cs, rfl, hlen, ⟨u_vals, rfl, i_id, h_vals, i_born, i_died⟩, hc⟩ := hx k hlt
        have c0 := hgr.cellv (hc 0 (by simp))
        have c1 := hgr.cellv (hc 1 (by simp))
        have c2 := hgr.cellv (hc 2 (by simp))
        have c3 := hgr.cellv (hc 3 (by simp))
        simp only [Nat.add_zero, List.getElem_cons_zero, List.getElem_cons_succ] at c0 c1 c2 c3
        clear hc hlen
        obtain ⟨b', off', cs', rfl, hlen', ⟨u_vals', rfl, i_id', h_vals', i_born', i_died'⟩, hc'⟩ := hx' k hlt'
        have d0 := hgr.cellv (hc' 0 (by simp))
        have d1 := hgr.cellv (hc' 1 (by simp))
        have d2 := hgr.cellv (hc' 2 (by simp))
        have d3 := hgr.cellv (hc' 3 (by simp))
        simp only [Nat.add_zero, List.getElem_cons_zero, List.getElem_cons_succ] at d0 d1 d2 d3
        clear hc' hlen'
        have i0 : (0 : Int) ≤ (k : Int) := Int.natCast_nonneg _
        have i1 : (k : Int) < (xs.length : Int) := by omega
        have i2 : (k : Int) < (ys.length : Int) := by omega
        by_cases h_id : xs[k].id = ys[k].id
        · by_cases h_born : xs[k].born = ys[k].born
          · by_cases h_died : xs[k].died = ys[k].died
            · cases h3 : eqL xs[k].vals ys[k].vals with
              | false =>
                have n_id : (xs[k].id != ys[k].id) = false := by simp [*]
                have n_born : (xs[k].born != ys[k].born) = false := by simp [*]
                have n_died : (xs[k].died != ys[k].died) = false := by simp [*]
                have H3 := Lib.hid h3
                have HE : Hid (eqVerB xs[k] ys[k] = false) := Lib.hid (by simp [eqVerB, *])
                have q0 := fun q : Ext wr => Ext.cell c0 q
                have q1 := fun q : Ext wr => Ext.cell c1 q
                have q2 := fun q : Ext wr => Ext.cell c2 q
                have q3 := fun q : Ext wr => Ext.cell c3 q
                have p0 := fun q : Ext wr => Ext.cell d0 q
                have p1 := fun q : Ext wr => Ext.cell d1 q
                have p2 := fun q : Ext wr => Ext.cell d2 q
                have p3 := fun q : Ext wr => Ext.cell d3 q
                clear h3 h_id h_born h_died
                go_wp2
                refine wp_region_ext (by kernel_rfl) (by kernel_rfl) ?_
                repeat (go_big_quiet_step ((go_at_call 73; exact quiet_ext (calls_of (spec_l2Ints u_vals u_vals' xs[k].vals ys[k].vals _ (RSlice.mono keeps_int (hgr.trans (Ext.gr _)) h_vals) (RSlice.mono keeps_int (hgr.trans (Ext.gr _)) h_vals')) H3.out))))
                refine wpQuiet_nil ?_
                intro w1 hw1
                have g1 := Ext.out hw1
                clear hw1 q0 q1 q2 q3 p0 p1 p2 p3
                have hgr1 : Gr w w1 := hgr.trans g1
                go_wp2
                go_ret
                exact ⟨ret_bool (eqSegB_no hlt hlt' HE.out).symm, hgr1⟩
              | true =>
                have n_id : (xs[k].id != ys[k].id) = false := by simp [*]
                have n_born : (xs[k].born != ys[k].born) = false := by simp [*]
                have n_died : (xs[k].died != ys[k].died) = false := by simp [*]
                have H3 := Lib.hid h3
                have HE : Hid (eqVerB xs[k] ys[k] = true) := Lib.hid (by simp [eqVerB, *])
                have q0 := fun q : Ext wr => Ext.cell c0 q
                have q1 := fun q : Ext wr => Ext.cell c1 q
                have q2 := fun q : Ext wr => Ext.cell c2 q
                have q3 := fun q : Ext wr => Ext.cell c3 q
                have p0 := fun q : Ext wr => Ext.cell d0 q
                have p1 := fun q : Ext wr => Ext.cell d1 q
                have p2 := fun q : Ext wr => Ext.cell d2 q
                have p3 := fun q : Ext wr => Ext.cell d3 q
                clear h3 h_id h_born h_died
                go_wp2
                refine wp_region_ext (by kernel_rfl) (by kernel_rfl) ?_
                repeat (go_big_quiet_step ((go_at_call 73; exact quiet_ext (calls_of (spec_l2Ints u_vals u_vals' xs[k].vals ys[k].vals _ (RSlice.mono keeps_int (hgr.trans (Ext.gr _)) h_vals) (RSlice.mono keeps_int (hgr.trans (Ext.gr _)) h_vals')) H3.out))))
                refine wpQuiet_nil ?_
                intro w1 hw1
                have g1 := Ext.out hw1
                clear hw1 q0 q1 q2 q3 p0 p1 p2 p3
                have hgr1 : Gr w w1 := hgr.trans g1
                go_wp2
                go_roundw
                case rel => exact ⟨k + 1, by omega, by go_num, Lib.hid (below_succ hall.out (by rw [verAt_eq hlt hlt']; exact HE.out)), hgr1⟩
                case measure => simp [intOf]; omega
            · have n_id : (xs[k].id != ys[k].id) = false := by simp [*]
              have n_born : (xs[k].born != ys[k].born) = false := by simp [*]
              have n_died : (xs[k].died != ys[k].died) = true := by simp [*]
              have HE : Hid (eqVerB xs[k] ys[k] = false) := Lib.hid (by simp [eqVerB, *])
              have q0 := fun q : Ext wr => Ext.cell c0 q
              have q1 := fun q : Ext wr => Ext.cell c1 q
              have q2 := fun q : Ext wr => Ext.cell c2 q
              have q3 := fun q : Ext wr => Ext.cell c3 q
              have p0 := fun q : Ext wr => Ext.cell d0 q
              have p1 := fun q : Ext wr => Ext.cell d1 q
              have p2 := fun q : Ext wr => Ext.cell d2 q
              have p3 := fun q : Ext wr => Ext.cell d3 q
              clear h_id h_born h_died
              go_wp2
              refine wp_region_ext (by kernel_rfl) (by kernel_rfl) ?_
              repeat (go_big_quiet_step (fail))
              refine wpQuiet_nil ?_
              intro w1 hw1
              have g1 := Ext.out hw1
              clear hw1 q0 q1 q2 q3 p0 p1 p2 p3
              have hgr1 : Gr w w1 := hgr.trans g1
              go_wp2
              go_ret
              exact ⟨ret_bool (eqSegB_no hlt hlt' HE.out).symm, hgr1⟩
          · have n_id : (xs[k].id != ys[k].id) = false := by simp [*]
            have n_born : (xs[k].born != ys[k].born) = true := by simp [*]
            have HE : Hid (eqVerB xs[k] ys[k] = false) := Lib.hid (by simp [eqVerB, *])
            have q0 := fun q : Ext wr => Ext.cell c0 q
            have q1 := fun q : Ext wr => Ext.cell c1 q
            have q2 := fun q : Ext wr => Ext.cell c2 q
            have q3 := fun q : Ext wr => Ext.cell c3 q
            have p0 := fun q : Ext wr => Ext.cell d0 q
            have p1 := fun q : Ext wr => Ext.cell d1 q
            have p2 := fun q : Ext wr => Ext.cell d2 q
            have p3 := fun q : Ext wr => Ext.cell d3 q
            clear h_id h_born
            go_wp2
            refine wp_region_ext (by kernel_rfl) (by kernel_rfl) ?_
            repeat (go_big_quiet_step (fail))
            refine wpQuiet_nil ?_
            intro w1 hw1
            have g1 := Ext.out hw1
            clear hw1 q0 q1 q2 q3 p0 p1 p2 p3
            have hgr1 : Gr w w1 := hgr.trans g1
            go_wp2
            go_ret
            exact ⟨ret_bool (eqSegB_no hlt hlt' HE.out).symm, hgr1⟩
        · have n_id : (xs[k].id != ys[k].id) = true := by simp [*]
          have HE : Hid (eqVerB xs[k] ys[k] = false) := Lib.hid (by simp [eqVerB, *])
          have q0 := fun q : Ext wr => Ext.cell c0 q
          have q1 := fun q : Ext wr => Ext.cell c1 q
          have q2 := fun q : Ext wr => Ext.cell c2 q
          have q3 := fun q : Ext wr => Ext.cell c3 q
          have p0 := fun q : Ext wr => Ext.cell d0 q
          have p1 := fun q : Ext wr => Ext.cell d1 q
          have p2 := fun q : Ext wr => Ext.cell d2 q
          have p3 := fun q : Ext wr => Ext.cell d3 q
          clear h_id
          go_wp2
          refine wp_region_ext (by kernel_rfl) (by kernel_rfl) ?_
          repeat (go_big_quiet_step (fail))
          refine wpQuiet_nil ?_
          intro w1 hw1
          have g1 := Ext.out hw1
          clear hw1 q0 q1 q2 q3 p0 p1 p2 p3
          have hgr1 : Gr w w1 := hgr.trans g1
          go_wp2
          go_ret
          exact ⟨ret_bool (eqSegB_no hlt hlt' HE.out).symm, hgr1⟩
      · go_wp2
        go_ret
        exact ⟨ret_bool (eqSegB_yes HN.out (fun j hj => hall.out j (by omega))).symm, hgr⟩
  · have hd : ((xs.length : Int) != (ys.length : Int)) = true := by simp; omega
    have HN := Lib.hid hn
    clear hn
    go_enter Try.func95, Try.ntmps95
    go_wp2
    go_ret
    exact ⟨ret_bool (eqSegB_len HN.out).symm, Gr.refl _⟩
set_option maxRecDepth 100000 in
set_option maxHeartbeats 4000000 in
theorem impl_equalVersion (x y : DVersion) (u v : Value) (w : World) (hx : RInts w u x.vals) (hy : RInts w v y.vals) : Calls Try.prog 96 #[.agg #[.int .i64 x.id, u, .int .i64 x.born, .int .i64 x.died], .agg #[.int .i64 y.id, v, .int .i64 y.born, .int .i64 y.died]] w fun e w' => e = .returned (.bool (eqVerB x y)) ∧ Gr w w' := by
  obtain ⟨i0, xs, b0, d0⟩ := x
  obtain ⟨i1, ys, b1, d1⟩ := y
  dsimp only at *
  have g0 : Gr w ((w.alloc (.cells #[.int .i64 i0, u, .int .i64 b0, .int .i64 d0] 108)).alloc (.cells #[.int .i64 i1, v, .int .i64 b1, .int .i64 d1] 108)) := ((Gr.refl w).alloc _).alloc _
  by_cases h_id : i0 = i1
  · by_cases h_born : b0 = b1
    · by_cases h_died : d0 = d1
      · cases h3 : eqL xs ys with
        | false =>
          have n_id : (i0 == i1) = true := by simp [*]
          have n_born : (b0 == b1) = true := by simp [*]
          have n_died : (d0 == d1) = true := by simp [*]
          have H3 := Lib.hid h3
          have HE : Hid (eqVerB ⟨i0, xs, b0, d0⟩ ⟨i1, ys, b1, d1⟩ = false) := Lib.hid (by simp [eqVerB, *])
          clear h3 h_id h_born h_died
          go_enter Try.func96, Try.ntmps96
          go_wp2_with fail
          refine (calls_of (impl_sameInts u v xs ys _ (hx.mono g0) (hy.mono g0)) H3.out).mono ?_
          rintro e w1 ⟨rfl, g1⟩
          go_wp2_with fail
          go_ret
          exact ⟨ret_bool HE.out.symm, g0.trans g1⟩
        | true =>
          have n_id : (i0 == i1) = true := by simp [*]
          have n_born : (b0 == b1) = true := by simp [*]
          have n_died : (d0 == d1) = true := by simp [*]
          have H3 := Lib.hid h3
          have HE : Hid (eqVerB ⟨i0, xs, b0, d0⟩ ⟨i1, ys, b1, d1⟩ = true) := Lib.hid (by simp [eqVerB, *])
          clear h3 h_id h_born h_died
          go_enter Try.func96, Try.ntmps96
          go_wp2_with fail
          refine (calls_of (impl_sameInts u v xs ys _ (hx.mono g0) (hy.mono g0)) H3.out).mono ?_
          rintro e w1 ⟨rfl, g1⟩
          go_wp2_with fail
          go_ret
          exact ⟨ret_bool HE.out.symm, g0.trans g1⟩
      · have n_id : (i0 == i1) = true := by simp [*]
        have n_born : (b0 == b1) = true := by simp [*]
        have n_died : (d0 == d1) = false := by simp [*]
        have HE : Hid (eqVerB ⟨i0, xs, b0, d0⟩ ⟨i1, ys, b1, d1⟩ = false) := Lib.hid (by simp [eqVerB, *])
        clear h_id h_born h_died
        go_enter Try.func96, Try.ntmps96
        go_wp2_with fail
        go_ret
        exact ⟨ret_bool HE.out.symm, g0⟩
    · have n_id : (i0 == i1) = true := by simp [*]
      have n_born : (b0 == b1) = false := by simp [*]
      have HE : Hid (eqVerB ⟨i0, xs, b0, d0⟩ ⟨i1, ys, b1, d1⟩ = false) := Lib.hid (by simp [eqVerB, *])
      clear h_id h_born
      go_enter Try.func96, Try.ntmps96
      go_wp2_with fail
      go_ret
      exact ⟨ret_bool HE.out.symm, g0⟩
  · have n_id : (i0 == i1) = false := by simp [*]
    have HE : Hid (eqVerB ⟨i0, xs, b0, d0⟩ ⟨i1, ys, b1, d1⟩ = false) := Lib.hid (by simp [eqVerB, *])
    clear h_id
    go_enter Try.func96, Try.ntmps96
    go_wp2_with fail
    go_ret
    exact ⟨ret_bool HE.out.symm, g0⟩
end Go.Proofs.Ytgadgidhomijpaa
