/- FindSpan: the walks and the law. -/
import Derived.Test.YtcdcpfcmhmhdjaaSpread
import Derived.Test.YtcdcpfcmhmhdjaaExt
import Derived.Test.YtcdcpfcmhmhdjaaSc
import Derived.Test.YtcdcpfcmhmhdjaaMkSpan
namespace Go.Proofs.Ytcdcpfcmhmhdjaa
open Go.RowKit
theorem calls_is {P : Program} {f : FuncId} {args : Array Value} {w : World} {c b : Bool} {R : World → Prop} (h : Calls P f args w fun e w' => e = .returned (.bool c) ∧ R w') (hb : c = b) :
    Calls P f args w fun e w' => e = .returned (.bool b) ∧ R w' := hb ▸ h
def spanHit (v : Int) (s : DSpan) : Bool := inB v s.lo s.hi
def findL (xs : List DSpan) (v : Int) : List Int := match xs.find? (spanHit v) with | some s => s.set | none => []
theorem findL_hit {xs : List DSpan} {v : Int} {k : Nat} (hk : k < xs.length) (h : ∀ j (h : j < xs.length), j < k → spanHit v xs[j] = false) (hp : spanHit v xs[k] = true) : findL xs v = xs[k].set := by
  have : xs.find? (spanHit v) = some xs[k] := List.find?_eq_some_iff_getElem.2 ⟨hp, k, hk, rfl, fun j hj => by rw [h j (by omega) hj]; rfl⟩
  unfold findL; rw [this]
theorem findL_none {xs : List DSpan} {v : Int} (h : ∀ j (h : j < xs.length), spanHit v xs[j] = false) : findL xs v = [] := by
  have : xs.find? (spanHit v) = none := by
    rw [List.find?_eq_none]; intro x hx
    obtain ⟨i, hi, rfl⟩ := List.getElem_of_mem hx
    rw [h i hi]; simp
  unfold findL; rw [this]
theorem findL_len (xs : List DSpan) (v : Int) : (findL xs v).length ≤ totL totSpan xs := by
  unfold findL
  split
  · rename_i s hs
    obtain ⟨_, i, hi, rfl, _⟩ := List.find?_eq_some_iff_getElem.1 hs
    have := sumT_mem totSpan xs i hi
    unfold totL
    have e : totSpan xs[i] = xs[i].set.length := rfl
    omega
  · simp
theorem findL_small (xs : List DSpan) (v : Int) : sumT cntI (findL xs v) ≤ 3 * totL totSpan xs := by
  have := cnt_IntS (findL xs v); have := findL_len xs v; omega
set_option maxRecDepth 100000 in
set_option maxHeartbeats 1000000 in
theorem impl_FindSpan (v : Value) (xs : List DSpan) (n : Int) (w : World) (hv : RSpans w v xs) (hb : totL totSpan xs ≤ 4294967296) :
    Calls Try.prog 50 #[v, .int .i64 n] w fun e w' => ∃ u, e = .returned u ∧ Gr w w' ∧ PInts (In w.heap.size w'.heap.size) w' u (findL xs n) := by
  obtain ⟨a, cap, rfl, hl, hm, hx⟩ := hv
  go_enter Try.func50, Try.ntmps50
  go_wp2
  go_loopw [9] (fun i wr => ∃ k : Nat, k ≤ xs.length ∧ i = .int .i64 k ∧ Gr w wr ∧ Hid (∀ j (h : j < xs.length), j < k → spanHit n xs[j] = false)) (fun i _ => xs.length - (intOf i).toNat)
  case atStart => exact ⟨0, Nat.zero_le _, rfl, Gr.refl _, Lib.hid fun _ _ h => absurd h (Nat.not_lt_zero _)⟩
  case round =>
    obtain ⟨k, hk, rfl, hgr, hn⟩ := hrel
    by_cases hlt : k < xs.length
    · obtain ⟨b, off, cs, rfl, hlen, ⟨u_set, rfl, i_lo, i_hi, h_set⟩, hc⟩ := hx k hlt
      have c0 := hgr.cellv (hc 0 (by simp))
      have c1 := hgr.cellv (hc 1 (by simp))
      have c2 := hgr.cellv (hc 2 (by simp))
      simp only [Nat.add_zero, List.getElem_cons_zero, List.getElem_cons_succ] at c0 c1 c2
      clear hc hlen
      obtain ⟨ua, un, uc, rfl⟩ := RSlice.isSl h_set
      have gb := hgr.alloc (.cells #[.int .i64 xs[k].lo, .int .i64 xs[k].hi, .slice ua un uc] 83)
      have r0 := RSlice.mono keeps_int gb h_set
      have hsz := gb.size
      cases hp : spanHit n xs[k] with
      | false =>
        have HP := Lib.hid hp
        clear hp
        go_wp2_with fail
        refine (calls_is (impl_within _ _ _ _) HP.out).mono ?_
        rintro e w' ⟨rfl, rfl⟩
        go_wp2_with fail
        go_roundw
        case rel => exact ⟨k + 1, by omega, by go_num, gb, Lib.hid fun j hj hjk => by
          rcases Nat.lt_succ_iff_lt_or_eq.1 hjk with h | rfl
          · exact hn.out j hj h
          · exact HP.out⟩
        case measure => simp [intOf]; omega
      | true =>
        have HE := Lib.hid (findL_hit hlt hn.out hp)
        have HL : Hid (xs[k].set.length ≤ 4294967296) := Lib.hid (by have := sumT_mem totSpan xs k hlt; unfold totL at hb; have e : totSpan xs[k] = xs[k].set.length := rfl; omega)
        have HP := Lib.hid hp
        clear hp
        go_wp2_with fail
        refine (calls_is (impl_within _ _ _ _) HP.out).mono ?_
        rintro e w' ⟨rfl, rfl⟩
        go_wp2_with fail
        refine (impl_copyInts _ xs[k].set _ r0 HL.out).mono ?_
        rintro e w1 ⟨u, rfl, g1, ho⟩
        obtain ⟨ra, rn, rc, rfl⟩ := ho.isSl
        have HO := Lib.hid ho
        clear ho
        go_wp2_with fail
        go_ret
        exact ⟨_, rfl, gb.trans g1, by rw [HE.out]; exact HO.out.wide hsz (Nat.le_refl _)⟩
    · have HE := Lib.hid (findL_none (xs := xs) (v := n) fun j hj => hn.out j hj (by omega))
      go_wp2_with fail
      go_ret
      exact ⟨_, rfl, hgr, by rw [HE.out]; exact OSl.nil _⟩
set_option maxRecDepth 100000 in
set_option maxHeartbeats 1000000 in
theorem spec_FindSpan (v : Value) (xs : List DSpan) (n : Int) (w : World) (hv : RSpans w v xs) (hb : totL totSpan xs ≤ 4294967296) :
    Calls Try.prog 54 #[v, .int .i64 n] w fun e w' => ∃ u, e = .returned u ∧ RInts w' u (findL xs n) ∧ Gr w w' := by
  obtain ⟨a, cap, rfl, hl, hm, hx⟩ := hv
  go_enter Try.func54, Try.ntmps54
  go_wp2
  go_loopw [5] (fun i wr => ∃ k : Nat, k ≤ xs.length ∧ i = .int .i64 k ∧ Gr w wr ∧ Hid (∀ j (h : j < xs.length), j < k → spanHit n xs[j] = false)) (fun i _ => xs.length - (intOf i).toNat)
  case atStart => exact ⟨0, Nat.zero_le _, rfl, Gr.refl _, Lib.hid fun _ _ h => absurd h (Nat.not_lt_zero _)⟩
  case round =>
    obtain ⟨k, hk, rfl, hgr, hn⟩ := hrel
    by_cases hlt : k < xs.length
    · obtain ⟨b, off, cs, rfl, hlen, ⟨u_set, rfl, i_lo, i_hi, h_set⟩, hc⟩ := hx k hlt
      have c0 := hgr.cellv (hc 0 (by simp))
      have c1 := hgr.cellv (hc 1 (by simp))
      have c2 := hgr.cellv (hc 2 (by simp))
      simp only [Nat.add_zero, List.getElem_cons_zero, List.getElem_cons_succ] at c0 c1 c2
      clear hc hlen
      have i0 : (0 : Int) ≤ (k : Int) := Int.natCast_nonneg _
      have i1 : (k : Int) < (xs.length : Int) := by omega
      have q0 := fun q : Ext wr => Ext.cell c0 q
      have q1 := fun q : Ext wr => Ext.cell c1 q
      cases hp : spanHit n xs[k] with
      | false =>
        have HP := Lib.hid hp
        clear hp
        go_wp2
        refine wp_region_ext (by kernel_rfl) (by kernel_rfl) ?_
        repeat (go_big_quiet_step ((go_at_call 37; exact quiet_ext (calls_is ((spec_l1In _ _ _ _).mono fun _ _ h => ⟨h.1, h.2 ▸ Gr.refl _⟩) HP.out))))
        refine wpQuiet_nil ?_
        intro w1 hw1
        have g1 := Ext.out hw1
        clear hw1 q0 q1
        have hgr1 := hgr.trans g1
        go_wp2
        go_roundw
        case rel => exact ⟨k + 1, by omega, by go_num, hgr1, Lib.hid fun j hj hjk => by
          rcases Nat.lt_succ_iff_lt_or_eq.1 hjk with h | rfl
          · exact hn.out j hj h
          · exact HP.out⟩
        case measure => simp [intOf]; omega
      | true =>
        have HE := Lib.hid (findL_hit hlt hn.out hp)
        have HL : Hid (xs[k].set.length ≤ 4294967296) := Lib.hid (by have := sumT_mem totSpan xs k hlt; unfold totL at hb; have e : totSpan xs[k] = xs[k].set.length := rfl; omega)
        have HP := Lib.hid hp
        clear hp
        go_wp2
        refine wp_region_ext (by kernel_rfl) (by kernel_rfl) ?_
        repeat (go_big_quiet_step ((go_at_call 37; exact quiet_ext (calls_is ((spec_l1In _ _ _ _).mono fun _ _ h => ⟨h.1, h.2 ▸ Gr.refl _⟩) HP.out))))
        refine wpQuiet_nil ?_
        intro w1 hw1
        have g1 := Ext.out hw1
        clear hw1 q0 q1
        have hgr1 := hgr.trans g1
        have gW : Gr w1 (w1.alloc (.cells #[] 3)) := (Gr.refl _).alloc _
        obtain ⟨ua, uc, rfl, hsrc, hi⟩ := ints_src (RSlice.mono keeps_int (hgr1.trans gW) h_set)
        have e2 : (w1.alloc (.cells #[] 3)).cell? ⟨b, off + k * 3 + 2, none⟩ = some (.slice ua xs[k].set.length uc) := (g1.trans gW).cellv c2
        have HS := Lib.hid hsrc
        have HI := Lib.hid hi
        clear hsrc hi
        go_wp2_with (at_builtin; refine spread_i rfl _ _ rfl [] rfl rfl ⟨own_empty w1 _ _ w.heap.size hgr1.size, fun _ h => absurd h (by simp)⟩ HS.out HI.out (by have := HL.out; simp; omega) (by have := hgr1.size; simp; omega) ?_; intro b1 c1 w2 hown1 hb1)
        go_ret
        simp only [List.nil_append] at hown1
        exact ⟨_, rfl, by rw [HE.out]; exact hown1.reads, (hgr1.alloc _).trans' hb1⟩
    · have HE := Lib.hid (findL_none (xs := xs) (v := n) fun j hj => hn.out j hj (by omega))
      go_wp2_with fail
      go_ret
      exact ⟨_, rfl, by rw [HE.out]; exact rd_pints (OSl.made (F := fun _ => True) _ trivial), hgr.alloc _⟩
end Go.Proofs.Ytcdcpfcmhmhdjaa
