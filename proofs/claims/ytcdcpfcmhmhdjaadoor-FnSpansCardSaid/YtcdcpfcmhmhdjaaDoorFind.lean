/- FindSpan: the walks and the law. -/
import Derived.Test.YtcdcpfcmhmhdjaaDoorSpread
import Derived.Test.YtcdcpfcmhmhdjaaDoorExt
import Derived.Test.YtcdcpfcmhmhdjaaDoorSc
import Derived.Test.YtcdcpfcmhmhdjaaDoorMkSpan
namespace Go.Proofs.YtcdcpfcmhmhdjaaDoor
open Go.RowKit
theorem calls_is {P : Program} {f : FuncId} {args : Array Value} {w : World} {c b : Bool} {R : World → Prop} (h : Calls P f args w fun e w' => e = .returned (.bool c) ∧ R w') (hb : c = b) :
    Calls P f args w fun e w' => e = .returned (.bool b) ∧ R w' := hb ▸ h
def spanHit (v : Int) (s : DSpan) : Bool := inB v s.lo s.hi
def findL (xs : List DSpan) (v : Int) : List Int := match xs.find? (spanHit v) with | some s => s.set | none => []
theorem findL_hit {xs : List DSpan} {v : Int} {k : Nat} (hk : k < xs.length) (h : ∀ j (h : j < xs.length), j < k → spanHit v xs[j] = false) (hp : spanHit v xs[k] = true) : findL xs v = xs[k].set := by
  have : xs.find? (spanHit v) = some xs[k] := List.find?_eq_some_iff_getElem.2 ⟨hp, k, hk, rfl, fun j hj => by rw [h j (by omega) hj]; rfl⟩
  unfold findL; rw [this]
theorem findL_none {xs : List DSpan} {v : Int} (h : ∀ j (h : j < xs.length), spanHit v xs[j] = false) : findL xs v = [] := by
  have : xs.find? (spanHit v) = none := by
    rw [List.find?_eq_none]; intro x hx
    obtain ⟨i, hi, rfl⟩ := List.getElem_of_mem hx
    rw [h i hi]; simp
  unfold findL; rw [this]
theorem findL_len (xs : List DSpan) (v : Int) : (findL xs v).length ≤ totL totSpan xs := by
  unfold findL
  split
  · rename_i s hs
    obtain ⟨_, i, hi, rfl, _⟩ := List.find?_eq_some_iff_getElem.1 hs
    have := sumT_mem totSpan xs i hi
    unfold totL
    have e : totSpan xs[i] = xs[i].set.length := rfl
    omega
  · simp
theorem findL_small (xs : List DSpan) (v : Int) : sumT cntI (findL xs v) ≤ 3 * totL totSpan xs := by
  have := cnt_IntS (findL xs v); have := findL_len xs v; omega
set_option maxRecDepth 100000 in
set_option maxHeartbeats 1000000 in
theorem impl_FindSpan (v : Value) (xs : List DSpan) (n : Int) (w : World) (hv : RSpans w v xs) (hb : totL totSpan xs ≤ 4294967296) :
    Calls Tryd.prog 44 #[v, .int .i64 n] w fun e w' => ∃ u, e = .returned u ∧ Gr w w' ∧ PInts (In w.heap.size w'.heap.size) w' u (findL xs n) := by
  obtain ⟨a, cap, rfl, hl, hm, hx⟩ := hv
  go_enter Tryd.func44, Tryd.ntmps44
  go_wp2
  go_loopw [9] (fun i wr => ∃ k : Nat, k ≤ xs.length ∧ i = .int .i64 k ∧ Gr w wr ∧ Hid (∀ j (h : j < xs.length), j < k → spanHit n xs[j] = false)) (fun i _ => xs.length - (intOf i).toNat)
  case atStart => exact ⟨0, Nat.zero_le _, rfl, Gr.refl _, Lib.hid fun _ _ h => absurd h (Nat.not_lt_zero _)⟩
  case round =>
    obtain ⟨k, hk, rfl, hgr, hn⟩ := hrel
    by_cases hlt : k < xs.length
    · obtain ⟨b, off, cs, rfl, hlen, ⟨u_set, rfl, i_lo, i_hi, h_set⟩, hc⟩ := hx k hlt
      have c0 := hgr.cellv (hc 0 (by simp))
      have c1 := hgr.cellv (hc 1 (by simp))
      have c2 := hgr.cellv (hc 2 (by simp))
      simp only [Nat.add_zero, List.getElem_cons_zero, List.getElem_cons_succ] at c0 c1 c2
      clear hc hlen
      obtain ⟨ua, un, uc, rfl⟩ := RSlice.isSl h_set
      have gb := hgr.alloc (.cells #[.int .i64 xs[k].lo, .int .i64 xs[k].hi, .slice ua un uc] 56)
      have r0 := RSlice.mono keeps_int gb h_set
      have hsz := gb.size
      cases hp : spanHit n xs[k] with
      | false =>
        have HP := Lib.hid hp
        clear hp
        go_wp2_with fail
        refine (calls_is (impl_within _ _ _ _) HP.out).mono ?_
        rintro e w' ⟨rfl, rfl⟩
        go_wp2_with fail
        go_roundw
        case rel => exact ⟨k + 1, by omega, by go_num, gb, Lib.hid fun j hj hjk => by
          rcases Nat.lt_succ_iff_lt_or_eq.1 hjk with h | rfl
          · exact hn.out j hj h
          · exact HP.out⟩
        case measure => simp [intOf]; omega
      | true =>
        have HE := Lib.hid (findL_hit hlt hn.out hp)
        have HL : Hid (xs[k].set.length ≤ 4294967296) := Lib.hid (by have := sumT_mem totSpan xs k hlt; unfold totL at hb; have e : totSpan xs[k] = xs[k].set.length := rfl; omega)
        have HP := Lib.hid hp
        clear hp
        go_wp2_with fail
        refine (calls_is (impl_within _ _ _ _) HP.out).mono ?_
        rintro e w' ⟨rfl, rfl⟩
        go_wp2_with fail
        refine (impl_copyInts _ xs[k].set _ r0 HL.out).mono ?_
        rintro e w1 ⟨u, rfl, g1, ho⟩
        obtain ⟨ra, rn, rc, rfl⟩ := ho.isSl
        have HO := Lib.hid ho
        clear ho
        go_wp2_with fail
        go_ret
        exact ⟨_, rfl, gb.trans g1, by rw [HE.out]; exact HO.out.wide hsz (Nat.le_refl _)⟩
    · have HE := Lib.hid (findL_none (xs := xs) (v := n) fun j hj => hn.out j hj (by omega))
      go_wp2_with fail
      go_ret
      exact ⟨_, rfl, hgr, by rw [HE.out]; exact OSl.nil _⟩
end Go.Proofs.YtcdcpfcmhmhdjaaDoor
