/- l7All and CountVersions: the walks. -/
import Derived.Test.YtnnapjaggahjgaaSpread2
import Derived.Test.YtnnapjaggahjgaaMkStore
namespace Go.Proofs.Ytnnapjaggahjgaa
open Go.RowKit
theorem flat_succ {α : Type} {xs : List (List α)} {k : Nat} (h : k < xs.length) : (xs.take (k + 1)).flatten = (xs.take k).flatten ++ xs[k] := by
  rw [List.take_succ_eq_append_getElem h, List.flatten_append]; simp
theorem flat_len {α : Type} (xs : List (List α)) : xs.flatten.length = sumT List.length xs := by simp [sumT, List.length_flatten]
theorem sumT_mono {α : Type} {f g : α → Nat} (h : ∀ x, f x ≤ g x) (xs : List α) : sumT f xs ≤ sumT g xs := by
  unfold sumT
  induction xs with
  | nil => simp
  | cons x xs ih => have := h x; simp only [List.map_cons, List.sum_cons]; omega
def allV (s : DStore) : List DVersion := s.segs.flatten
theorem allV_len (s : DStore) : (allV s).length ≤ totStore s := by
  unfold allV totStore totL
  rw [flat_len]
  have := sumT_mono (f := List.length) (g := totL totVersion) (fun x => by unfold totL; omega) s.segs
  unfold totL at this
  omega
theorem part_len (xs : List (List DVersion)) (k : Nat) : (xs.take k).flatten.length ≤ xs.flatten.length := by
  rw [flat_len, flat_len]; exact sumT_le _ _ _
def partV (xs : List (List DVersion)) (k : Nat) : List DVersion := (xs.take k).flatten
theorem partV_succ {xs : List (List DVersion)} {k : Nat} (h : k < xs.length) : partV xs (k + 1) = partV xs k ++ xs[k] := flat_succ h
theorem partV_len (xs : List (List DVersion)) (k : Nat) : (partV xs k).length ≤ xs.flatten.length := part_len xs k
theorem partV_all (xs : List (List DVersion)) : partV xs xs.length = xs.flatten := by unfold partV; rw [List.take_length]
set_option maxRecDepth 100000 in
set_option maxHeartbeats 1000000 in
theorem spec_l7All (s : DStore) (u : Value) (w : World) (hu : RVersionss w u s.segs) (hb : totStore s ≤ 4294967296) :
    Calls Try.prog 75 #[.agg #[u, .int .i64 s.now]] w fun e w' => ∃ v, e = .returned v ∧ RVersions w' v (allV s) ∧ Gr w w' := by
  have hal := allV_len s
  obtain ⟨xs, now⟩ := s
  obtain ⟨a, cap, rfl, hl, hm, hx⟩ := hu
  dsimp only at *
  have HAL : Hid (xs.flatten.length ≤ 4294967296) := Lib.hid (Nat.le_trans hal hb)
  clear hal
  have g0 : Gr w (w.alloc (.cells #[.slice a xs.length cap, .int .i64 now] 29)) := (Gr.refl w).alloc _
  have p0 : (w.alloc (.cells #[.slice a xs.length cap, .int .i64 now] 29)).cell? ⟨w.heap.size, 0, none⟩ = some (.slice a xs.length cap) := by simp [go_sem]
  have hst : ORd 110 4 RVersion (w.alloc (.cells #[.slice a xs.length cap, .int .i64 now] 29)) ((w.alloc (.cells #[.slice a xs.length cap, .int .i64 now] 29)).alloc (.cells #[] 110)) (.slice (some ⟨w.heap.size + 1, 0, none⟩) 0 0) [] := by
    have := ORd.made (t := 110) (sz := 4) (R := RVersion) (Gr.refl (w.alloc (.cells #[.slice a xs.length cap, .int .i64 now] 29)))
    have e : (w.alloc (.cells #[.slice a xs.length cap, .int .i64 now] 29)).heap.size = w.heap.size + 1 := by simp
    rw [e] at this
    exact this
  have HST := Lib.hid hst
  clear hst
  go_enter Try.func75, Try.ntmps75
  go_wp2
  go_loopw [3, 4] (fun out i wr => ∃ (k : Nat) (b : Option Addr) (c : Nat), k ≤ xs.length ∧ i = .int .i64 k ∧ out = .slice b (partV xs k).length c ∧ Hid (ORd 110 4 RVersion (w.alloc (.cells #[.slice a xs.length cap, .int .i64 now] 29)) wr out (partV xs k)) ∧ Gr (w.alloc (.cells #[.slice a xs.length cap, .int .i64 now] 29)) wr) (fun _ i _ => xs.length - (intOf i).toNat)
  case atStart => exact ⟨0, _, _, Nat.zero_le _, rfl, rfl, HST, (Gr.refl _).alloc _⟩
  case round =>
    obtain ⟨k, bo, co, hk, rfl, rfl, hO, hgW⟩ := hrel
    have hgr := g0.trans hgW
    have d0 := hgW.cellv p0
    have hpl := partV_len xs k
    by_cases hlt : k < xs.length
    · obtain ⟨b, off, cs, rfl, hlen, ⟨u, rfl, hu⟩, hc⟩ := hx k hlt
      have c0 := hgr.cellv (hc 0 (by simp))
      simp only [Nat.add_zero, Nat.mul_one, List.getElem_cons_zero] at c0
      clear hc hlen
      have i0 : (0 : Int) ≤ (k : Int) := Int.natCast_nonneg _
      have i1 : (k : Int) < (xs.length : Int) := by omega
      have hpl' := partV_len xs (k + 1)
      have HF := Lib.hid (partV_succ hlt)
      have HB : Hid (((partV xs k).length + xs[k].length) * 48 ≤ 140737488355328) := Lib.hid (by have := HAL.out; have e := congrArg List.length HF.out; rw [List.length_append] at e; omega)
      have HU := Lib.hid (RSlice.mono keeps_version g0 hu)
      obtain ⟨ua, un, rfl⟩ := hu.form
      clear hpl hpl'
      go_wp2_with (at_builtin; refine spread_r 106 110 4 48 Try.underlying106 (z := .agg #[.int .i64 0, .slice none 0 0, .int .i64 0, .int .i64 0]) (by kernel_rfl) rfl (by decide) (by decide) one_version rfl _ _ rfl rfl rfl hO.out HU.out hgW HB.out ?_; intro b1 c1 w1 hown1 hb1)
      go_roundw
      case rel => exact ⟨k + 1, b1, c1, by omega, by go_num, by rw [HF.out]; simp only [List.length_append], Lib.hid (by rw [HF.out]; simpa only [List.length_append] using hown1), hgW.trans' hb1⟩
      case measure => simp [intOf]; omega
    · obtain rfl : k = xs.length := by omega
      rw [partV_all] at hO
      go_wp2_with fail
      go_ret
      exact ⟨_, rfl, by rw [partV_all]; exact hO.out.reads keeps_version hgW, hgr⟩
-- mgen FnExactCountVersions CountVersions+HT0 int "((allV x0).length : Int)" - Store
-- endgen
end Go.Proofs.Ytnnapjaggahjgaa
