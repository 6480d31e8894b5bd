/- SegmentRows: the plain law and the walks. -/
import Derived.Test.YtnnapjaggahjgaaStore1
import Derived.Test.YtnnapjaggahjgaaRowOf
import Derived.Test.YtnnapjaggahjgaaOwnPush
import Derived.Test.YtnnapjaggahjgaaMkRow
namespace Go.Proofs.Ytnnapjaggahjgaa
open Go.RowKit
def rowV (v : DVersion) : DRow := ⟨v.id, v.vals⟩
def visTo (vs : List DVersion) (t : Int) (k : Nat) : List DRow := ((vs.take k).filter fun v => isVisB v t).map rowV
theorem visTo_succ {vs : List DVersion} {t : Int} {k : Nat} (h : k < vs.length) : visTo vs t (k + 1) = visTo vs t k ++ if isVisB vs[k] t then [⟨vs[k].id, vs[k].vals⟩] else [] := by
  unfold visTo
  rw [List.take_succ_eq_append_getElem h, List.filter_append, List.map_append]
  congr 1
  by_cases hp : isVisB vs[k] t = true <;> simp [hp, rowV]
theorem visTo_yes {vs : List DVersion} {t : Int} {k : Nat} (h : k < vs.length) (hp : isVisB vs[k] t = true) : visTo vs t (k + 1) = visTo vs t k ++ [⟨vs[k].id, vs[k].vals⟩] := by rw [visTo_succ h, if_pos hp]
theorem visTo_no {vs : List DVersion} {t : Int} {k : Nat} (h : k < vs.length) (hp : isVisB vs[k] t = false) : visTo vs t (k + 1) = visTo vs t k := by rw [visTo_succ h, hp]; simp
theorem visTo_len (vs : List DVersion) (t : Int) (k : Nat) : (visTo vs t k).length ≤ k := by
  unfold visTo
  rw [List.length_map]
  exact Nat.le_trans (List.length_filter_le _ _) (by rw [List.length_take]; omega)
theorem visTo_tot (vs : List DVersion) (t : Int) : ∀ k, k ≤ vs.length → totL totRow (visTo vs t k) ≤ totL totVersion (vs.take k)
  | 0, _ => by simp [visTo, totL, sumT]
  | k + 1, h => by
    have ih := visTo_tot vs t k (by omega)
    have hs := sumT_take totVersion vs k (by omega)
    rw [visTo_succ (by omega)]
    unfold totL at *
    rw [List.length_take] at *
    rw [hs]
    split
    · have : sumT totRow (visTo vs t k ++ [⟨vs[k].id, vs[k].vals⟩]) = sumT totRow (visTo vs t k) + vs[k].vals.length := by simp [sumT, totRow]
      rw [this, List.length_append, List.length_singleton]
      unfold totVersion at *
      omega
    · rw [List.append_nil]
      unfold totVersion at *
      omega
def segOk (s : DStore) (g : Int) : Bool := isStoreB s && inB g 0 ((s.segs.length : Int) - 1)
def segAtL (s : DStore) (g : Int) : List DVersion := s.segs.getD g.toNat []
def segRowsL (s : DStore) (g t : Int) : List DRow := if segOk s g then visTo (segAtL s g) t (segAtL s g).length else []
theorem segRowsL_yes {s : DStore} {g t : Int} (h1 : isStoreB s = true) (h2 : inB g 0 ((s.segs.length : Int) - 1) = true) : segRowsL s g t = visTo (segAtL s g) t (segAtL s g).length := by unfold segRowsL segOk; rw [h1, h2]; rfl
theorem segRowsL_no1 {s : DStore} {g t : Int} (h : isStoreB s = false) : segRowsL s g t = [] := by unfold segRowsL segOk; rw [h]; rfl
theorem segRowsL_no2 {s : DStore} {g t : Int} (h : inB g 0 ((s.segs.length : Int) - 1) = false) : segRowsL s g t = [] := by unfold segRowsL segOk; rw [h, Bool.and_false]; rfl
theorem segAtL_at {s : DStore} {g : Int} {G : Nat} (hg : g = (G : Int)) (h : G < s.segs.length) : segAtL s g = s.segs[G] := by subst hg; unfold segAtL; rw [Int.toNat_natCast, getD_lt h]
theorem segAtL_tot (s : DStore) (g : Int) : totL totVersion (segAtL s g) ≤ totStore s := by
  unfold segAtL totStore
  by_cases h : g.toNat < s.segs.length
  · rw [getD_lt h]
    have := sumT_mem (totL totVersion) s.segs g.toNat h
    unfold totL at *
    omega
  · rw [List.getD_eq_getElem?_getD, List.getElem?_eq_none (by omega)]
    simp [totL, sumT]
theorem segRowsL_small (s : DStore) (g t : Int) : sumT cntRow (segRowsL s g t) ≤ 3 * totStore s := by
  unfold segRowsL
  split
  · have h1 := cnt_RowS (visTo (segAtL s g) t (segAtL s g).length)
    have h2 := visTo_tot (segAtL s g) t (segAtL s g).length (Nat.le_refl _)
    rw [List.take_length] at h2
    have h3 := segAtL_tot s g
    omega
  · simp [sumT]
set_option maxRecDepth 100000 in
set_option maxHeartbeats 1000000 in
theorem impl_segmentRows (s : DStore) (u : Value) (G : Nat) (hG : G < s.segs.length) (t : Int) (w : World) (hu : RVersionss w u s.segs) (hb : totStore s ≤ 4294967296) :
    Calls Try.prog 103 #[.agg #[u, .int .i64 s.now], .int .i64 G, .int .i64 t] w fun e w' => ∃ v, e = .returned v ∧ Gr w w' ∧ PRows (In w.heap.size w'.heap.size) w' v (visTo s.segs[G] t s.segs[G].length) := by
  have hbs : s.segs[G].length ≤ 4294967296 ∧ ∀ k (h : k < s.segs[G].length), s.segs[G][k].vals.length ≤ 4294967296 := by
    unfold totStore at hb
    have h1 := sumT_mem (totL totVersion) s.segs G hG
    refine ⟨by unfold totL at hb h1; omega, fun k h => ?_⟩
    have h2 := sumT_mem totVersion s.segs[G] k h
    unfold totL at hb h1
    unfold totVersion at h2 h1
    unfold totVersion at hb
    omega
  obtain ⟨xs, now⟩ := s
  obtain ⟨a, cap, rfl, hl, hm, hx⟩ := hu
  dsimp only at *
  obtain ⟨b, off, cs, rfl, hlen, ⟨us, rfl, hus⟩, hc⟩ := hx G hG
  obtain ⟨ea, ec, rfl, hl3, hm3, hx3⟩ := hus
  have g0 : Gr w ((w.alloc (.cells #[.slice (some ⟨b, off, none⟩) xs.length cap, .int .i64 now] 29)).alloc (.cells #[] 46)) := ((Gr.refl w).alloc _).alloc _
  have c0 := g0.cellv (hc 0 (by simp))
  simp only [Nat.add_zero, Nat.mul_one, List.getElem_cons_zero] at c0
  have i0 : (0 : Int) ≤ (G : Int) := Int.natCast_nonneg _
  have hG' : G < xs.length := hG
  have i1 : (G : Int) < (xs.length : Int) := by omega
  have HST : Hid (PRows (In w.heap.size ((w.alloc (.cells #[.slice (some ⟨b, off, none⟩) xs.length cap, .int .i64 now] 29)).alloc (.cells #[] 46)).heap.size) ((w.alloc (.cells #[.slice (some ⟨b, off, none⟩) xs.length cap, .int .i64 now] 29)).alloc (.cells #[] 46)) (.slice (some ⟨w.heap.size + 1, 0, none⟩) 0 0) []) := Lib.hid (by
    have h := OSl.made (t := 46) (sz := 2) (O := PRow) (F := In w.heap.size ((w.alloc (.cells #[.slice (some ⟨b, off, none⟩) xs.length cap, .int .i64 now] 29)).alloc (.cells #[] 46)).heap.size) (w.alloc (.cells #[.slice (some ⟨b, off, none⟩) xs.length cap, .int .i64 now] 29)) ⟨by simp, by simp⟩
    have e : (w.alloc (.cells #[.slice (some ⟨b, off, none⟩) xs.length cap, .int .i64 now] 29)).heap.size = w.heap.size + 1 := by simp
    rw [e] at h
    exact h)
  have HBS := Lib.hid hbs
  clear hbs hc hlen hx
  go_enter Try.func103, Try.ntmps103
  go_wp2
  go_loopw [7, 17] (fun out i wr => ∃ (k : Nat) (b : Option Addr) (c : Nat), k ≤ xs[G].length ∧ i = .int .i64 k ∧ out = .slice b (visTo xs[G] t k).length c ∧ Hid (PRows (In w.heap.size wr.heap.size) wr out (visTo xs[G] t k)) ∧ Gr w wr) (fun _ i _ => xs[G].length - (intOf i).toNat)
  case atStart => exact ⟨0, _, _, Nat.zero_le _, rfl, rfl, HST, g0⟩
  case round =>
    obtain ⟨k, bo, co, hk, rfl, rfl, ho, hgr⟩ := hrel
    by_cases hlt : k < xs[G].length
    · obtain ⟨b3, off3, cs3, rfl, hlen3, ⟨u_vals3, rfl, i_id3, h_vals3, i_born3, i_died3⟩, hc3⟩ := hx3 k hlt
      have c0 := hgr.cellv (hc3 0 (by simp))
      have c1 := hgr.cellv (hc3 1 (by simp))
      have c2 := hgr.cellv (hc3 2 (by simp))
      have c3 := hgr.cellv (hc3 3 (by simp))
      simp only [Nat.add_zero, List.getElem_cons_zero, List.getElem_cons_succ] at c0 c1 c2 c3
      clear hc3 hlen3
      obtain ⟨va, vn, vc, rfl⟩ := RSlice.isSl h_vals3
      have gq : Gr wr (wr.alloc (.cells #[.int .i64 xs[G][k].id, .slice va vn vc, .int .i64 xs[G][k].born, .int .i64 xs[G][k].died] 110)) := (Gr.refl _).alloc _
      have HI3 := Lib.hid i_id3
      have hgq := hgr.trans gq
      have HV3 := Lib.hid h_vals3
      clear h_vals3
      cases hv : isVisB xs[G][k] t with
      | false =>
        have HS := Lib.hid (visTo_no hlt hv)
        have HV := Lib.hid hv
        clear hv
        go_wp2_with fail
        refine (calls_b (impl_IsVisible xs[G][k] _ t _ (RSlice.mono keeps_int hgq HV3.out)) HV.out).mono ?_
        rintro e w2 ⟨rfl, g2⟩
        have gr2 := gq.trans g2
        go_wp2_with fail
        go_roundw
        case rel => exact ⟨k + 1, _, _, by omega, by go_num, by rw [HS.out], Lib.hid (by rw [HS.out]; exact (ho.out.gr fr_row gr2).wide (Nat.le_refl _) gr2.size), hgr.trans gr2⟩
        case measure => simp [intOf]; omega
      | true =>
        have HS := Lib.hid (visTo_yes hlt hv)
        have HV := Lib.hid hv
        clear hv
        go_wp2_with fail
        refine (calls_b (impl_IsVisible xs[G][k] _ t _ (RSlice.mono keeps_int hgq HV3.out)) HV.out).mono ?_
        rintro e w2 ⟨rfl, g2⟩
        have gr2 := gq.trans g2
        have gw2 := hgr.trans gr2
        have k0 : w2.cell? ⟨wr.heap.size, 0, none⟩ = some (.int .i64 xs[G][k].id) := g2.cellv (by simp [go_sem])
        have k1 : w2.cell? ⟨wr.heap.size, 1, none⟩ = some (.slice va vn vc) := g2.cellv (by simp [go_sem])
        have k2 : w2.cell? ⟨wr.heap.size, 2, none⟩ = some (.int .i64 xs[G][k].born) := g2.cellv (by simp [go_sem])
        have k3 : w2.cell? ⟨wr.heap.size, 3, none⟩ = some (.int .i64 xs[G][k].died) := g2.cellv (by simp [go_sem])
        go_wp2_with fail
        refine (impl_rowOf xs[G][k] _ _ (RSlice.mono keeps_int gw2 HV3.out) (HBS.out.2 k hlt)).mono ?_
        rintro e w3 ⟨v3, rfl, g3, hp3⟩
        obtain ⟨pa, pn, pc, rfl⟩ := hp3.isSl
        have HP3 := Lib.hid hp3
        clear hp3
        have gr3 := gr2.trans g3
        have HSZ := Lib.hid hgr.size
        have HSZ2 := Lib.hid gr2.size
        have HB : Hid (((visTo xs[G] t k).length + 1) * 32 ≤ 140737488355328) := Lib.hid (by have := visTo_len xs[G] t k; have := HBS.out.1; omega)
        go_wp2_with (at_builtin; refine push_o (w0 := wr) (wr := w3) (la := w2.heap.size) (hb := w3.heap.size) (lo := w.heap.size) 67 46 2 32 Try.underlying67 (z := .agg #[.int .i64 0, .slice none 0 0]) (by kernel_rfl) rfl (by decide) (by decide) rfl _ _ rfl fr_row ⟨xs[G][k].id, xs[G][k].vals⟩ [.int .i64 xs[G][k].id, .slice pa pn pc] rfl rfl rfl ho.out HSZ.out gr3 ⟨_, rfl, HI3.out, HP3.out⟩ HSZ2.out (Nat.le_refl _) rfl (by simp [Value.oneCell']) HB.out ?_; intro g4 cap4 w4 hown4 hb4)
        go_roundw
        case rel => exact ⟨k + 1, _, _, by omega, by go_num, by rw [HS.out, List.length_append, List.length_singleton], Lib.hid (by have h := hown4; rw [List.length_append, List.length_singleton] at h; rw [HS.out]; exact h), (gw2.trans g3).trans' hb4⟩
        case measure => simp [intOf]; omega
    · obtain rfl : k = xs[G].length := by omega
      go_wp2_with fail
      go_ret
      exact ⟨_, rfl, hgr, ho.out⟩
end Go.Proofs.Ytnnapjaggahjgaa
