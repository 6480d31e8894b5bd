/- Rows copied, on both sides. -/
import Derived.Test.YtjeffagejbdjkaaStepN
import Derived.Test.YtjeffagejbdjkaaHeld
import Derived.Test.YtjeffagejbdjkaaGenInt
namespace Go.Proofs.Ytjeffagejbdjkaa
open Go.ChangeShapes Go.WideShapes Go.RowKit Go.Deep
set_option maxRecDepth 100000 in
set_option maxHeartbeats 1000000 in
theorem impl_copyRow (r : DRow) (u : Value) (w : World) (hu : RInts w u r.vals) (hb : r.vals.length ≤ 4294967296) :
    Calls Try.prog 39 #[.agg #[.int .i64 r.id, u]] w fun e w' => ∃ u', e = .returned (.agg #[.int .i64 r.id, u']) ∧ Gr w w' ∧ PInts (In w.heap.size w'.heap.size) w' u' r.vals := by
  obtain ⟨id, vals⟩ := r
  dsimp only at *
  obtain ⟨ua, uc, rfl⟩ := hu.form
  have HU := Lib.hid hu
  have HB := Lib.hid hb
  clear hu hb
  go_enter Try.func39, Try.ntmps39
  go_wp2
  obtain ⟨W, hW⟩ : ∃ W, W = ((w.alloc (.cells #[.int .i64 id, .slice ua vals.length uc] 47)).alloc (.cells #[.int .i64 0, .slice none 0 0] 47)).drew := ⟨_, rfl⟩
  have gw : Gr w W := by rw [hW]; exact (((Gr.refl w).alloc _).alloc _).drew
  have hz : w.heap.size + 1 + 1 = W.heap.size := by rw [hW]; show w.heap.size + 1 + 1 = ((w.alloc _).alloc _).heap.size; simp
  have c0 : W.cell? ⟨w.heap.size, 0, none⟩ = some (.int .i64 id) := by rw [hW]; show ((w.alloc _).alloc _).cell? _ = _; simp [go_sem]
  have c1 : W.cell? ⟨w.heap.size, 1, none⟩ = some (.slice ua vals.length uc) := by rw [hW]; show ((w.alloc _).alloc _).cell? _ = _; simp [go_sem]
  have d0 : W.cell? ⟨w.heap.size + 1, 0, none⟩ = some (.int .i64 0) := by rw [hW]; show ((w.alloc _).alloc _).cell? _ = _; simp [go_sem]
  have d1 : W.cell? ⟨w.heap.size + 1, 1, none⟩ = some (.slice none 0 0) := by rw [hW]; show ((w.alloc _).alloc _).cell? _ = _; simp [go_sem]
  have e0 : W.frozen? ⟨w.heap.size + 1, 0, none⟩ = false := by rw [hW]; show ((w.alloc _).alloc _).frozen? _ = _; simp [go_sem]
  have e1 : W.frozen? ⟨w.heap.size + 1, 1, none⟩ = false := by rw [hW]; show ((w.alloc _).alloc _).frozen? _ = _; simp [go_sem]
  refine wp_region_G (S := fun w' => w'.cell? ⟨w.heap.size, 0, none⟩ = some (.int .i64 id) ∧ w'.cell? ⟨w.heap.size, 1, none⟩ = some (.slice ua vals.length uc)) (m := 6) (by kernel_rfl) ?_
  rw [← hW]
  clear hW
  have hS : (fun w' : World => w'.cell? ⟨w.heap.size, 0, none⟩ = some (.int .i64 id) ∧ w'.cell? ⟨w.heap.size, 1, none⟩ = some (.slice ua vals.length uc)) W := ⟨c0, c1⟩
  refine wpAnyG_take (i := 0) (v := ?v0) hS rfl (by kernel_rfl) (by kernel_rfl) (by kernel_rfl) (by kernel_rfl) (fun _ _ _ h => h) (Or.inl ⟨by rfl, ?hy0⟩) ?rest0
  case hy0 => (intro w' hw'; (try dsimp only at hw'); go_simp; try with_reducible rfl)
  try simp only [Act.put]
  refine wpAnyG_take (i := 1) (v := ?v1) hS rfl (by kernel_rfl) (by kernel_rfl) (by kernel_rfl) (by kernel_rfl) (fun _ _ _ h => h) (Or.inl ⟨by rfl, ?hy1⟩) ?rest1
  case hy1 => (intro w' hw'; (try dsimp only at hw'); go_simp; try with_reducible rfl)
  try simp only [Act.put]
  refine wpAnyG_take (i := 2) (v := ?v2) hS rfl (by kernel_rfl) (by kernel_rfl) (by kernel_rfl) (by kernel_rfl) (fun _ _ _ h => h) (Or.inl ⟨by rfl, ?hy2⟩) ?rest2
  case hy2 => (intro w' hw'; (try dsimp only at hw'); go_simp; try with_reducible rfl)
  try simp only [Act.put]
  refine wpAnyG_take (i := 3) (v := ?v3) hS rfl (by kernel_rfl) (by kernel_rfl) (by kernel_rfl) (by kernel_rfl) (fun _ _ _ h => h) (Or.inl ⟨by rfl, ?hy3⟩) ?rest3
  case hy3 => (intro w' hw'; (try dsimp only at hw'); go_simp; try with_reducible rfl)
  try simp only [Act.put]
  refine wpAnyG_one (i := 4) rfl (by kernel_rfl) (fun K4 hK4 => ?_)
  go_simp
  refine (impl_copyInts _ vals _ (HU.out.mono gw) HB.out).mono ?_
  rintro e w3 ⟨v3, rfl, g3, hp3⟩
  obtain ⟨pa, pc, rfl⟩ := (rd_pints hp3).form
  replace c0 := g3.cellv c0
  replace c1 := g3.cellv c1
  replace d0 := g3.cellv d0
  replace d1 := g3.cellv d1
  replace e0 := (g3.frozen (p := ⟨w.heap.size + 1, 0, none⟩) (by dsimp only; omega)).trans e0
  replace e1 := (g3.frozen (p := ⟨w.heap.size + 1, 1, none⟩) (by dsimp only; omega)).trans e1
  have GW := Lib.hid (gw.trans g3)
  have HP := Lib.hid (hp3.wide (lo' := w.heap.size + 1 + 1) (hi' := w3.heap.size) (by omega) (Nat.le_refl _))
  have hz3 : w.heap.size + 1 + 1 ≤ w3.heap.size := by have := g3.size; omega
  go_simp
  refine hK4.out _ _ (fun _ => ⟨c0, c1⟩) ?_
  clear hK4 K4 hS hp3 g3 gw hz
  try simp only [Act.put]
  refine wpAnyG_one (i := 5) rfl (by kernel_rfl) (fun K5 hK5 => ?_)
  go_simp
  refine hK5.out _ _ (fun _ => ⟨c0, c1⟩) ?_
  clear hK5 K5
  try simp only [Act.put]
  refine wpAnyG_one (i := 6) rfl (by kernel_rfl) (fun K6 hK6 => ?_)
  go_simp
  refine hK6.out _ _ (fun h => absurd rfl h) ?_
  clear hK6 K6
  try simp only [Act.put]
  refine wpAnyG_done (by kernel_rfl) ?_ _
  go_wp2_with fail
  refine bodyPost_ret (v := .agg #[.int .i64 id, .slice pa vals.length pc]) (by simp [results, Try.results39, go_sem, *]) rfl ⟨_, rfl, (by repeat' (first | with_reducible exact GW.out | with_reducible refine Gr.setCell ?_ ?_ _ | (dsimp only; omega))), ?_⟩
  exact (HP.out.loc (lo' := w.heap.size + 1 + 1) fr_int (by repeat' (first | with_reducible exact Loc.refl _ _ | with_reducible refine Loc.setCell ?_ ?_ _ | (dsimp only; omega))) (Nat.le_refl _)).wide (by omega) (by simp [World.setCell])
set_option maxRecDepth 100000 in
set_option maxHeartbeats 1000000 in
theorem spec_l3Copy (r : DRow) (u : Value) (w : World) (hu : RInts w u r.vals) (hb : r.vals.length ≤ 4294967296) :
    Calls Try.prog 20 #[.agg #[.int .i64 r.id, u]] w fun e w' => ∃ u', e = .returned (.agg #[.int .i64 r.id, u']) ∧ Gr w w' ∧ PInts (In w.heap.size w'.heap.size) w' u' r.vals := by
  obtain ⟨id, vals⟩ := r
  dsimp only at *
  obtain ⟨ua, uc, rfl, hsrc, hii⟩ := ints_src hu
  have HU := Lib.hid hsrc
  have HII := Lib.hid hii
  have HB := Lib.hid hb
  clear hu hb hsrc hii
  go_enter Try.func20, Try.ntmps20
  go_wp2
  obtain ⟨W, hW⟩ : ∃ W, W = ((w.alloc (.cells #[.int .i64 id, .slice ua vals.length uc] 47)).alloc (.cells #[.int .i64 0, .slice none 0 0] 47)).drew := ⟨_, rfl⟩
  have gw : Gr w W := by rw [hW]; exact (((Gr.refl w).alloc _).alloc _).drew
  have hz : w.heap.size + 1 + 1 = W.heap.size := by rw [hW]; show w.heap.size + 1 + 1 = ((w.alloc _).alloc _).heap.size; simp
  have c0 : W.cell? ⟨w.heap.size, 0, none⟩ = some (.int .i64 id) := by rw [hW]; show ((w.alloc _).alloc _).cell? _ = _; simp [go_sem]
  have c1 : W.cell? ⟨w.heap.size, 1, none⟩ = some (.slice ua vals.length uc) := by rw [hW]; show ((w.alloc _).alloc _).cell? _ = _; simp [go_sem]
  have d0 : W.cell? ⟨w.heap.size + 1, 0, none⟩ = some (.int .i64 0) := by rw [hW]; show ((w.alloc _).alloc _).cell? _ = _; simp [go_sem]
  have d1 : W.cell? ⟨w.heap.size + 1, 1, none⟩ = some (.slice none 0 0) := by rw [hW]; show ((w.alloc _).alloc _).cell? _ = _; simp [go_sem]
  have e0 : W.frozen? ⟨w.heap.size + 1, 0, none⟩ = false := by rw [hW]; show ((w.alloc _).alloc _).frozen? _ = _; simp [go_sem]
  have e1 : W.frozen? ⟨w.heap.size + 1, 1, none⟩ = false := by rw [hW]; show ((w.alloc _).alloc _).frozen? _ = _; simp [go_sem]
  have HSRC : Hid (SrcAt W ua (vals.map (Value.int .i64))) := Lib.hid (by
    rcases HU.out with h | ⟨b, off, h1, h2⟩
    · exact Or.inl h
    · exact Or.inr ⟨b, off, h1, fun j u hj => gw.cellv (h2 j u hj)⟩)
  refine wp_region_G (S := fun w' => w'.cell? ⟨w.heap.size, 0, none⟩ = some (.int .i64 id) ∧ w'.cell? ⟨w.heap.size, 1, none⟩ = some (.slice ua vals.length uc)) (m := 7) (by kernel_rfl) ?_
  rw [← hW]
  clear hW
  have hS : (fun w' : World => w'.cell? ⟨w.heap.size, 0, none⟩ = some (.int .i64 id) ∧ w'.cell? ⟨w.heap.size, 1, none⟩ = some (.slice ua vals.length uc)) W := ⟨c0, c1⟩
  refine wpAnyG_take (i := 0) (v := ?v0) hS rfl (by kernel_rfl) (by kernel_rfl) (by kernel_rfl) (by kernel_rfl) (fun _ _ _ h => h) (Or.inl ⟨by rfl, ?hy0⟩) ?rest0
  case hy0 => (intro w' hw'; (try dsimp only at hw'); go_simp; try with_reducible rfl)
  try simp only [Act.put]
  refine wpAnyG_take (i := 1) (v := ?v1) hS rfl (by kernel_rfl) (by kernel_rfl) (by kernel_rfl) (by kernel_rfl) (fun _ _ _ h => h) (Or.inl ⟨by rfl, ?hy1⟩) ?rest1
  case hy1 => (intro w' hw'; (try dsimp only at hw'); go_simp; try with_reducible rfl)
  try simp only [Act.put]
  refine wpAnyG_take (i := 3) (v := ?v2) hS rfl (by kernel_rfl) (by kernel_rfl) (by kernel_rfl) (by kernel_rfl) (fun _ _ _ h => h) (Or.inl ⟨by rfl, ?hy2⟩) ?rest2
  case hy2 => (intro w' hw'; (try dsimp only at hw'); go_simp; try with_reducible rfl)
  try simp only [Act.put]
  refine wpAnyG_take (i := 4) (v := ?v3) hS rfl (by kernel_rfl) (by kernel_rfl) (by kernel_rfl) (by kernel_rfl) (fun _ _ _ h => h) (Or.inl ⟨by rfl, ?hy3⟩) ?rest3
  case hy3 => (intro w' hw'; (try dsimp only at hw'); go_simp; try with_reducible rfl)
  try simp only [Act.put]
  refine wpAnyG_one (i := 2) rfl (by kernel_rfl) (fun K4 hK4 => ?_)
  go_simp
  have ga : Gr W (W.alloc (.cells #[] 3)) := (Gr.refl _).alloc _
  refine hK4.out _ _ (fun _ => ⟨ga.cellv c0, ga.cellv c1⟩) ?_
  clear hK4 K4
  try simp only [Act.put]
  refine wpAnyG_one (i := 5) rfl (by kernel_rfl) (fun K5 hK5 => ?_)
  refine step_copy_i (wr := W) rfl _ _ rfl (ys := vals) (by first | rfl | (rw [hz]; rfl) | (simp only [hz]; rfl)) rfl (by first | exact Or.inl rfl | exact Or.inr rfl) HSRC.out HII.out HB.out ?_
  intro pa pc w3 hown3 g3
  replace c0 := g3.cellv c0
  replace c1 := g3.cellv c1
  replace d0 := g3.cellv d0
  replace d1 := g3.cellv d1
  replace e0 := (g3.frozen (p := ⟨w.heap.size + 1, 0, none⟩) (by dsimp only; omega)).trans e0
  replace e1 := (g3.frozen (p := ⟨w.heap.size + 1, 1, none⟩) (by dsimp only; omega)).trans e1
  have GW := Lib.hid (gw.trans g3)
  have HP := Lib.hid (hown3.priv.wide (lo' := w.heap.size + 1 + 1) (hi' := w3.heap.size) (by omega) (Nat.le_refl _))
  have hz3 : w.heap.size + 1 + 1 ≤ w3.heap.size := by have := g3.size; omega
  refine hK5.out _ _ (fun _ => ⟨c0, c1⟩) ?_
  clear hK5 K5 hS hown3 g3 gw hz ga HSRC
  try simp only [Act.put]
  refine wpAnyG_one (i := 6) rfl (by kernel_rfl) (fun K5 hK5 => ?_)
  go_simp
  refine hK5.out _ _ (fun _ => ⟨c0, c1⟩) ?_
  clear hK5 K5
  try simp only [Act.put]
  refine wpAnyG_one (i := 7) rfl (by kernel_rfl) (fun K6 hK6 => ?_)
  go_simp
  refine hK6.out _ _ (fun h => absurd rfl h) ?_
  clear hK6 K6
  try simp only [Act.put]
  refine wpAnyG_done (by kernel_rfl) ?_ _
  go_wp2_with fail
  refine bodyPost_ret (v := .agg #[.int .i64 id, .slice pa vals.length pc]) (by simp [results, Try.results20, go_sem, *]) rfl ⟨_, rfl, (by repeat' (first | with_reducible exact GW.out | with_reducible refine Gr.setCell ?_ ?_ _ | (dsimp only; omega))), ?_⟩
  exact (HP.out.loc (lo' := w.heap.size + 1 + 1) fr_int (by repeat' (first | with_reducible exact Loc.refl _ _ | with_reducible refine Loc.setCell ?_ ?_ _ | (dsimp only; omega))) (Nat.le_refl _)).wide (by omega) (by simp [World.setCell])
def rTo (xs : List DRow) (k : Nat) : List DRow := xs.take k
theorem rTo_succ {xs : List DRow} {k : Nat} (h : k < xs.length) : rTo xs (k + 1) = rTo xs k ++ [xs[k]] := List.take_succ_eq_append_getElem h
theorem rTo_len {xs : List DRow} {k : Nat} (h : k ≤ xs.length) : (rTo xs k).length = k := by unfold rTo; rw [List.length_take]; omega
theorem rTo_all (xs : List DRow) : rTo xs xs.length = xs := List.take_length
set_option maxRecDepth 100000 in
set_option maxHeartbeats 1000000 in
theorem impl_copyRows (v : Value) (xs : List DRow) (w : World) (hv : RRows w v xs) (hb : totL totRow xs ≤ 4294967296) :
    Calls Try.prog 22 #[v] w fun e w' => ∃ u, e = .returned u ∧ Gr w w' ∧ PRows (In w.heap.size w'.heap.size) w' u xs := by
  have hbs : xs.length ≤ 4294967296 ∧ ∀ k (h : k < xs.length), xs[k].vals.length ≤ 4294967296 := by
    refine ⟨by unfold totL at hb; omega, fun k h => ?_⟩
    have h2 := sumT_mem totRow xs k h
    unfold totL at hb
    simp only [totRow] at h2
    omega
  have HBS := Lib.hid hbs
  clear hbs
  obtain ⟨a, cap, rfl, hl, hm, hx3⟩ := hv
  have g0 : Gr w (w.alloc (.cells #[] 47)) := (Gr.refl w).alloc _
  have HST : Hid (PRows (In w.heap.size (w.alloc (.cells #[] 47)).heap.size) (w.alloc (.cells #[] 47)) (.slice (some ⟨w.heap.size, 0, none⟩) 0 0) (rTo xs 0)) := Lib.hid (OSl.made w ⟨Nat.le_refl _, by simp⟩)
  go_enter Try.func22, Try.ntmps22
  go_wp2
  go_loopw [3, 9] (fun out i wr => ∃ (k : Nat) (b : Option Addr) (c : Nat), k ≤ xs.length ∧ i = .int .i64 k ∧ out = .slice b (rTo xs k).length c ∧ Hid (PRows (In w.heap.size wr.heap.size) wr out (rTo xs k)) ∧ Gr w wr) (fun _ i _ => xs.length - (intOf i).toNat)
  case atStart => exact ⟨0, _, _, Nat.zero_le _, rfl, rfl, HST, g0⟩
  case round =>
    obtain ⟨k, bo, co, hk, rfl, rfl, ho, hgr⟩ := hrel
    by_cases hlt : k < xs.length
    · obtain ⟨b3, off3, cs3, rfl, hlen3, ⟨u_vals3, rfl, i_id3, h_vals3⟩, hc3⟩ := hx3 k hlt
      have c0 := hgr.cellv (hc3 0 (by simp))
      have c1 := hgr.cellv (hc3 1 (by simp))
      simp only [Nat.add_zero, List.getElem_cons_zero, List.getElem_cons_succ] at c0 c1
      clear hc3 hlen3
      obtain ⟨va, vn, vc, rfl⟩ := RSlice.isSl h_vals3
      have gq : Gr wr (wr.alloc (.cells #[.int .i64 xs[k].id, .slice va vn vc] 47)) := (Gr.refl _).alloc _
      have hgq := hgr.trans gq
      have HI3 := Lib.hid i_id3
      have HC3 := Lib.hid (RSlice.mono keeps_int hgq h_vals3)
      have HS := Lib.hid (rTo_succ hlt)
      have HB : Hid (((rTo xs k).length + 1) * 32 ≤ 140737488355328) := Lib.hid (by rw [rTo_len hk]; have := HBS.out.1; omega)
      have HSZ := Lib.hid hgr.size
      have HSQ := Lib.hid gq.size
      clear h_vals3
      go_wp2_with fail
      refine (impl_copyRow xs[k] _ _ HC3.out (HBS.out.2 k hlt)).mono ?_
      rintro e w2 ⟨u2, rfl, g2, hc2⟩
      obtain ⟨ca, cc, rfl⟩ := hc2.form
      have HQ2 : Hid (PRow (In (wr.alloc (.cells #[.int .i64 xs[k].id, .slice va vn vc] 47)).heap.size w2.heap.size) w2 [.int .i64 xs[k].id, .slice ca xs[k].vals.length cc] xs[k]) := Lib.hid ⟨_, rfl, HI3.out, hc2⟩
      have gr2 := gq.trans g2
      clear hc2 g2
      go_wp2_with (at_builtin; refine push_o (w0 := wr) (wr := w2) (la := (wr.alloc (.cells #[.int .i64 xs[k].id, .slice va vn vc] 47)).heap.size) (hb := w2.heap.size) (lo := w.heap.size) 24 47 2 32 Try.underlying24 (z := .agg #[.int .i64 0, .slice none 0 0]) (by kernel_rfl) rfl (by decide) (by decide) rfl _ _ rfl fr_row xs[k] [.int .i64 xs[k].id, .slice ca xs[k].vals.length cc] rfl rfl rfl ho.out HSZ.out gr2 HQ2.out HSQ.out (Nat.le_refl _) rfl (by simp [Value.oneCell']) HB.out ?_; intro g4 cap4 w4 hown4 hb4)
      go_roundw
      case rel => exact ⟨k + 1, _, _, by omega, by go_num, by rw [HS.out, List.length_append, List.length_singleton], Lib.hid (by have h := hown4; rw [List.length_append, List.length_singleton] at h; rw [HS.out]; exact h), (hgr.trans gr2).trans' hb4⟩
      case measure => simp [intOf]; omega
    · obtain rfl : k = xs.length := by omega
      rw [rTo_all] at ho
      go_wp2_with fail
      go_ret
      exact ⟨_, rfl, hgr, by rw [rTo_all]; exact ho.out⟩
end Go.Proofs.Ytjeffagejbdjkaa
