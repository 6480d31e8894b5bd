/- SegmentRows: the walks. -/
import Derived.Test.YtnnapjaggahjgaaSeg
import Derived.Test.YtnnapjaggahjgaaStepN
import Derived.Test.YtnnapjaggahjgaaStoreR
namespace Go.Proofs.Ytnnapjaggahjgaa
open Go.RowKit
set_option maxRecDepth 100000 in
set_option maxHeartbeats 1000000 in
theorem spec_l7Rows (v : Value) (vs : List DVersion) (t : Int) (w : World) (hv : RVersions w v vs) (hb : totL totVersion vs ≤ 4294967296) :
    Calls Try.prog 102 #[v, .int .i64 t] w fun e w' => ∃ u, e = .returned u ∧ Gr w w' ∧ PRows (In w.heap.size w'.heap.size) w' u (visTo vs t vs.length) := by
  have hbs : vs.length ≤ 4294967296 ∧ ∀ k (h : k < vs.length), vs[k].vals.length ≤ 4294967296 := by
    refine ⟨by unfold totL at hb; omega, fun k h => ?_⟩
    have h2 := sumT_mem totVersion vs k h
    unfold totL at hb
    unfold totVersion at h2 hb
    omega
  have HBS := Lib.hid hbs
  clear hbs
  obtain ⟨a, cap, rfl, hl, hm, hx3⟩ := hv
  have g0 : Gr w (w.alloc (.cells #[] 46)) := (Gr.refl w).alloc _
  have HST : Hid (PRows (In w.heap.size (w.alloc (.cells #[] 46)).heap.size) (w.alloc (.cells #[] 46)) (.slice (some ⟨w.heap.size, 0, none⟩) 0 0) []) := Lib.hid (OSl.made w ⟨Nat.le_refl _, by simp⟩)
  go_enter Try.func102, Try.ntmps102
  go_wp2
  go_loopw [5, 6] (fun out i wr => ∃ (k : Nat) (b : Option Addr) (c : Nat), k ≤ vs.length ∧ i = .int .i64 k ∧ out = .slice b (visTo vs t k).length c ∧ Hid (PRows (In w.heap.size wr.heap.size) wr out (visTo vs t k)) ∧ Gr w wr) (fun _ i _ => vs.length - (intOf i).toNat)
  case atStart => exact ⟨0, _, _, Nat.zero_le _, rfl, rfl, HST, g0⟩
  case round =>
    obtain ⟨k, bo, co, hk, rfl, rfl, ho, hgr⟩ := hrel
    by_cases hlt : k < vs.length
    · obtain ⟨b3, off3, cs3, rfl, hlen3, ⟨u_vals3, rfl, i_id3, h_vals3, i_born3, i_died3⟩, hc3⟩ := hx3 k hlt
      have c0 := hgr.cellv (hc3 0 (by simp))
      have c1 := hgr.cellv (hc3 1 (by simp))
      have c2 := hgr.cellv (hc3 2 (by simp))
      have c3 := hgr.cellv (hc3 3 (by simp))
      simp only [Nat.add_zero, List.getElem_cons_zero, List.getElem_cons_succ] at c0 c1 c2 c3
      clear hc3 hlen3
      obtain ⟨va, vc, rfl, hsrc, hi3⟩ := ints_src h_vals3
      have HI3 := Lib.hid i_id3
      have HV3 := Lib.hid h_vals3
      have HSR := Lib.hid hsrc
      have HII := Lib.hid hi3
      have i0 : (0 : Int) ≤ (k : Int) := Int.natCast_nonneg _
      have i1 : (k : Int) < (vs.length : Int) := by omega
      clear h_vals3 hsrc hi3
      cases hv : isVisB vs[k] t with
      | false =>
        have HS := Lib.hid (visTo_no hlt hv)
        have HV := Lib.hid hv
        clear hv
        go_wp2_with fail
        refine (calls_b (spec_IsVisible vs[k] _ t _ (RSlice.mono keeps_int hgr HV3.out)) HV.out).mono ?_
        rintro e w2 ⟨rfl, g2⟩
        go_wp2_with fail
        go_roundw
        case rel => exact ⟨k + 1, _, _, by omega, by go_num, by rw [HS.out], Lib.hid (by rw [HS.out]; exact (ho.out.gr fr_row g2).wide (Nat.le_refl _) g2.size), hgr.trans g2⟩
        case measure => simp [intOf]; omega
      | true =>
        have HS := Lib.hid (visTo_yes hlt hv)
        have HV := Lib.hid hv
        clear hv
        go_wp2_with fail
        refine (calls_b (spec_IsVisible vs[k] _ t _ (RSlice.mono keeps_int hgr HV3.out)) HV.out).mono ?_
        rintro e w2 ⟨rfl, g2⟩
        have gw2 := hgr.trans g2
        replace c0 := g2.cellv c0
        replace c1 := g2.cellv c1
        have hlb : b3 < w2.heap.size := World.block_lt_of_cell? w2 _ c0
        have HSZ := Lib.hid hgr.size
        have HSZ2 := Lib.hid g2.size
        have HSR2 : Hid (SrcAt w2 va (vs[k].vals.map (Value.int .i64))) := Lib.hid (by
          rcases HSR.out with h | ⟨b, off, h1, h2⟩
          · exact Or.inl h
          · exact Or.inr ⟨b, off, h1, fun j u hj => gw2.cellv (h2 j u hj)⟩)
        have HLW : Hid (b3 < w.heap.size) := Lib.hid (by obtain ⟨b', off', cs', e', hle', _, hc'⟩ := hx3 k hlt; simp only [Option.some.injEq, Addr.mk.injEq] at e'; obtain ⟨rfl, rfl, -⟩ := e'; exact World.block_lt_of_cell? w _ (hc' 0 (by omega)))
        have HB : Hid (((visTo vs t k).length + 1) * 32 ≤ 140737488355328) := Lib.hid (by have := visTo_len vs t k; have := HBS.out.1; omega)
        clear c2 c3
        go_wp2
        first | (go_region_held3 (fun w' => w'.cell? ⟨b3, off3 + k * 4, none⟩ = some (.int .i64 vs[k].id) ∧ w'.cell? ⟨b3, off3 + k * 4 + 1, none⟩ = some (.slice va vs[k].vals.length vc))
          (first | exact ⟨c0, c1⟩ | exact ⟨Gr.cellv ((Gr.refl w2).alloc _).drew c0, Gr.cellv ((Gr.refl w2).alloc _).drew c1⟩ | exact ⟨Gr.cellv (Gr.alloc hb3 _) c0, Gr.cellv (Gr.alloc hb3 _) c1⟩ | exact ⟨Gr.cellv (Gr.alloc hb3 _).drew c0, Gr.cellv (Gr.alloc hb3 _).drew c1⟩ | exact ⟨Gr.cellv ((Gr.refl w2).alloc _) c0, Gr.cellv ((Gr.refl w2).alloc _) c1⟩ | exact ⟨Gr.cellv hb3 c0, Gr.cellv hb3 c1⟩ | exact ⟨(hb4.cell (by have := HLW.out; dsimp only; omega)).trans (Gr.cellv hb3 c0), (hb4.cell (by have := HLW.out; dsimp only; omega)).trans (Gr.cellv hb3 c1)⟩)
          (first | (refine step_copy_i (wr := w2) rfl _ _ rfl (ys := vs[k].vals) rfl rfl (by first | exact Or.inl rfl | exact Or.inr rfl) HSR2.out HII.out (HBS.out.2 k hlt) ?_; intro b5 c5 w3 hown3 hb3) | (refine step_push_on (w0 := wr) (wr := w3) (la := w2.heap.size) (hb := w3.heap.size) (lo := w.heap.size) 67 46 2 32 Try.underlying67 (z := .agg #[.int .i64 0, .slice none 0 0]) (by kernel_rfl) rfl (by decide) (by decide) rfl _ _ rfl fr_row ⟨vs[k].id, vs[k].vals⟩ [.int .i64 vs[k].id, .slice b5 vs[k].vals.length c5] rfl rfl rfl ho.out HSZ.out (g2.trans hb3) ⟨_, rfl, HI3.out, hown3.priv⟩ HSZ2.out (Nat.le_refl _) rfl (by simp [Value.oneCell']) HB.out ?_; intro g4 cap4 w4 hown4 hb4))) | fail
        go_wp2
        go_roundw
        case rel => exact ⟨k + 1, _, _, by omega, by go_num, by rw [HS.out, List.length_append, List.length_singleton], Lib.hid (by have h := hown4; rw [List.length_append, List.length_singleton] at h; rw [HS.out]; exact h), (gw2.trans hb3).trans' hb4⟩
        case measure => simp [intOf]; omega
    · obtain rfl : k = vs.length := by omega
      go_wp2_with fail
      go_ret
      exact ⟨_, rfl, hgr, ho.out⟩
set_option maxRecDepth 100000 in
set_option maxHeartbeats 1000000 in
theorem spec_SegmentRows (s : DStore) (u : Value) (g t : Int) (w : World) (hu : RVersionss w u s.segs) (hb : totStore s ≤ 4294967296) :
    Calls Try.prog 47 #[.agg #[u, .int .i64 s.now], .int .i64 g, .int .i64 t] w fun e w' => ∃ v, e = .returned v ∧ RRows w' v (segRowsL s g t) ∧ Gr w w' := by
  have HBT := Lib.hid hb
  have HUU := Lib.hid hu
  have HTT := Lib.hid (segAtL_tot s g)
  obtain ⟨xs, now⟩ := s
  obtain ⟨a, cap, rfl, hl, hm, hx⟩ := hu
  dsimp only at *
  have g0 : Gr w (w.alloc (.cells #[.slice a xs.length cap, .int .i64 now] 29)) := (Gr.refl w).alloc _
  cases h1 : isStoreB ⟨xs, now⟩ with
  | false =>
    have HE := Lib.hid (segRowsL_no1 (g := g) (t := t) h1)
    have H1 := Lib.hid h1
    clear h1
    go_enter Try.func47, Try.ntmps47
    go_wp2_with fail
    refine (calls_b (spec_IsStore ⟨xs, now⟩ _ _ (RSlice.mono (keeps_of keeps_version) g0 HUU.out) HBT.out) H1.out).mono ?_
    rintro e w1 ⟨rfl, g1⟩
    go_wp2_with fail
    go_ret
    exact ⟨_, rfl, by rw [HE.out]; exact rd_prows (OSl.made (F := fun _ => True) _ trivial), (g0.trans g1).alloc _⟩
  | true =>
    have hp := isStoreB_parts h1
    have hl0 : (0 : Int) ≤ (xs.length : Int) - 1 ∧ (xs.length : Int) - 1 ≤ 8 := by have := hp.1.1; have := hp.1.2; dsimp only at *; omega
    have H1 := Lib.hid h1
    clear hp
    cases h2 : inB g 0 ((xs.length : Int) - 1) with
    | false =>
      have HE := Lib.hid (segRowsL_no2 (s := ⟨xs, now⟩) (t := t) h2)
      have H2 := Lib.hid h2
      clear h1 h2
      go_enter Try.func47, Try.ntmps47
      go_wp2_with fail
      refine (calls_b (spec_IsStore ⟨xs, now⟩ _ _ (RSlice.mono (keeps_of keeps_version) g0 HUU.out) HBT.out) H1.out).mono ?_
      rintro e w1 ⟨rfl, g1⟩
      have k0 : w1.cell? ⟨w.heap.size, 0, none⟩ = some (.slice a xs.length cap) := g1.cellv (by simp [go_sem])
      go_wp2_with fail
      refine (calls_b (R := fun w' => w1 = w') (spec_l1In _ _ _ _) H2.out).mono ?_
      rintro e w2 ⟨rfl, rfl⟩
      go_wp2_with fail
      go_ret
      exact ⟨_, rfl, by rw [HE.out]; exact rd_prows (OSl.made (F := fun _ => True) _ trivial), (g0.trans g1).alloc _⟩
    | true =>
      have HE := Lib.hid (segRowsL_yes (t := t) h1 h2)
      obtain ⟨G, rfl⟩ := Int.eq_ofNat_of_zero_le (inB_true h2).1
      have hG : G < xs.length := by have := (inB_true h2).2; omega
      have HAT := Lib.hid (segAtL_at (s := ⟨xs, now⟩) rfl hG)
      have H2 := Lib.hid h2
      clear h1 h2
      obtain ⟨b, off, cs, rfl, hlen, ⟨us, rfl, hus⟩, hc⟩ := hx G hG
      have HUS := Lib.hid hus
      obtain ⟨ea, ec, rfl⟩ := hus.form
      have c0 := hc 0 (by simp)
      simp only [Nat.add_zero, Nat.mul_one, List.getElem_cons_zero] at c0
      have i0 : (0 : Int) ≤ (G : Int) := Int.natCast_nonneg _
      have i1 : (G : Int) < (xs.length : Int) := by omega
      have HTV : Hid (totL totVersion xs[G] ≤ 4294967296) := Lib.hid (by have h := HTT.out; rw [HAT.out] at h; exact Nat.le_trans h HBT.out)
      clear hus hc hlen
      go_enter Try.func47, Try.ntmps47
      go_wp2_with fail
      refine (calls_b (spec_IsStore ⟨xs, now⟩ _ _ (RSlice.mono (keeps_of keeps_version) g0 HUU.out) HBT.out) H1.out).mono ?_
      rintro e w1 ⟨rfl, g1⟩
      have gw1 := g0.trans g1
      have k0 : w1.cell? ⟨w.heap.size, 0, none⟩ = some (.slice (some ⟨b, off, none⟩) xs.length cap) := g1.cellv (by simp [go_sem])
      replace c0 := gw1.cellv c0
      go_wp2_with fail
      refine (calls_b (R := fun w' => w1 = w') (spec_l1In _ _ _ _) H2.out).mono ?_
      rintro e w2 ⟨rfl, rfl⟩
      go_wp2_with fail
      refine (spec_l7Rows _ xs[G] t _ (RSlice.mono keeps_version gw1 HUS.out) HTV.out).mono ?_
      rintro e w2 ⟨v, rfl, g2, hv⟩
      obtain ⟨va, vc, rfl⟩ := hv.form
      have HV := Lib.hid hv
      clear hv
      go_wp2_with fail
      go_ret
      exact ⟨_, rfl, by rw [HE.out, HAT.out]; exact rd_prows HV.out, gw1.trans g2⟩
set_option maxRecDepth 100000 in
set_option maxHeartbeats 1000000 in
theorem impl_SegmentRows (s : DStore) (u : Value) (g t : Int) (w : World) (hu : RVersionss w u s.segs) (hb : totStore s ≤ 4294967296) :
    Calls Try.prog 48 #[.agg #[u, .int .i64 s.now], .int .i64 g, .int .i64 t] w fun e w' => ∃ v, e = .returned v ∧ Gr w w' ∧ PRows (In w.heap.size w'.heap.size) w' v (segRowsL s g t) := by
  have HBT := Lib.hid hb
  have HUU := Lib.hid hu
  obtain ⟨xs, now⟩ := s
  obtain ⟨a, cap, rfl, hl, hm, hx⟩ := hu
  dsimp only at *
  have g0 : Gr w (w.alloc (.cells #[.slice a xs.length cap, .int .i64 now] 29)) := (Gr.refl w).alloc _
  cases h1 : isStoreB ⟨xs, now⟩ with
  | false =>
    have HE := Lib.hid (segRowsL_no1 (g := g) (t := t) h1)
    have H1 := Lib.hid h1
    clear h1
    go_enter Try.func48, Try.ntmps48
    go_wp2_with fail
    refine (calls_b (impl_IsStore ⟨xs, now⟩ _ _ (RSlice.mono (keeps_of keeps_version) g0 HUU.out) HBT.out) H1.out).mono ?_
    rintro e w1 ⟨rfl, g1⟩
    go_wp2_with fail
    go_ret
    exact ⟨_, rfl, g0.trans g1, by rw [HE.out]; exact OSl.nil _⟩
  | true =>
    have hp := isStoreB_parts h1
    have hl0 : (0 : Int) ≤ (xs.length : Int) - 1 ∧ (xs.length : Int) - 1 ≤ 8 := by have := hp.1.1; have := hp.1.2; dsimp only at *; omega
    have H1 := Lib.hid h1
    clear hp
    cases h2 : inB g 0 ((xs.length : Int) - 1) with
    | false =>
      have HE := Lib.hid (segRowsL_no2 (s := ⟨xs, now⟩) (t := t) h2)
      have H2 := Lib.hid h2
      clear h1 h2
      go_enter Try.func48, Try.ntmps48
      go_wp2_with fail
      refine (calls_b (impl_IsStore ⟨xs, now⟩ _ _ (RSlice.mono (keeps_of keeps_version) g0 HUU.out) HBT.out) H1.out).mono ?_
      rintro e w1 ⟨rfl, g1⟩
      have k0 : w1.cell? ⟨w.heap.size, 0, none⟩ = some (.slice a xs.length cap) := g1.cellv (by simp [go_sem])
      go_wp2_with fail
      refine (calls_b (R := fun w' => w1 = w') (impl_within _ _ _ _) H2.out).mono ?_
      rintro e w2 ⟨rfl, rfl⟩
      go_wp2_with fail
      go_ret
      exact ⟨_, rfl, g0.trans g1, by rw [HE.out]; exact OSl.nil _⟩
    | true =>
      have HE := Lib.hid (segRowsL_yes (t := t) h1 h2)
      obtain ⟨G, rfl⟩ := Int.eq_ofNat_of_zero_le (inB_true h2).1
      have hG : G < xs.length := by have := (inB_true h2).2; omega
      have HAT := Lib.hid (segAtL_at (s := ⟨xs, now⟩) rfl hG)
      have H2 := Lib.hid h2
      clear h1 h2
      go_enter Try.func48, Try.ntmps48
      go_wp2_with fail
      refine (calls_b (impl_IsStore ⟨xs, now⟩ _ _ (RSlice.mono (keeps_of keeps_version) g0 HUU.out) HBT.out) H1.out).mono ?_
      rintro e w1 ⟨rfl, g1⟩
      have gw1 := g0.trans g1
      have k0 : w1.cell? ⟨w.heap.size, 0, none⟩ = some (.slice a xs.length cap) := g1.cellv (by simp [go_sem])
      have k1 : w1.cell? ⟨w.heap.size, 1, none⟩ = some (.int .i64 now) := g1.cellv (by simp [go_sem])
      go_wp2_with fail
      refine (calls_b (R := fun w' => w1 = w') (impl_within _ _ _ _) H2.out).mono ?_
      rintro e w2 ⟨rfl, rfl⟩
      go_wp2_with fail
      refine (impl_segmentRows ⟨xs, now⟩ _ G hG t _ (RSlice.mono (keeps_of keeps_version) gw1 HUU.out) HBT.out).mono ?_
      rintro e w2 ⟨v, rfl, g2, hv⟩
      obtain ⟨va, vc, rfl⟩ := hv.form
      have HV := Lib.hid hv
      have HZ := Lib.hid gw1.size
      clear hv
      go_wp2_with fail
      go_ret
      exact ⟨_, rfl, gw1.trans g2, by rw [HE.out, HAT.out]; exact HV.out.wide HZ.out (Nat.le_refl _)⟩
end Go.Proofs.Ytnnapjaggahjgaa
