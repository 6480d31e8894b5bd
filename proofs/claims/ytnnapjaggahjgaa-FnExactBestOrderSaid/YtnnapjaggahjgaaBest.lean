/- BestOrder: the walks. Written by gen_best.py. -/
import Derived.Test.YtnnapjaggahjgaaBestP
import Derived.Test.YtnnapjaggahjgaaExt
namespace Go.Proofs.Ytnnapjaggahjgaa
open Go.RowKit
theorem pints3 {w : World} {g : Nat} {a b c : Int} (h : w.heap[g]? = some (.cells #[.int .i64 a, .int .i64 b, .int .i64 c] 3 (0, 0))) (ha : I64 a) (hb : I64 b) (hc : I64 c) : PInts (fun k => k = g) w (.slice (some ⟨g, 0, none⟩) 3 3) [a, b, c] := by
  have hrow : w.ownsRow 0 3 1 (.slice (some ⟨g, 0, none⟩) 3 3) [a, b, c].length ([a, b, c].map (Value.int .i64)) :=
    ⟨by simp, Or.inr ⟨g, 3, _, rfl, Nat.zero_le _, h, Nat.le_refl _, by simp [maxLen], by simp, by simp⟩⟩
  exact pints_of rfl hrow (fun x hx => by
    simp only [List.mem_cons, List.not_mem_nil, or_false] at hx
    rcases hx with rfl | rfl | rfl <;> assumption) fun k hk => (Option.some.inj hk).symm
theorem heap_at {W W' : World} {o : Obj} {n : Nat} (hs : W.heap.size = n) (hg : Gr (W.alloc o) W') : W'.heap[n]? = some o := by
  subst hs
  rw [hg.block _ (by simp)]
  exact heap_alloc_new W o
def ordK (W : World) : Nat → World
  | 0 => W
  | k + 1 => (ordK W k).alloc (.cells #[.int .i64 ((ordOf k).getD 0 0), .int .i64 ((ordOf k).getD 1 0), .int .i64 ((ordOf k).getD 2 0)] 3)
theorem ordK_len (W : World) : ∀ k, (ordK W k).heap.size = W.heap.size + k
  | 0 => rfl
  | k + 1 => by unfold ordK; simp [ordK_len W k]; omega
theorem ordK_gr (W : World) (j : Nat) : ∀ d, Gr (ordK W j) (ordK W (j + d))
  | 0 => Gr.refl _
  | d + 1 => Gr.alloc (ordK_gr W j d) _
theorem ordOf_i64 : ∀ k, k < 6 → ∀ i, i < 3 → I64 ((ordOf k).getD i 0) := by
  have h : ∀ k, k < 6 → ∀ i, i < 3 → 0 ≤ (ordOf k).getD i 0 ∧ (ordOf k).getD i 0 ≤ 2 := by decide
  intro k hk i hi
  have := h k hk i hi
  unfold I64; omega
theorem ordOf_three : ∀ k, k < 6 → ordOf k = [(ordOf k).getD 0 0, (ordOf k).getD 1 0, (ordOf k).getD 2 0] := by decide
def ordW (W : World) : World := (((((((W.alloc (.cells #[.int .i64 0, .int .i64 1, .int .i64 2] 3)).alloc (.cells #[.int .i64 0, .int .i64 2, .int .i64 1] 3)).alloc (.cells #[.int .i64 1, .int .i64 0, .int .i64 2] 3)).alloc (.cells #[.int .i64 1, .int .i64 2, .int .i64 0] 3)).alloc (.cells #[.int .i64 2, .int .i64 0, .int .i64 1] 3)).alloc (.cells #[.int .i64 2, .int .i64 1, .int .i64 0] 3)).alloc (.cells #[.slice (some ⟨W.heap.size, 0, none⟩) 3 3, .slice (some ⟨W.heap.size + 1, 0, none⟩) 3 3, .slice (some ⟨W.heap.size + 1 + 1, 0, none⟩) 3 3, .slice (some ⟨W.heap.size + 1 + 1 + 1, 0, none⟩) 3 3, .slice (some ⟨W.heap.size + 1 + 1 + 1 + 1, 0, none⟩) 3 3, .slice (some ⟨W.heap.size + 1 + 1 + 1 + 1 + 1, 0, none⟩) 3 3] 34))
theorem ordW_eq (W : World) : ∃ o, ordW W = (ordK W 6).alloc o := ⟨_, rfl⟩
theorem ordW_gr (W : World) : Gr W (ordW W) := by
  obtain ⟨o, h⟩ := ordW_eq W
  rw [h]; exact Gr.alloc (by have := ordK_gr W 0 6; exact this) _
theorem ordW_own (W : World) (k : Nat) (hk : k < 6) : PInts (fun b => b = W.heap.size + k) (ordW W) (.slice (some ⟨W.heap.size + k, 0, none⟩) 3 3) (ordOf k) := by
  obtain ⟨o, h⟩ := ordW_eq W
  rw [ordOf_three k hk, h]
  refine pints3 (heap_at (W := ordK W k) (ordK_len W k) (Gr.alloc ?_ _)) (ordOf_i64 k hk 0 (by decide)) (ordOf_i64 k hk 1 (by decide)) (ordOf_i64 k hk 2 (by decide))
  have := ordK_gr W (k + 1) (5 - k)
  rw [show k + 1 + (5 - k) = 6 from by omega] at this
  exact this
theorem ordW_cell (W : World) : ∀ k, k < 6 → (ordW W).cell? ⟨W.heap.size + 6, k, none⟩ = some (.slice (some ⟨W.heap.size + k, 0, none⟩) 3 3)
  | 0, _ => by unfold ordW; simp [go_sem]
  | 1, _ => by unfold ordW; simp [go_sem]
  | 2, _ => by unfold ordW; simp [go_sem]
  | 3, _ => by unfold ordW; simp [go_sem]
  | 4, _ => by unfold ordW; simp [go_sem]
  | 5, _ => by unfold ordW; simp [go_sem]
theorem ordW_len (W : World) : (ordW W).heap.size = W.heap.size + 7 := by unfold ordW; simp
theorem next_yes {x : DIndex} {rows : List DRow} {k j : Nat} (hj : j = bestI x rows (k - 1)) (h : workL x rows (ordOf k) < workL x rows (ordOf j)) : k = bestI x rows (k + 1 - 1) := by
  cases k with
  | zero => subst hj; exact absurd h (by simp [bestI])
  | succ k => subst hj; exact (bestI_yes h).symm
theorem next_no {x : DIndex} {rows : List DRow} {k j : Nat} (hj : j = bestI x rows (k - 1)) (h : ¬ workL x rows (ordOf k) < workL x rows (ordOf j)) : j = bestI x rows (k + 1 - 1) := by
  cases k with
  | zero => exact hj
  | succ k => subst hj; exact (bestI_no h).symm
set_option maxRecDepth 100000 in
set_option maxHeartbeats 2000000 in
theorem impl_BestOrder (x : DIndex) (u v : Value) (t : Value) (rows : List DRow) (w : World) (hu : RQueries w u x.queries) (hv : RSpanss w v x.fields) (ht : RRows w t rows) (hb : totIndex x ≤ 4294967296) (hb2 : totL totRow rows ≤ 4294967296) :
    Calls Try.prog 72 #[.agg #[u, v], t] w fun e w' => ∃ r, e = .returned r ∧ Gr w w' ∧ PInts (In w.heap.size w'.heap.size) w' r (bestL x rows) := by
  obtain ⟨ua, un, uc, rfl⟩ := hu.isSl
  obtain ⟨fa, fn, fc, rfl⟩ := hv.isSl
  obtain ⟨ta, tn, tc, rfl⟩ := ht.isSl
  have HU := Lib.hid hu
  have HV := Lib.hid hv
  have HT := Lib.hid ht
  have HB := Lib.hid hb
  have HB2 := Lib.hid hb2
  clear hu hv ht hb hb2
  have g0 : Gr w (w.alloc (.cells #[.slice ua un uc, .slice fa fn fc] 87)) := (Gr.refl w).alloc _
  cases h1 : isIndexB x with
  | false =>
    have HE := Lib.hid (bestL_no (rows := rows) h1)
    have H1 := Lib.hid h1
    clear h1
    go_enter Try.func72, Try.ntmps72
    go_wp2_with fail
    refine (calls_b (impl_IsIndex x _ _ _ (RSlice.mono keeps_query g0 HU.out) (RSlice.mono (keeps_of keeps_span) g0 HV.out)) H1.out).mono ?_
    rintro e w1 ⟨rfl, g1⟩
    go_wp2_with fail
    go_ret
    exact ⟨_, rfl, g0.trans g1, by rw [HE.out]; exact OSl.nil _⟩
  | true =>
    have HE := Lib.hid (bestL_yes (rows := rows) h1)
    have H1 := Lib.hid h1
    clear h1
    go_enter Try.func72, Try.ntmps72
    go_wp2_with fail
    refine (calls_b (impl_IsIndex x _ _ _ (RSlice.mono keeps_query g0 HU.out) (RSlice.mono (keeps_of keeps_span) g0 HV.out)) H1.out).mono ?_
    rintro e w1 ⟨rfl, g1⟩
    have gw1 := g0.trans g1
    have p0 : w1.cell? ⟨w.heap.size, 0, none⟩ = some (.slice ua un uc) := g1.cellv (by simp [go_sem])
    have p1 : w1.cell? ⟨w.heap.size, 1, none⟩ = some (.slice fa fn fc) := g1.cellv (by simp [go_sem])
    have HOC := Lib.hid (ordW_cell w1)
    have HOO := Lib.hid (ordW_own w1)
    have HOG := Lib.hid (ordW_gr w1)
    have HOL := Lib.hid (ordW_len w1)
    have o0 := HOC.out 0 (by decide)
    clear g1
    go_wp2_with fail
    go_loopw [6, 24] (fun b i wr => ∃ k j : Nat, k ≤ 6 ∧ j < 6 ∧ i = .int .i64 k ∧ Hid (j = bestI x rows (k - 1)) ∧ b = .slice (some ⟨w1.heap.size + j, 0, none⟩) 3 3 ∧ Gr (ordW w1) wr) (fun _ i _ => 6 - (intOf i).toNat)
    case atStart => exact ⟨0, 0, by decide, by decide, rfl, Lib.hid rfl, rfl, Gr.refl _⟩
    case round =>
      obtain ⟨k, j, hk, hj, rfl, hh, rfl, hg⟩ := hrel
      have G1 := Lib.hid (gw1.trans (HOG.out.trans hg))
      by_cases hlt : k < 6
      · have i0 : (0 : Int) ≤ (k : Int) := Int.natCast_nonneg _
        have i1 : (k : Int) < 6 := by omega
        have c0 : wr.cell? ⟨w1.heap.size + 1 + 1 + 1 + 1 + 1 + 1, k, none⟩ = some (.slice (some ⟨w1.heap.size + k, 0, none⟩) 3 3) := hg.cellv (HOC.out k hlt)
        have b0 := hg.cellv (HOG.out.cellv p0)
        have b1 := hg.cellv (HOG.out.cellv p1)
        have RU := Lib.hid (RSlice.mono keeps_query G1.out HU.out)
        have RV := Lib.hid (RSlice.mono (keeps_of keeps_span) G1.out HV.out)
        have RT := Lib.hid (RSlice.mono keeps_row G1.out HT.out)
        have RK := Lib.hid (RSlice.mono keeps_int hg (rd_pints (HOO.out k hlt)))
        have RJ := Lib.hid (RSlice.mono keeps_int hg (rd_pints (HOO.out j hj)))
        have HL := Lib.hid hlt
        have HJ := Lib.hid hj
        clear p0 p1 o0 hj
        by_cases hc : workL x rows (ordOf k) < workL x rows (ordOf j)
        · have HC := Lib.hid (next_yes hh.out hc)
          have hd : decide (workL x rows (ordOf k) < workL x rows (ordOf j)) = true := by simpa using hc
          clear hc
          go_wp2_with fail
          have q0 := fun q : Ext wr => Ext.cell b0 q
          have q1 := fun q : Ext wr => Ext.cell b1 q
          refine wp_region_ext (by kernel_rfl) (by kernel_rfl) ?_
          repeat (go_big_quiet_step ((go_at_call 66; first | exact quiet_ext (impl_WorkOf x _ _ _ rows _ (ordOf k) _ (RSlice.mono keeps_query (Ext.gr _) RU.out) (RSlice.mono (keeps_of keeps_span) (Ext.gr _) RV.out) (RSlice.mono keeps_row (Ext.gr _) RT.out) (RSlice.mono keeps_int (Ext.gr _) RK.out) HB.out HB2.out) | exact quiet_ext (impl_WorkOf x _ _ _ rows _ (ordOf j) _ (RSlice.mono keeps_query (Ext.gr _) RU.out) (RSlice.mono (keeps_of keeps_span) (Ext.gr _) RV.out) (RSlice.mono keeps_row (Ext.gr _) RT.out) (RSlice.mono keeps_int (Ext.gr _) RJ.out) HB.out HB2.out))))
          refine wpQuiet_nil ?_
          intro w2 hw2
          have g2 := Ext.out hw2
          clear hw2 q0 q1
          have hg2 : Gr (ordW w1) w2 := hg.trans g2
          go_wp2_with fail
          go_roundw
          case rel => exact ⟨k + 1, k, by have := HL.out; omega, HL.out, by go_num, HC, rfl, hg2⟩
          case measure => have := HL.out; simp [intOf]; omega
        · have HC := Lib.hid (next_no hh.out hc)
          have hd : decide (workL x rows (ordOf k) < workL x rows (ordOf j)) = false := by simpa using hc
          clear hc
          go_wp2_with fail
          have q0 := fun q : Ext wr => Ext.cell b0 q
          have q1 := fun q : Ext wr => Ext.cell b1 q
          refine wp_region_ext (by kernel_rfl) (by kernel_rfl) ?_
          repeat (go_big_quiet_step ((go_at_call 66; first | exact quiet_ext (impl_WorkOf x _ _ _ rows _ (ordOf k) _ (RSlice.mono keeps_query (Ext.gr _) RU.out) (RSlice.mono (keeps_of keeps_span) (Ext.gr _) RV.out) (RSlice.mono keeps_row (Ext.gr _) RT.out) (RSlice.mono keeps_int (Ext.gr _) RK.out) HB.out HB2.out) | exact quiet_ext (impl_WorkOf x _ _ _ rows _ (ordOf j) _ (RSlice.mono keeps_query (Ext.gr _) RU.out) (RSlice.mono (keeps_of keeps_span) (Ext.gr _) RV.out) (RSlice.mono keeps_row (Ext.gr _) RT.out) (RSlice.mono keeps_int (Ext.gr _) RJ.out) HB.out HB2.out))))
          refine wpQuiet_nil ?_
          intro w2 hw2
          have g2 := Ext.out hw2
          clear hw2 q0 q1
          have hg2 : Gr (ordW w1) w2 := hg.trans g2
          go_wp2_with fail
          go_roundw
          case rel => exact ⟨k + 1, j, by have := HL.out; omega, HJ.out, by go_num, HC, rfl, hg2⟩
          case measure => have := HL.out; simp [intOf]; omega
      · obtain rfl : k = 6 := by omega
        clear hlt
        go_wp2_with fail
        go_ret
        refine ⟨_, rfl, G1.out, ?_⟩
        rw [HE.out, show bestI x rows 5 = j from hh.out.symm]
        have hs1 := gw1.size
        have hs2 := hg.size
        have hs3 := HOL.out
        exact OSl.mono (OSl.gr fr_int (HOO.out j hj) hg) (fun b hb => by subst hb; exact ⟨by omega, by omega⟩)
theorem spec_l6Orders (w : World) : Calls Try.prog 121 #[] w fun e w' => ∃ B, e = .returned (.slice (some ⟨B + 6, 0, none⟩) 6 6) ∧ Hid (w.heap.size ≤ B ∧ B + 7 ≤ w'.heap.size) ∧ Gr w w' ∧ Hid (∀ k, k < 6 → w'.cell? ⟨B + 6, k, none⟩ = some (.slice (some ⟨B + k, 0, none⟩) 3 3)) ∧ Hid (∀ k, k < 6 → PInts (fun b => b = B + k) w' (.slice (some ⟨B + k, 0, none⟩) 3 3) (ordOf k)) := by
  have HOC := Lib.hid (ordW_cell w)
  have HOO := Lib.hid (ordW_own w)
  have HOG := Lib.hid (ordW_gr w)
  have HOL := Lib.hid (ordW_len w)
  go_enter Try.func121, Try.ntmps121
  go_wp2_with fail
  go_ret
  exact ⟨w.heap.size, rfl, Lib.hid ⟨Nat.le_refl _, by have := HOL.out; exact Nat.le_of_eq this.symm⟩, HOG.out, HOC, HOO⟩
set_option maxRecDepth 100000 in
set_option maxHeartbeats 2000000 in
theorem spec_BestOrder (x : DIndex) (u v : Value) (t : Value) (rows : List DRow) (w : World) (hu : RQueries w u x.queries) (hv : RSpanss w v x.fields) (ht : RRows w t rows) (hb : totIndex x ≤ 4294967296) (hb2 : totL totRow rows ≤ 4294967296) :
    Calls Try.prog 71 #[.agg #[u, v], t] w fun e w' => ∃ r, e = .returned r ∧ RInts w' r (bestL x rows) ∧ Gr w w' := by
  obtain ⟨ua, un, uc, rfl⟩ := hu.isSl
  obtain ⟨fa, fn, fc, rfl⟩ := hv.isSl
  obtain ⟨ta, tn, tc, rfl⟩ := ht.isSl
  have HU := Lib.hid hu
  have HV := Lib.hid hv
  have HT := Lib.hid ht
  have HB := Lib.hid hb
  have HB2 := Lib.hid hb2
  clear hu hv ht hb hb2
  have g0 : Gr w ((w.alloc (.cells #[.slice ua un uc, .slice fa fn fc] 87)).alloc (.cells #[] 3)) := ((Gr.refl w).alloc _).alloc _
  have hem := Lib.hid (OSl.made (t := 3) (sz := 1) (O := OInt) (w.alloc (.cells #[.slice ua un uc, .slice fa fn fc] 87)) (F := In w.heap.size (w.heap.size + 2)) ⟨by simp, by simp⟩)
  go_enter Try.func71, Try.ntmps71
  go_wp2_with fail
  refine (spec_l6Orders _).mono ?_
  rintro e w1 ⟨B, rfl, HBs, gl, HOC, HOO⟩
  have p0 : w1.cell? ⟨w.heap.size, 0, none⟩ = some (.slice ua un uc) := gl.cellv (by simp [go_sem])
  have p1 : w1.cell? ⟨w.heap.size, 1, none⟩ = some (.slice fa fn fc) := gl.cellv (by simp [go_sem])
  have gw1 := Lib.hid (g0.trans gl)
  replace hem := Lib.hid (OSl.gr fr_int hem.out gl)
  clear g0 gl
  go_wp2_with fail
  go_loopw [5, 6, 8] (fun b n i wr => ∃ k : Nat, k ≤ 6 ∧ i = .int .i64 k ∧ Gr w1 wr ∧ ((k = 0 ∧ b = .slice (some ⟨w.heap.size + 1, 0, none⟩) 0 0 ∧ n = .int .i64 0) ∨ (isIndexB x = true ∧ 0 < k ∧ ∃ j : Nat, Hid (j < 6 ∧ j = bestI x rows (k - 1)) ∧ b = .slice (some ⟨B + j, 0, none⟩) 3 3 ∧ n = .int .i64 (workL x rows (ordOf j))))) (fun _ _ i _ => 6 - (intOf i).toNat)
  case atStart => exact ⟨0, by decide, rfl, Gr.refl _, Or.inl ⟨rfl, rfl, rfl⟩⟩
  case round =>
    obtain ⟨k, hk, rfl, hg0, hor⟩ := hrel
    have RU0 := Lib.hid (RSlice.mono keeps_query (gw1.out.trans hg0) HU.out)
    have RV0 := Lib.hid (RSlice.mono (keeps_of keeps_span) (gw1.out.trans hg0) HV.out)
    have RT0 := Lib.hid (RSlice.mono keeps_row (gw1.out.trans hg0) HT.out)
    have x0 := hg0.cellv p0
    have x1 := hg0.cellv p1
    rcases hor with ⟨rfl, rfl, rfl⟩ | ⟨hi, hpos, j, hj, rfl, rfl⟩
    · cases h1 : isIndexB x with
      | false =>
        have H1 := Lib.hid h1
        clear h1
        go_wp2_with fail
        refine (calls_b (spec_IsIndex x _ _ _ RU0.out RV0.out) H1.out).mono ?_
        rintro e w2 ⟨rfl, gi⟩
        have hg := hg0.trans gi
        go_wp2_with fail
        go_ret
        refine ⟨_, rfl, ?_, gw1.out.trans hg⟩
        rw [bestL_no H1.out]
        have h2 := HBs.out
        have h3 := hg.size
        have h4 := gw1.out.size
        have h5 := hem.out.gr fr_int hg
        have e5 : (w.alloc (.cells #[.slice ua un uc, .slice fa fn fc] 87)).heap.size = w.heap.size + 1 := by simp
        rw [e5] at h5
        have h6 := h2.1
        simp at h6
        exact rd_pints (h5.wide (lo' := 0) (hi' := w2.heap.size) (Nat.zero_le _) (by omega))
      | true =>
        have H1 := Lib.hid h1
        clear h1
        go_wp2_with fail
        refine (calls_b (spec_IsIndex x _ _ _ RU0.out RV0.out) H1.out).mono ?_
        rintro e wr ⟨rfl, gi⟩
        have hg := hg0.trans gi
        have c0 : wr.cell? ⟨B + 6, 0, none⟩ = some (.slice (some ⟨B + 0, 0, none⟩) 3 3) := hg.cellv (HOC.out 0 (by decide))
        have b0 := hg.cellv p0
        have b1 := hg.cellv p1
        have RU := Lib.hid (RSlice.mono keeps_query gi RU0.out)
        have RV := Lib.hid (RSlice.mono (keeps_of keeps_span) gi RV0.out)
        have RT := Lib.hid (RSlice.mono keeps_row gi RT0.out)
        have RK := Lib.hid (RSlice.mono keeps_int hg (rd_pints (HOO.out 0 (by decide))))
        go_wp2_with fail
        have q0 := fun q : Ext wr => Ext.cell b0 q
        have q1 := fun q : Ext wr => Ext.cell b1 q
        have q2 := fun q : Ext wr => Ext.cell c0 q
        refine wp_region_ext (by kernel_rfl) (by kernel_rfl) ?_
        repeat (go_big_quiet_step ((go_at_call 64; exact quiet_ext (spec_WorkOf x _ _ _ rows _ (ordOf 0) _ (RSlice.mono keeps_query (Ext.gr _) RU.out) (RSlice.mono (keeps_of keeps_span) (Ext.gr _) RV.out) (RSlice.mono keeps_row (Ext.gr _) RT.out) (RSlice.mono keeps_int (Ext.gr _) RK.out) HB.out HB2.out))))
        refine wpQuiet_nil ?_
        intro w2 hw2
        have g2 := Ext.out hw2
        clear hw2 q0 q1 q2
        have c1 : w2.cell? ⟨B + 6, 0, none⟩ = some (.slice (some ⟨B, 0, none⟩) 3 3) := g2.cellv c0
        have hg2 : Gr w1 w2 := hg.trans g2
        go_wp2_with fail
        go_roundw
        case rel => exact ⟨1, by decide, by go_num, hg2, Or.inr ⟨by first | exact H1.out | trivial, by decide, 0, Lib.hid ⟨by decide, rfl⟩, rfl, rfl⟩⟩
        case measure => simp [intOf]
    · by_cases hlt : k < 6
      · have i0 : (0 : Int) ≤ (k : Int) := Int.natCast_nonneg _
        have i1 : (k : Int) < 6 := by omega
        have HL := Lib.hid hlt
        have HP := Lib.hid hpos
        have H1 := Lib.hid hi
        clear hi hlt hpos
        by_cases hc : workL x rows (ordOf k) < workL x rows (ordOf j)
        · have HC := Lib.hid (next_yes hj.out.2 hc)
          have hd : decide (workL x rows (ordOf k) < workL x rows (ordOf j)) = true := by simpa using hc
          clear hc
          go_wp2_with fail
          refine (calls_b (spec_IsIndex x _ _ _ RU0.out RV0.out) H1.out).mono ?_
          rintro e wr ⟨rfl, gi⟩
          have hg := hg0.trans gi
          have c0 : wr.cell? ⟨B + 6, k, none⟩ = some (.slice (some ⟨B + k, 0, none⟩) 3 3) := hg.cellv (HOC.out k HL.out)
          have b0 := hg.cellv p0
          have b1 := hg.cellv p1
          have RU := Lib.hid (RSlice.mono keeps_query gi RU0.out)
          have RV := Lib.hid (RSlice.mono (keeps_of keeps_span) gi RV0.out)
          have RT := Lib.hid (RSlice.mono keeps_row gi RT0.out)
          have RK := Lib.hid (RSlice.mono keeps_int hg (rd_pints (HOO.out k HL.out)))
          go_wp2_with fail
          have q0 := fun q : Ext wr => Ext.cell b0 q
          have q1 := fun q : Ext wr => Ext.cell b1 q
          have q2 := fun q : Ext wr => Ext.cell c0 q
          refine wp_region_ext (by kernel_rfl) (by kernel_rfl) ?_
          repeat (go_big_quiet_step ((go_at_call 64; exact quiet_ext (spec_WorkOf x _ _ _ rows _ (ordOf k) _ (RSlice.mono keeps_query (Ext.gr _) RU.out) (RSlice.mono (keeps_of keeps_span) (Ext.gr _) RV.out) (RSlice.mono keeps_row (Ext.gr _) RT.out) (RSlice.mono keeps_int (Ext.gr _) RK.out) HB.out HB2.out))))
          refine wpQuiet_nil ?_
          intro w2 hw2
          have g2 := Ext.out hw2
          clear hw2 q0 q1 q2
          have c1 := g2.cellv c0
          have hg2 : Gr w1 w2 := hg.trans g2
          go_wp2_with fail
          go_roundw
          case rel => exact ⟨k + 1, by have := HL.out; omega, by go_num, hg2, Or.inr ⟨H1.out, Nat.succ_pos _, k, Lib.hid ⟨HL.out, HC.out⟩, rfl, rfl⟩⟩
          case measure => have := HL.out; simp [intOf]; omega
        · have HC := Lib.hid (next_no hj.out.2 hc)
          have hd : decide (workL x rows (ordOf k) < workL x rows (ordOf j)) = false := by simpa using hc
          clear hc
          go_wp2_with fail
          refine (calls_b (spec_IsIndex x _ _ _ RU0.out RV0.out) H1.out).mono ?_
          rintro e wr ⟨rfl, gi⟩
          have hg := hg0.trans gi
          have c0 : wr.cell? ⟨B + 6, k, none⟩ = some (.slice (some ⟨B + k, 0, none⟩) 3 3) := hg.cellv (HOC.out k HL.out)
          have b0 := hg.cellv p0
          have b1 := hg.cellv p1
          have RU := Lib.hid (RSlice.mono keeps_query gi RU0.out)
          have RV := Lib.hid (RSlice.mono (keeps_of keeps_span) gi RV0.out)
          have RT := Lib.hid (RSlice.mono keeps_row gi RT0.out)
          have RK := Lib.hid (RSlice.mono keeps_int hg (rd_pints (HOO.out k HL.out)))
          go_wp2_with fail
          have q0 := fun q : Ext wr => Ext.cell b0 q
          have q1 := fun q : Ext wr => Ext.cell b1 q
          have q2 := fun q : Ext wr => Ext.cell c0 q
          refine wp_region_ext (by kernel_rfl) (by kernel_rfl) ?_
          repeat (go_big_quiet_step ((go_at_call 64; exact quiet_ext (spec_WorkOf x _ _ _ rows _ (ordOf k) _ (RSlice.mono keeps_query (Ext.gr _) RU.out) (RSlice.mono (keeps_of keeps_span) (Ext.gr _) RV.out) (RSlice.mono keeps_row (Ext.gr _) RT.out) (RSlice.mono keeps_int (Ext.gr _) RK.out) HB.out HB2.out))))
          refine wpQuiet_nil ?_
          intro w2 hw2
          have g2 := Ext.out hw2
          clear hw2 q0 q1 q2
          have hg2 : Gr w1 w2 := hg.trans g2
          go_wp2_with fail
          go_roundw
          case rel => exact ⟨k + 1, by have := HL.out; omega, by go_num, hg2, Or.inr ⟨H1.out, Nat.succ_pos _, j, Lib.hid ⟨hj.out.1, HC.out⟩, rfl, rfl⟩⟩
          case measure => have := HL.out; simp [intOf]; omega
      · obtain rfl : k = 6 := by omega
        clear hlt
        have H1 := Lib.hid hi
        clear hi
        go_wp2_with fail
        go_ret
        refine ⟨_, rfl, ?_, gw1.out.trans hg0⟩
        rw [bestL_yes H1.out, show bestI x rows 5 = j from hj.out.2.symm]
        have h2 := HBs.out
        have h3 := hg0.size
        have h4 := gw1.out.size
        have h6 := hj.out.1
        have h7 := h2.1
        simp at h7
        exact rd_pints (OSl.mono (F' := In 0 wr.heap.size) (OSl.gr fr_int (HOO.out j hj.out.1) hg0) (fun b hb => by subst hb; exact ⟨by omega, by omega⟩))
end Go.Proofs.Ytnnapjaggahjgaa
