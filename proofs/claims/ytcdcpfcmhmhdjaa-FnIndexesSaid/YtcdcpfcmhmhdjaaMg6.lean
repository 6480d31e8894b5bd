/- The drawing of values: lists of rows. -/
import Derived.Test.YtcdcpfcmhmhdjaaMg5
import Derived.Test.YtcdcpfcmhmhdjaaMg1
import Derived.Test.YtcdcpfcmhmhdjaaExt
import Derived.Test.YtcdcpfcmhmhdjaaSpread
import Derived.Test.YtcdcpfcmhmhdjaaOwnPush
namespace Go.Proofs.Ytcdcpfcmhmhdjaa
open Go.RowKit Go.ChangeShapes Go.WideShapes Go.Deep
set_option maxRecDepth 100000 in
set_option maxHeartbeats 2000000 in
theorem spec_l3AnyRows (g : Nat) (w : World) (hc : Cur w g) : Calls Try.prog 39 #[.pointer (some ⟨g, 0, none⟩)] w fun e w' => ∃ (b : Option Addr) (n c : Nat) (rs : List DRow), e = .returned (.slice b n c) ∧ Hid (n = rs.length ∧ rs.length ≤ 9 ∧ ∀ r ∈ rs, totRow r ≤ 4) ∧ Hid (PRows (In w.heap.size w'.heap.size) w' (.slice b n c) rs) ∧ Hid (Cur w' g ∧ Dr g w w') := by
  have HC := Lib.hid hc
  have HGW : Hid (g < w.heap.size) := Lib.hid hc.lt
  clear hc
  go_enter Try.func39, Try.ntmps39
  go_wp2_with fail
  refine (spec_l3Rows g 8 _ HC.out (by decide)).mono ?_
  rintro e w1 ⟨b, n, c, rs, rfl, hl, ho, hk1⟩
  obtain rfl := hl.out.1
  have HL : Hid (rs.length ≤ 8 ∧ ∀ r ∈ rs, totRow r ≤ 4) := Lib.hid hl.out.2
  clear hl
  go_wp2_with fail
  refine (spec_l1Once g 6 _ hk1.out.1 (by decide) (by decide)).mono ?_
  rintro e w2 ⟨t, rfl, hk2⟩
  have HO2 := Lib.hid ((osl_dr fr_row ho.out HGW.out hk2.out.2).wide (Nat.le_refl _) hk2.out.2.size)
  have HD2 := Lib.hid (hk1.out.2.trans hk2.out.2)
  have HK2 := Lib.hid hk2.out.1
  clear ho hk1 hk2
  cases t with
  | false =>
    go_wp2_with fail
    go_ret
    exact ⟨_, _, _, rs, rfl, Lib.hid ⟨rfl, by have := HL.out.1; omega, HL.out.2⟩, HO2, Lib.hid ⟨HK2.out, HD2.out⟩⟩
  | true =>
    go_wp2_with fail
    refine (spec_l3Any g _ HK2.out).mono ?_
    rintro e w3 ⟨u, id, vs, rfl, hi, htw, hk3⟩
    obtain ⟨ua, uc, rfl⟩ := htw.out.reads.form
    have HS3 : Hid (w2.heap.size ≤ w3.heap.size ∧ w.heap.size ≤ w3.heap.size) := Lib.hid ⟨hk3.out.2.size, Nat.le_trans HD2.out.size hk3.out.2.size⟩
    have HO3 := Lib.hid (osl_trunc fr_row (osl_dr fr_row HO2.out HGW.out hk3.out.2) HS3.out.1)
    have HT3 : Hid (w.heap.size ≤ (trunc w3 w2.heap.size).heap.size ∧ Gr (trunc w3 w2.heap.size) w3 ∧ (trunc w3 w2.heap.size).heap.size ≤ w2.heap.size) := Lib.hid ⟨by rw [trunc_size HS3.out.1]; exact HD2.out.size, gr_trunc HS3.out.1, by rw [trunc_size HS3.out.1]; exact Nat.le_refl _⟩
    have HPQ : Hid (PRow (In w2.heap.size w3.heap.size) w3 [.int .i64 id, .slice ua vs.length uc] ⟨id, vs⟩) := Lib.hid ⟨_, rfl, hi.out.1, htw.out.priv.wide (Nat.le_succ _) (Nat.le_refl _)⟩
    have HD3 := Lib.hid (HD2.out.trans hk3.out.2)
    have HK3 := Lib.hid hk3.out.1
    clear hk3 htw HO2
    go_wp2_with (at_builtin; refine push_o (w0 := trunc w3 w2.heap.size) (wr := w3) (la := w2.heap.size) (hb := w3.heap.size) (lo := w.heap.size) 46 30 2 32 Try.underlying46 (z := .agg #[.int .i64 0, .slice none 0 0]) (by kernel_rfl) rfl (by decide) (by decide) rfl _ _ rfl fr_row ⟨id, vs⟩ [.int .i64 id, .slice ua vs.length uc] rfl rfl rfl HO3.out HT3.out.1 HT3.out.2.1 HPQ.out HT3.out.2.2 (Nat.le_refl _) rfl (by simp [Value.oneCell']) (by have := HL.out.1; omega) ?_; intro g4 cap4 w4 hO4 hB4; obtain ⟨X, hX⟩ : ∃ X, X = rs ++ [⟨id, vs⟩] := ⟨_, rfl⟩; rw [← hX] at hO4; rw [← hX]; have HX := Lib.hid hX; have HO4 := Lib.hid hO4; have HC4 := Lib.hid (HK3.out.below HGW.out hB4); have HD4 := Lib.hid (HD3.out.belowT hB4 (Nat.le_refl _)); clear hO4 hB4 hX)
    go_ret
    exact ⟨_, _, _, X, rfl, Lib.hid ⟨rfl, by rw [HX.out]; have := HL.out.1; simp; omega, fun r hr => by
      rw [HX.out] at hr
      rcases List.mem_append.1 hr with h | h
      · exact HL.out.2 r h
      · rw [List.mem_singleton.1 h]; exact hi.out.2⟩, HO4, Lib.hid ⟨HC4.out, HD4.out⟩⟩
end Go.Proofs.Ytcdcpfcmhmhdjaa

/- BestOrder: the walks. Written by gen_best.py. -/
namespace Go.Proofs.Ytcdcpfcmhmhdjaa
open Go.RowKit
theorem pints3 {w : World} {g : Nat} {a b c : Int} (h : w.heap[g]? = some (.cells #[.int .i64 a, .int .i64 b, .int .i64 c] 3 (0, 0))) (ha : I64 a) (hb : I64 b) (hc : I64 c) : PInts (fun k => k = g) w (.slice (some ⟨g, 0, none⟩) 3 3) [a, b, c] := by
  have hrow : w.ownsRow 0 3 1 (.slice (some ⟨g, 0, none⟩) 3 3) [a, b, c].length ([a, b, c].map (Value.int .i64)) :=
    ⟨by simp, Or.inr ⟨g, 3, _, rfl, Nat.zero_le _, h, Nat.le_refl _, by simp [maxLen], by simp, by simp⟩⟩
  exact pints_of rfl hrow (fun x hx => by
    simp only [List.mem_cons, List.not_mem_nil, or_false] at hx
    rcases hx with rfl | rfl | rfl <;> assumption) fun k hk => (Option.some.inj hk).symm
theorem heap_at {W W' : World} {o : Obj} {n : Nat} (hs : W.heap.size = n) (hg : Gr (W.alloc o) W') : W'.heap[n]? = some o := by
  subst hs
  rw [hg.block _ (by simp)]
  exact heap_alloc_new W o
def ordK (W : World) : Nat → World
  | 0 => W
  | k + 1 => (ordK W k).alloc (.cells #[.int .i64 ((ordOf k).getD 0 0), .int .i64 ((ordOf k).getD 1 0), .int .i64 ((ordOf k).getD 2 0)] 3)
theorem ordK_len (W : World) : ∀ k, (ordK W k).heap.size = W.heap.size + k
  | 0 => rfl
  | k + 1 => by unfold ordK; simp [ordK_len W k]; omega
theorem ordK_gr (W : World) (j : Nat) : ∀ d, Gr (ordK W j) (ordK W (j + d))
  | 0 => Gr.refl _
  | d + 1 => Gr.alloc (ordK_gr W j d) _
theorem ordOf_i64 : ∀ k, k < 6 → ∀ i, i < 3 → I64 ((ordOf k).getD i 0) := by
  have h : ∀ k, k < 6 → ∀ i, i < 3 → 0 ≤ (ordOf k).getD i 0 ∧ (ordOf k).getD i 0 ≤ 2 := by decide
  intro k hk i hi
  have := h k hk i hi
  unfold I64; omega
theorem ordOf_three : ∀ k, k < 6 → ordOf k = [(ordOf k).getD 0 0, (ordOf k).getD 1 0, (ordOf k).getD 2 0] := by decide
def ordW (W : World) : World := (((((((W.alloc (.cells #[.int .i64 0, .int .i64 1, .int .i64 2] 3)).alloc (.cells #[.int .i64 0, .int .i64 2, .int .i64 1] 3)).alloc (.cells #[.int .i64 1, .int .i64 0, .int .i64 2] 3)).alloc (.cells #[.int .i64 1, .int .i64 2, .int .i64 0] 3)).alloc (.cells #[.int .i64 2, .int .i64 0, .int .i64 1] 3)).alloc (.cells #[.int .i64 2, .int .i64 1, .int .i64 0] 3)).alloc (.cells #[.slice (some ⟨W.heap.size, 0, none⟩) 3 3, .slice (some ⟨W.heap.size + 1, 0, none⟩) 3 3, .slice (some ⟨W.heap.size + 1 + 1, 0, none⟩) 3 3, .slice (some ⟨W.heap.size + 1 + 1 + 1, 0, none⟩) 3 3, .slice (some ⟨W.heap.size + 1 + 1 + 1 + 1, 0, none⟩) 3 3, .slice (some ⟨W.heap.size + 1 + 1 + 1 + 1 + 1, 0, none⟩) 3 3] 28))
theorem ordW_eq (W : World) : ∃ o, ordW W = (ordK W 6).alloc o := ⟨_, rfl⟩
theorem ordW_gr (W : World) : Gr W (ordW W) := by
  obtain ⟨o, h⟩ := ordW_eq W
  rw [h]; exact Gr.alloc (by have := ordK_gr W 0 6; exact this) _
theorem ordW_own (W : World) (k : Nat) (hk : k < 6) : PInts (fun b => b = W.heap.size + k) (ordW W) (.slice (some ⟨W.heap.size + k, 0, none⟩) 3 3) (ordOf k) := by
  obtain ⟨o, h⟩ := ordW_eq W
  rw [ordOf_three k hk, h]
  refine pints3 (heap_at (W := ordK W k) (ordK_len W k) (Gr.alloc ?_ _)) (ordOf_i64 k hk 0 (by decide)) (ordOf_i64 k hk 1 (by decide)) (ordOf_i64 k hk 2 (by decide))
  have := ordK_gr W (k + 1) (5 - k)
  rw [show k + 1 + (5 - k) = 6 from by omega] at this
  exact this
theorem ordW_cell (W : World) : ∀ k, k < 6 → (ordW W).cell? ⟨W.heap.size + 6, k, none⟩ = some (.slice (some ⟨W.heap.size + k, 0, none⟩) 3 3)
  | 0, _ => by unfold ordW; simp [go_sem]
  | 1, _ => by unfold ordW; simp [go_sem]
  | 2, _ => by unfold ordW; simp [go_sem]
  | 3, _ => by unfold ordW; simp [go_sem]
  | 4, _ => by unfold ordW; simp [go_sem]
  | 5, _ => by unfold ordW; simp [go_sem]
theorem ordW_len (W : World) : (ordW W).heap.size = W.heap.size + 7 := by unfold ordW; simp
theorem next_yes {x : DIndex} {rows : List DRow} {k j : Nat} (hj : j = bestI x rows (k - 1)) (h : workL x rows (ordOf k) < workL x rows (ordOf j)) : k = bestI x rows (k + 1 - 1) := by
  cases k with
  | zero => subst hj; exact absurd h (by simp [bestI])
  | succ k => subst hj; exact (bestI_yes h).symm
theorem next_no {x : DIndex} {rows : List DRow} {k j : Nat} (hj : j = bestI x rows (k - 1)) (h : ¬ workL x rows (ordOf k) < workL x rows (ordOf j)) : j = bestI x rows (k + 1 - 1) := by
  cases k with
  | zero => exact hj
  | succ k => subst hj; exact (bestI_no h).symm
set_option maxRecDepth 100000 in
set_option maxHeartbeats 2000000 in
theorem impl_BestOrder (x : DIndex) (u v : Value) (t : Value) (rows : List DRow) (w : World) (hu : RQueries w u x.queries) (hv : RSpanss w v x.fields) (ht : RRows w t rows) (hb : totIndex x ≤ 4294967296) (hb2 : totL totRow rows ≤ 4294967296) :
    Calls Try.prog 17 #[.agg #[u, v], t] w fun e w' => ∃ r, e = .returned r ∧ Gr w w' ∧ PInts (In w.heap.size w'.heap.size) w' r (bestL x rows) := by
  obtain ⟨ua, un, uc, rfl⟩ := hu.isSl
  obtain ⟨fa, fn, fc, rfl⟩ := hv.isSl
  obtain ⟨ta, tn, tc, rfl⟩ := ht.isSl
  have HU := Lib.hid hu
  have HV := Lib.hid hv
  have HT := Lib.hid ht
  have HB := Lib.hid hb
  have HB2 := Lib.hid hb2
  clear hu hv ht hb hb2
  have g0 : Gr w (w.alloc (.cells #[.slice ua un uc, .slice fa fn fc] 27)) := (Gr.refl w).alloc _
  cases h1 : isIndexB x with
  | false =>
    have HE := Lib.hid (bestL_no (rows := rows) h1)
    have H1 := Lib.hid h1
    clear h1
    go_enter Try.func17, Try.ntmps17
    go_wp2_with fail
    refine (calls_b (impl_IsIndex x _ _ _ (RSlice.mono keeps_query g0 HU.out) (RSlice.mono (keeps_of keeps_span) g0 HV.out)) H1.out).mono ?_
    rintro e w1 ⟨rfl, g1⟩
    go_wp2_with fail
    go_ret
    exact ⟨_, rfl, g0.trans g1, by rw [HE.out]; exact OSl.nil _⟩
  | true =>
    have HE := Lib.hid (bestL_yes (rows := rows) h1)
    have H1 := Lib.hid h1
    clear h1
    go_enter Try.func17, Try.ntmps17
    go_wp2_with fail
    refine (calls_b (impl_IsIndex x _ _ _ (RSlice.mono keeps_query g0 HU.out) (RSlice.mono (keeps_of keeps_span) g0 HV.out)) H1.out).mono ?_
    rintro e w1 ⟨rfl, g1⟩
    have gw1 := g0.trans g1
    have p0 : w1.cell? ⟨w.heap.size, 0, none⟩ = some (.slice ua un uc) := g1.cellv (by simp [go_sem])
    have p1 : w1.cell? ⟨w.heap.size, 1, none⟩ = some (.slice fa fn fc) := g1.cellv (by simp [go_sem])
    have HOC := Lib.hid (ordW_cell w1)
    have HOO := Lib.hid (ordW_own w1)
    have HOG := Lib.hid (ordW_gr w1)
    have HOL := Lib.hid (ordW_len w1)
    have o0 := HOC.out 0 (by decide)
    clear g1
    go_wp2_with fail
    go_loopw [6, 24] (fun b i wr => ∃ k j : Nat, k ≤ 6 ∧ j < 6 ∧ i = .int .i64 k ∧ Hid (j = bestI x rows (k - 1)) ∧ b = .slice (some ⟨w1.heap.size + j, 0, none⟩) 3 3 ∧ Gr (ordW w1) wr) (fun _ i _ => 6 - (intOf i).toNat)
    case atStart => exact ⟨0, 0, by decide, by decide, rfl, Lib.hid rfl, rfl, Gr.refl _⟩
    case round =>
      obtain ⟨k, j, hk, hj, rfl, hh, rfl, hg⟩ := hrel
      have G1 := Lib.hid (gw1.trans (HOG.out.trans hg))
      by_cases hlt : k < 6
      · have i0 : (0 : Int) ≤ (k : Int) := Int.natCast_nonneg _
        have i1 : (k : Int) < 6 := by omega
        have c0 : wr.cell? ⟨w1.heap.size + 1 + 1 + 1 + 1 + 1 + 1, k, none⟩ = some (.slice (some ⟨w1.heap.size + k, 0, none⟩) 3 3) := hg.cellv (HOC.out k hlt)
        have b0 := hg.cellv (HOG.out.cellv p0)
        have b1 := hg.cellv (HOG.out.cellv p1)
        have RU := Lib.hid (RSlice.mono keeps_query G1.out HU.out)
        have RV := Lib.hid (RSlice.mono (keeps_of keeps_span) G1.out HV.out)
        have RT := Lib.hid (RSlice.mono keeps_row G1.out HT.out)
        have RK := Lib.hid (RSlice.mono keeps_int hg (rd_pints (HOO.out k hlt)))
        have RJ := Lib.hid (RSlice.mono keeps_int hg (rd_pints (HOO.out j hj)))
        have HL := Lib.hid hlt
        have HJ := Lib.hid hj
        clear p0 p1 o0 hj
        by_cases hc : workL x rows (ordOf k) < workL x rows (ordOf j)
        · have HC := Lib.hid (next_yes hh.out hc)
          have hd : decide (workL x rows (ordOf k) < workL x rows (ordOf j)) = true := by simpa using hc
          clear hc
          go_wp2_with fail
          have q0 := fun q : Ext wr => Ext.cell b0 q
          have q1 := fun q : Ext wr => Ext.cell b1 q
          refine wp_region_ext (by kernel_rfl) (by kernel_rfl) ?_
          repeat (go_big_quiet_step ((go_at_call 20; first | exact quiet_ext (impl_WorkOf x _ _ _ rows _ (ordOf k) _ (RSlice.mono keeps_query (Ext.gr _) RU.out) (RSlice.mono (keeps_of keeps_span) (Ext.gr _) RV.out) (RSlice.mono keeps_row (Ext.gr _) RT.out) (RSlice.mono keeps_int (Ext.gr _) RK.out) HB.out HB2.out) | exact quiet_ext (impl_WorkOf x _ _ _ rows _ (ordOf j) _ (RSlice.mono keeps_query (Ext.gr _) RU.out) (RSlice.mono (keeps_of keeps_span) (Ext.gr _) RV.out) (RSlice.mono keeps_row (Ext.gr _) RT.out) (RSlice.mono keeps_int (Ext.gr _) RJ.out) HB.out HB2.out))))
          refine wpQuiet_nil ?_
          intro w2 hw2
          have g2 := Ext.out hw2
          clear hw2 q0 q1
          have hg2 : Gr (ordW w1) w2 := hg.trans g2
          go_wp2_with fail
          go_roundw
          case rel => exact ⟨k + 1, k, by have := HL.out; omega, HL.out, by go_num, HC, rfl, hg2⟩
          case measure => have := HL.out; simp [intOf]; omega
        · have HC := Lib.hid (next_no hh.out hc)
          have hd : decide (workL x rows (ordOf k) < workL x rows (ordOf j)) = false := by simpa using hc
          clear hc
          go_wp2_with fail
          have q0 := fun q : Ext wr => Ext.cell b0 q
          have q1 := fun q : Ext wr => Ext.cell b1 q
          refine wp_region_ext (by kernel_rfl) (by kernel_rfl) ?_
          repeat (go_big_quiet_step ((go_at_call 20; first | exact quiet_ext (impl_WorkOf x _ _ _ rows _ (ordOf k) _ (RSlice.mono keeps_query (Ext.gr _) RU.out) (RSlice.mono (keeps_of keeps_span) (Ext.gr _) RV.out) (RSlice.mono keeps_row (Ext.gr _) RT.out) (RSlice.mono keeps_int (Ext.gr _) RK.out) HB.out HB2.out) | exact quiet_ext (impl_WorkOf x _ _ _ rows _ (ordOf j) _ (RSlice.mono keeps_query (Ext.gr _) RU.out) (RSlice.mono (keeps_of keeps_span) (Ext.gr _) RV.out) (RSlice.mono keeps_row (Ext.gr _) RT.out) (RSlice.mono keeps_int (Ext.gr _) RJ.out) HB.out HB2.out))))
          refine wpQuiet_nil ?_
          intro w2 hw2
          have g2 := Ext.out hw2
          clear hw2 q0 q1
          have hg2 : Gr (ordW w1) w2 := hg.trans g2
          go_wp2_with fail
          go_roundw
          case rel => exact ⟨k + 1, j, by have := HL.out; omega, HJ.out, by go_num, HC, rfl, hg2⟩
          case measure => have := HL.out; simp [intOf]; omega
      · obtain rfl : k = 6 := by omega
        clear hlt
        go_wp2_with fail
        go_ret
        refine ⟨_, rfl, G1.out, ?_⟩
        rw [HE.out, show bestI x rows 5 = j from hh.out.symm]
        have hs1 := gw1.size
        have hs2 := hg.size
        have hs3 := HOL.out
        exact OSl.mono (OSl.gr fr_int (HOO.out j hj) hg) (fun b hb => by subst hb; exact ⟨by omega, by omega⟩)
theorem spec_l6Orders (w : World) : Calls Try.prog 40 #[] w fun e w' => ∃ B, e = .returned (.slice (some ⟨B + 6, 0, none⟩) 6 6) ∧ Hid (w.heap.size ≤ B ∧ B + 7 ≤ w'.heap.size) ∧ Gr w w' ∧ Hid (∀ k, k < 6 → w'.cell? ⟨B + 6, k, none⟩ = some (.slice (some ⟨B + k, 0, none⟩) 3 3)) ∧ Hid (∀ k, k < 6 → PInts (fun b => b = B + k) w' (.slice (some ⟨B + k, 0, none⟩) 3 3) (ordOf k)) := by
  have HOC := Lib.hid (ordW_cell w)
  have HOO := Lib.hid (ordW_own w)
  have HOG := Lib.hid (ordW_gr w)
  have HOL := Lib.hid (ordW_len w)
  go_enter Try.func40, Try.ntmps40
  go_wp2_with fail
  go_ret
  exact ⟨w.heap.size, rfl, Lib.hid ⟨Nat.le_refl _, by have := HOL.out; exact Nat.le_of_eq this.symm⟩, HOG.out, HOC, HOO⟩
set_option maxRecDepth 100000 in
set_option maxHeartbeats 2000000 in
theorem spec_BestOrder (x : DIndex) (u v : Value) (t : Value) (rows : List DRow) (w : World) (hu : RQueries w u x.queries) (hv : RSpanss w v x.fields) (ht : RRows w t rows) (hb : totIndex x ≤ 4294967296) (hb2 : totL totRow rows ≤ 4294967296) :
    Calls Try.prog 18 #[.agg #[u, v], t] w fun e w' => ∃ r, e = .returned r ∧ RInts w' r (bestL x rows) ∧ Gr w w' := by
  obtain ⟨ua, un, uc, rfl⟩ := hu.isSl
  obtain ⟨fa, fn, fc, rfl⟩ := hv.isSl
  obtain ⟨ta, tn, tc, rfl⟩ := ht.isSl
  have HU := Lib.hid hu
  have HV := Lib.hid hv
  have HT := Lib.hid ht
  have HB := Lib.hid hb
  have HB2 := Lib.hid hb2
  clear hu hv ht hb hb2
  have g0 : Gr w ((w.alloc (.cells #[.slice ua un uc, .slice fa fn fc] 27)).alloc (.cells #[] 3)) := ((Gr.refl w).alloc _).alloc _
  have hem := Lib.hid (OSl.made (t := 3) (sz := 1) (O := OInt) (w.alloc (.cells #[.slice ua un uc, .slice fa fn fc] 27)) (F := In w.heap.size (w.heap.size + 2)) ⟨by simp, by simp⟩)
  go_enter Try.func18, Try.ntmps18
  go_wp2_with fail
  refine (spec_l6Orders _).mono ?_
  rintro e w1 ⟨B, rfl, HBs, gl, HOC, HOO⟩
  have p0 : w1.cell? ⟨w.heap.size, 0, none⟩ = some (.slice ua un uc) := gl.cellv (by simp [go_sem])
  have p1 : w1.cell? ⟨w.heap.size, 1, none⟩ = some (.slice fa fn fc) := gl.cellv (by simp [go_sem])
  have gw1 := Lib.hid (g0.trans gl)
  replace hem := Lib.hid (OSl.gr fr_int hem.out gl)
  clear g0 gl
  go_wp2_with fail
  go_loopw [5, 6, 8] (fun b n i wr => ∃ k : Nat, k ≤ 6 ∧ i = .int .i64 k ∧ Gr w1 wr ∧ ((k = 0 ∧ b = .slice (some ⟨w.heap.size + 1, 0, none⟩) 0 0 ∧ n = .int .i64 0) ∨ (isIndexB x = true ∧ 0 < k ∧ ∃ j : Nat, Hid (j < 6 ∧ j = bestI x rows (k - 1)) ∧ b = .slice (some ⟨B + j, 0, none⟩) 3 3 ∧ n = .int .i64 (workL x rows (ordOf j))))) (fun _ _ i _ => 6 - (intOf i).toNat)
  case atStart => exact ⟨0, by decide, rfl, Gr.refl _, Or.inl ⟨rfl, rfl, rfl⟩⟩
  case round =>
    obtain ⟨k, hk, rfl, hg0, hor⟩ := hrel
    have RU0 := Lib.hid (RSlice.mono keeps_query (gw1.out.trans hg0) HU.out)
    have RV0 := Lib.hid (RSlice.mono (keeps_of keeps_span) (gw1.out.trans hg0) HV.out)
    have RT0 := Lib.hid (RSlice.mono keeps_row (gw1.out.trans hg0) HT.out)
    have x0 := hg0.cellv p0
    have x1 := hg0.cellv p1
    rcases hor with ⟨rfl, rfl, rfl⟩ | ⟨hi, hpos, j, hj, rfl, rfl⟩
    · cases h1 : isIndexB x with
      | false =>
        have H1 := Lib.hid h1
        clear h1
        go_wp2_with fail
        refine (calls_b (spec_IsIndex x _ _ _ RU0.out RV0.out) H1.out).mono ?_
        rintro e w2 ⟨rfl, gi⟩
        have hg := hg0.trans gi
        go_wp2_with fail
        go_ret
        refine ⟨_, rfl, ?_, gw1.out.trans hg⟩
        rw [bestL_no H1.out]
        have h2 := HBs.out
        have h3 := hg.size
        have h4 := gw1.out.size
        have h5 := hem.out.gr fr_int hg
        have e5 : (w.alloc (.cells #[.slice ua un uc, .slice fa fn fc] 27)).heap.size = w.heap.size + 1 := by simp
        rw [e5] at h5
        have h6 := h2.1
        simp at h6
        exact rd_pints (h5.wide (lo' := 0) (hi' := w2.heap.size) (Nat.zero_le _) (by omega))
      | true =>
        have H1 := Lib.hid h1
        clear h1
        go_wp2_with fail
        refine (calls_b (spec_IsIndex x _ _ _ RU0.out RV0.out) H1.out).mono ?_
        rintro e wr ⟨rfl, gi⟩
        have hg := hg0.trans gi
        have c0 : wr.cell? ⟨B + 6, 0, none⟩ = some (.slice (some ⟨B + 0, 0, none⟩) 3 3) := hg.cellv (HOC.out 0 (by decide))
        have b0 := hg.cellv p0
        have b1 := hg.cellv p1
        have RU := Lib.hid (RSlice.mono keeps_query gi RU0.out)
        have RV := Lib.hid (RSlice.mono (keeps_of keeps_span) gi RV0.out)
        have RT := Lib.hid (RSlice.mono keeps_row gi RT0.out)
        have RK := Lib.hid (RSlice.mono keeps_int hg (rd_pints (HOO.out 0 (by decide))))
        go_wp2_with fail
        have q0 := fun q : Ext wr => Ext.cell b0 q
        have q1 := fun q : Ext wr => Ext.cell b1 q
        have q2 := fun q : Ext wr => Ext.cell c0 q
        refine wp_region_ext (by kernel_rfl) (by kernel_rfl) ?_
        repeat (go_big_quiet_step ((go_at_call 21; exact quiet_ext (spec_WorkOf x _ _ _ rows _ (ordOf 0) _ (RSlice.mono keeps_query (Ext.gr _) RU.out) (RSlice.mono (keeps_of keeps_span) (Ext.gr _) RV.out) (RSlice.mono keeps_row (Ext.gr _) RT.out) (RSlice.mono keeps_int (Ext.gr _) RK.out) HB.out HB2.out))))
        refine wpQuiet_nil ?_
        intro w2 hw2
        have g2 := Ext.out hw2
        clear hw2 q0 q1 q2
        have c1 : w2.cell? ⟨B + 6, 0, none⟩ = some (.slice (some ⟨B, 0, none⟩) 3 3) := g2.cellv c0
        have hg2 : Gr w1 w2 := hg.trans g2
        go_wp2_with fail
        go_roundw
        case rel => exact ⟨1, by decide, by go_num, hg2, Or.inr ⟨by first | exact H1.out | trivial, by decide, 0, Lib.hid ⟨by decide, rfl⟩, rfl, rfl⟩⟩
        case measure => simp [intOf]
    · by_cases hlt : k < 6
      · have i0 : (0 : Int) ≤ (k : Int) := Int.natCast_nonneg _
        have i1 : (k : Int) < 6 := by omega
        have HL := Lib.hid hlt
        have HP := Lib.hid hpos
        have H1 := Lib.hid hi
        clear hi hlt hpos
        by_cases hc : workL x rows (ordOf k) < workL x rows (ordOf j)
        · have HC := Lib.hid (next_yes hj.out.2 hc)
          have hd : decide (workL x rows (ordOf k) < workL x rows (ordOf j)) = true := by simpa using hc
          clear hc
          go_wp2_with fail
          refine (calls_b (spec_IsIndex x _ _ _ RU0.out RV0.out) H1.out).mono ?_
          rintro e wr ⟨rfl, gi⟩
          have hg := hg0.trans gi
          have c0 : wr.cell? ⟨B + 6, k, none⟩ = some (.slice (some ⟨B + k, 0, none⟩) 3 3) := hg.cellv (HOC.out k HL.out)
          have b0 := hg.cellv p0
          have b1 := hg.cellv p1
          have RU := Lib.hid (RSlice.mono keeps_query gi RU0.out)
          have RV := Lib.hid (RSlice.mono (keeps_of keeps_span) gi RV0.out)
          have RT := Lib.hid (RSlice.mono keeps_row gi RT0.out)
          have RK := Lib.hid (RSlice.mono keeps_int hg (rd_pints (HOO.out k HL.out)))
          go_wp2_with fail
          have q0 := fun q : Ext wr => Ext.cell b0 q
          have q1 := fun q : Ext wr => Ext.cell b1 q
          have q2 := fun q : Ext wr => Ext.cell c0 q
          refine wp_region_ext (by kernel_rfl) (by kernel_rfl) ?_
          repeat (go_big_quiet_step ((go_at_call 21; exact quiet_ext (spec_WorkOf x _ _ _ rows _ (ordOf k) _ (RSlice.mono keeps_query (Ext.gr _) RU.out) (RSlice.mono (keeps_of keeps_span) (Ext.gr _) RV.out) (RSlice.mono keeps_row (Ext.gr _) RT.out) (RSlice.mono keeps_int (Ext.gr _) RK.out) HB.out HB2.out))))
          refine wpQuiet_nil ?_
          intro w2 hw2
          have g2 := Ext.out hw2
          clear hw2 q0 q1 q2
          have c1 := g2.cellv c0
          have hg2 : Gr w1 w2 := hg.trans g2
          go_wp2_with fail
          go_roundw
          case rel => exact ⟨k + 1, by have := HL.out; omega, by go_num, hg2, Or.inr ⟨H1.out, Nat.succ_pos _, k, Lib.hid ⟨HL.out, HC.out⟩, rfl, rfl⟩⟩
          case measure => have := HL.out; simp [intOf]; omega
        · have HC := Lib.hid (next_no hj.out.2 hc)
          have hd : decide (workL x rows (ordOf k) < workL x rows (ordOf j)) = false := by simpa using hc
          clear hc
          go_wp2_with fail
          refine (calls_b (spec_IsIndex x _ _ _ RU0.out RV0.out) H1.out).mono ?_
          rintro e wr ⟨rfl, gi⟩
          have hg := hg0.trans gi
          have c0 : wr.cell? ⟨B + 6, k, none⟩ = some (.slice (some ⟨B + k, 0, none⟩) 3 3) := hg.cellv (HOC.out k HL.out)
          have b0 := hg.cellv p0
          have b1 := hg.cellv p1
          have RU := Lib.hid (RSlice.mono keeps_query gi RU0.out)
          have RV := Lib.hid (RSlice.mono (keeps_of keeps_span) gi RV0.out)
          have RT := Lib.hid (RSlice.mono keeps_row gi RT0.out)
          have RK := Lib.hid (RSlice.mono keeps_int hg (rd_pints (HOO.out k HL.out)))
          go_wp2_with fail
          have q0 := fun q : Ext wr => Ext.cell b0 q
          have q1 := fun q : Ext wr => Ext.cell b1 q
          have q2 := fun q : Ext wr => Ext.cell c0 q
          refine wp_region_ext (by kernel_rfl) (by kernel_rfl) ?_
          repeat (go_big_quiet_step ((go_at_call 21; exact quiet_ext (spec_WorkOf x _ _ _ rows _ (ordOf k) _ (RSlice.mono keeps_query (Ext.gr _) RU.out) (RSlice.mono (keeps_of keeps_span) (Ext.gr _) RV.out) (RSlice.mono keeps_row (Ext.gr _) RT.out) (RSlice.mono keeps_int (Ext.gr _) RK.out) HB.out HB2.out))))
          refine wpQuiet_nil ?_
          intro w2 hw2
          have g2 := Ext.out hw2
          clear hw2 q0 q1 q2
          have hg2 : Gr w1 w2 := hg.trans g2
          go_wp2_with fail
          go_roundw
          case rel => exact ⟨k + 1, by have := HL.out; omega, by go_num, hg2, Or.inr ⟨H1.out, Nat.succ_pos _, j, Lib.hid ⟨hj.out.1, HC.out⟩, rfl, rfl⟩⟩
          case measure => have := HL.out; simp [intOf]; omega
      · obtain rfl : k = 6 := by omega
        clear hlt
        have H1 := Lib.hid hi
        clear hi
        go_wp2_with fail
        go_ret
        refine ⟨_, rfl, ?_, gw1.out.trans hg0⟩
        rw [bestL_yes H1.out, show bestI x rows 5 = j from hj.out.2.symm]
        have h2 := HBs.out
        have h3 := hg0.size
        have h4 := gw1.out.size
        have h6 := hj.out.1
        have h7 := h2.1
        simp at h7
        exact rd_pints (OSl.mono (F' := In 0 wr.heap.size) (OSl.gr fr_int (HOO.out j hj.out.1) hg0) (fun b hb => by subst hb; exact ⟨by omega, by omega⟩))
end Go.Proofs.Ytcdcpfcmhmhdjaa

/- The drawing of values: an order. -/
namespace Go.Proofs.Ytcdcpfcmhmhdjaa
open Go.RowKit Go.ChangeShapes Go.WideShapes Go.Deep
theorem oints_first {w : World} {lo gb c n : Nat} {x : Int} {xs : List Int} (hn : n = (x :: xs).length) (h : OInts lo w (.slice (some ⟨gb, 0, none⟩) n c) (x :: xs)) : w.cell? ⟨gb, 0, none⟩ = some (.int .i64 x) ∧ w.frozen? ⟨gb, 0, none⟩ = false := by
  subst hn
  obtain ⟨a', c', e', _, _, hat⟩ := h.reads.open
  have e1 : (some ⟨gb, 0, none⟩ : Option Addr) = a' := by simp only [Value.slice.injEq] at e'; exact e'.1
  obtain ⟨b, off, e2, hc, _⟩ := hat 0 (by simp)
  rw [← e1] at e2
  obtain ⟨rfl, rfl⟩ : gb = b ∧ 0 = off := by simpa using e2
  refine ⟨by simpa using hc, ?_⟩
  rcases h.1.2 with ⟨h0, _⟩ | ⟨b, cap, cur, hv, _, hgg, _⟩
  · simp at h0
  · simp only [Value.slice.injEq, Option.some.injEq, Addr.mk.injEq] at hv
    obtain ⟨⟨rfl, _⟩, _⟩ := hv
    simp [World.frozen?, hgg]
def opicks : List Int := [-1, 0, 3]
theorem opicks_i64 : ∀ x ∈ opicks, I64 x := by intro x hx; simp only [opicks, List.mem_cons, List.not_mem_nil, or_false] at hx; unfold I64; omega
set_option maxRecDepth 100000 in
set_option maxHeartbeats 2000000 in
theorem spec_l6DrawOrder (g : Nat) (w : World) (hc : Cur w g) : Calls Try.prog 25 #[.pointer (some ⟨g, 0, none⟩)] w fun e w' => ∃ (b : Option Addr) (n c : Nat) (os : List Int), e = .returned (.slice b n c) ∧ Hid (n = os.length ∧ os.length = 3) ∧ Hid (OInts w.heap.size w' (.slice b n c) os) ∧ Hid (Cur w' g ∧ Dr g w w') := by
  obtain ⟨W0, hW0⟩ : ∃ W0, W0 = w.alloc (.cells #[] 3) := ⟨_, rfl⟩
  have HW0 : Hid (Cur W0 g ∧ Dr g w W0 ∧ OInts w.heap.size W0 (.slice (some ⟨w.heap.size, 0, none⟩) 0 0) [] ∧ W0.heap.size = w.heap.size + 1) := Lib.hid (by rw [hW0]; exact ⟨hc.gr ((Gr.refl w).alloc _), (Chg.refl _ _).alloc _, ⟨own_empty w _ _ _ (Nat.le_refl _), fun _ h => absurd h (by simp)⟩, by simp⟩)
  have HGW : Hid (g < w.heap.size) := Lib.hid hc.lt
  clear hc
  go_enter Try.func25, Try.ntmps25
  go_wp2_with fail
  rw [← hW0]
  clear hW0
  refine (spec_l6Orders _).mono ?_
  rintro e w1 ⟨B, rfl, HBs, g1, HOC, HOO⟩
  have HK1 : Hid (Cur w1 g ∧ Dr g w w1) := Lib.hid ⟨HW0.out.1.gr g1, HW0.out.2.1.belowT g1 HW0.out.2.1.size⟩
  have HE1 : Hid (OInts w.heap.size w1 (.slice (some ⟨w.heap.size, 0, none⟩) 0 0) []) := Lib.hid (HW0.out.2.2.1.mono g1)
  have HBG : Hid (w.heap.size < B ∧ B + 7 ≤ w1.heap.size) := Lib.hid ⟨by have := HBs.out.1; have := HW0.out.2.2.2; omega, HBs.out.2⟩
  clear g1 HBs
  go_wp2_with fail
  refine (spec_l1Below g 6 _ HK1.out.1 (by decide) (by decide)).mono ?_
  rintro e w2 ⟨x, rfl, hx, hk2⟩
  obtain ⟨k, hkx⟩ := Int.eq_ofNat_of_zero_le hx.out.1
  subst hkx
  have hlt : k < 6 := by have := hx.out.2; omega
  have hlz : (k : Int) < 6 := by omega
  have i0 : (0 : Int) ≤ (k : Int) := Int.natCast_nonneg _
  have hHO : RInts w2 (.slice (some ⟨B + k, 0, none⟩) 3 3) (ordOf k) := rd_pints (OSl.frame fr_int (HOO.out k hlt) (hk2.out.2.agree fun b hb e => by have := HBG.out; have := HGW.out; omega))
  have s0 : w2.cell? ⟨B + 6, k, none⟩ = some (.slice (some ⟨B + k, 0, none⟩) 3 3) := by
    rw [World.cell?_of_block (w := w1) (hk2.out.2.block (B + 6) (by have := HBG.out; omega) (by have := HBG.out; have := HGW.out; omega))]
    exact HOC.out k hlt
  obtain ⟨ua, uc, hu, hsrc, hi⟩ := ints_src hHO
  rw [hu] at s0
  have HL : Hid ((ordOf k).length = 3) := Lib.hid (ordOf_len hlt)
  obtain ⟨O, hO⟩ : ∃ O, O = ordOf k := ⟨_, rfl⟩
  rw [← hO] at s0 hsrc hi HL
  have HS := Lib.hid hsrc
  have HI := Lib.hid hi
  have HE2 := Lib.hid (oints_dr HE1.out HGW.out hk2.out.2)
  have HD2 := Lib.hid (HK1.out.2.trans hk2.out.2)
  have HC2 := Lib.hid hk2.out.1
  clear hHO hu hO hsrc hi hk2 HOC HOO HE1 HK1 hx
  go_wp2_with (at_builtin; refine spread_i rfl _ _ rfl [] rfl rfl HE2.out HS.out HI.out (by have := HL.out; simp; omega) HD2.out.size ?_; intro b3 c3 w3 hO3 hB3; simp only [List.nil_append] at hO3 ⊢; have HO3 := Lib.hid hO3; have HD3 := Lib.hid (HD2.out.belowT hB3 (Nat.le_refl _)); have HC3 := Lib.hid (HC2.out.below HGW.out hB3); clear hO3 hB3)
  refine (spec_l1Once g 12 _ HC3.out (by decide) (by decide)).mono ?_
  rintro e w4 ⟨t, rfl, hk4⟩
  have HO4 := Lib.hid (oints_dr HO3.out HGW.out hk4.out.2)
  have HD4 := Lib.hid (HD3.out.trans hk4.out.2)
  have HC4 := Lib.hid hk4.out.1
  clear hk4 HO3 HD3 HC3 HE2 HD2 HC2 s0
  cases t with
  | false =>
    go_wp2_with fail
    go_ret
    exact ⟨_, _, _, O, rfl, Lib.hid ⟨rfl, HL.out⟩, HO4, Lib.hid ⟨HC4.out, HD4.out⟩⟩
  | true =>
    obtain ⟨gb, rfl⟩ : ∃ gb, b3 = some ⟨gb, 0, none⟩ := row_ptr (Joins.ownsRow_le HO4.out.1 (Nat.zero_le _)) (by have := HL.out; omega)
    obtain ⟨x, xs, hv⟩ : ∃ x xs, O = x :: xs := by
      have := HL.out
      cases O with
      | nil => simp at this
      | cons x xs => exact ⟨x, xs, rfl⟩
    obtain ⟨n, hn⟩ : ∃ n, n = O.length := ⟨_, rfl⟩
    rw [← hn] at HO4 ⊢
    have HN : Hid (n = (x :: xs).length ∧ (x :: xs).length = 3) := Lib.hid ⟨by rw [hn, hv], by rw [← hv]; exact HL.out⟩
    rw [hv] at HO4
    clear hn hv HS HI HL
    have n0 : 0 < n := by have := HN.out; omega
    have n1 : (0 : Int) < (n : Int) := by omega
    have HK : Hid (Cur (w4.alloc (.cells (opicks.map (Value.int .i64)).toArray 3)) g) := Lib.hid (HC4.out.gr ((Gr.refl _).alloc _))
    have HV : Hid (∀ w', Dr g (w4.alloc (.cells (opicks.map (Value.int .i64)).toArray 3)) w' → RInts w' (.slice (some ⟨w4.heap.size, 0, none⟩) 3 3) opicks) := Lib.hid fun w' k => lit_ints HC4.out.lt opicks opicks_i64 (by decide) k
    have HO5 : Hid (OInts w.heap.size (w4.alloc (.cells (opicks.map (Value.int .i64)).toArray 3)) (.slice (some ⟨gb, 0, none⟩) n c3) (x :: xs)) := Lib.hid (HO4.out.mono ((Gr.refl _).alloc _))
    have HD5 : Hid (Dr g w (w4.alloc (.cells (opicks.map (Value.int .i64)).toArray 3))) := Lib.hid (HD4.out.alloc _)
    clear HO4 HD4 HC4
    go_wp2_with fail
    refine (spec_l1PickInt g _ opicks _ HK.out HV.out (by decide)).mono ?_
    rintro e w6 ⟨p, rfl, hp, hk6⟩
    have HO6 := Lib.hid (oints_dr HO5.out HGW.out hk6.out.2)
    have HD6 := Lib.hid (HD5.out.trans hk6.out.2)
    have HGB : Hid (w.heap.size ≤ gb) := Lib.hid (HO6.out.1.lt gb rfl).1
    have HC7 : Hid (Cur (w6.setCell ⟨gb, 0, none⟩ (.int .i64 p)) g) := Lib.hid (hk6.out.1.keep fun b hb => Below.heap_setCell _ _ _ _ (by have := HGB.out; have := HGW.out; dsimp only; omega))
    have HD7 : Hid (Dr g w (w6.setCell ⟨gb, 0, none⟩ (.int .i64 p))) := Lib.hid (HD6.out.setHigh (p := ⟨gb, 0, none⟩) HGB.out _)
    have HO7 : Hid (OInts w.heap.size (w6.setCell ⟨gb, 0, none⟩ (.int .i64 p)) (.slice (some ⟨gb, 0, none⟩) n c3) (p :: xs)) := Lib.hid (by
      have h := HO6.out
      rw [HN.out.1] at h ⊢
      exact h.set0 (opicks_i64 _ hp.out))
    have v6 := (oints_first HN.out.1 HO6.out).1
    have f6 := (oints_first HN.out.1 HO6.out).2
    clear hk6 HV HK HO5 HD5 HO6 HD6
    go_wp2_with fail
    go_ret
    exact ⟨_, _, _, p :: xs, rfl, Lib.hid ⟨by have := HN.out.1; simpa using this, by have := HN.out.2; simpa using this⟩, HO7, Lib.hid ⟨HC7.out, HD7.out⟩⟩
end Go.Proofs.Ytcdcpfcmhmhdjaa

/- Appends inside a region that draws its order, behind another operation that has made memory: no draw stands on the world. No program in sight. -/
namespace Go.Proofs.Ytcdcpfcmhmhdjaa
open Go.ChangeShapes Go.WideShapes Go.RowKit Go.Deep
theorem step_push_n {P : Program} {ops : Array Oper} {o : Oper} {a : Act} {K : Act → World → Prop} {Q : Exit → Act → World → Prop} {E : Prop} {w wr : World} (t e size bytes : Nat) {z : Value} (ht : P.underlying t = some (.slice e))
    (hi : (P.info? e).map (fun i => (i.zero, i.size, i.bytes)) = some (some z, size, bytes)) (hzs : z.cells.size = size) (hsz : 0 < size) (hby : 0 < bytes) (hgd : o.guard = none) (s x : Operand)
    (ho : o.op = .call { callee := .builtin .append, args := #[s, x], argTypes := #[t, t] }) {base n : Nat} {v : Value} {xs : List Value} (m : Nat) (hm : 0 < m) (news : List Value)
    (hs : a.eval s = v) (hx : a.eval x = .slice (some ⟨wr.heap.size, 0, none⟩) m m) (hw : w = wr.alloc (.cells news.toArray e)) (hown : wr.ownsRow base e size v n xs) (hl : news.length = m * size) (h1 : ∀ u ∈ news, u.oneCell' = true)
    (hn : (n + m) * bytes ≤ 140737488355328) (hbase : base ≤ wr.heap.size)
    (h : ∀ g cap w', w'.ownsRow base e size (.slice (some ⟨g, 0, none⟩) (n + m) cap) (n + m) (xs ++ news) → Below base wr w' → (v.ownBlock = some g ∨ g = wr.heap.size + 1) → (∀ k, k < wr.heap.size → v.ownBlock ≠ some k → w'.heap[k]? = wr.heap[k]?) → K (a.put o.dst (.slice (some ⟨g, 0, none⟩) (n + m) cap)) w') :
    if Region.wanted o (yielded ops a.tmps) = true then Oper.wp P o a w K Q else E := by
  obtain ⟨i, hi, hz, hs', hb'⟩ := info_parts hi
  subst hw
  have hn1 : n + m ≤ maxLen := by
    have := Nat.le_mul_of_pos_right (n + m) hby
    simp only [maxLen]; omega
  refine step_append_lies _ hgd s x t ho base e i z size bytes ht hi hz hs' hb' hzs hsz v n xs hs (hown.alloc _) ⟨wr.heap.size, 0, none⟩ m m news hx hl (World.news_of_block (cs := news.toArray) (t := e) (fr := (0, 0)) (heap_alloc_new wr _)) h1 hm hn1 hn (by simp; omega) (wr.heap.size + 1) (by simp) ?_
  intro g cap w' ho' hg hlie _
  refine h g cap w' ho' (((Below.refl _ _).alloc hbase _).grown hg (by simp; omega) fun k hk => (hown.lt k hk).1) hlie fun k hk hne => ?_
  rw [hg.block k (by simp; omega) (fun e => hne e.symm), Below.heap_alloc wr _ k hk]
section
variable {α : Type} {P : Program} {O : (Nat → Prop) → World → List Value → α → Prop} {ops : Array Oper} {o : Oper} {a : Act} {Q : Exit → Act → World → Prop} {w0 wr w : World}
theorem step_push_on {K : Act → World → Prop} {E : Prop} {la hb lo : Nat} (t e size bytes : Nat) {z : Value} (ht : P.underlying t = some (.slice e))
    (hi : (P.info? e).map (fun i => (i.zero, i.size, i.bytes)) = some (some z, size, bytes)) (hzs : z.cells.size = size) (hsz : 0 < size) (hby : 0 < bytes) (hgd : o.guard = none) (s x : Operand)
    (ho : o.op = .call { callee := .builtin .append, args := #[s, x], argTypes := #[t, t] }) (hO : FramedE O) {v : Value} {ys : List α} (y : α) (c : List Value)
    (hs : a.eval s = v) (hx : a.eval x = .slice (some ⟨wr.heap.size, 0, none⟩) 1 1) (hw : w = wr.alloc (.cells c.toArray e)) (hown : OSl e size O (In lo w0.heap.size) w0 v ys) (hlo : lo ≤ w0.heap.size) (hg : Gr w0 wr)
    (hy : O (In la hb) wr c y) (ha : w0.heap.size ≤ la) (hhb : hb ≤ wr.heap.size) (hl : c.length = size) (h1 : ∀ u ∈ c, u.oneCell' = true) (hn : (ys.length + 1) * bytes ≤ 140737488355328)
    (h : ∀ g cap w', OSl e size O (In lo w'.heap.size) w' (.slice (some ⟨g, 0, none⟩) (ys ++ [y]).length cap) (ys ++ [y]) → Below lo wr w' → K (a.put o.dst (.slice (some ⟨g, 0, none⟩) (ys ++ [y]).length cap)) w') :
    if Region.wanted o (yielded ops a.tmps) = true then Oper.wp P o a w K Q else E := by
  obtain ⟨cs, hE⟩ := hown
  have hrow : wr.ownsRow lo e size v ys.length (flatC size ys.length cs) := (hE.frame hO (hg.agree _)).row fun b hb => hb.1
  refine step_push_n t e size bytes ht hi hzs hsz hby hgd s x ho 1 (by decide) c hs hx hw hrow (by simpa using hl) h1 hn (Nat.le_trans hlo hg.size) fun g cap w' k1 k2 k3 k4 => ?_
  have := h g cap w' (hE.pushed hO hlo hg hy ha hhb hl k1 k2 k3 k4) k2
  rwa [List.length_append, List.length_singleton] at this
end
/-- append(out, xs...), integers, inside a region that draws its order. -/
theorem step_spread_i {ops : Array Oper} {o : Oper} {a : Act} {K : Act → World → Prop} {Q : Exit → Act → World → Prop} {E : Prop} {w : World} (hgd : o.guard = none) (s x : Operand)
    (ho : o.op = .call { callee := .builtin .append, args := #[s, x], argTypes := #[28, 28] }) {base : Nat} {v : Value} (ns : List Int) {ys : List Int} {ad : Option Addr} {c : Nat}
    (hs : a.eval s = v) (hx : a.eval x = .slice ad ys.length c) (hown : OInts base w v ns) (hsrc : SrcAt w ad (ys.map (Value.int .i64))) (hy : ∀ x ∈ ys, I64 x) (hn : ns.length + ys.length ≤ 17592186044416) (hbase : base ≤ w.heap.size)
    (h : ∀ b c' w', OInts base w' (.slice b (ns ++ ys).length c') (ns ++ ys) → Below base w w' → K (a.put o.dst (.slice b (ns ++ ys).length c')) w') :
    if Region.wanted o (yielded ops a.tmps) = true then Oper.wp Try.prog o a w K Q else E :=
  step_spread 28 3 1 8 Try.underlying28 (z := .int .i64 0) (by kernel_rfl) rfl (by decide) (by decide) hgd s x ho (ys.map (Value.int .i64)) hs hx hown.1 (by simp) hsrc (by simp [Value.oneCell']) (by omega) hbase fun v' w' h1 h2 _ _ => by
    have hO : OInts base w' v' (ns ++ ys) := ⟨by simpa using h1, fun x hx => (List.mem_append.1 hx).elim (hown.2 x) (hy x)⟩
    obtain ⟨b, c', rfl⟩ := hO.reads.form
    exact h b c' w' hO h2
/-- .. onto an empty slice that the same region has made. -/
theorem step_copy_i {ops : Array Oper} {o : Oper} {a : Act} {K : Act → World → Prop} {Q : Exit → Act → World → Prop} {E : Prop} {w wr : World} (hgd : o.guard = none) (s x : Operand)
    (ho : o.op = .call { callee := .builtin .append, args := #[s, x], argTypes := #[28, 28] }) {ys : List Int} {ad : Option Addr} {c : Nat}
    (hs : a.eval s = .slice (some ⟨wr.heap.size, 0, none⟩) 0 0) (hx : a.eval x = .slice ad ys.length c) (hw : w = wr.alloc (.cells #[] 3) ∨ w = (wr.alloc (.cells #[] 3)).drew) (hsrc : SrcAt wr ad (ys.map (Value.int .i64))) (hy : ∀ x ∈ ys, I64 x) (hn : ys.length ≤ 4294967296)
    (h : ∀ b c' w', OInts wr.heap.size w' (.slice b ys.length c') ys → Gr wr w' → K (a.put o.dst (.slice b ys.length c')) w') :
    if Region.wanted o (yielded ops a.tmps) = true then Oper.wp Try.prog o a w K Q else E := by
  have hg : Gr wr w := by
    rcases hw with rfl | rfl
    · exact (Gr.refl _).alloc _
    · exact ((Gr.refl _).alloc _).drew
  have ho0 : OInts wr.heap.size w (.slice (some ⟨wr.heap.size, 0, none⟩) 0 0) [] := by
    rcases hw with rfl | rfl <;> exact ⟨own_empty wr _ _ _ (Nat.le_refl _), fun _ h => absurd h (by simp)⟩
  refine step_spread_i hgd s x ho [] hs hx ho0 ?_ hy (by simp; omega) hg.size fun b c' w' h1 h2 => ?_
  · rcases hsrc with h | ⟨b, off, h1, h2⟩
    · exact Or.inl h
    · exact Or.inr ⟨b, off, h1, fun j u hj => hg.cellv (h2 j u hj)⟩
  · simp only [List.nil_append] at h1 ⊢
    exact h b c' w' h1 (hg.trans' h2)
end Go.Proofs.Ytcdcpfcmhmhdjaa
