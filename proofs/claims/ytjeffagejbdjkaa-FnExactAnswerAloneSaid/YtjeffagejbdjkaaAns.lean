/- AnswerAlone: the walks. -/
import Derived.Test.YtjeffagejbdjkaaSortX
import Derived.Test.YtjeffagejbdjkaaSortZ
import Derived.Test.YtjeffagejbdjkaaMatch
import Derived.Test.YtjeffagejbdjkaaSortL
namespace Go.Proofs.Ytjeffagejbdjkaa
open Go.RowKit Go.ChangeShapes Go.WideShapes Go.Deep
/-- What matches of the first k rows. -/
def ansTo (q : DQuery) (xs : List DRow) (k : Nat) : List DRow := (xs.take k).filter (matchB q)
def answerL (q : DQuery) (xs : List DRow) : List DRow := sortR (ansTo q xs xs.length)
theorem ansTo_yes {q : DQuery} {xs : List DRow} {k : Nat} (h : k < xs.length) (hm : matchB q xs[k] = true) : ansTo q xs (k + 1) = ansTo q xs k ++ [xs[k]] := by
  unfold ansTo; rw [List.take_succ_eq_append_getElem h, List.filter_append]; simp [hm]
theorem ansTo_no {q : DQuery} {xs : List DRow} {k : Nat} (h : k < xs.length) (hm : matchB q xs[k] = false) : ansTo q xs (k + 1) = ansTo q xs k := by
  unfold ansTo; rw [List.take_succ_eq_append_getElem h, List.filter_append]; simp [hm]
theorem ansTo_len (q : DQuery) (xs : List DRow) (k : Nat) : (ansTo q xs k).length ≤ xs.length := by
  unfold ansTo
  refine Nat.le_trans (List.length_filter_le _ _) ?_
  rw [List.length_take]; omega
theorem sum_filter {α : Type} (f : α → Nat) (p : α → Bool) : ∀ l : List α, sumT f (l.filter p) ≤ sumT f l
  | [] => Nat.le_refl _
  | x :: l => by
    have ih := sum_filter f p l
    unfold sumT at *
    rw [List.filter_cons]
    split <;> simp <;> omega
theorem ansTo_tot (q : DQuery) (xs : List DRow) : totL totRow (ansTo q xs xs.length) ≤ totL totRow xs := by
  have h1 := ansTo_len q xs xs.length
  have h2 := sum_filter totRow (matchB q) xs
  unfold totL
  unfold ansTo at *
  rw [List.take_length] at *
  omega
theorem answerL_small (q : DQuery) (xs : List DRow) : sumT cntRow (answerL q xs) ≤ 3 * totL totRow xs := by
  have h1 := sortR_small (ansTo q xs xs.length)
  have h2 := ansTo_tot q xs
  unfold answerL
  omega
theorem impl_MatchesRow_of {q : DQuery} {r : DRow} {b : Bool} (h : matchB q r = b) (u u' : Value) (t : Value) (w : World) (hu : RConds w u q.conds) (hu' : RInts w u' q.out) (ht : RInts w t r.vals) :
    Calls Try.prog 34 #[.agg #[.int .i64 q.id, .int .i64 q.tenant, u, u'], .agg #[.int .i64 r.id, t]] w fun e w' => e = .returned (.bool b) ∧ Gr w w' := h ▸ impl_MatchesRow q u u' r t w hu hu' ht
theorem spec_MatchesRow_of {q : DQuery} {r : DRow} {b : Bool} (h : matchB q r = b) (u u' : Value) (t : Value) (w : World) (hu : RConds w u q.conds) (hu' : RInts w u' q.out) (ht : RInts w t r.vals) :
    Calls Try.prog 31 #[.agg #[.int .i64 q.id, .int .i64 q.tenant, u, u'], .agg #[.int .i64 r.id, t]] w fun e w' => e = .returned (.bool b) ∧ Gr w w' := h ▸ spec_MatchesRow q u u' r t w hu hu' ht
set_option maxRecDepth 100000 in
set_option maxHeartbeats 2000000 in
theorem impl_AnswerAlone (q : DQuery) (u u' : Value) (v : Value) (xs : List DRow) (w : World) (hu : RConds w u q.conds) (hu' : RInts w u' q.out) (hv : RRows w v xs) (hb : totL totRow xs ≤ 1048576) :
    Calls Try.prog 15 #[.agg #[.int .i64 q.id, .int .i64 q.tenant, u, u'], v] w fun e w' => ∃ z, e = .returned z ∧ Gr w w' ∧ PRows (In w.heap.size w'.heap.size) w' z (answerL q xs) := by
  obtain ⟨ua, un, uc, rfl⟩ := RSlice.isSl hu
  obtain ⟨va, vn, vc, rfl⟩ := RSlice.isSl hu'
  have HU := Lib.hid hu
  have HU' := Lib.hid hu'
  have hln : xs.length ≤ 1048576 := by unfold totL at hb; omega
  have HLN := Lib.hid hln
  have HB := Lib.hid hb
  clear hu hu' hb hln
  obtain ⟨a, cap, rfl, hl, hm, hx3⟩ := hv
  obtain ⟨id, ten, cs, os⟩ := q
  dsimp only at *
  obtain ⟨W0, hW0⟩ : ∃ W0, W0 = w.alloc (.cells #[.int .i64 id, .int .i64 ten, .slice ua un uc, .slice va vn vc] 38) := ⟨_, rfl⟩
  have HW0 : Hid (Gr w W0 ∧ W0.heap.size = w.heap.size + 1) := Lib.hid (by rw [hW0]; exact ⟨(Gr.refl w).alloc _, by simp⟩)
  have k0 : W0.cell? ⟨w.heap.size, 0, none⟩ = some (.int .i64 id) := by rw [hW0]; simp [go_sem]
  have k1 : W0.cell? ⟨w.heap.size, 1, none⟩ = some (.int .i64 ten) := by rw [hW0]; simp [go_sem]
  have k2 : W0.cell? ⟨w.heap.size, 2, none⟩ = some (.slice ua un uc) := by rw [hW0]; simp [go_sem]
  have k3 : W0.cell? ⟨w.heap.size, 3, none⟩ = some (.slice va vn vc) := by rw [hW0]; simp [go_sem]
  have HST : Hid (ORq 47 2 RRow (fun w' => Gr W0 w') W0.heap.size (W0.alloc (.cells #[] 47)) (.slice (some ⟨W0.heap.size, 0, none⟩) 0 0) (ansTo ⟨id, ten, cs, os⟩ xs 0)) := Lib.hid (ORq.made (Nat.le_refl _))
  go_enter Try.func15, Try.ntmps15
  go_wp2_with fail
  rw [← hW0]
  go_loopw [5, 11] (fun out i wr => ∃ (k : Nat) (b : Option Addr) (c : Nat), k ≤ xs.length ∧ i = .int .i64 k ∧ out = .slice b (ansTo ⟨id, ten, cs, os⟩ xs k).length c ∧ Hid (ORq 47 2 RRow (fun w' => Gr W0 w') W0.heap.size wr out (ansTo ⟨id, ten, cs, os⟩ xs k)) ∧ Hid (Gr W0 wr)) (fun _ i _ => xs.length - (intOf i).toNat)
  case atStart => exact ⟨0, _, _, Nat.zero_le _, rfl, by rw [← HW0.out.2]; rfl, by rw [← HW0.out.2]; exact HST, Lib.hid ((Gr.refl W0).alloc _)⟩
  case round =>
    obtain ⟨k, b, c, hk, rfl, rfl, HO, HG⟩ := hrel
    by_cases hlt : k < xs.length
    · have hlz : (k : Int) < (xs.length : Int) := by omega
      have i0 : (0 : Int) ≤ (k : Int) := Int.natCast_nonneg _
      have hgr := HW0.out.1.trans HG.out
      obtain ⟨b3, off3, cs3, rfl, hlen3, ⟨u_vals3, rfl, i_id3, h_vals3⟩, hc3⟩ := hx3 k hlt
      have c0 := hgr.cellv (hc3 0 (by simp))
      have c1 := hgr.cellv (hc3 1 (by simp))
      simp only [Nat.add_zero, List.getElem_cons_zero, List.getElem_cons_succ] at c0 c1
      clear hc3 hlen3
      obtain ⟨ra, rn, rc, rfl⟩ := RSlice.isSl h_vals3
      obtain ⟨WA, hWA⟩ : ∃ WA, WA = wr.alloc (.cells #[.int .i64 xs[k].id, .slice ra rn rc] 47) := ⟨_, rfl⟩
      have HSA : Hid (WA.heap.size = wr.heap.size + 1 ∧ Gr wr WA) := Lib.hid (by rw [hWA]; exact ⟨by simp, (Gr.refl _).alloc _⟩)
      have HGA := Lib.hid (HG.out.trans HSA.out.2)
      have HI3 := Lib.hid i_id3
      have HC3 := Lib.hid h_vals3
      have y0 := HGA.out.cellv k0
      have y1 := HGA.out.cellv k1
      have y2 := HGA.out.cellv k2
      have y3 := HGA.out.cellv k3
      have z0 : WA.cell? ⟨wr.heap.size, 0, none⟩ = some (.int .i64 xs[k].id) := by rw [hWA]; simp [go_sem]
      have z1 : WA.cell? ⟨wr.heap.size, 1, none⟩ = some (.slice ra rn rc) := by rw [hWA]; simp [go_sem]
      clear h_vals3 hgr
      rw [hWA] at y0 y1 y2 y3
      cases hr : matchB ⟨id, ten, cs, os⟩ xs[k] with
      | false =>
        have HR := Lib.hid hr
        have HE : Hid (ansTo ⟨id, ten, cs, os⟩ xs (k + 1) = ansTo ⟨id, ten, cs, os⟩ xs k) := Lib.hid (ansTo_no hlt hr)
        clear hr
        go_wp2_with fail
        rw [← hWA]
        refine (impl_MatchesRow_of HR.out _ _ _ _ (RSlice.mono keeps_cond (HW0.out.1.trans HGA.out) HU.out) (RSlice.mono keeps_int (HW0.out.1.trans HGA.out) HU'.out) (RSlice.mono keeps_int (HW0.out.1.trans HGA.out) HC3.out)).mono ?_
        rintro e w2 ⟨rfl, g2⟩
        have HG2 := Lib.hid (HGA.out.trans g2)
        have HO2 := Lib.hid (HO.out.gr (HSA.out.2.trans g2))
        clear g2 y0 y1 y2 y3 z0 z1 hWA
        go_wp2_with fail
        go_roundw
        case rel => exact ⟨k + 1, _, _, by omega, by go_num, by rw [HE.out], by rw [HE.out]; exact HO2, HG2⟩
        case measure => simp [intOf]; omega
      | true =>
        have HR := Lib.hid hr
        have HE : Hid (ansTo ⟨id, ten, cs, os⟩ xs (k + 1) = ansTo ⟨id, ten, cs, os⟩ xs k ++ [xs[k]]) := Lib.hid (ansTo_yes hlt hr)
        have HLA : Hid ((ansTo ⟨id, ten, cs, os⟩ xs k).length ≤ 1048576) := Lib.hid (Nat.le_trans (ansTo_len _ _ _) HLN.out)
        clear hr
        go_wp2_with fail
        rw [← hWA]
        refine (impl_MatchesRow_of HR.out _ _ _ _ (RSlice.mono keeps_cond (HW0.out.1.trans HGA.out) HU.out) (RSlice.mono keeps_int (HW0.out.1.trans HGA.out) HU'.out) (RSlice.mono keeps_int (HW0.out.1.trans HGA.out) HC3.out)).mono ?_
        rintro e w2 ⟨rfl, g2⟩
        have HG2 := Lib.hid (HGA.out.trans g2)
        have HO2 := Lib.hid (HO.out.gr (HSA.out.2.trans g2))
        have HS2 := Lib.hid HG2.out.size
        replace z0 := g2.cellv z0
        replace z1 := g2.cellv z1
        have HY : Hid (∀ w', Gr W0 w' → RRow w' [.int .i64 xs[k].id, .slice ra rn rc] xs[k]) := Lib.hid fun w' hw' => ⟨_, rfl, HI3.out, RSlice.mono keeps_int (HW0.out.1.trans hw') HC3.out⟩
        clear g2 y0 y1 y2 y3 hWA
        go_wp2_with (at_builtin; refine push_q (wr := w2) (R := RRow) (Q := fun w' => Gr W0 w') (Q' := fun w' => Gr W0 w') (lo := W0.heap.size) 24 47 2 32 Try.underlying24 (z := .agg #[.int .i64 0, .slice none 0 0]) (by kernel_rfl) rfl (by decide) (by decide) rfl _ _ rfl (v := .slice b (ansTo ⟨id, ten, cs, os⟩ xs k).length c) (ys := ansTo ⟨id, ten, cs, os⟩ xs k) xs[k] [.int .i64 xs[k].id, .slice ra rn rc] rfl rfl rfl HO2.out HS2.out rfl (by simp [Value.oneCell']) (fun _ h => h) HY.out (by have := HLA.out; omega) ?_; intro g5 c5 w5 hO5 hB5 _ _; rw [← HE.out] at hO5; rw [← HE.out]; have HG5 := Lib.hid (HG2.out.trans' hB5); have HO5 := Lib.hid hO5; clear hO5 hB5)
        go_roundw
        case rel => exact ⟨k + 1, _, _, by omega, by go_num, rfl, HO5, HG5⟩
        case measure => simp [intOf]; omega
    · have hlz : ¬ (k : Int) < (xs.length : Int) := by omega
      obtain rfl : k = xs.length := by omega
      go_wp2_with fail
      refine (impl_SortRows _ _ _ (HO.out.reads HG.out) (Nat.le_trans (ansTo_tot _ _) HB.out)).mono ?_
      rintro e w5 ⟨z, rfl, g5, hp⟩
      go_wp2_with fail
      go_ret
      exact ⟨_, rfl, HW0.out.1.trans (HG.out.trans g5), hp.wide (by have := HW0.out.1.size; have := HG.out.size; omega) (Nat.le_refl _)⟩
set_option maxRecDepth 100000 in
set_option maxHeartbeats 2000000 in
theorem spec_AnswerAlone (q : DQuery) (u u' : Value) (v : Value) (xs : List DRow) (w : World) (hu : RConds w u q.conds) (hu' : RInts w u' q.out) (hv : RRows w v xs) (hb : totL totRow xs ≤ 1048576) :
    Calls Try.prog 13 #[.agg #[.int .i64 q.id, .int .i64 q.tenant, u, u'], v] w fun e w' => ∃ z, e = .returned z ∧ RRows w' z (answerL q xs) ∧ Gr w w' := by
  obtain ⟨ua, un, uc, rfl⟩ := RSlice.isSl hu
  obtain ⟨va, vn, vc, rfl⟩ := RSlice.isSl hu'
  have HU := Lib.hid hu
  have HU' := Lib.hid hu'
  have hbs : xs.length ≤ 1048576 ∧ ∀ k (h : k < xs.length), xs[k].vals.length ≤ 4294967296 := by
    refine ⟨by unfold totL at hb; omega, fun k h => ?_⟩
    have h2 := sumT_mem totRow xs k h
    unfold totL at hb
    simp only [totRow] at h2
    omega
  have HBS := Lib.hid hbs
  have HB := Lib.hid hb
  clear hu hu' hb hbs
  obtain ⟨a, cap, rfl, hl, hm, hx3⟩ := hv
  obtain ⟨id, ten, cs, os⟩ := q
  dsimp only at *
  obtain ⟨W0, hW0⟩ : ∃ W0, W0 = w.alloc (.cells #[.int .i64 id, .int .i64 ten, .slice ua un uc, .slice va vn vc] 38) := ⟨_, rfl⟩
  have HW0 : Hid (Gr w W0 ∧ W0.heap.size = w.heap.size + 1) := Lib.hid (by rw [hW0]; exact ⟨(Gr.refl w).alloc _, by simp⟩)
  have k0 : W0.cell? ⟨w.heap.size, 0, none⟩ = some (.int .i64 id) := by rw [hW0]; simp [go_sem]
  have k1 : W0.cell? ⟨w.heap.size, 1, none⟩ = some (.int .i64 ten) := by rw [hW0]; simp [go_sem]
  have k2 : W0.cell? ⟨w.heap.size, 2, none⟩ = some (.slice ua un uc) := by rw [hW0]; simp [go_sem]
  have k3 : W0.cell? ⟨w.heap.size, 3, none⟩ = some (.slice va vn vc) := by rw [hW0]; simp [go_sem]
  have HST : Hid (PRows (In W0.heap.size (W0.alloc (.cells #[] 47)).heap.size) (W0.alloc (.cells #[] 47)) (.slice (some ⟨W0.heap.size, 0, none⟩) 0 0) (ansTo ⟨id, ten, cs, os⟩ xs 0)) := Lib.hid (OSl.made W0 ⟨Nat.le_refl _, by simp⟩)
  go_enter Try.func13, Try.ntmps13
  go_wp2_with fail
  rw [← hW0]
  go_loopw [5, 6] (fun out i wr => ∃ (k : Nat) (b : Option Addr) (c : Nat), k ≤ xs.length ∧ i = .int .i64 k ∧ out = .slice b (ansTo ⟨id, ten, cs, os⟩ xs k).length c ∧ Hid (PRows (In W0.heap.size wr.heap.size) wr out (ansTo ⟨id, ten, cs, os⟩ xs k)) ∧ Hid (Gr W0 wr)) (fun _ i _ => xs.length - (intOf i).toNat)
  case atStart => exact ⟨0, _, _, Nat.zero_le _, rfl, by rw [← HW0.out.2]; rfl, by rw [← HW0.out.2]; exact HST, Lib.hid ((Gr.refl W0).alloc _)⟩
  case round =>
    obtain ⟨k, b, c, hk, rfl, rfl, HO, HG⟩ := hrel
    by_cases hlt : k < xs.length
    · have hlz : (k : Int) < (xs.length : Int) := by omega
      have i0 : (0 : Int) ≤ (k : Int) := Int.natCast_nonneg _
      have hgr := HW0.out.1.trans HG.out
      obtain ⟨b3, off3, cs3, rfl, hlen3, ⟨u_vals3, rfl, i_id3, h_vals3⟩, hc3⟩ := hx3 k hlt
      have c0 := hgr.cellv (hc3 0 (by simp))
      have c1 := hgr.cellv (hc3 1 (by simp))
      simp only [Nat.add_zero, List.getElem_cons_zero, List.getElem_cons_succ] at c0 c1
      clear hc3 hlen3
      obtain ⟨ra, rn, rc, rfl⟩ := RSlice.isSl h_vals3
      have HI3 := Lib.hid i_id3
      have HC3 := Lib.hid h_vals3
      have y0 := HG.out.cellv k0
      have y1 := HG.out.cellv k1
      have y2 := HG.out.cellv k2
      have y3 := HG.out.cellv k3
      clear h_vals3 hgr
      have hcall : ∀ b' : Bool, matchB ⟨id, ten, cs, os⟩ xs[k] = b' → ∀ p : Ext wr, Calls Try.prog 31 #[.agg #[.int .i64 id, .int .i64 ten, .slice ua un uc, .slice va vn vc], .agg #[.int .i64 xs[k].id, .slice ra rn rc]] p.val fun e w' => e = .returned (.bool b') ∧ Gr p.val w' := fun b' hr p =>
        have hp := HW0.out.1.trans (HG.out.trans p.gr)
        spec_MatchesRow_of hr _ _ _ _ (RSlice.mono keeps_cond hp HU.out) (RSlice.mono keeps_int hp HU'.out) (RSlice.mono keeps_int hp HC3.out)
      cases hr : matchB ⟨id, ten, cs, os⟩ xs[k] with
      | false =>
        have HE : Hid (ansTo ⟨id, ten, cs, os⟩ xs (k + 1) = ansTo ⟨id, ten, cs, os⟩ xs k) := Lib.hid (ansTo_no hlt hr)
        replace hcall := hcall false hr
        clear hr
        go_wp2_with fail
        have q0 := fun q : Ext wr => Ext.cell y0 q
        have q1 := fun q : Ext wr => Ext.cell y1 q
        have q2 := fun q : Ext wr => Ext.cell y2 q
        have q3 := fun q : Ext wr => Ext.cell y3 q
        have q4 := fun q : Ext wr => Ext.cell c0 q
        have q5 := fun q : Ext wr => Ext.cell c1 q
        refine wp_region_ext (by kernel_rfl) (by kernel_rfl) ?_
        repeat (go_big_quiet_step ((go_at_call 31; exact quiet_ext (hcall _))))
        refine wpQuiet_nil ?_
        intro w2 hw2
        have g2 := Ext.out hw2
        have HG2 := Lib.hid (HG.out.trans g2)
        have HO2 := Lib.hid ((HO.out.gr fr_row g2).wide (Nat.le_refl _) g2.size)
        clear hw2 g2 q0 q1 q2 q3 q4 q5 y0 y1 y2 y3 c0 c1 hcall
        go_wp2_with fail
        go_roundw
        case rel => exact ⟨k + 1, _, _, by omega, by go_num, by rw [HE.out], by rw [HE.out]; exact HO2, HG2⟩
        case measure => simp [intOf]; omega
      | true =>
        have HE : Hid (ansTo ⟨id, ten, cs, os⟩ xs (k + 1) = ansTo ⟨id, ten, cs, os⟩ xs k ++ [xs[k]]) := Lib.hid (ansTo_yes hlt hr)
        have HLA : Hid ((ansTo ⟨id, ten, cs, os⟩ xs k).length ≤ 1048576) := Lib.hid (Nat.le_trans (ansTo_len _ _ _) HBS.out.1)
        replace hcall := hcall true hr
        clear hr
        go_wp2_with fail
        have q0 := fun q : Ext wr => Ext.cell y0 q
        have q1 := fun q : Ext wr => Ext.cell y1 q
        have q2 := fun q : Ext wr => Ext.cell y2 q
        have q3 := fun q : Ext wr => Ext.cell y3 q
        have q4 := fun q : Ext wr => Ext.cell c0 q
        have q5 := fun q : Ext wr => Ext.cell c1 q
        refine wp_region_ext (by kernel_rfl) (by kernel_rfl) ?_
        repeat (go_big_quiet_step ((go_at_call 31; exact quiet_ext (hcall _))))
        refine wpQuiet_nil ?_
        intro w2 hw2
        have g2 := Ext.out hw2
        have HG2 := Lib.hid (HG.out.trans g2)
        have HO2 := Lib.hid ((HO.out.gr fr_row g2).wide (Nat.le_refl _) g2.size)
        replace c0 := g2.cellv c0
        replace c1 := g2.cellv c1
        clear hw2 g2 q0 q1 q2 q3 q4 q5 y0 y1 y2 y3 hcall
        go_wp2_with fail
        refine (spec_l3Copy xs[k] _ _ (RSlice.mono keeps_int (HW0.out.1.trans HG2.out) HC3.out) (HBS.out.2 k hlt)).mono ?_
        rintro e w3 ⟨u3, rfl, g3, hp3⟩
        obtain ⟨pa, pc, rfl⟩ := (rd_pints hp3).form
        have HP3 : Hid (PRow (In w2.heap.size w3.heap.size) w3 [.int .i64 xs[k].id, .slice pa xs[k].vals.length pc] xs[k]) := Lib.hid ⟨_, rfl, HI3.out, hp3⟩
        have HG3 := Lib.hid (HG2.out.trans g3)
        have HS2 := Lib.hid HG2.out.size
        have HGG := Lib.hid g3
        clear hp3 g3 c0 c1
        go_wp2_with (at_builtin; refine push_o (w0 := w2) (wr := w3) (la := w2.heap.size) (hb := w3.heap.size) (lo := W0.heap.size) 24 47 2 32 Try.underlying24 (z := .agg #[.int .i64 0, .slice none 0 0]) (by kernel_rfl) rfl (by decide) (by decide) rfl _ _ rfl fr_row xs[k] [.int .i64 xs[k].id, .slice pa xs[k].vals.length pc] rfl rfl rfl HO2.out HS2.out HGG.out HP3.out (Nat.le_refl _) (Nat.le_refl _) rfl (by simp [Value.oneCell']) (by have := HLA.out; omega) ?_; intro g5 c5 w5 hO5 hB5; rw [← HE.out] at hO5; rw [← HE.out]; have HG5 := Lib.hid (HG3.out.trans' hB5); have HO5 := Lib.hid hO5; clear hO5 hB5)
        go_roundw
        case rel => exact ⟨k + 1, _, _, by omega, by go_num, rfl, HO5, HG5⟩
        case measure => simp [intOf]; omega
    · have hlz : ¬ (k : Int) < (xs.length : Int) := by omega
      obtain rfl : k = xs.length := by omega
      go_wp2_with fail
      refine (spec_SortRows _ _ _ (rd_prows HO.out) (Nat.le_trans (ansTo_tot _ _) HB.out)).mono ?_
      rintro e w5 ⟨z, rfl, hp, g5⟩
      go_wp2_with fail
      go_ret
      exact ⟨_, rfl, hp, HW0.out.1.trans (HG.out.trans g5)⟩
end Go.Proofs.Ytjeffagejbdjkaa
