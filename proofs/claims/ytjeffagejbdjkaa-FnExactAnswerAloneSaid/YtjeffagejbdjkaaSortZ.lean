/- SortRows: the reference's walk. -/
import Derived.Test.YtjeffagejbdjkaaSortY
import Derived.Test.YtjeffagejbdjkaaSortV
import Derived.Test.YtjeffagejbdjkaaSortW
namespace Go.Proofs.Ytjeffagejbdjkaa
open Go.RowKit Go.ChangeShapes Go.WideShapes Go.Deep
section
variable {α : Type} {sz : Nat} {R : World → List Value → α → Prop} {w : World} {xs : List α}
theorem RSlice.takeN {a : Option Addr} {n cap : Nat} (h : RSlice sz R w (.slice a n cap) xs) {k : Nat} (hk : k ≤ xs.length) : RSlice sz R w (.slice a k cap) (xs.take k) := by
  obtain ⟨a', cap', e, h1, h2, h3⟩ := h
  obtain ⟨rfl, rfl, rfl⟩ : a = a' ∧ n = xs.length ∧ cap = cap' := by simpa using e
  have hl : (xs.take k).length = k := by rw [List.length_take]; omega
  refine ⟨a, cap, by rw [hl], by omega, h2, fun i hi => ?_⟩
  obtain ⟨b, off, cs, ha, hc, hr, hcc⟩ := h3 i (by omega)
  exact ⟨b, off, cs, ha, hc, by rw [List.getElem_take]; exact hr, hcc⟩
theorem RSlice.capN {a : Option Addr} {n cap : Nat} (h : RSlice sz R w (.slice a n cap) xs) : xs.length ≤ cap := by
  obtain ⟨a', cap', e, h1, _⟩ := h
  simp only [Value.slice.injEq] at e
  rw [e.2.2]; exact h1
theorem RSlice.capM {a : Option Addr} {n cap : Nat} (h : RSlice sz R w (.slice a n cap) xs) : cap ≤ 9223372036854775807 := by
  obtain ⟨a', cap', e, _, h1, _⟩ := h
  simp only [Value.slice.injEq] at e
  rw [e.2.2]; exact h1
theorem RSlice.dropN {g o n cap : Nat} (h : RSlice sz R w (.slice (some ⟨g, o, none⟩) n cap) xs) {k : Nat} (hk : k ≤ xs.length) : RSlice sz R w (.slice (some ⟨g, o + k * sz, none⟩) (xs.length - k) (cap - k)) (xs.drop k) := by
  obtain ⟨a', cap', e, h1, h2, h3⟩ := h
  obtain ⟨rfl, rfl, rfl⟩ : some (⟨g, o, none⟩ : Addr) = a' ∧ n = xs.length ∧ cap = cap' := by simpa using e
  have hl : (xs.drop k).length = xs.length - k := List.length_drop
  refine ⟨_, cap - k, by rw [hl], by omega, by omega, fun i hi => ?_⟩
  obtain ⟨b, off, cs, ha, hc, hr, hcc⟩ := h3 (k + i) (by omega)
  simp only [Option.some.injEq, Addr.mk.injEq, and_true] at ha
  obtain ⟨rfl, rfl⟩ := ha
  exact ⟨g, o + k * sz, cs, rfl, hc, by rw [List.getElem_drop]; exact hr, by rw [show o + k * sz + i * sz = o + (k + i) * sz by rw [Nat.add_mul]; omega]; exact hcc⟩
theorem ORq.some {t lo : Nat} {Q : World → Prop} {b : Option Addr} {n c : Nat} (h : ORq t sz R Q lo w (.slice b n c) xs) (hn : 0 < xs.length) : ∃ g, b = some ⟨g, 0, none⟩ ∧ lo ≤ g ∧ g < w.heap.size := by
  have hlt := fun g hg => h.lt (g := g) hg
  obtain ⟨cs, ⟨_, h2⟩, _⟩ := h
  rcases h2 with ⟨e, h0⟩ | ⟨g, cap, cur, e, _⟩
  · omega
  · simp only [Value.slice.injEq] at e
    obtain ⟨rfl, _, _⟩ := e
    exact ⟨g, rfl, hlt g rfl⟩
end
theorem rows_cell {w : World} {g o n c : Nat} {S : List DRow} (h : RRows w (.slice (some ⟨g, o, none⟩) n c) S) {J : Nat} (hJ : J < S.length) : ∃ (iy : Int) (ay : Option Addr) (ny ky : Nat),
    w.cell? ⟨g, o + J * 2, none⟩ = some (.int .i64 iy) ∧ w.cell? ⟨g, o + J * 2 + 1, none⟩ = some (.slice ay ny ky) ∧ Hid (iy = S[J].id ∧ RInts w (.slice ay ny ky) S[J].vals) := by
  obtain ⟨a', cap', e, h1, h2, h3⟩ := h
  obtain ⟨rfl, _, _⟩ : some (⟨g, o, none⟩ : Addr) = a' ∧ n = S.length ∧ c = cap' := by simpa using e
  obtain ⟨b, off, cs, ha, _, ⟨u, rfl, _, hu⟩, hcc⟩ := h3 J hJ
  simp only [Option.some.injEq, Addr.mk.injEq, and_true] at ha
  obtain ⟨rfl, rfl⟩ := ha
  obtain ⟨ay, ny, ky, rfl⟩ := hu.isSl
  have c0 := hcc 0 (by simp)
  have c1 := hcc 1 (by simp)
  exact ⟨_, ay, ny, ky, by simpa using c0, by simpa using c1, Lib.hid ⟨rfl, hu⟩⟩
theorem ins_of {r : DRow} {S : List DRow} (h : UpR S) {j : Nat} (hj : j ≤ S.length) (hi : ∀ p (h : p < S.length), j ≤ p → ltRow r S[p] = true) (hlo : ∀ (h : 0 < j), ltRow r (S[j - 1]'(by omega)) = false) : insR r S = S.take j ++ [r] ++ S.drop j := by
  rw [insR_at h hj hi hlo, List.append_assoc]; rfl
/-- The worlds in which a copied row, made from c on in the world w2, still reads. -/
def Later (W1 : World) (c : Nat) (w2 w' : World) : Prop := Gr W1 w' ∧ Loc c w2 w'
set_option maxRecDepth 100000 in
set_option maxHeartbeats 2000000 in
theorem spec_SortRows (v : Value) (xs : List DRow) (w : World) (hv : RRows w v xs) (hb : totL totRow xs ≤ 1048576) :
    Calls Try.prog 6 #[v] w fun e w' => ∃ u, e = .returned u ∧ RRows w' u (sortR xs) ∧ Gr w w' := by
  have hbs : xs.length ≤ 1048576 ∧ ∀ k (h : k < xs.length), xs[k].vals.length ≤ 4294967296 := by
    refine ⟨by unfold totL at hb; omega, fun k h => ?_⟩
    have h2 := sumT_mem totRow xs k h
    unfold totL at hb
    simp only [totRow] at h2
    omega
  have HBS := Lib.hid hbs
  clear hbs hb
  obtain ⟨a, cap, rfl, hl, hm, hx3⟩ := hv
  have g0 : Gr w (w.alloc (.cells #[] 47)) := (Gr.refl w).alloc _
  have HST : Hid (RRows (w.alloc (.cells #[] 47)) (.slice (some ⟨w.heap.size, 0, none⟩) 0 0) (sortR (rTo xs 0))) := Lib.hid ⟨_, 0, rfl, Nat.le_refl _, by omega, fun i hi => absurd hi (Nat.not_lt_zero _)⟩
  go_enter Try.func6, Try.ntmps6
  go_wp2_with fail
  go_loopw [3, 4] (fun out i wr => ∃ (k g o c : Nat), k ≤ xs.length ∧ i = .int .i64 k ∧ out = .slice (some ⟨g, o, none⟩) (sortR (rTo xs k)).length c ∧ Hid (RRows wr out (sortR (rTo xs k))) ∧ Gr w wr) (fun _ i _ => xs.length - (intOf i).toNat)
  case atStart => exact ⟨0, _, _, _, Nat.zero_le _, rfl, rfl, HST, g0⟩
  case round =>
    obtain ⟨k, g, o, c, hk, rfl, rfl, HO, hgr⟩ := hrel
    by_cases hlt : k < xs.length
    · have hlz : (k : Int) < (xs.length : Int) := by omega
      have i0 : (0 : Int) ≤ (k : Int) := Int.natCast_nonneg _
      have HSL : Hid ((sortR (rTo xs k)).length = k) := Lib.hid (by rw [sortR_len, rTo_len hk])
      have HUP := Lib.hid (sortR_up (rTo xs k))
      have HTK := Lib.hid (sortR_take hlt)
      obtain ⟨S, hS⟩ : ∃ S, S = sortR (rTo xs k) := ⟨_, rfl⟩
      rw [← hS] at HO HSL HUP
      rw [← hS]
      have HS := Lib.hid hS
      clear hS
      obtain ⟨b3, off3, cs3, rfl, hlen3, ⟨u_vals3, rfl, i_id3, h_vals3⟩, hc3⟩ := hx3 k hlt
      have c0 := hgr.cellv (hc3 0 (by simp))
      have c1 := hgr.cellv (hc3 1 (by simp))
      simp only [Nat.add_zero, List.getElem_cons_zero, List.getElem_cons_succ] at c0 c1
      clear hc3 hlen3
      obtain ⟨ua, un, uc, rfl⟩ := RSlice.isSl h_vals3
      have HC3 := Lib.hid (RSlice.mono keeps_int hgr h_vals3)
      have HI3 := Lib.hid i_id3
      clear h_vals3
      obtain ⟨W1, hW1⟩ : ∃ W1, W1 = wr := ⟨_, rfl⟩
      rw [← hW1] at HO hgr c0 c1 HC3
      rw [← hW1]
      have HG1 := Lib.hid hgr
      clear hgr hW1
      go_wp2_with fail
      go_loopw [5] (fun vj wr => ∃ j : Nat, j ≤ S.length ∧ vj = .int .i64 j ∧ Hid (∀ p (h : p < S.length), j ≤ p → ltRow xs[k] S[p] = true) ∧ Hid (Gr W1 wr)) (fun vj _ => (intOf vj).toNat)
      case atStart => exact ⟨S.length, Nat.le_refl _, rfl, Lib.hid (fun p h h2 => absurd h2 (by omega)), Lib.hid (Gr.refl _)⟩
      case round =>
        obtain ⟨j, hj, rfl, HI, HG⟩ := hrel
        by_cases hj0 : 0 < j
        · have hjz : (0 : Int) < (j : Int) := by omega
          have hjd : decide ((j : Int) > 0) = true := decide_eq_true hjz
          obtain ⟨J, hJ⟩ : ∃ J, J = j - 1 := ⟨_, rfl⟩
          have hJS : J < S.length := by omega
          have i2 : (j : Int) - 1 < (S.length : Int) := by omega
          have i3 : (0 : Int) ≤ (j : Int) - 1 := by omega
          have i4 : (j : Int) ≤ 1048576 := by have := HSL.out; have := HBS.out.1; omega
          have e2 : ((j : Int) - 1).toNat = J := by omega
          obtain ⟨iy, ay, ny, ky, d0, d1, HD⟩ := rows_cell HO.out hJS
          have x0 := HG.out.cellv c0
          have x1 := HG.out.cellv c1
          have y0 := HG.out.cellv d0
          have y1 := HG.out.cellv d1
          have hcmp : ∀ q : Ext wr, Calls Try.prog 19 #[.agg #[.int .i64 xs[k].id, .slice ua un uc], .agg #[.int .i64 iy, .slice ay ny ky]] q.val fun e w' => e = .returned (.bool (ltRow xs[k] S[J])) ∧ Gr q.val w' := fun q => by
            have h := spec_l3Less xs[k] S[J] (.slice ua un uc) (.slice ay ny ky) q.val (RSlice.mono keeps_int (HG.out.trans q.gr) HC3.out) (RSlice.mono keeps_int (HG.out.trans q.gr) HD.out.2)
            rw [← HD.out.1] at h
            exact h
          have HJ := Lib.hid hJ
          clear d0 d1 hJ
          cases hr : ltRow xs[k] S[J] with
          | true =>
            have HR := Lib.hid hr
            rw [hr] at hcmp
            clear hr
            go_wp2_with fail
            have q0 := fun q : Ext wr => Ext.cell x0 q
            have q1 := fun q : Ext wr => Ext.cell x1 q
            have q2 := fun q : Ext wr => Ext.cell y0 q
            have q3 := fun q : Ext wr => Ext.cell y1 q
            refine wp_region_ext (by kernel_rfl) (by kernel_rfl) ?_
            repeat (go_big_quiet_step ((go_at_call 19; exact quiet_ext (hcmp _))))
            refine wpQuiet_nil ?_
            intro w1 hw1
            have HGE := Lib.hid (Ext.out hw1)
            clear hw1 q0 q1 q2 q3 x0 x1 y0 y1 hcmp
            go_wp2_with fail
            go_roundw
            case rel => exact ⟨J, by omega, by have := HJ.out; go_num, Lib.hid (fun p h h2 => by
              by_cases e : p = J
              · subst e; exact HR.out
              · exact HI.out p h (by have := HJ.out; omega)), Lib.hid (HG.out.trans HGE.out)⟩
            case measure => have := HJ.out; simp [intOf]; omega
          | false =>
            have HIns : Hid (insR xs[k] S = S.take j ++ [xs[k]] ++ S.drop j) := Lib.hid (ins_of HUP.out hj HI.out (fun _ => by have := HJ.out; subst this; exact hr))
            rw [hr] at hcmp
            clear hr
            go_wp2_with fail
            have q0 := fun q : Ext wr => Ext.cell x0 q
            have q1 := fun q : Ext wr => Ext.cell x1 q
            have q2 := fun q : Ext wr => Ext.cell y0 q
            have q3 := fun q : Ext wr => Ext.cell y1 q
            refine wp_region_ext (by kernel_rfl) (by kernel_rfl) ?_
            repeat (go_big_quiet_step ((go_at_call 19; exact quiet_ext (hcmp _))))
            refine wpQuiet_nil ?_
            intro w1 hw1
            have HG' := Lib.hid (HG.out.trans (Ext.out hw1))
            clear hw1 q0 q1 q2 q3 x0 x1 y0 y1 hcmp HG
            have hT := HO.out.takeN hj
            have hD := HO.out.dropN hj
            have hjc : j ≤ c := Nat.le_trans hj HO.out.capN
            have hcm : c ≤ 9223372036854775807 := HO.out.capM
            have hTn : (S.take j).length = j := by rw [List.length_take]; omega
            have hDn : (S.drop j).length = S.length - j := List.length_drop
            obtain ⟨T, eT⟩ : ∃ T, T = S.take j := ⟨_, rfl⟩
            obtain ⟨D, eD⟩ : ∃ D, D = S.drop j := ⟨_, rfl⟩
            rw [← eT] at hT hTn HIns
            rw [← eD] at hD hDn HIns
            have HT := Lib.hid hT
            have HDr := Lib.hid hD
            have HDr0 : Hid (RSlice 2 RRow W1 (.slice (if c = j then some ⟨g, o, none⟩ else some ⟨g, o + j * 2, none⟩) (S.length - j) (c - j)) D) := Lib.hid (by
              by_cases e : c = j
              · have e0 : D = [] := List.eq_nil_of_length_eq_zero (by have := HO.out.capN; omega)
                subst e0
                exact ⟨_, _, by rw [show S.length - j = 0 by have := HO.out.capN; omega]; rfl, Nat.zero_le _, by omega, fun i hi => absurd hi (Nat.not_lt_zero _)⟩
              · rw [if_neg e]; exact HDr.out)
            have HTn := Lib.hid hTn
            have HDn := Lib.hid hDn
            clear hT hD hTn hDn eT eD
            have HL0 : Hid (W1.heap.size ≤ (w1.alloc (.cells #[] 47)).heap.size) := Lib.hid (HG'.out.alloc _).size
            go_wp2_with (at_builtin; refine spread_q (W := W1) (R := RRow) (Q := fun w' => Gr W1 w') (lo := W1.heap.size) 24 47 2 32 Try.underlying24 (z := .agg #[.int .i64 0, .slice none 0 0]) (by kernel_rfl) rfl (by decide) (by decide) one_row keeps_row rfl _ _ rfl (v := .slice (some ⟨w1.heap.size, 0, none⟩) 0 0) (u := .slice (some ⟨g, o, none⟩) j c) (xs := []) (ys := T) rfl rfl (ORq.made HG'.out.size) HT.out (HG'.out.alloc _) (fun _ h => h) HL0.out (by have := HSL.out; have := HBS.out.1; have := HTn.out; simp; omega) ?_; intro b2 c2 w2 hO2 hB2 hs2; rw [List.nil_append] at hO2; rw [List.nil_append]; have HO2 := Lib.hid hO2; have HG2 := Lib.hid ((HG'.out.alloc (.cells #[] 47)).trans' hB2); have x0 := HG2.out.cellv c0; have x1 := HG2.out.cellv c1; clear hO2 hB2 hs2)
            refine (spec_l3Copy xs[k] _ _ (RSlice.mono keeps_int HG2.out HC3.out) (HBS.out.2 k hlt)).mono ?_
            rintro e w3 ⟨u3, rfl, g3, hp3⟩
            obtain ⟨pa, pc, rfl⟩ := (rd_pints hp3).form
            have HP := Lib.hid hp3
            have HO3 := Lib.hid (HO2.out.gr g3)
            have HG3 := Lib.hid (HG2.out.trans g3)
            have HL3 := Lib.hid HG3.out.size
            have HB2 : Hid (∀ q, (Value.slice b2 T.length c2).ownBlock = some q → q < w2.heap.size) := Lib.hid fun q hq => (HO2.out.lt hq).2
            have HY : Hid (∀ w', Later W1 w2.heap.size w3 w' → RRow w' [.int .i64 xs[k].id, .slice pa xs[k].vals.length pc] xs[k]) := Lib.hid fun w' hw' => ⟨_, rfl, HI3.out, rd_pints (HP.out.loc fr_int hw'.2 (Nat.le_refl _))⟩
            clear hp3 g3 x0 x1
            go_wp2_with (at_builtin; first
              | (refine push_q (wr := w3) (R := RRow) (Q := fun w' => Gr W1 w') (Q' := Later W1 w2.heap.size w3) (lo := W1.heap.size) 24 47 2 32 Try.underlying24 (z := .agg #[.int .i64 0, .slice none 0 0]) (by kernel_rfl) rfl (by decide) (by decide) rfl _ _ rfl (v := .slice b2 T.length c2) (ys := T) xs[k] [.int .i64 xs[k].id, .slice pa xs[k].vals.length pc] rfl rfl rfl HO3.out HL3.out rfl (by simp [Value.oneCell']) (fun _ h => h.1) HY.out (by have := HSL.out; have := HBS.out.1; have := HTn.out; omega) ?_; intro g5 c5 w5 hO5 hB5 hor hs5; have HG5 := Lib.hid (HG3.out.trans' hB5); have HV5 : Hid (Later W1 w2.heap.size w3 w5) := (Lib.hid ⟨HG5.out, hB5.size, fun b hb hl => hs5 b hl fun hv => by have := HB2.out b hv; omega⟩); have HQ5 : Hid (g5 < w2.heap.size ∨ g5 = w3.heap.size + 1) := Lib.hid (hor.imp (fun h => HB2.out g5 h) id); have HL5 := Lib.hid HG5.out.size; obtain ⟨X, hX⟩ : ∃ X, X = T ++ [xs[k]] := ⟨_, rfl⟩; rw [← hX] at hO5; rw [← hX]; have HX := Lib.hid hX; have HO5 := Lib.hid hO5; clear hO5 hB5 hor hs5 hX)
              | (refine spread_q (W := W1) (R := RRow) (Q := Later W1 w2.heap.size w3) (lo := W1.heap.size) 24 47 2 32 Try.underlying24 (z := .agg #[.int .i64 0, .slice none 0 0]) (by kernel_rfl) rfl (by decide) (by decide) one_row keeps_row rfl _ _ rfl (v := .slice (some ⟨g5, 0, none⟩) X.length c5) (u := .slice (if c = j then some ⟨g, o, none⟩ else some ⟨g, o + j * 2, none⟩) (S.length - j) (c - j)) (xs := X) (ys := D) rfl rfl HO5.out HDr0.out HG5.out (fun _ h => h.1) HL5.out (by have := HSL.out; have := HBS.out.1; have := HTn.out; have := HDn.out; rw [HX.out, List.length_append, List.length_singleton]; omega) ?_; intro b6 c6 w6 hO6 hB6 hs6; have HG6 := Lib.hid (HG5.out.trans' hB6); have HV6 : Hid (Later W1 w2.heap.size w3 w6) := (Lib.hid ⟨HG6.out, Nat.le_trans HV5.out.2.1 hB6.size, fun b hb hl => (hs6 b (Nat.lt_of_lt_of_le hl HV5.out.2.1) fun hv => by have e : g5 = b := Option.some.inj hv; have := HQ5.out; omega).trans (HV5.out.2.2 b hb hl)⟩); obtain ⟨Y, hY⟩ : ∃ Y, Y = X ++ D := ⟨_, rfl⟩; rw [← hY] at hO6; rw [← hY]; have HYY := Lib.hid hY; have HO6 := Lib.hid hO6; clear hO6 hB6 hs6 hY))
            have HE : Hid (Y = sortR (rTo xs (k + 1))) := Lib.hid (by rw [HYY.out, HX.out, ← HIns.out, HS.out]; exact HTK.out.symm)
            have HR6 := Lib.hid (HO6.out.reads HV6.out)
            obtain ⟨g6, rfl, _⟩ := HO6.out.some (by rw [HE.out, sortR_len, rTo_len (by omega)]; omega)
            rw [HE.out] at HR6
            rw [HE.out]
            go_roundw
            case rel => exact ⟨k + 1, g6, 0, c6, by omega, by go_num, rfl, HR6, HG1.out.trans HG6.out⟩
            case measure => simp [intOf]; omega
        · have hjz : ¬ (0 : Int) < (j : Int) := by omega
          have hjd : decide ((j : Int) > 0) = false := decide_eq_false hjz
          have HIns : Hid (insR xs[k] S = S.take j ++ [xs[k]] ++ S.drop j) := Lib.hid (ins_of HUP.out hj HI.out (fun h => absurd h hj0))
          go_wp2_with fail
          go_big_region
          obtain ⟨w1, hw1⟩ : ∃ w1, w1 = wr.drew := ⟨_, rfl⟩
          rw [← hw1]
          have HG' : Hid (Gr W1 w1) := Lib.hid (by rw [hw1]; exact HG.out.drew)
          clear hw1 HG
          have hT := HO.out.takeN hj
          have hD := HO.out.dropN hj
          have hjc : j ≤ c := Nat.le_trans hj HO.out.capN
          have hcm : c ≤ 9223372036854775807 := HO.out.capM
          have hTn : (S.take j).length = j := by rw [List.length_take]; omega
          have hDn : (S.drop j).length = S.length - j := List.length_drop
          obtain ⟨T, eT⟩ : ∃ T, T = S.take j := ⟨_, rfl⟩
          obtain ⟨D, eD⟩ : ∃ D, D = S.drop j := ⟨_, rfl⟩
          rw [← eT] at hT hTn HIns
          rw [← eD] at hD hDn HIns
          have HT := Lib.hid hT
          have HDr := Lib.hid hD
          have HDr0 : Hid (RSlice 2 RRow W1 (.slice (if c = j then some ⟨g, o, none⟩ else some ⟨g, o + j * 2, none⟩) (S.length - j) (c - j)) D) := Lib.hid (by
            by_cases e : c = j
            · have e0 : D = [] := List.eq_nil_of_length_eq_zero (by have := HO.out.capN; omega)
              subst e0
              exact ⟨_, _, by rw [show S.length - j = 0 by have := HO.out.capN; omega]; rfl, Nat.zero_le _, by omega, fun i hi => absurd hi (Nat.not_lt_zero _)⟩
            · rw [if_neg e]; exact HDr.out)
          have HTn := Lib.hid hTn
          have HDn := Lib.hid hDn
          clear hT hD hTn hDn eT eD
          have HL0 : Hid (W1.heap.size ≤ (w1.alloc (.cells #[] 47)).heap.size) := Lib.hid (HG'.out.alloc _).size
          go_wp2_with (at_builtin; refine spread_q (W := W1) (R := RRow) (Q := fun w' => Gr W1 w') (lo := W1.heap.size) 24 47 2 32 Try.underlying24 (z := .agg #[.int .i64 0, .slice none 0 0]) (by kernel_rfl) rfl (by decide) (by decide) one_row keeps_row rfl _ _ rfl (v := .slice (some ⟨w1.heap.size, 0, none⟩) 0 0) (u := .slice (some ⟨g, o, none⟩) j c) (xs := []) (ys := T) rfl rfl (ORq.made HG'.out.size) HT.out (HG'.out.alloc _) (fun _ h => h) HL0.out (by have := HSL.out; have := HBS.out.1; have := HTn.out; simp; omega) ?_; intro b2 c2 w2 hO2 hB2 hs2; rw [List.nil_append] at hO2; rw [List.nil_append]; have HO2 := Lib.hid hO2; have HG2 := Lib.hid ((HG'.out.alloc (.cells #[] 47)).trans' hB2); have x0 := HG2.out.cellv c0; have x1 := HG2.out.cellv c1; clear hO2 hB2 hs2)
          refine (spec_l3Copy xs[k] _ _ (RSlice.mono keeps_int HG2.out HC3.out) (HBS.out.2 k hlt)).mono ?_
          rintro e w3 ⟨u3, rfl, g3, hp3⟩
          obtain ⟨pa, pc, rfl⟩ := (rd_pints hp3).form
          have HP := Lib.hid hp3
          have HO3 := Lib.hid (HO2.out.gr g3)
          have HG3 := Lib.hid (HG2.out.trans g3)
          have HL3 := Lib.hid HG3.out.size
          have HB2 : Hid (∀ q, (Value.slice b2 T.length c2).ownBlock = some q → q < w2.heap.size) := Lib.hid fun q hq => (HO2.out.lt hq).2
          have HY : Hid (∀ w', Later W1 w2.heap.size w3 w' → RRow w' [.int .i64 xs[k].id, .slice pa xs[k].vals.length pc] xs[k]) := Lib.hid fun w' hw' => ⟨_, rfl, HI3.out, rd_pints (HP.out.loc fr_int hw'.2 (Nat.le_refl _))⟩
          clear hp3 g3 x0 x1
          go_wp2_with (at_builtin; first
            | (refine push_q (wr := w3) (R := RRow) (Q := fun w' => Gr W1 w') (Q' := Later W1 w2.heap.size w3) (lo := W1.heap.size) 24 47 2 32 Try.underlying24 (z := .agg #[.int .i64 0, .slice none 0 0]) (by kernel_rfl) rfl (by decide) (by decide) rfl _ _ rfl (v := .slice b2 T.length c2) (ys := T) xs[k] [.int .i64 xs[k].id, .slice pa xs[k].vals.length pc] rfl rfl rfl HO3.out HL3.out rfl (by simp [Value.oneCell']) (fun _ h => h.1) HY.out (by have := HSL.out; have := HBS.out.1; have := HTn.out; omega) ?_; intro g5 c5 w5 hO5 hB5 hor hs5; have HG5 := Lib.hid (HG3.out.trans' hB5); have HV5 : Hid (Later W1 w2.heap.size w3 w5) := (Lib.hid ⟨HG5.out, hB5.size, fun b hb hl => hs5 b hl fun hv => by have := HB2.out b hv; omega⟩); have HQ5 : Hid (g5 < w2.heap.size ∨ g5 = w3.heap.size + 1) := Lib.hid (hor.imp (fun h => HB2.out g5 h) id); have HL5 := Lib.hid HG5.out.size; obtain ⟨X, hX⟩ : ∃ X, X = T ++ [xs[k]] := ⟨_, rfl⟩; rw [← hX] at hO5; rw [← hX]; have HX := Lib.hid hX; have HO5 := Lib.hid hO5; clear hO5 hB5 hor hs5 hX)
            | (refine spread_q (W := W1) (R := RRow) (Q := Later W1 w2.heap.size w3) (lo := W1.heap.size) 24 47 2 32 Try.underlying24 (z := .agg #[.int .i64 0, .slice none 0 0]) (by kernel_rfl) rfl (by decide) (by decide) one_row keeps_row rfl _ _ rfl (v := .slice (some ⟨g5, 0, none⟩) X.length c5) (u := .slice (if c = j then some ⟨g, o, none⟩ else some ⟨g, o + j * 2, none⟩) (S.length - j) (c - j)) (xs := X) (ys := D) rfl rfl HO5.out HDr0.out HG5.out (fun _ h => h.1) HL5.out (by have := HSL.out; have := HBS.out.1; have := HTn.out; have := HDn.out; rw [HX.out, List.length_append, List.length_singleton]; omega) ?_; intro b6 c6 w6 hO6 hB6 hs6; have HG6 := Lib.hid (HG5.out.trans' hB6); have HV6 : Hid (Later W1 w2.heap.size w3 w6) := (Lib.hid ⟨HG6.out, Nat.le_trans HV5.out.2.1 hB6.size, fun b hb hl => (hs6 b (Nat.lt_of_lt_of_le hl HV5.out.2.1) fun hv => by have e : g5 = b := Option.some.inj hv; have := HQ5.out; omega).trans (HV5.out.2.2 b hb hl)⟩); obtain ⟨Y, hY⟩ : ∃ Y, Y = X ++ D := ⟨_, rfl⟩; rw [← hY] at hO6; rw [← hY]; have HYY := Lib.hid hY; have HO6 := Lib.hid hO6; clear hO6 hB6 hs6 hY))
          have HE : Hid (Y = sortR (rTo xs (k + 1))) := Lib.hid (by rw [HYY.out, HX.out, ← HIns.out, HS.out]; exact HTK.out.symm)
          have HR6 := Lib.hid (HO6.out.reads HV6.out)
          obtain ⟨g6, rfl, _⟩ := HO6.out.some (by rw [HE.out, sortR_len, rTo_len (by omega)]; omega)
          rw [HE.out] at HR6
          rw [HE.out]
          go_roundw
          case rel => exact ⟨k + 1, g6, 0, c6, by omega, by go_num, rfl, HR6, HG1.out.trans HG6.out⟩
          case measure => simp [intOf]; omega
    · obtain rfl : k = xs.length := by omega
      rw [rTo_all] at HO
      go_wp2_with fail
      go_ret
      exact ⟨_, rfl, by rw [rTo_all]; exact HO.out, hgr⟩
end Go.Proofs.Ytjeffagejbdjkaa
