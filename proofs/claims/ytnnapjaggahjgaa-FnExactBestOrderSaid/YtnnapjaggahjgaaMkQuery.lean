/- The law's own helpers: marks, and what holds them. Written by gen_mark.py. -/
import Derived.Test.YtnnapjaggahjgaaMkCond
import Derived.Test.YtnnapjaggahjgaaGenQuery
namespace Go.Proofs.Ytnnapjaggahjgaa
open Go.RowKit
set_option linter.unusedSimpArgs false
set_option maxRecDepth 100000 in
set_option maxHeartbeats 4000000 in
theorem laws_markQueryS (F : Nat → Prop) (v : Value) (xs : List DQuery) (k : Int) (w : World) (hx : PQueries F w v xs) (h0 : 0 ≤ k) (hb : k + sumT cntQuery xs ≤ 4611686018427387904) :
    Calls Try.prog 38 #[v, .int .i64 k] w fun e w' => e = .returned (.int .i64 (k + sumT cntQuery xs)) ∧ PQueries F w' v (marksTo mkQuery cntQuery k xs.length xs) ∧ Chg F w w' := by
  obtain ⟨a, cap, rfl⟩ := hx.form
  have hlen : (xs.length : Int) ≤ 9223372036854775807 := by
    obtain ⟨_, _, hve, h1, h2, _⟩ := rd_pqueries hx
    simp only [Value.slice.injEq] at hve
    omega
  go_enter Try.func38, Try.ntmps38
  go_wp2
  go_loopw [1, 5] (fun kk i wr => ∃ j : Nat, j ≤ xs.length ∧ i = .int .i64 j ∧ kk = .int .i64 (k + sumT cntQuery (xs.take j)) ∧ PQueries F wr (.slice a xs.length cap) (marksTo mkQuery cntQuery k j xs) ∧ Chg F w wr) (fun _ i _ => xs.length - (intOf i).toNat)
  case atStart => exact ⟨0, Nat.zero_le _, rfl, by simp [sumT], by rw [marksTo_zero]; exact hx, Chg.refl _ _⟩
  case round =>
    obtain ⟨j, hj, rfl, rfl, hp, hch⟩ := hrel
    by_cases hlt : j < xs.length
    · obtain ⟨cs, G, hrow, hparts⟩ := hp.parts
      rw [marksTo_len] at hrow
      have hjl : j < (marksTo mkQuery cntQuery k j xs).length := by rw [marksTo_len]; exact hlt
      obtain ⟨g, rfl⟩ := row_ptr hrow (by omega)
      obtain ⟨hcl, hEl, hG, _⟩ := hparts.2 j hjl
      rw [marksTo_ge hlt (Nat.le_refl _) hjl] at hEl
      obtain ⟨u_conds, u_out, F1, F2, hcs, i_id, i_tenant, h_conds, h_out, hF1, hF2⟩ := hEl
      have hr0 : wr.ownsRow 0 44 4 (.slice (some ⟨g, 0, none⟩) xs.length cap) xs.length (flatC 4 xs.length (updC cs j [.int .i64 xs[j].id, .int .i64 xs[j].tenant, u_conds, u_out])) := by rw [← hcs, updC_same]; exact hrow
      have hgG : ∀ b, G j b → b ≠ g := fun b hb e => (hG b hb).2 (by subst e; rfl)
      have hsum := sumT_take cntQuery xs j hlt
      have hle := sumT_le cntQuery xs (j + 1)
      have hnn : 0 ≤ k + (sumT cntQuery (xs.take j) : Int) := by omega
      have hkb : k + (sumT cntQuery (xs.take j) : Int) + (cntQuery xs[j] : Int) ≤ 4611686018427387904 := by omega
      obtain ⟨k0_0, f0_0⟩ := row_cell (j := 0) hr0 hlt (by rw [updC_at]; rfl) (by rw [updC_at]; rfl) (p := j * 4) rfl
      obtain ⟨k0_1, f0_1⟩ := row_cell (j := 1) hr0 hlt (by rw [updC_at]; rfl) (by rw [updC_at]; rfl) (p := j * 4 + 1) rfl
      obtain ⟨k0_2, f0_2⟩ := row_cell (j := 2) hr0 hlt (by rw [updC_at]; rfl) (by rw [updC_at]; rfl) (p := j * 4 + 2) rfl
      obtain ⟨k0_3, f0_3⟩ := row_cell (j := 3) hr0 hlt (by rw [updC_at]; rfl) (by rw [updC_at]; rfl) (p := j * 4 + 3) rfl
      have hr1_0 : (wr.setCell ⟨g, j * 4, none⟩ (.int .i64 (k + (sumT cntQuery (xs.take j) : Int)))).ownsRow 0 44 4 (.slice (some ⟨g, 0, none⟩) xs.length cap) xs.length (flatC 4 xs.length (updC cs j [.int .i64 (k + (sumT cntQuery (xs.take j) : Int)), .int .i64 xs[j].tenant, u_conds, u_out])) := row_set' (j := 0) hr0 hlt (by decide) (p := j * 4) rfl rfl (u := .int .i64 (k + (sumT cntQuery (xs.take j) : Int)))
      have hr1_1 : ((wr.setCell ⟨g, j * 4, none⟩ (.int .i64 (k + (sumT cntQuery (xs.take j) : Int)))).setCell ⟨g, j * 4 + 1, none⟩ (.int .i64 ((k + (sumT cntQuery (xs.take j) : Int)) + 1))).ownsRow 0 44 4 (.slice (some ⟨g, 0, none⟩) xs.length cap) xs.length (flatC 4 xs.length (updC cs j [.int .i64 (k + (sumT cntQuery (xs.take j) : Int)), .int .i64 ((k + (sumT cntQuery (xs.take j) : Int)) + 1), u_conds, u_out])) := row_set' (j := 1) hr1_0 hlt (by decide) (p := j * 4 + 1) rfl rfl (u := .int .i64 ((k + (sumT cntQuery (xs.take j) : Int)) + 1))
      have hc1 : Chg (fun b => G j b ∨ (Value.slice (some ⟨g, 0, none⟩) xs.length cap).ownBlock = some b) wr ((wr.setCell ⟨g, j * 4, none⟩ (.int .i64 (k + (sumT cntQuery (xs.take j) : Int)))).setCell ⟨g, j * 4 + 1, none⟩ (.int .i64 ((k + (sumT cntQuery (xs.take j) : Int)) + 1))) := (Chg.setCell (p := ⟨g, j * 4 + 1, none⟩) (Chg.setCell (p := ⟨g, j * 4, none⟩) (Chg.refl _ wr) (Or.inr rfl) (.int .i64 (k + (sumT cntQuery (xs.take j) : Int)))) (Or.inr rfl) (.int .i64 ((k + (sumT cntQuery (xs.take j) : Int)) + 1)))
      replace h_conds : PConds F1 ((wr.setCell ⟨g, j * 4, none⟩ (.int .i64 (k + (sumT cntQuery (xs.take j) : Int)))).setCell ⟨g, j * 4 + 1, none⟩ (.int .i64 ((k + (sumT cntQuery (xs.take j) : Int)) + 1))) u_conds xs[j].conds := OSl.frame fr_cond h_conds (by repeat' (first | with_reducible exact Agree.refl _ _ | with_reducible refine Agree.setCell ?_ ?_ _ | exact fun b hb => hgG b ((hF1 b hb).1)))
      replace h_out : PInts F2 ((wr.setCell ⟨g, j * 4, none⟩ (.int .i64 (k + (sumT cntQuery (xs.take j) : Int)))).setCell ⟨g, j * 4 + 1, none⟩ (.int .i64 ((k + (sumT cntQuery (xs.take j) : Int)) + 1))) u_out xs[j].out := OSl.frame fr_int h_out (by repeat' (first | with_reducible exact Agree.refl _ _ | with_reducible refine Agree.setCell ?_ ?_ _ | exact fun b hb => hgG b (hF2 b hb)))
      go_wp2_with fail
      refine (laws_markCondS F1 u_conds xs[j].conds (((k + (sumT cntQuery (xs.take j) : Int)) + 1) + 1) _ h_conds (by omega) (by (try simp only [cntI, cntCond, cntRow, cntSpan, cntVersion, cntQuery, Int.natCast_add, Int.natCast_one, Int.cast_ofNat_Int] at hkb); omega)).mono ?_
      rintro e w1 ⟨rfl, hn_conds, hd1⟩
      have hgs1 : w1.heap[g]? = ((wr.setCell ⟨g, j * 4, none⟩ (.int .i64 (k + (sumT cntQuery (xs.take j) : Int)))).setCell ⟨g, j * 4 + 1, none⟩ (.int .i64 ((k + (sumT cntQuery (xs.take j) : Int)) + 1))).heap[g]? := hd1.block g (row_lt hr1_1 (by omega)) (fun hb => hgG g ((hF1 g hb).1) rfl)
      have hr1 : w1.ownsRow 0 44 4 (.slice (some ⟨g, 0, none⟩) xs.length cap) xs.length (flatC 4 xs.length (updC cs j [.int .i64 (k + (sumT cntQuery (xs.take j) : Int)), .int .i64 ((k + (sumT cntQuery (xs.take j) : Int)) + 1), u_conds, u_out])) := ownsRow_agree hr1_1 fun g' hg' => by cases hg'; exact hgs1
      replace h_conds := hn_conds
      replace h_out := OSl.frame fr_int h_out (hd1.agree (fun b hb hc => (hF1 b hc).2 hb))
      obtain ⟨k1_0, f1_0⟩ := row_cell (j := 0) hr1 hlt (by rw [updC_at]; rfl) (by rw [updC_at]; rfl) (p := j * 4) rfl
      obtain ⟨k1_1, f1_1⟩ := row_cell (j := 1) hr1 hlt (by rw [updC_at]; rfl) (by rw [updC_at]; rfl) (p := j * 4 + 1) rfl
      obtain ⟨k1_2, f1_2⟩ := row_cell (j := 2) hr1 hlt (by rw [updC_at]; rfl) (by rw [updC_at]; rfl) (p := j * 4 + 2) rfl
      obtain ⟨k1_3, f1_3⟩ := row_cell (j := 3) hr1 hlt (by rw [updC_at]; rfl) (by rw [updC_at]; rfl) (p := j * 4 + 3) rfl
      have hc2 : Chg (fun b => G j b ∨ (Value.slice (some ⟨g, 0, none⟩) xs.length cap).ownBlock = some b) wr w1 := (hc1.trans (hd1.mono fun b hb => Or.inl ((hF1 b hb).1)))
      replace h_conds : PConds F1 w1 u_conds (marksTo mkCond cntCond (((k + (sumT cntQuery (xs.take j) : Int)) + 1) + 1) xs[j].conds.length xs[j].conds) := OSl.frame fr_cond h_conds (by repeat' (first | with_reducible exact Agree.refl _ _ | with_reducible refine Agree.setCell ?_ ?_ _ | exact fun b hb => hgG b ((hF1 b hb).1)))
      replace h_out : PInts F2 w1 u_out xs[j].out := OSl.frame fr_int h_out (by repeat' (first | with_reducible exact Agree.refl _ _ | with_reducible refine Agree.setCell ?_ ?_ _ | exact fun b hb => hgG b (hF2 b hb)))
      go_wp2_with fail
      refine (laws_markIntS F2 u_out xs[j].out ((((k + (sumT cntQuery (xs.take j) : Int)) + 1) + 1) + (sumT cntCond xs[j].conds : Int)) _ h_out (by omega) (by (try simp only [cntI, cntCond, cntRow, cntSpan, cntVersion, cntQuery, Int.natCast_add, Int.natCast_one, Int.cast_ofNat_Int] at hkb); omega)).mono ?_
      rintro e w2 ⟨rfl, hn_out, hd2⟩
      have hgs2 : w2.heap[g]? = w1.heap[g]? := hd2.block g (row_lt hr1 (by omega)) (fun hb => hgG g (hF2 g hb) rfl)
      have hr2 : w2.ownsRow 0 44 4 (.slice (some ⟨g, 0, none⟩) xs.length cap) xs.length (flatC 4 xs.length (updC cs j [.int .i64 (k + (sumT cntQuery (xs.take j) : Int)), .int .i64 ((k + (sumT cntQuery (xs.take j) : Int)) + 1), u_conds, u_out])) := ownsRow_agree hr1 fun g' hg' => by cases hg'; exact hgs2
      replace h_conds := OSl.frame fr_cond h_conds (hd2.agree (fun b hb hc => (hF1 b hb).2 hc))
      replace h_out := hn_out
      obtain ⟨k2_0, f2_0⟩ := row_cell (j := 0) hr2 hlt (by rw [updC_at]; rfl) (by rw [updC_at]; rfl) (p := j * 4) rfl
      obtain ⟨k2_1, f2_1⟩ := row_cell (j := 1) hr2 hlt (by rw [updC_at]; rfl) (by rw [updC_at]; rfl) (p := j * 4 + 1) rfl
      obtain ⟨k2_2, f2_2⟩ := row_cell (j := 2) hr2 hlt (by rw [updC_at]; rfl) (by rw [updC_at]; rfl) (p := j * 4 + 2) rfl
      obtain ⟨k2_3, f2_3⟩ := row_cell (j := 3) hr2 hlt (by rw [updC_at]; rfl) (by rw [updC_at]; rfl) (p := j * 4 + 3) rfl
      have hcz : Chg (fun b => G j b ∨ (Value.slice (some ⟨g, 0, none⟩) xs.length cap).ownBlock = some b) wr w2 := (hc2.trans (hd2.mono fun b hb => Or.inl (hF2 b hb)))
      have hy : PQuery (G j) w2 [.int .i64 (k + (sumT cntQuery (xs.take j) : Int)), .int .i64 ((k + (sumT cntQuery (xs.take j) : Int)) + 1), u_conds, u_out] (mkQuery (k + (sumT cntQuery (xs.take j) : Int)) xs[j]) := ⟨_, _, F1, F2, rfl, (by unfold I64; (try simp only [cntI, cntCond, cntRow, cntSpan, cntVersion, cntQuery, Int.natCast_add, Int.natCast_one, Int.cast_ofNat_Int] at hkb); (try simp only [mkI, mkCond, mkRow, mkSpan, mkVersion, mkQuery]); omega), (by unfold I64; (try simp only [cntI, cntCond, cntRow, cntSpan, cntVersion, cntQuery, Int.natCast_add, Int.natCast_one, Int.cast_ofNat_Int] at hkb); (try simp only [mkI, mkCond, mkRow, mkSpan, mkVersion, mkQuery]); omega), h_conds, h_out, hF1, hF2⟩
      have hup : PQueries F w2 (.slice (some ⟨g, 0, none⟩) xs.length cap) (marksTo mkQuery cntQuery k (j + 1) xs) := by
        rw [marksTo_succ hlt]
        exact hparts.upd fr_query hjl (by rw [marksTo_len]; exact hr2) rfl hy hcz
      have hch' := hch.trans (hparts.chgF hjl hcz)
      have HUP := Lib.hid hup
      have HCH := Lib.hid hch'
      have HS := Lib.hid hsum
      clear hup hch' hy hcz hparts hp hsum hle hrow
      have hkb' := hkb
      (try simp only [cntI, cntCond, cntRow, cntSpan, cntVersion, cntQuery, Int.natCast_add, Int.natCast_one, Int.cast_ofNat_Int] at hkb')
      go_wp2_with fail
      go_roundw
      case rel => exact ⟨j + 1, by omega, by go_num, by rw [HS.out]; (try simp only [cntI, cntCond, cntRow, cntSpan, cntVersion, cntQuery, Int.natCast_add, Int.natCast_one, Int.cast_ofNat_Int]); go_num, HUP.out, HCH.out⟩
      case measure => simp [intOf]; omega
    · obtain rfl : j = xs.length := by omega
      go_wp2
      go_ret
      exact ⟨ret_int (by rw [List.take_length]), hp, hch⟩
set_option maxRecDepth 100000 in
set_option maxHeartbeats 4000000 in
theorem laws_heldQueryS (v : Value) (xs : List DQuery) (k : Int) (w : World) (hx : RQueries w v (marksTo mkQuery cntQuery k xs.length xs)) (h0 : 0 ≤ k) (hb : k + sumT cntQuery xs ≤ 4611686018427387904) :
    Calls Try.prog 115 #[v, .int .i64 k] w fun e w' => e = .returned (.int .i64 (k + sumT cntQuery xs)) ∧ Gr w w' := by
  obtain ⟨a, cap, rfl, hl, hm, hx⟩ := hx
  simp only [marksTo_len] at hl hx ⊢
  go_enter Try.func115, Try.ntmps115
  go_wp2
  go_loopw [1, 5] (fun kk i wr => ∃ j : Nat, j ≤ xs.length ∧ i = .int .i64 j ∧ kk = .int .i64 (k + sumT cntQuery (xs.take j)) ∧ Gr w wr) (fun _ i _ => xs.length - (intOf i).toNat)
  case atStart => exact ⟨0, Nat.zero_le _, rfl, by simp [sumT], Gr.refl _⟩
  case round =>
    obtain ⟨j, hj, rfl, rfl, hgr⟩ := hrel
    by_cases hlt : j < xs.length
    · obtain ⟨b, off, cs, rfl, hlen, hE, hc⟩ := hx j hlt
      rw [marksTo_lt hlt hlt] at hE
      obtain ⟨u_conds, u_out, rfl, i_id, i_tenant, h_conds, h_out⟩ := hE
      have c0 := hgr.cellv (hc 0 (by simp))
      have c1 := hgr.cellv (hc 1 (by simp))
      have c2 := hgr.cellv (hc 2 (by simp))
      have c3 := hgr.cellv (hc 3 (by simp))
      simp only [Nat.add_zero, List.getElem_cons_zero, List.getElem_cons_succ] at c0 c1 c2 c3
      clear hc hlen
      have hsum := sumT_take cntQuery xs j hlt
      have hle := sumT_le cntQuery xs (j + 1)
      have hnn : 0 ≤ k + (sumT cntQuery (xs.take j) : Int) := by omega
      have hkb : k + (sumT cntQuery (xs.take j) : Int) + (cntQuery xs[j] : Int) ≤ 4611686018427387904 := by omega
      have hkb' := hkb
      (try simp only [cntI, cntCond, cntRow, cntSpan, cntVersion, cntQuery, Int.natCast_add, Int.natCast_one, Int.cast_ofNat_Int] at hkb')
      have HS := Lib.hid hsum
      clear hsum hle
      have e0 : ((k + (sumT cntQuery (xs.take j) : Int)) != (k + (sumT cntQuery (xs.take j) : Int))) = false := by simp
      have e1 : (((k + (sumT cntQuery (xs.take j) : Int)) + 1) != ((k + (sumT cntQuery (xs.take j) : Int)) + 1)) = false := by simp
      have hh1 := (RSlice.mono keeps_cond hgr h_conds)
      go_wp2_with fail
      refine (laws_heldCondS u_conds xs[j].conds (((k + (sumT cntQuery (xs.take j) : Int)) + 1) + 1) _ hh1 (by omega) (by omega)).mono ?_
      rintro e w1 ⟨rfl, g1⟩
      have gw1 := hgr.trans g1
      have hn1 : 0 ≤ ((((k + (sumT cntQuery (xs.take j) : Int)) + 1) + 1) + (sumT cntCond xs[j].conds : Int)) := by omega
      replace c0 := g1.cellv c0
      replace c1 := g1.cellv c1
      replace c2 := g1.cellv c2
      replace c3 := g1.cellv c3
      have hh2 := (RSlice.mono keeps_int gw1 h_out)
      go_wp2_with fail
      refine (laws_heldIntS u_out xs[j].out ((((k + (sumT cntQuery (xs.take j) : Int)) + 1) + 1) + (sumT cntCond xs[j].conds : Int)) _ hh2 (by omega) (by omega)).mono ?_
      rintro e w2 ⟨rfl, g2⟩
      have gw2 := gw1.trans g2
      have hn2 : 0 ≤ (((((k + (sumT cntQuery (xs.take j) : Int)) + 1) + 1) + (sumT cntCond xs[j].conds : Int)) + (sumT cntI xs[j].out : Int)) := by omega
      replace c0 := g2.cellv c0
      replace c1 := g2.cellv c1
      replace c2 := g2.cellv c2
      replace c3 := g2.cellv c3
      go_wp2_with fail
      go_roundw
      case rel => exact ⟨j + 1, by omega, by go_num, by rw [HS.out]; (try simp only [cntI, cntCond, cntRow, cntSpan, cntVersion, cntQuery, Int.natCast_add, Int.natCast_one, Int.cast_ofNat_Int]); go_num, gw2⟩
      case measure => simp [intOf]; omega
    · obtain rfl : j = xs.length := by omega
      go_wp2
      go_ret
      exact ⟨ret_int (by rw [List.take_length]), hgr⟩
set_option maxRecDepth 100000 in
set_option maxHeartbeats 4000000 in
theorem laws_markQuery (F1 F2 : Nat → Prop) (x : DQuery) (u_conds : Value) (u_out : Value) (k : Int) (w : World) (h_conds : PConds F1 w u_conds x.conds) (hF_conds : ∀ b, F1 b → b < w.heap.size) (h_out : PInts F2 w u_out x.out) (hF_out : ∀ b, F2 b → b < w.heap.size) (hd : ∀ b, F1 b → ¬ F2 b) (h0 : 0 ≤ k) (hb : k + ((sumT cntCond x.conds : Int) + (sumT cntI x.out : Int)) ≤ 4611686018427387904) :
    Calls Try.prog 29 #[.agg #[.int .i64 x.id, .int .i64 x.tenant, u_conds, u_out], .int .i64 k] w fun e w' => e = .returned (.int .i64 (k + (sumT cntCond x.conds : Int) + (sumT cntI x.out : Int))) ∧ PConds F1 w' u_conds (marksTo mkCond cntCond k x.conds.length x.conds) ∧ PInts F2 w' u_out (marksTo mkI cntI (k + (sumT cntCond x.conds : Int)) x.out.length x.out) ∧ Chg (fun b => F1 b ∨ F2 b) w w' := by
  obtain ⟨id, tenant, conds, out⟩ := x
  dsimp only at *
  obtain ⟨a_conds, c_conds, rfl⟩ := h_conds.form
  obtain ⟨a_out, c_out, rfl⟩ := h_out.form
  have gc : Chg (fun b => F1 b ∨ F2 b) w (w.alloc (.cells #[.int .i64 id, .int .i64 tenant, .slice a_conds conds.length c_conds, .slice a_out out.length c_out] 44)) := (Chg.refl _ w).alloc _
  have p_conds := OSl.gr fr_cond h_conds ((Gr.refl w).alloc (.cells #[.int .i64 id, .int .i64 tenant, .slice a_conds conds.length c_conds, .slice a_out out.length c_out] 44))
  have p_out := OSl.gr fr_int h_out ((Gr.refl w).alloc (.cells #[.int .i64 id, .int .i64 tenant, .slice a_conds conds.length c_conds, .slice a_out out.length c_out] 44))
  go_enter Try.func29, Try.ntmps29
  go_wp2_with fail
  refine (laws_markCondS F1 _ conds k _ p_conds (by omega) (by omega)).mono ?_
  rintro e w1 ⟨rfl, q_conds, d1⟩
  replace gc := gc.trans (d1.mono fun b hb => Or.inl hb)
  replace p_conds := q_conds
  replace p_out := OSl.frame fr_int p_out (d1.agree fun b hb hc => hd b hc hb)
  have hblk1 : w1.heap[w.heap.size]? = (w.alloc (.cells #[.int .i64 id, .int .i64 tenant, .slice a_conds conds.length c_conds, .slice a_out out.length c_out] 44)).heap[w.heap.size]? := d1.block _ (by simp) (fun hb => by have := hF_conds _ hb; omega)
  have c1_0 : w1.cell? ⟨w.heap.size, 0, none⟩ = some (.int .i64 id) := by rw [World.cell?_of_block (w := (w.alloc (.cells #[.int .i64 id, .int .i64 tenant, .slice a_conds conds.length c_conds, .slice a_out out.length c_out] 44))) hblk1]; simp [go_sem]
  have c1_1 : w1.cell? ⟨w.heap.size, 1, none⟩ = some (.int .i64 tenant) := by rw [World.cell?_of_block (w := (w.alloc (.cells #[.int .i64 id, .int .i64 tenant, .slice a_conds conds.length c_conds, .slice a_out out.length c_out] 44))) hblk1]; simp [go_sem]
  have c1_2 : w1.cell? ⟨w.heap.size, 2, none⟩ = some (.slice a_conds conds.length c_conds) := by rw [World.cell?_of_block (w := (w.alloc (.cells #[.int .i64 id, .int .i64 tenant, .slice a_conds conds.length c_conds, .slice a_out out.length c_out] 44))) hblk1]; simp [go_sem]
  have c1_3 : w1.cell? ⟨w.heap.size, 3, none⟩ = some (.slice a_out out.length c_out) := by rw [World.cell?_of_block (w := (w.alloc (.cells #[.int .i64 id, .int .i64 tenant, .slice a_conds conds.length c_conds, .slice a_out out.length c_out] 44))) hblk1]; simp [go_sem]
  go_wp2_with fail
  refine (laws_markIntS F2 _ out (k + (sumT cntCond conds : Int)) _ p_out (by omega) (by omega)).mono ?_
  rintro e w2 ⟨rfl, q_out, d2⟩
  replace gc := gc.trans (d2.mono fun b hb => Or.inr hb)
  replace p_conds := OSl.frame fr_cond p_conds (d2.agree fun b hb hc => hd b hb hc)
  replace p_out := q_out
  have hblk2 : w2.heap[w.heap.size]? = w1.heap[w.heap.size]? := d2.block _ (by exact Nat.lt_of_lt_of_le (show w.heap.size < (w.alloc (.cells #[.int .i64 id, .int .i64 tenant, .slice a_conds conds.length c_conds, .slice a_out out.length c_out] 44)).heap.size from by simp) d1.size) (fun hb => by have := hF_out _ hb; omega)
  have c2_0 : w2.cell? ⟨w.heap.size, 0, none⟩ = some (.int .i64 id) := by rw [World.cell?_of_block (w := w1) hblk2]; exact c1_0
  have c2_1 : w2.cell? ⟨w.heap.size, 1, none⟩ = some (.int .i64 tenant) := by rw [World.cell?_of_block (w := w1) hblk2]; exact c1_1
  have c2_2 : w2.cell? ⟨w.heap.size, 2, none⟩ = some (.slice a_conds conds.length c_conds) := by rw [World.cell?_of_block (w := w1) hblk2]; exact c1_2
  have c2_3 : w2.cell? ⟨w.heap.size, 3, none⟩ = some (.slice a_out out.length c_out) := by rw [World.cell?_of_block (w := w1) hblk2]; exact c1_3
  go_wp2_with fail
  go_ret
  exact ⟨ret_int (by omega), p_conds, p_out, gc⟩
end Go.Proofs.Ytnnapjaggahjgaa
