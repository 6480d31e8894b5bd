/- The law's own helpers: marks, and what holds them. Written by gen_mark.py. -/
import Derived.Test.YtjeffagejbdjkaaMkInt
import Derived.Test.YtjeffagejbdjkaaGenRow
namespace Go.Proofs.Ytjeffagejbdjkaa
open Go.RowKit
set_option linter.unusedSimpArgs false
set_option maxRecDepth 100000 in
set_option maxHeartbeats 4000000 in
theorem laws_markRowS (F : Nat → Prop) (v : Value) (xs : List DRow) (k : Int) (w : World) (hx : PRows F w v xs) (h0 : 0 ≤ k) (hb : k + sumT cntRow xs ≤ 4611686018427387904) :
    Calls Try.prog 10 #[v, .int .i64 k] w fun e w' => e = .returned (.int .i64 (k + sumT cntRow xs)) ∧ PRows F w' v (marksTo mkRow cntRow k xs.length xs) ∧ Chg F w w' := by
  obtain ⟨a, cap, rfl⟩ := hx.form
  have hlen : (xs.length : Int) ≤ 9223372036854775807 := by
    obtain ⟨_, _, hve, h1, h2, _⟩ := rd_prows hx
    simp only [Value.slice.injEq] at hve
    omega
  go_enter Try.func10, Try.ntmps10
  go_wp2
  go_loopw [1, 5] (fun kk i wr => ∃ j : Nat, j ≤ xs.length ∧ i = .int .i64 j ∧ kk = .int .i64 (k + sumT cntRow (xs.take j)) ∧ PRows F wr (.slice a xs.length cap) (marksTo mkRow cntRow k j xs) ∧ Chg F w wr) (fun _ i _ => xs.length - (intOf i).toNat)
  case atStart => exact ⟨0, Nat.zero_le _, rfl, by simp [sumT], by rw [marksTo_zero]; exact hx, Chg.refl _ _⟩
  case round =>
    obtain ⟨j, hj, rfl, rfl, hp, hch⟩ := hrel
    by_cases hlt : j < xs.length
    · obtain ⟨cs, G, hrow, hparts⟩ := hp.parts
      rw [marksTo_len] at hrow
      have hjl : j < (marksTo mkRow cntRow k j xs).length := by rw [marksTo_len]; exact hlt
      obtain ⟨g, rfl⟩ := row_ptr hrow (by omega)
      obtain ⟨hcl, hEl, hG, _⟩ := hparts.2 j hjl
      rw [marksTo_ge hlt (Nat.le_refl _) hjl] at hEl
      obtain ⟨u_vals, hcs, i_id, h_vals⟩ := hEl
      have hr0 : wr.ownsRow 0 47 2 (.slice (some ⟨g, 0, none⟩) xs.length cap) xs.length (flatC 2 xs.length (updC cs j [.int .i64 xs[j].id, u_vals])) := by rw [← hcs, updC_same]; exact hrow
      have hgG : ∀ b, G j b → b ≠ g := fun b hb e => (hG b hb).2 (by subst e; rfl)
      have hsum := sumT_take cntRow xs j hlt
      have hle := sumT_le cntRow xs (j + 1)
      have hnn : 0 ≤ k + (sumT cntRow (xs.take j) : Int) := by omega
      have hkb : k + (sumT cntRow (xs.take j) : Int) + (cntRow xs[j] : Int) ≤ 4611686018427387904 := by omega
      obtain ⟨k0_0, f0_0⟩ := row_cell (j := 0) hr0 hlt (by rw [updC_at]; rfl) (by rw [updC_at]; rfl) (p := j * 2) rfl
      obtain ⟨k0_1, f0_1⟩ := row_cell (j := 1) hr0 hlt (by rw [updC_at]; rfl) (by rw [updC_at]; rfl) (p := j * 2 + 1) rfl
      have hr1_0 : (wr.setCell ⟨g, j * 2, none⟩ (.int .i64 (k + (sumT cntRow (xs.take j) : Int)))).ownsRow 0 47 2 (.slice (some ⟨g, 0, none⟩) xs.length cap) xs.length (flatC 2 xs.length (updC cs j [.int .i64 (k + (sumT cntRow (xs.take j) : Int)), u_vals])) := row_set' (j := 0) hr0 hlt (by decide) (p := j * 2) rfl rfl (u := .int .i64 (k + (sumT cntRow (xs.take j) : Int)))
      have hc1 : Chg (fun b => G j b ∨ (Value.slice (some ⟨g, 0, none⟩) xs.length cap).ownBlock = some b) wr (wr.setCell ⟨g, j * 2, none⟩ (.int .i64 (k + (sumT cntRow (xs.take j) : Int)))) := (Chg.setCell (p := ⟨g, j * 2, none⟩) (Chg.refl _ wr) (Or.inr rfl) (.int .i64 (k + (sumT cntRow (xs.take j) : Int))))
      replace h_vals : PInts (G j) (wr.setCell ⟨g, j * 2, none⟩ (.int .i64 (k + (sumT cntRow (xs.take j) : Int)))) u_vals xs[j].vals := OSl.frame fr_int h_vals (by repeat' (first | with_reducible exact Agree.refl _ _ | with_reducible refine Agree.setCell ?_ ?_ _ | exact fun b hb => hgG b (hb)))
      go_wp2_with fail
      refine (laws_markIntS (G j) u_vals xs[j].vals ((k + (sumT cntRow (xs.take j) : Int)) + 1) _ h_vals (by omega) (by (try simp only [cntI, cntCond, cntRow, cntSpan, cntVersion, cntQuery, Int.natCast_add, Int.natCast_one, Int.cast_ofNat_Int] at hkb); omega)).mono ?_
      rintro e w1 ⟨rfl, hn_vals, hd1⟩
      have hgs1 : w1.heap[g]? = (wr.setCell ⟨g, j * 2, none⟩ (.int .i64 (k + (sumT cntRow (xs.take j) : Int)))).heap[g]? := hd1.block g (row_lt hr1_0 (by omega)) (fun hb => hgG g (hb) rfl)
      have hr1 : w1.ownsRow 0 47 2 (.slice (some ⟨g, 0, none⟩) xs.length cap) xs.length (flatC 2 xs.length (updC cs j [.int .i64 (k + (sumT cntRow (xs.take j) : Int)), u_vals])) := ownsRow_agree hr1_0 fun g' hg' => by cases hg'; exact hgs1
      replace h_vals := hn_vals
      obtain ⟨k1_0, f1_0⟩ := row_cell (j := 0) hr1 hlt (by rw [updC_at]; rfl) (by rw [updC_at]; rfl) (p := j * 2) rfl
      obtain ⟨k1_1, f1_1⟩ := row_cell (j := 1) hr1 hlt (by rw [updC_at]; rfl) (by rw [updC_at]; rfl) (p := j * 2 + 1) rfl
      have hcz : Chg (fun b => G j b ∨ (Value.slice (some ⟨g, 0, none⟩) xs.length cap).ownBlock = some b) wr w1 := (hc1.trans (hd1.mono fun b hb => Or.inl (hb)))
      have hy : PRow (G j) w1 [.int .i64 (k + (sumT cntRow (xs.take j) : Int)), u_vals] (mkRow (k + (sumT cntRow (xs.take j) : Int)) xs[j]) := ⟨_, rfl, (by unfold I64; (try simp only [cntI, cntCond, cntRow, cntSpan, cntVersion, cntQuery, Int.natCast_add, Int.natCast_one, Int.cast_ofNat_Int] at hkb); (try simp only [mkI, mkCond, mkRow, mkSpan, mkVersion, mkQuery]); omega), h_vals⟩
      have hup : PRows F w1 (.slice (some ⟨g, 0, none⟩) xs.length cap) (marksTo mkRow cntRow k (j + 1) xs) := by
        rw [marksTo_succ hlt]
        exact hparts.upd fr_row hjl (by rw [marksTo_len]; exact hr1) rfl hy hcz
      have hch' := hch.trans (hparts.chgF hjl hcz)
      have HUP := Lib.hid hup
      have HCH := Lib.hid hch'
      have HS := Lib.hid hsum
      clear hup hch' hy hcz hparts hp hsum hle hrow
      have hkb' := hkb
      (try simp only [cntI, cntCond, cntRow, cntSpan, cntVersion, cntQuery, Int.natCast_add, Int.natCast_one, Int.cast_ofNat_Int] at hkb')
      go_wp2_with fail
      go_roundw
      case rel => exact ⟨j + 1, by omega, by go_num, by rw [HS.out]; (try simp only [cntI, cntCond, cntRow, cntSpan, cntVersion, cntQuery, Int.natCast_add, Int.natCast_one, Int.cast_ofNat_Int]); go_num, HUP.out, HCH.out⟩
      case measure => simp [intOf]; omega
    · obtain rfl : j = xs.length := by omega
      go_wp2
      go_ret
      exact ⟨ret_int (by rw [List.take_length]), hp, hch⟩
set_option maxRecDepth 100000 in
set_option maxHeartbeats 4000000 in
theorem laws_heldRowS (v : Value) (xs : List DRow) (k : Int) (w : World) (hx : RRows w v (marksTo mkRow cntRow k xs.length xs)) (h0 : 0 ≤ k) (hb : k + sumT cntRow xs ≤ 4611686018427387904) :
    Calls Try.prog 11 #[v, .int .i64 k] w fun e w' => e = .returned (.int .i64 (k + sumT cntRow xs)) ∧ Gr w w' := by
  obtain ⟨a, cap, rfl, hl, hm, hx⟩ := hx
  simp only [marksTo_len] at hl hx ⊢
  go_enter Try.func11, Try.ntmps11
  go_wp2
  go_loopw [1, 5] (fun kk i wr => ∃ j : Nat, j ≤ xs.length ∧ i = .int .i64 j ∧ kk = .int .i64 (k + sumT cntRow (xs.take j)) ∧ Gr w wr) (fun _ i _ => xs.length - (intOf i).toNat)
  case atStart => exact ⟨0, Nat.zero_le _, rfl, by simp [sumT], Gr.refl _⟩
  case round =>
    obtain ⟨j, hj, rfl, rfl, hgr⟩ := hrel
    by_cases hlt : j < xs.length
    · obtain ⟨b, off, cs, rfl, hlen, hE, hc⟩ := hx j hlt
      rw [marksTo_lt hlt hlt] at hE
      obtain ⟨u_vals, rfl, i_id, h_vals⟩ := hE
      have c0 := hgr.cellv (hc 0 (by simp))
      have c1 := hgr.cellv (hc 1 (by simp))
      simp only [Nat.add_zero, List.getElem_cons_zero, List.getElem_cons_succ] at c0 c1
      clear hc hlen
      have hsum := sumT_take cntRow xs j hlt
      have hle := sumT_le cntRow xs (j + 1)
      have hnn : 0 ≤ k + (sumT cntRow (xs.take j) : Int) := by omega
      have hkb : k + (sumT cntRow (xs.take j) : Int) + (cntRow xs[j] : Int) ≤ 4611686018427387904 := by omega
      have hkb' := hkb
      (try simp only [cntI, cntCond, cntRow, cntSpan, cntVersion, cntQuery, Int.natCast_add, Int.natCast_one, Int.cast_ofNat_Int] at hkb')
      have HS := Lib.hid hsum
      clear hsum hle
      have e0 : ((k + (sumT cntRow (xs.take j) : Int)) != (k + (sumT cntRow (xs.take j) : Int))) = false := by simp
      have hh1 := (RSlice.mono keeps_int hgr h_vals)
      go_wp2_with fail
      refine (laws_heldIntS u_vals xs[j].vals ((k + (sumT cntRow (xs.take j) : Int)) + 1) _ hh1 (by omega) (by omega)).mono ?_
      rintro e w1 ⟨rfl, g1⟩
      have gw1 := hgr.trans g1
      have hn1 : 0 ≤ (((k + (sumT cntRow (xs.take j) : Int)) + 1) + (sumT cntI xs[j].vals : Int)) := by omega
      replace c0 := g1.cellv c0
      replace c1 := g1.cellv c1
      go_wp2_with fail
      go_roundw
      case rel => exact ⟨j + 1, by omega, by go_num, by rw [HS.out]; (try simp only [cntI, cntCond, cntRow, cntSpan, cntVersion, cntQuery, Int.natCast_add, Int.natCast_one, Int.cast_ofNat_Int]); go_num, gw1⟩
      case measure => simp [intOf]; omega
    · obtain rfl : j = xs.length := by omega
      go_wp2
      go_ret
      exact ⟨ret_int (by rw [List.take_length]), hgr⟩
end Go.Proofs.Ytjeffagejbdjkaa
