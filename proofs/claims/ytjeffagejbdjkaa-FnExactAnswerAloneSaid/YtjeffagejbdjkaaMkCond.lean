/- The law's own helpers: marks, and what holds them. Written by gen_mark.py. -/
import Derived.Test.YtjeffagejbdjkaaMkInt
import Derived.Test.YtjeffagejbdjkaaGenCond
namespace Go.Proofs.Ytjeffagejbdjkaa
open Go.RowKit
set_option linter.unusedSimpArgs false
set_option maxRecDepth 100000 in
set_option maxHeartbeats 4000000 in
theorem laws_markCondS (F : Nat → Prop) (v : Value) (xs : List DCond) (k : Int) (w : World) (hx : PConds F w v xs) (h0 : 0 ≤ k) (hb : k + sumT cntCond xs ≤ 4611686018427387904) :
    Calls Try.prog 37 #[v, .int .i64 k] w fun e w' => e = .returned (.int .i64 (k + sumT cntCond xs)) ∧ PConds F w' v (marksTo mkCond cntCond k xs.length xs) ∧ Chg F w w' := by
  obtain ⟨a, cap, rfl⟩ := hx.form
  have hlen : (xs.length : Int) ≤ 9223372036854775807 := by
    obtain ⟨_, _, hve, h1, h2, _⟩ := rd_pconds hx
    simp only [Value.slice.injEq] at hve
    omega
  go_enter Try.func37, Try.ntmps37
  go_wp2
  go_loopw [1, 5] (fun kk i wr => ∃ j : Nat, j ≤ xs.length ∧ i = .int .i64 j ∧ kk = .int .i64 (k + sumT cntCond (xs.take j)) ∧ PConds F wr (.slice a xs.length cap) (marksTo mkCond cntCond k j xs) ∧ Chg F w wr) (fun _ i _ => xs.length - (intOf i).toNat)
  case atStart => exact ⟨0, Nat.zero_le _, rfl, by simp [sumT], by rw [marksTo_zero]; exact hx, Chg.refl _ _⟩
  case round =>
    obtain ⟨j, hj, rfl, rfl, hp, hch⟩ := hrel
    by_cases hlt : j < xs.length
    · obtain ⟨cs, G, hrow, hparts⟩ := hp.parts
      rw [marksTo_len] at hrow
      have hjl : j < (marksTo mkCond cntCond k j xs).length := by rw [marksTo_len]; exact hlt
      obtain ⟨g, rfl⟩ := row_ptr hrow (by omega)
      obtain ⟨hcl, hEl, hG, _⟩ := hparts.2 j hjl
      rw [marksTo_ge hlt (Nat.le_refl _) hjl] at hEl
      obtain ⟨hcs, i_field, i_low, i_high⟩ := hEl
      have hr0 : wr.ownsRow 0 66 3 (.slice (some ⟨g, 0, none⟩) xs.length cap) xs.length (flatC 3 xs.length (updC cs j [.int .i64 xs[j].field, .int .i64 xs[j].low, .int .i64 xs[j].high])) := by rw [← hcs, updC_same]; exact hrow
      have hgG : ∀ b, G j b → b ≠ g := fun b hb e => (hG b hb).2 (by subst e; rfl)
      have hsum := sumT_take cntCond xs j hlt
      have hle := sumT_le cntCond xs (j + 1)
      have hnn : 0 ≤ k + (sumT cntCond (xs.take j) : Int) := by omega
      have hkb : k + (sumT cntCond (xs.take j) : Int) + (cntCond xs[j] : Int) ≤ 4611686018427387904 := by omega
      obtain ⟨k0_0, f0_0⟩ := row_cell (j := 0) hr0 hlt (by rw [updC_at]; rfl) (by rw [updC_at]; rfl) (p := j * 3) rfl
      obtain ⟨k0_1, f0_1⟩ := row_cell (j := 1) hr0 hlt (by rw [updC_at]; rfl) (by rw [updC_at]; rfl) (p := j * 3 + 1) rfl
      obtain ⟨k0_2, f0_2⟩ := row_cell (j := 2) hr0 hlt (by rw [updC_at]; rfl) (by rw [updC_at]; rfl) (p := j * 3 + 2) rfl
      have hrz_0 : (wr.setCell ⟨g, j * 3, none⟩ (.int .i64 (k + (sumT cntCond (xs.take j) : Int)))).ownsRow 0 66 3 (.slice (some ⟨g, 0, none⟩) xs.length cap) xs.length (flatC 3 xs.length (updC cs j [.int .i64 (k + (sumT cntCond (xs.take j) : Int)), .int .i64 xs[j].low, .int .i64 xs[j].high])) := row_set' (j := 0) hr0 hlt (by decide) (p := j * 3) rfl rfl (u := .int .i64 (k + (sumT cntCond (xs.take j) : Int)))
      have hrz_1 : ((wr.setCell ⟨g, j * 3, none⟩ (.int .i64 (k + (sumT cntCond (xs.take j) : Int)))).setCell ⟨g, j * 3 + 1, none⟩ (.int .i64 ((k + (sumT cntCond (xs.take j) : Int)) + 1))).ownsRow 0 66 3 (.slice (some ⟨g, 0, none⟩) xs.length cap) xs.length (flatC 3 xs.length (updC cs j [.int .i64 (k + (sumT cntCond (xs.take j) : Int)), .int .i64 ((k + (sumT cntCond (xs.take j) : Int)) + 1), .int .i64 xs[j].high])) := row_set' (j := 1) hrz_0 hlt (by decide) (p := j * 3 + 1) rfl rfl (u := .int .i64 ((k + (sumT cntCond (xs.take j) : Int)) + 1))
      have hrz_2 : (((wr.setCell ⟨g, j * 3, none⟩ (.int .i64 (k + (sumT cntCond (xs.take j) : Int)))).setCell ⟨g, j * 3 + 1, none⟩ (.int .i64 ((k + (sumT cntCond (xs.take j) : Int)) + 1))).setCell ⟨g, j * 3 + 2, none⟩ (.int .i64 (((k + (sumT cntCond (xs.take j) : Int)) + 1) + 1))).ownsRow 0 66 3 (.slice (some ⟨g, 0, none⟩) xs.length cap) xs.length (flatC 3 xs.length (updC cs j [.int .i64 (k + (sumT cntCond (xs.take j) : Int)), .int .i64 ((k + (sumT cntCond (xs.take j) : Int)) + 1), .int .i64 (((k + (sumT cntCond (xs.take j) : Int)) + 1) + 1)])) := row_set' (j := 2) hrz_1 hlt (by decide) (p := j * 3 + 2) rfl rfl (u := .int .i64 (((k + (sumT cntCond (xs.take j) : Int)) + 1) + 1))
      have hcz : Chg (fun b => G j b ∨ (Value.slice (some ⟨g, 0, none⟩) xs.length cap).ownBlock = some b) wr (((wr.setCell ⟨g, j * 3, none⟩ (.int .i64 (k + (sumT cntCond (xs.take j) : Int)))).setCell ⟨g, j * 3 + 1, none⟩ (.int .i64 ((k + (sumT cntCond (xs.take j) : Int)) + 1))).setCell ⟨g, j * 3 + 2, none⟩ (.int .i64 (((k + (sumT cntCond (xs.take j) : Int)) + 1) + 1))) := (Chg.setCell (p := ⟨g, j * 3 + 2, none⟩) (Chg.setCell (p := ⟨g, j * 3 + 1, none⟩) (Chg.setCell (p := ⟨g, j * 3, none⟩) (Chg.refl _ wr) (Or.inr rfl) (.int .i64 (k + (sumT cntCond (xs.take j) : Int)))) (Or.inr rfl) (.int .i64 ((k + (sumT cntCond (xs.take j) : Int)) + 1))) (Or.inr rfl) (.int .i64 (((k + (sumT cntCond (xs.take j) : Int)) + 1) + 1)))
      have hy : PCond (G j) (((wr.setCell ⟨g, j * 3, none⟩ (.int .i64 (k + (sumT cntCond (xs.take j) : Int)))).setCell ⟨g, j * 3 + 1, none⟩ (.int .i64 ((k + (sumT cntCond (xs.take j) : Int)) + 1))).setCell ⟨g, j * 3 + 2, none⟩ (.int .i64 (((k + (sumT cntCond (xs.take j) : Int)) + 1) + 1))) [.int .i64 (k + (sumT cntCond (xs.take j) : Int)), .int .i64 ((k + (sumT cntCond (xs.take j) : Int)) + 1), .int .i64 (((k + (sumT cntCond (xs.take j) : Int)) + 1) + 1)] (mkCond (k + (sumT cntCond (xs.take j) : Int)) xs[j]) := ⟨rfl, (by unfold I64; (try simp only [cntI, cntCond, cntRow, cntSpan, cntVersion, cntQuery, Int.natCast_add, Int.natCast_one, Int.cast_ofNat_Int] at hkb); (try simp only [mkI, mkCond, mkRow, mkSpan, mkVersion, mkQuery]); omega), (by unfold I64; (try simp only [cntI, cntCond, cntRow, cntSpan, cntVersion, cntQuery, Int.natCast_add, Int.natCast_one, Int.cast_ofNat_Int] at hkb); (try simp only [mkI, mkCond, mkRow, mkSpan, mkVersion, mkQuery]); omega), (by unfold I64; (try simp only [cntI, cntCond, cntRow, cntSpan, cntVersion, cntQuery, Int.natCast_add, Int.natCast_one, Int.cast_ofNat_Int] at hkb); (try simp only [mkI, mkCond, mkRow, mkSpan, mkVersion, mkQuery]); omega)⟩
      have hup : PConds F (((wr.setCell ⟨g, j * 3, none⟩ (.int .i64 (k + (sumT cntCond (xs.take j) : Int)))).setCell ⟨g, j * 3 + 1, none⟩ (.int .i64 ((k + (sumT cntCond (xs.take j) : Int)) + 1))).setCell ⟨g, j * 3 + 2, none⟩ (.int .i64 (((k + (sumT cntCond (xs.take j) : Int)) + 1) + 1))) (.slice (some ⟨g, 0, none⟩) xs.length cap) (marksTo mkCond cntCond k (j + 1) xs) := by
        rw [marksTo_succ hlt]
        exact hparts.upd fr_cond hjl (by rw [marksTo_len]; exact hrz_2) rfl hy hcz
      have hch' := hch.trans (hparts.chgF hjl hcz)
      have HUP := Lib.hid hup
      have HCH := Lib.hid hch'
      have HS := Lib.hid hsum
      clear hup hch' hy hcz hparts hp hsum hle hrow
      have hkb' := hkb
      (try simp only [cntI, cntCond, cntRow, cntSpan, cntVersion, cntQuery, Int.natCast_add, Int.natCast_one, Int.cast_ofNat_Int] at hkb')
      go_wp2_with fail
      go_roundw
      case rel => exact ⟨j + 1, by omega, by go_num, by rw [HS.out]; (try simp only [cntI, cntCond, cntRow, cntSpan, cntVersion, cntQuery, Int.natCast_add, Int.natCast_one, Int.cast_ofNat_Int]); go_num, HUP.out, HCH.out⟩
      case measure => simp [intOf]; omega
    · obtain rfl : j = xs.length := by omega
      go_wp2
      go_ret
      exact ⟨ret_int (by rw [List.take_length]), hp, hch⟩
end Go.Proofs.Ytjeffagejbdjkaa
