/- The law's own helpers: marks, and what holds them. Written by gen_mark.py. -/
import Derived.Test.YtjeffagejbdjkaaGenInt
namespace Go.Proofs.Ytjeffagejbdjkaa
open Go.RowKit
set_option linter.unusedSimpArgs false
set_option maxRecDepth 100000 in
set_option maxHeartbeats 4000000 in
theorem laws_markIntS (F : Nat → Prop) (v : Value) (xs : List Int) (k : Int) (w : World) (hx : PInts F w v xs) (h0 : 0 ≤ k) (hb : k + sumT cntI xs ≤ 4611686018427387904) :
    Calls Try.prog 27 #[v, .int .i64 k] w fun e w' => e = .returned (.int .i64 (k + sumT cntI xs)) ∧ PInts F w' v (marksTo mkI cntI k xs.length xs) ∧ Chg F w w' := by
  obtain ⟨a, cap, rfl⟩ := hx.form
  have hlen : (xs.length : Int) ≤ 9223372036854775807 := by
    obtain ⟨_, _, hve, h1, h2, _⟩ := rd_pints hx
    simp only [Value.slice.injEq] at hve
    omega
  go_enter Try.func27, Try.ntmps27
  go_wp2
  go_loopw [1, 5] (fun kk i wr => ∃ j : Nat, j ≤ xs.length ∧ i = .int .i64 j ∧ kk = .int .i64 (k + sumT cntI (xs.take j)) ∧ PInts F wr (.slice a xs.length cap) (marksTo mkI cntI k j xs) ∧ Chg F w wr) (fun _ i _ => xs.length - (intOf i).toNat)
  case atStart => exact ⟨0, Nat.zero_le _, rfl, by simp [sumT], by rw [marksTo_zero]; exact hx, Chg.refl _ _⟩
  case round =>
    obtain ⟨j, hj, rfl, rfl, hp, hch⟩ := hrel
    by_cases hlt : j < xs.length
    · obtain ⟨cs, G, hrow, hparts⟩ := hp.parts
      rw [marksTo_len] at hrow
      have hjl : j < (marksTo mkI cntI k j xs).length := by rw [marksTo_len]; exact hlt
      obtain ⟨g, rfl⟩ := row_ptr hrow (by omega)
      obtain ⟨hcl, hEl, hG, _⟩ := hparts.2 j hjl
      rw [marksTo_ge hlt (Nat.le_refl _) hjl] at hEl
      obtain ⟨hcs, i_⟩ := hEl
      have hr0 : wr.ownsRow 0 3 1 (.slice (some ⟨g, 0, none⟩) xs.length cap) xs.length (flatC 1 xs.length (updC cs j [.int .i64 xs[j]])) := by rw [← hcs, updC_same]; exact hrow
      have hgG : ∀ b, G j b → b ≠ g := fun b hb e => (hG b hb).2 (by subst e; rfl)
      have hsum := sumT_take cntI xs j hlt
      have hle := sumT_le cntI xs (j + 1)
      have hnn : 0 ≤ k + (sumT cntI (xs.take j) : Int) := by omega
      have hkb : k + (sumT cntI (xs.take j) : Int) + (cntI xs[j] : Int) ≤ 4611686018427387904 := by omega
      obtain ⟨k0_0, f0_0⟩ := row_cell (j := 0) hr0 hlt (by rw [updC_at]; rfl) (by rw [updC_at]; rfl) (p := j) (by omega)
      have hrz_0 : (wr.setCell ⟨g, j, none⟩ (.int .i64 (k + (sumT cntI (xs.take j) : Int)))).ownsRow 0 3 1 (.slice (some ⟨g, 0, none⟩) xs.length cap) xs.length (flatC 1 xs.length (updC cs j [.int .i64 (k + (sumT cntI (xs.take j) : Int))])) := row_set' (j := 0) hr0 hlt (by decide) (p := j) (by omega) rfl (u := .int .i64 (k + (sumT cntI (xs.take j) : Int)))
      have hcz : Chg (fun b => G j b ∨ (Value.slice (some ⟨g, 0, none⟩) xs.length cap).ownBlock = some b) wr (wr.setCell ⟨g, j, none⟩ (.int .i64 (k + (sumT cntI (xs.take j) : Int)))) := (Chg.setCell (p := ⟨g, j, none⟩) (Chg.refl _ wr) (Or.inr rfl) (.int .i64 (k + (sumT cntI (xs.take j) : Int))))
      have hy : OInt (G j) (wr.setCell ⟨g, j, none⟩ (.int .i64 (k + (sumT cntI (xs.take j) : Int)))) [.int .i64 (k + (sumT cntI (xs.take j) : Int))] (mkI (k + (sumT cntI (xs.take j) : Int)) xs[j]) := ⟨rfl, (by unfold I64; (try simp only [cntI, cntCond, cntRow, cntSpan, cntVersion, cntQuery, Int.natCast_add, Int.natCast_one, Int.cast_ofNat_Int] at hkb); (try simp only [mkI, mkCond, mkRow, mkSpan, mkVersion, mkQuery]); omega)⟩
      have hup : PInts F (wr.setCell ⟨g, j, none⟩ (.int .i64 (k + (sumT cntI (xs.take j) : Int)))) (.slice (some ⟨g, 0, none⟩) xs.length cap) (marksTo mkI cntI k (j + 1) xs) := by
        rw [marksTo_succ hlt]
        exact hparts.upd fr_int hjl (by rw [marksTo_len]; exact hrz_0) rfl hy hcz
      have hch' := hch.trans (hparts.chgF hjl hcz)
      have HUP := Lib.hid hup
      have HCH := Lib.hid hch'
      have HS := Lib.hid hsum
      clear hup hch' hy hcz hparts hp hsum hle hrow
      have hkb' := hkb
      (try simp only [cntI, cntCond, cntRow, cntSpan, cntVersion, cntQuery, Int.natCast_add, Int.natCast_one, Int.cast_ofNat_Int] at hkb')
      go_wp2_with fail
      go_roundw
      case rel => exact ⟨j + 1, by omega, by go_num, by rw [HS.out]; (try simp only [cntI, cntCond, cntRow, cntSpan, cntVersion, cntQuery, Int.natCast_add, Int.natCast_one, Int.cast_ofNat_Int]); go_num, HUP.out, HCH.out⟩
      case measure => simp [intOf]; omega
    · obtain rfl : j = xs.length := by omega
      go_wp2
      go_ret
      exact ⟨ret_int (by rw [List.take_length]), hp, hch⟩
set_option maxRecDepth 100000 in
set_option maxHeartbeats 4000000 in
theorem laws_heldIntS (v : Value) (xs : List Int) (k : Int) (w : World) (hx : RInts w v (marksTo mkI cntI k xs.length xs)) (h0 : 0 ≤ k) (hb : k + sumT cntI xs ≤ 4611686018427387904) :
    Calls Try.prog 28 #[v, .int .i64 k] w fun e w' => e = .returned (.int .i64 (k + sumT cntI xs)) ∧ Gr w w' := by
  obtain ⟨a, cap, rfl, hl, hm, hx⟩ := hx
  simp only [marksTo_len] at hl hx ⊢
  go_enter Try.func28, Try.ntmps28
  go_wp2
  go_loopw [1, 5] (fun kk i wr => ∃ j : Nat, j ≤ xs.length ∧ i = .int .i64 j ∧ kk = .int .i64 (k + sumT cntI (xs.take j)) ∧ Gr w wr) (fun _ i _ => xs.length - (intOf i).toNat)
  case atStart => exact ⟨0, Nat.zero_le _, rfl, by simp [sumT], Gr.refl _⟩
  case round =>
    obtain ⟨j, hj, rfl, rfl, hgr⟩ := hrel
    by_cases hlt : j < xs.length
    · obtain ⟨b, off, cs, rfl, hlen, hE, hc⟩ := hx j hlt
      rw [marksTo_lt hlt hlt] at hE
      obtain ⟨rfl, i_⟩ := hE
      have c0 := hgr.cellv (hc 0 (by simp))
      simp only [Nat.add_zero, Nat.mul_one, List.getElem_cons_zero] at c0
      clear hc hlen
      have hsum := sumT_take cntI xs j hlt
      have hle := sumT_le cntI xs (j + 1)
      have hnn : 0 ≤ k + (sumT cntI (xs.take j) : Int) := by omega
      have hkb : k + (sumT cntI (xs.take j) : Int) + (cntI xs[j] : Int) ≤ 4611686018427387904 := by omega
      have hkb' := hkb
      (try simp only [cntI, cntCond, cntRow, cntSpan, cntVersion, cntQuery, Int.natCast_add, Int.natCast_one, Int.cast_ofNat_Int] at hkb')
      have HS := Lib.hid hsum
      clear hsum hle
      have e0 : ((k + (sumT cntI (xs.take j) : Int)) != (k + (sumT cntI (xs.take j) : Int))) = false := by simp
      go_wp2_with fail
      go_roundw
      case rel => exact ⟨j + 1, by omega, by go_num, by rw [HS.out]; (try simp only [cntI, cntCond, cntRow, cntSpan, cntVersion, cntQuery, Int.natCast_add, Int.natCast_one, Int.cast_ofNat_Int]); go_num, hgr⟩
      case measure => simp [intOf]; omega
    · obtain rfl : j = xs.length := by omega
      go_wp2
      go_ret
      exact ⟨ret_int (by rw [List.take_length]), hgr⟩
end Go.Proofs.Ytjeffagejbdjkaa
