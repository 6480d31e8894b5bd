/- The drawing of values: a row. -/
import Derived.Test.YtcdcpfcmhmhdjaaGreatDoorDrawX
import Derived.Test.YtcdcpfcmhmhdjaaGreatDoorDrawS0
import Derived.Test.YtcdcpfcmhmhdjaaGreatDoorDrawW
import Derived.Test.YtcdcpfcmhmhdjaaGreatDoorLawD
namespace Go.Proofs.YtcdcpfcmhmhdjaaGreatDoor
open Go.RowKit Go.ChangeShapes Go.WideShapes Go.Deep
theorem drawn_row {id : Int} {vs : List Int} (hi : 0 ≤ id ∧ id ≤ 999) (hv : ∀ x ∈ vs, 0 ≤ x ∧ x ≤ 99) (hl : vs.length = 3) : isRowB ⟨id, vs⟩ = true := by
  unfold isRowB
  dsimp only
  rw [inB_mk hi.1 hi.2, decide_eq_true hl, allB_true]
  · rfl
  · intro j hj
    unfold valAt
    rw [getD_lt hj]
    have := hv _ (List.getElem_mem hj)
    exact inB_mk this.1 this.2
theorem oints_keep {w w' : World} {lo : Nat} {v : Value} {xs : List Int} (h : OInts lo w v xs) (k : ∀ b, lo ≤ b → b < w.heap.size → w'.heap[b]? = w.heap[b]?) : OInts lo w' v xs := by
  refine ⟨⟨h.1.1, ?_⟩, h.2⟩
  rcases h.1.2 with h0 | ⟨b, cap, cur, hv, hb, hgg, r⟩
  · exact Or.inl h0
  · exact Or.inr ⟨b, cap, cur, hv, hb, by rw [k b hb (Array.getElem?_eq_some_iff.1 hgg).1]; exact hgg, r⟩
set_option maxRecDepth 100000 in
set_option maxHeartbeats 4000000 in
theorem spec_l3Row (g : Nat) (id : Int) (w : World) (hc : Cur w g) : Calls Tryz.prog 70 #[.pointer (some ⟨g, 0, none⟩), .int .i64 id] w fun e w' => ∃ (b : Option Addr) (n c : Nat) (vs : List Int), e = .returned (.agg #[.int .i64 id, .slice b n c]) ∧ Hid (n = vs.length ∧ vs.length = 3 ∧ ∀ x ∈ vs, 0 ≤ x ∧ x ≤ 99) ∧ Hid (OInts (w.heap.size + 1) w' (.slice b n c) vs) ∧ Hid (Cur w' g ∧ Dr g w w') := by
  have HGW : Hid (g < w.heap.size) := Lib.hid hc.lt
  obtain ⟨W1, hW1⟩ : ∃ W1, W1 = (w.alloc (.cells #[.int .i64 0, .slice none 0 0] 36)).alloc (.cells #[.int .i64 id, .slice none 0 0] 36) := ⟨_, rfl⟩
  obtain ⟨B, hB⟩ : ∃ B, B = w.heap.size + 1 := ⟨_, rfl⟩
  have HB1 : Hid (BX 36 w g w.heap.size B #[.int .i64 0, .slice none 0 0] #[.int .i64 id, .slice none 0 0] W1) := Lib.hid (by
    rw [hW1, hB]
    have e : (w.alloc (.cells #[.int .i64 0, .slice none 0 0] 36)).heap.size = w.heap.size + 1 := by simp
    refine ⟨by rw [Below.heap_alloc _ _ _ (by omega)]; exact heap_alloc_new _ _, by rw [← e]; exact heap_alloc_new _ _, ⟨HGW.out, Nat.le_refl _, Nat.lt_succ_self _⟩, hc.gr (((Gr.refl w).alloc _).alloc _), ((Chg.refl _ _).alloc _).alloc _⟩)
  have HZ1 : Hid (W1.heap.size = B + 1) := Lib.hid (by rw [hW1, hB]; simp)
  have HK1 : Hid (Cur (W1.alloc (.cells (wides.map (Value.int .i64)).toArray 3)) g) := Lib.hid (HB1.out.cur.gr ((Gr.refl _).alloc _))
  have HV1 : Hid (∀ w', Dr g (W1.alloc (.cells (wides.map (Value.int .i64)).toArray 3)) w' → RInts w' (.slice (some ⟨B + 1, 0, none⟩) 3 3) wides) := Lib.hid fun w' k => by
    rw [← HZ1.out]
    exact lit_ints HB1.out.cur.lt wides wides_i64 (by decide) k
  have HBW : Hid (w.heap.size + 1 = B) := Lib.hid hB.symm
  clear hc
  go_enter Tryz.func70, Tryz.ntmps70
  go_wp2_with fail
  rw [← hW1, ← hB]
  clear hW1 hB
  refine (spec_l1PickInt g _ wides _ HK1.out HV1.out (by decide)).mono ?_
  rintro e w2 ⟨wd, rfl, hwd, hk2⟩
  have HB2 := Lib.hid ((HB1.out.gr ((Gr.refl _).alloc (.cells (wides.map (Value.int .i64)).toArray 3))).draw hk2.out)
  have HWD := Lib.hid (wides_in hwd.out)
  have wd0 := HWD.out.1
  have wd1 := HWD.out.2
  clear hk2 hwd HV1 HK1 HB1
  go_wp2_with fail
  go_loopw [7] (fun vf wr => ∃ (k : Nat) (b : Option Addr) (c : Nat) (vs : List Int), vf = .int .i64 k ∧ k ≤ 3 ∧ Hid (vs.length = k ∧ ∀ x ∈ vs, 0 ≤ x ∧ x ≤ 99) ∧ Hid (BX 36 w g w.heap.size B #[.int .i64 0, .slice none 0 0] #[.int .i64 id, .slice b vs.length c] wr) ∧ Hid (OInts (B + 1) wr (.slice b vs.length c) vs)) (fun vf _ => 3 - (intOf vf).toNat)
  case atStart => exact ⟨0, none, 0, [], rfl, by omega, Lib.hid ⟨rfl, by simp⟩, HB2, Lib.hid ⟨⟨by simp, Or.inl ⟨rfl, rfl⟩⟩, by simp⟩⟩
  case round =>
    obtain ⟨k, b, c, vs, rfl, hk, HN, HX, HO⟩ := hrel
    by_cases hlt : k < 3
    · have hlz : (k : Int) < 3 := by omega
      go_wp2_with fail
      refine (spec_l1Below g wd _ HX.out.cur (by omega) (by omega)).mono ?_
      rintro e w4 ⟨f, rfl, hf, hk4⟩
      have HX4 := Lib.hid (HX.out.draw hk4.out)
      have HO4 := Lib.hid (oints_dr HO.out (show g < B + 1 by have := HX.out.lt; omega) hk4.out.2)
      have HS4 : Hid (B + 1 ≤ w4.heap.size) := Lib.hid HX4.out.ltB
      have d3 : w4.cell? ⟨B, 1, none⟩ = some (.slice b vs.length c) := HX4.out.cell rfl
      have hf0 := hf.out.1
      have hf1 : f ≤ 99 := by have := hf.out.2; omega
      clear HX HO hk4
      go_wp2_with (at_builtin; refine push_i rfl _ _ rfl vs f rfl rfl rfl HO4.out.1 (by have := HN.out.1; omega) HS4.out ?_; intro g7 c7 w7 hO7 hB7; have HO7 := Lib.hid hO7; have HX7 := Lib.hid (HX4.out.below (Nat.lt_succ_self _) hB7); have f7 := (HX7.out.frz 1).1; have d7 : w7.cell? ⟨B, 1, none⟩ = some (.slice b vs.length c) := HX7.out.cell rfl; clear hO7 hB7)
      go_roundw
      case rel => exact ⟨k + 1, some ⟨g7, 0, none⟩, c7, vs ++ [f], by go_num, by omega, Lib.hid ⟨by have := HN.out.1; simp; omega, fun x hx => by
        rcases List.mem_append.1 hx with h | h
        · exact HN.out.2 x h
        · rw [List.mem_singleton.1 h]; omega⟩, Lib.hid (by simpa using HX7.out.set (k := 1) (.slice (some ⟨g7, 0, none⟩) (vs.length + 1) c7) rfl), Lib.hid (oints_keep (w := w7) ⟨by simpa using HO7.out, fun x hx => by
        rcases List.mem_append.1 hx with h | h
        · exact HO4.out.2 x h
        · rw [List.mem_singleton.1 h]; unfold I64; omega⟩ fun q hq _ => Below.heap_setCell _ _ _ _ (by dsimp only; omega))⟩
      case measure => simp [intOf]; omega
    · obtain rfl : k = 3 := by omega
      have d0 : wr.cell? ⟨B, 0, none⟩ = some (.int .i64 id) := HX.out.cell rfl
      have d1 : wr.cell? ⟨B, 1, none⟩ = some (.slice b vs.length c) := HX.out.cell rfl
      have r0 : wr.cell? ⟨w.heap.size, 0, none⟩ = some (.int .i64 0) := HX.out.cellR rfl
      have r1 : wr.cell? ⟨w.heap.size, 1, none⟩ = some (.slice none 0 0) := HX.out.cellR rfl
      have f0 := (HX.out.frz 0).2
      have f1 := (HX.out.frz 1).2
      go_wp2_with fail
      refine bodyPost_ret (v := .agg #[.int .i64 id, .slice b vs.length c]) (by simp [results, Tryz.results70, go_sem, *]) rfl ⟨_, _, _, vs, rfl, Lib.hid ⟨rfl, HN.out⟩, Lib.hid ((oints_keep HO.out fun q hq _ => ?_).le (by have := HBW.out; omega)), Lib.hid ⟨HX.out.cur.keep fun q hq => ?_, ?_⟩⟩
      · exact two_other (by have := HBW.out; omega)
      · exact two_other (by have := HGW.out; omega)
      · exact (HX.out.dr.setHigh (Nat.le_refl _) _).setHigh (Nat.le_refl _) _
end Go.Proofs.YtcdcpfcmhmhdjaaGreatDoor
