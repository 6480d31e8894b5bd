/- EncodeFixed, DecodeFixed, and their laws. -/
import Derived.Test.YtcdcpfcmhmhdjaaDoorEnc
namespace Go.Proofs.YtcdcpfcmhmhdjaaDoor
open Go.RowKit
/-- The lowest W groups of eight bits of N, the highest first. -/
def encF (W N : Nat) : List Int := (List.range W).map fun p => ((N / 256 ^ (W - 1 - p) % 256 : Nat) : Int)
theorem encF_succ (i N : Nat) : encF (i + 1) N = ((N / 256 ^ i % 256 : Nat) : Int) :: encF i N := by
  unfold encF
  rw [List.range_succ_eq_map, List.map_cons, List.map_map]
  congr 1
  refine List.map_congr_left fun p hp => ?_
  simp only [Function.comp]
  rw [show i + 1 - 1 - (p + 1) = i - 1 - p from by omega]
def encFixed (n width : Int) : ByteArray := if 1 ≤ width ∧ width ≤ 7 ∧ 0 ≤ n ∧ n / 2 ^ (8 * width.toNat) = 0 then strOfNums (encF width.toNat n.toNat) else ByteArray.empty
/-- The row while it is filled from its end: j of W bytes stand. -/
def fixRow (W j N : Nat) : List Value := (List.range W).map fun p => Value.int .u8 (if W - j ≤ p then ((N / 256 ^ (W - 1 - p) % 256 : Nat) : Int) else 0)
theorem fixRow_get (W j N p : Nat) : (fixRow W j N)[p]? = if p < W then some (Value.int .u8 (if W - j ≤ p then ((N / 256 ^ (W - 1 - p) % 256 : Nat) : Int) else 0)) else none := by
  unfold fixRow; by_cases h : p < W <;> simp [h]
theorem fixRow_len (W j N : Nat) : (fixRow W j N).length = W := by simp [fixRow]
theorem fixRow_zero (W N : Nat) : fixRow W 0 N = List.replicate W (Value.int .u8 0) := by
  apply List.ext_getElem?; intro p; rw [fixRow_get]
  by_cases h : p < W
  · simp [h]; omega
  · simp [h]
theorem fixRow_end (W N : Nat) : fixRow W W N = (encF W N).map (Value.int .u8) := by
  apply List.ext_getElem?; intro p; rw [fixRow_get]; unfold encF
  by_cases h : p < W <;> simp [h]
theorem fixRow_step {W j N p : Nat} (hp : p + j + 1 = W) : (fixRow W j N).toArray.setIfInBounds p (.int .u8 ((N / 256 ^ j % 256 : Nat) : Int)) = (fixRow W (j + 1) N).toArray := by
  apply Array.ext'
  apply List.ext_getElem?
  intro q
  simp only [List.setIfInBounds_toArray]
  rw [List.getElem?_set, fixRow_get, fixRow_get, fixRow_len]
  by_cases h : p = q
  · subst h
    simp [show p < W from by omega, show W - (j + 1) ≤ p from by omega, show W - 1 - p = j from by omega]
  · simp only [if_neg h]
    by_cases h1 : W - j ≤ q
    · simp [h1, show W - (j + 1) ≤ q from by omega]
    · simp [h1, show ¬ W - (j + 1) ≤ q from by omega]
theorem fixRow_at {W j N p : Nat} (hp : p + j + 1 = W) : (fixRow W j N)[p]? = some (.int .u8 0) := by
  rw [fixRow_get]; simp [show p < W from by omega, show ¬ W - j ≤ p from by omega]
theorem make_bytes {P : Program} {t e : TypeId} (ht : P.underlying t = some (.slice e)) (hi : (P.info? e).map (fun i => (i.zero, i.size, i.bytes)) = some (some (.int .u8 0), 1, 1)) (w : World) (W N : Nat) (hb : W ≤ 4294967296) :
    (Instr.makeSlice t (.int .i64 W) (.int .i64 W)).run P w = .ok (.slice (some ⟨w.heap.size, 0, none⟩) W W) (w.alloc (.cells (fixRow W 0 N).toArray e)) := by
  obtain ⟨i, hi, hz, hs, hby⟩ := info_parts hi
  have h := run_make (P := P) w t e i _ ht hi hz .i64 .i64 (W : Int) W (by omega) (by omega) (by rw [hby]; omega) (by omega)
  rw [h, hs]
  have e1 : madeCells (Value.int .u8 0).cells ((W : Int).toNat * 1) = (fixRow W 0 N).toArray := by
    apply Array.ext'
    simp only [Value.cells, Int.toNat_natCast, Nat.mul_one]
    rw [toList_madeCells_one, fixRow_zero]
  rw [e1]
  simp
theorem strOfNums_append (a b : List Int) : strOfNums a ++ strOfNums b = strOfNums (a ++ b) := by
  apply ByteArray.ext
  simp [strOfNums, ByteArray.data_append]
theorem pow_eq (N j : Nat) : (N : Int) / 2 ^ (8 * (j : Int).toNat) = ((N / 256 ^ j : Nat) : Int) := by
  rw [Int.toNat_natCast, Int.pow_mul, show ((2 : Int) ^ 8) = 256 from by decide, Int.natCast_ediv, Int.natCast_pow]
  rfl
set_option maxRecDepth 100000 in
set_option maxHeartbeats 400000 in
theorem impl_EncodeFixed_in (N W : Nat) (w : World) (h1 : 1 ≤ W) (h7 : W ≤ 7) (hN : (N : Int) ≤ 9223372036854775807) :
    Calls Tryd.prog 27 #[.int .i64 N, .int .i64 W] w fun e w' => e = .returned (.string (encFixed N W)) ∧ Gr w w' := by
  by_cases hq : ((N : Int) / 2 ^ (8 * W) != 0) = true
  · have HF := Lib.hid (show encFixed N W = ByteArray.empty from by unfold encFixed; rw [if_neg]; rintro ⟨_, _, _, h⟩; simp at hq; exact hq h)
    go_enter Tryd.func27, Tryd.ntmps27
    go_wp2
    go_ret
    exact ⟨ret_str HF.out.symm, Gr.refl _⟩
  · have hq' : ((N : Int) / 2 ^ (8 * W) != 0) = false := by simpa using hq
    have HF := Lib.hid (show encFixed N W = strOfNums (encF W N) from by unfold encFixed; rw [if_pos]; rfl; refine ⟨by omega, by omega, by omega, by simpa using hq⟩)
    have hmk : ∀ w : World, (Instr.makeSlice 22 (.int .i64 W) (.int .i64 W)).run Tryd.prog w = .ok (.slice (some ⟨w.heap.size, 0, none⟩) W W) (w.alloc (.cells (fixRow W 0 N).toArray 5)) := fun w => make_bytes Tryd.underlying22 (by kernel_rfl) w W N (by omega)
    clear hq
    go_enter Tryd.func27, Tryd.ntmps27
    go_wp2
    clear hq'
    go_loopw [0, 6] (fun n i wr => ∃ j m : Nat, j ≤ W ∧ m ≤ N ∧ n = .int .i64 m ∧ i = .int .i64 ((W : Int) - 1 - j) ∧ wr.heap[w.heap.size]? = some (.cells (fixRow W j N).toArray 5 (0, 0)) ∧ Gr w wr ∧ Hid (m = N / 256 ^ j)) (fun _ i _ => (intOf i + 1).toNat)
    case atStart => exact ⟨0, N, Nat.zero_le _, Nat.le_refl _, rfl, by go_num, heap_alloc_new w _, (Gr.refl _).alloc _, Lib.hid (by simp)⟩
    case round =>
      obtain ⟨j, m, hj, hm, rfl, rfl, hg, hgr, hmj⟩ := hrel
      by_cases hlt : j < W
      · obtain ⟨p, hp⟩ : ∃ p, p + j + 1 = W := ⟨W - 1 - j, by omega⟩
        have hpe : ((W : Int) - 1 - j) = (p : Int) := by omega
        rw [hpe]
        have hd : wr.cell? ⟨w.heap.size, p, none⟩ = some (.int .u8 0) := by simp [World.cell?, hg, fixRow_at hp]
        have hf : wr.frozen? ⟨w.heap.size, p, none⟩ = false := Joins.unfrozen_of_block hg p
        have hpW : p < W := by omega
        have HG := Lib.hid hg
        have HP := Lib.hid hp
        clear hg hpe hp
        go_wp2
        go_roundw
        case rel => exact ⟨j + 1, m / 256, by omega, by omega, by go_num, by have := HP.out; go_num, by rw [Joins.block_setCell HG.out, ← fixRow_step HP.out, ← hmj.out]; simp, Below.setCell hgr (by simp) _, Lib.hid (by rw [hmj.out, Nat.div_div_eq_div_mul, Nat.pow_succ])⟩
        case measure => simp [intOf]
      · obtain rfl : j = W := by omega
        have hown : wr.ownsRow w.heap.size 5 1 (.slice (some ⟨w.heap.size, 0, none⟩) j j) j ((encF j N).map (Value.int .u8)) :=
          ⟨by simp [encF], Or.inr ⟨_, j, _, rfl, Nat.le_refl _, hg, Nat.le_refl _, by simp [maxLen]; omega, by simp [fixRow_len], by rw [← fixRow_end]; exact List.take_of_length_le (by simp [fixRow_len])⟩⟩
        have hcv := conv_b hown (by simp [encF])
        have HG := Lib.hid hg
        clear hg
        go_wp2
        go_ret
        exact ⟨ret_str HF.out.symm, hgr⟩
theorem encFixed_no (n width : Int) (h : width < 1 ∨ 7 < width ∨ n < 0) : encFixed n width = ByteArray.empty := by unfold encFixed; rw [if_neg]; omega
set_option maxRecDepth 100000 in
set_option maxHeartbeats 400000 in
theorem impl_EncodeFixed (n width : Int) (w : World) (hn : I64 n) :
    Calls Tryd.prog 27 #[.int .i64 n, .int .i64 width] w fun e w' => e = .returned (.string (encFixed n width)) ∧ Gr w w' := by
  by_cases h1 : width < 1
  · have HF := Lib.hid (encFixed_no n width (by omega))
    go_enter Tryd.func27, Tryd.ntmps27
    go_wp2
    go_ret
    exact ⟨ret_str HF.out.symm, Gr.refl _⟩
  · by_cases h7 : 7 < width
    · have HF := Lib.hid (encFixed_no n width (by omega))
      go_enter Tryd.func27, Tryd.ntmps27
      go_wp2
      go_ret
      exact ⟨ret_str HF.out.symm, Gr.refl _⟩
    · by_cases h0 : n < 0
      · have HF := Lib.hid (encFixed_no n width (by omega))
        go_enter Tryd.func27, Tryd.ntmps27
        go_wp2
        go_ret
        exact ⟨ret_str HF.out.symm, Gr.refl _⟩
      · obtain ⟨N, rfl⟩ := Int.eq_ofNat_of_zero_le (show 0 ≤ n from by omega)
        obtain ⟨W, rfl⟩ := Int.eq_ofNat_of_zero_le (show 0 ≤ width from by omega)
        exact impl_EncodeFixed_in N W w (by omega) (by omega) hn.hi
/-- string([]byte{x}) .. -/
theorem conv_one (w : World) (x : Int) : (convert 22 9 (.slice (some ⟨w.heap.size, 0, none⟩) 1 1)).run Tryd.prog (w.alloc (.cells #[.int .u8 x] 5)) = .ok (.string (strOfNums [x])) (w.alloc (.cells #[.int .u8 x] 5)) :=
  conv_b (lo := w.heap.size) ⟨by simp, Or.inr ⟨w.heap.size, 1, #[.int .u8 x], rfl, Nat.le_refl _, heap_alloc_new w _, Nat.le_refl _, by simp [maxLen], by simp, by simp⟩⟩ rfl
set_option maxRecDepth 100000 in
set_option maxHeartbeats 400000 in
theorem spec_EncodeFixed_in (N W : Nat) (w : World) (h1 : 1 ≤ W) (h7 : W ≤ 7) (hN : (N : Int) ≤ 9223372036854775807) :
    Calls Tryd.prog 29 #[.int .i64 N, .int .i64 W] w fun e w' => e = .returned (.string (encFixed N W)) ∧ Gr w w' := by
  have hin : inB (W : Int) 1 7 = true := inB_mk (by omega) (by omega)
  have hcv := conv_one
  have hsz : ∀ x, (strOfNums [x]).size = 1 := fun x => rfl
  go_enter Tryd.func29, Tryd.ntmps29
  go_wp2_with fail
  refine (spec_l1In _ _ _ _).mono ?_
  rintro e w' ⟨rfl, rfl⟩
  rw [hin]
  go_wp2_with fail
  go_loopw [0, 5, 6] (fun n out i wr => ∃ (j m : Nat) (s : ByteArray), j ≤ W ∧ m ≤ N ∧ n = .int .i64 m ∧ i = .int .i64 j ∧ out = .string s ∧ s.size ≤ j ∧ Gr w wr ∧ Hid (m = N / 256 ^ j) ∧ Hid (s = strOfNums (encF j N))) (fun _ _ i _ => W - (intOf i).toNat)
  case atStart => exact ⟨0, N, _, Nat.zero_le _, Nat.le_refl _, rfl, rfl, rfl, by simp [ByteArray.size], Gr.refl _, Lib.hid (by simp), Lib.hid rfl⟩
  case round =>
    obtain ⟨j, m, s, hj, hm, rfl, rfl, rfl, hss, hgr, hmj, hs⟩ := hrel
    by_cases hlt : j < W
    · go_wp2
      go_roundw
      case rel => exact ⟨j + 1, m / 256, _, by omega, by omega, by go_num, by go_num, rfl, by simp [ByteArray.size_append, hsz]; omega, hgr.alloc _, Lib.hid (by rw [hmj.out, Nat.div_div_eq_div_mul, Nat.pow_succ]), Lib.hid (by rw [hs.out, strOfNums_append, encF_succ, ← hmj.out]; simp)⟩
      case measure => simp [intOf]; omega
    · obtain rfl : j = W := by omega
      by_cases h0 : 0 < m
      · have HF := Lib.hid (show encFixed N j = ByteArray.empty from by
          unfold encFixed; rw [if_neg]; rintro ⟨_, _, _, h⟩; have := hmj.out; rw [pow_eq] at h; omega)
        go_wp2
        go_ret
        exact ⟨ret_str HF.out.symm, hgr⟩
      · have HF := Lib.hid (show encFixed N j = strOfNums (encF j N) from by
          unfold encFixed; rw [if_pos]; rfl; refine ⟨by omega, by omega, by omega, ?_⟩; have := hmj.out; rw [pow_eq]; omega)
        go_wp2
        go_ret
        exact ⟨ret_str (by rw [HF.out, hs.out]), hgr⟩
set_option maxRecDepth 100000 in
set_option maxHeartbeats 400000 in
theorem spec_EncodeFixed (n width : Int) (w : World) (hn : I64 n) :
    Calls Tryd.prog 29 #[.int .i64 n, .int .i64 width] w fun e w' => e = .returned (.string (encFixed n width)) ∧ Gr w w' := by
  by_cases hin : inB width 1 7 = true
  · obtain ⟨h1, h7⟩ := inB_true hin
    by_cases h0 : n < 0
    · have HF := Lib.hid (encFixed_no n width (by omega))
      go_enter Tryd.func29, Tryd.ntmps29
      go_wp2_with fail
      refine (spec_l1In _ _ _ _).mono ?_
      rintro e w' ⟨rfl, rfl⟩
      rw [hin]
      go_wp2_with fail
      go_ret
      exact ⟨ret_str HF.out.symm, Gr.refl _⟩
    · obtain ⟨N, rfl⟩ := Int.eq_ofNat_of_zero_le (show 0 ≤ n from by omega)
      obtain ⟨W, rfl⟩ := Int.eq_ofNat_of_zero_le (show 0 ≤ width from by omega)
      exact spec_EncodeFixed_in N W w (by omega) (by omega) hn.hi
  · have hin' : inB width 1 7 = false := by simpa using hin
    have HF := Lib.hid (encFixed_no n width (by have := inB_false hin'; omega))
    go_enter Tryd.func29, Tryd.ntmps29
    go_wp2_with fail
    refine (spec_l1In _ _ _ _).mono ?_
    rintro e w' ⟨rfl, rfl⟩
    rw [hin']
    go_wp2_with fail
    go_ret
    exact ⟨ret_str HF.out.symm, Gr.refl _⟩
end Go.Proofs.YtcdcpfcmhmhdjaaDoor
