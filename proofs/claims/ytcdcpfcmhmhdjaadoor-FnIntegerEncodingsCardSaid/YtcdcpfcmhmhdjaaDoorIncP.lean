/- Encodings of numbers: what is decoded again: the plain laws. No program in sight. -/
import Derived.Test.YtcdcpfcmhmhdjaaDoorEncF
import Derived.Test.YtcdcpfcmhmhdjaaDoorDec
import Derived.Test.YtcdcpfcmhmhdjaaDoorDecV
import Derived.Test.YtcdcpfcmhmhdjaaDoorHexD
import Derived.Test.YtcdcpfcmhmhdjaaDoorNumP
namespace Go.Proofs.YtcdcpfcmhmhdjaaDoor
open Go.RowKit
theorem nums_append (a b : ByteArray) : nums (a ++ b) = nums a ++ nums b := by
  unfold nums; rw [ByteArray.data_append]; simp
theorem size_append (a b : ByteArray) : (a ++ b).size = a.size + b.size := by
  rw [← nums_len, nums_append, List.length_append, nums_len, nums_len]
theorem size_str (l : List Int) : (strOfNums l).size = l.length := by
  show (strOfNums l).data.size = l.length
  simp [strOfNums]
theorem nums_str {l : List Int} (h : ∀ x ∈ l, 0 ≤ x ∧ x ≤ 255) : nums (strOfNums l) = l.map Int.toNat := by
  unfold nums strOfNums
  simp only [List.map_map]
  refine List.map_congr_left fun x hx => ?_
  have := h x hx
  simp only [Function.comp, UInt8.toNat_ofNat']
  omega
theorem str_ne {l : List Int} (h : l ≠ []) : strOfNums l ≠ ByteArray.empty := by
  intro e
  have := congrArg ByteArray.size e
  rw [size_str] at this
  exact h (List.eq_nil_of_length_eq_zero this)
/-! ### Groups of seven bits -/
theorem encV_ne (n : Nat) : encV n ≠ [] := by
  by_cases h : n < 128
  · rw [encV_small h]; simp
  · rw [encV_big h]; simp
theorem encV_low (n : Nat) : lowV ((encV n).map Int.toNat) = n := by
  induction n using Nat.strongRecOn with
  | _ n ih =>
    by_cases h : n < 128
    · rw [encV_small h]; simp [lowV]; omega
    · rw [encV_big h, List.map_cons, lowV, ih (n / 128) (by omega)]
      simp only [Int.toNat_natCast]
      omega
theorem encV_len : ∀ (k n : Nat), n < 128 ^ (k + 1) → (encV n).length ≤ k + 1
  | 0, n, h => by rw [encV_small (by simpa using h)]; simp
  | k + 1, n, h => by
    by_cases h1 : n < 128
    · rw [encV_small h1]; simp
    · rw [encV_big h1, List.length_cons]
      have := encV_len k (n / 128) (by rw [Nat.pow_succ] at h; omega)
      omega
theorem encV_good (n : Nat) : GoodV ((encV n).map Int.toNat) := by
  have hr := encV_range n
  refine (goodV_iff _ ?_).1 ?_
  · intro b hb
    obtain ⟨x, hx, rfl⟩ := List.mem_map.1 hb
    have := hr x hx
    omega
  · rw [encV_low, List.map_map]
    conv => lhs; rw [← List.map_id (encV n)]
    refine List.map_congr_left fun x hx => ?_
    have := hr x hx
    simp only [id, Function.comp]
    omega
theorem varint_in {n : Int} (h : 0 ≤ n ∧ n ≤ 562949953421311) : encVarint n = strOfNums (encV n.toNat) := if_pos h
theorem varint_out {n : Int} (h : ¬ (0 ≤ n ∧ n ≤ 562949953421311)) : encVarint n = ByteArray.empty := if_neg h
theorem varint_ne {n : Int} (h : 0 ≤ n ∧ n ≤ 562949953421311) : encVarint n ≠ ByteArray.empty := by rw [varint_in h]; exact str_ne (encV_ne _)
theorem varint_back {n a b : Int} (h : 0 ≤ n ∧ n ≤ 562949953421311) {t : ByteArray} (hd : DecV (encVarint n ++ t) a b) : a = n ∧ b = (encVarint n).size := by
  have hn : nums (encVarint n) = (encV n.toNat).map Int.toNat := by rw [varint_in h]; exact nums_str (encV_range _)
  have hs : (encVarint n).size = (encV n.toNat).length := by rw [varint_in h]; exact size_str _
  have h7 : (128 : Nat) ^ 7 = 562949953421312 := by decide
  have hl : (encV n.toNat).length ≤ 7 := encV_len 6 _ (by rw [show 6 + 1 = 7 from rfl, h7]; omega)
  have hp : 1 ≤ (encV n.toNat).length := List.length_pos_iff.2 (encV_ne _)
  have ht : (nums (encVarint n ++ t)).take (encVarint n).size = (encV n.toNat).map Int.toNat := by
    rw [nums_append, hn, List.take_left' (by rw [List.length_map, hs])]
  have hd' : DecV (encVarint n ++ t) n (encVarint n).size := by
    refine Or.inl ⟨(encVarint n).size, by omega, by omega, by rw [size_append]; omega, ?_, ?_, rfl⟩
    · rw [ht]; exact encV_good _
    · rw [ht, encV_low]; omega
  exact hd.unique hd'
/-! ### Groups of eight bits -/
theorem encF_len (W N : Nat) : (encF W N).length = W := by simp [encF]
theorem fixed_yes {n width : Int} (h : encFixed n width ≠ ByteArray.empty) : ∃ W N : Nat, width = W ∧ n = N ∧ 1 ≤ W ∧ W ≤ 7 ∧ N < 256 ^ W ∧ encFixed n width = strOfNums (encF W N) := by
  by_cases hc : 1 ≤ width ∧ width ≤ 7 ∧ 0 ≤ n ∧ n / 2 ^ (8 * width.toNat) = 0
  · obtain ⟨h1, h2, h3, h4⟩ := hc
    obtain ⟨W, rfl⟩ := Int.eq_ofNat_of_zero_le (show 0 ≤ width by omega)
    obtain ⟨N, rfl⟩ := Int.eq_ofNat_of_zero_le h3
    refine ⟨W, N, rfl, rfl, by omega, by omega, ?_, ?_⟩
    · have h5 := pow_eq N W
      rw [h4] at h5
      have h6 : N / 256 ^ W = 0 := by omega
      exact (Nat.div_eq_zero_iff_lt (Nat.pow_pos (by decide))).1 h6
    · unfold encFixed
      rw [if_pos ⟨h1, h2, h3, h4⟩]; rfl
  · exact absurd (by unfold encFixed; exact if_neg hc) h
theorem decF_enc {W N : Nat} (hN : N < 256 ^ W) (t : ByteArray) : ∀ k, k ≤ W → decF (strOfNums (encF W N) ++ t) k = N / 256 ^ (W - k)
  | 0, _ => by
    rw [decF, Nat.sub_zero, Nat.div_eq_of_lt hN]
  | k + 1, h => by
    rw [decF, decF_enc hN t k (by omega)]
    have hr : ∀ x ∈ encF W N, 0 ≤ x ∧ x ≤ 255 := by
      intro x hx
      unfold encF at hx
      obtain ⟨p, _, rfl⟩ := List.mem_map.1 hx
      omega
    have e1 : (nums (strOfNums (encF W N) ++ t))[k]? = some (N / 256 ^ (W - 1 - k) % 256) := by
      rw [nums_append, nums_str hr, List.getElem?_append_left (by rw [List.length_map, encF_len]; omega)]
      unfold encF
      rw [List.getElem?_map, List.getElem?_map, List.getElem?_range (by omega)]
      rfl
    have e2 : ((strOfNums (encF W N) ++ t).data.toList.getD k 0).toNat = N / 256 ^ (W - 1 - k) % 256 := by
      unfold nums at e1
      rw [List.getElem?_map] at e1
      rw [List.getD_eq_getElem?_getD]
      cases h5 : (strOfNums (encF W N) ++ t).data.toList[k]? with
      | none => rw [h5] at e1; simp at e1
      | some b => rw [h5] at e1; simpa using e1
    rw [e2, show W - 1 - k = W - (k + 1) by omega, show W - k = W - (k + 1) + 1 by omega, Nat.pow_succ, ← Nat.div_div_eq_div_mul]
    omega
theorem fixed_back {n width : Int} (h : encFixed n width ≠ ByteArray.empty) (t : ByteArray) : decFixed (encFixed n width ++ t) width = n ∧ decFixedOk (encFixed n width ++ t) width = true ∧ ((encFixed n width).size : Int) = width := by
  obtain ⟨W, N, rfl, rfl, h1, h2, h3, h4⟩ := fixed_yes h
  have hs : (encFixed (N : Int) (W : Int)).size = W := by rw [h4, size_str, encF_len]
  have hc : 1 ≤ (W : Int) ∧ (W : Int) ≤ 7 ∧ (W : Int) ≤ ((encFixed (N : Int) (W : Int) ++ t).size : Int) := by rw [size_append, hs]; omega
  refine ⟨?_, ?_, by omega⟩
  · unfold decFixed
    rw [if_pos hc, h4, Int.toNat_natCast, decF_enc h3 t W (Nat.le_refl _), Nat.sub_self]
    simp
  · unfold decFixedOk
    exact decide_eq_true hc
/-! ### Hexadecimal digits -/
theorem hexL_len (l : List Nat) : (hexL l).length = 2 * l.length := by
  induction l with
  | nil => rfl
  | cons b l ih => simp only [hexL, List.flatMap_cons, List.length_append, List.length_cons, List.length_nil] at *; omega
theorem hexD_le : ∀ k : Nat, k < 16 → hexD k ≤ 255
  | 0, _ => by decide
  | 1, _ => by decide
  | 2, _ => by decide
  | 3, _ => by decide
  | 4, _ => by decide
  | 5, _ => by decide
  | 6, _ => by decide
  | 7, _ => by decide
  | 8, _ => by decide
  | 9, _ => by decide
  | 10, _ => by decide
  | 11, _ => by decide
  | 12, _ => by decide
  | 13, _ => by decide
  | 14, _ => by decide
  | 15, _ => by decide
  | n + 16, h => absurd h (by omega)
theorem hexL_range {l : List Nat} (h : ∀ b ∈ l, b < 256) : ∀ x ∈ hexL l, 0 ≤ x ∧ x ≤ 255 := by
  intro x hx
  unfold hexL at hx
  obtain ⟨b, hb, hx⟩ := List.mem_flatMap.1 hx
  have := h b hb
  simp only [List.mem_cons, List.not_mem_nil, or_false] at hx
  rcases hx with rfl | rfl
  · exact ⟨hexD_nonneg _ (by omega), hexD_le _ (by omega)⟩
  · exact ⟨hexD_nonneg _ (by omega), hexD_le _ (by omega)⟩
theorem hexL_at : ∀ (l : List Nat) (j : Nat) (h : j < l.length), (hexL l)[2 * j]? = some (hexD (l[j] / 16)) ∧ (hexL l)[2 * j + 1]? = some (hexD (l[j] % 16))
  | b :: l, 0, _ => by simp [hexL]
  | b :: l, j + 1, h => by
    have ih := hexL_at l j (by simpa using h)
    have e : hexL (b :: l) = hexD (b / 16) :: hexD (b % 16) :: hexL l := by simp [hexL]
    rw [e, show 2 * (j + 1) = 2 * j + 1 + 1 by omega]
    simpa using ih
theorem hex_at (t : ByteArray) (j : Nat) (h : j < t.size) : at_ (strOfNums (hexL (nums t))) (2 * j) = (hexD (t[j].toNat / 16)).toNat ∧ at_ (strOfNums (hexL (nums t))) (2 * j + 1) = (hexD (t[j].toNat % 16)).toNat := by
  have hr := hexL_range (l := nums t) (fun b hb => nums_lt hb)
  have hj : j < (nums t).length := by rw [nums_len]; exact h
  have hb : (nums t)[j] = t[j].toNat := by
    have := nums_get h
    rw [List.getElem?_eq_getElem hj] at this
    exact Option.some.inj this
  obtain ⟨h1, h2⟩ := hexL_at (nums t) j hj
  rw [hb] at h1 h2
  unfold at_
  rw [nums_str hr, List.getD_eq_getElem?_getD, List.getD_eq_getElem?_getD, List.getElem?_map, List.getElem?_map, h1, h2]
  exact ⟨rfl, rfl⟩
theorem str_nums (t : ByteArray) : strOfNums ((nums t).map (fun b : Nat => (b : Int))) = t := by
  apply ByteArray.ext
  apply Array.ext'
  unfold strOfNums nums
  simp only [List.map_map]
  conv => rhs; rw [← List.map_id t.data.toList]
  refine List.map_congr_left fun b _ => ?_
  simp
theorem hex_back (t : ByteArray) : hexOut (strOfNums (hexL (nums t))) = t ∧ hexOk (strOfNums (hexL (nums t))) = true ∧ (strOfNums (hexL (nums t))).size = 2 * t.size := by
  have hs : (strOfNums (hexL (nums t))).size = 2 * t.size := by rw [size_str, hexL_len, nums_len]
  have hv : ∀ j (h : j < t.size), fromHex (at_ (strOfNums (hexL (nums t))) (2 * j)) = (t[j].toNat / 16 : Nat) ∧ fromHex (at_ (strOfNums (hexL (nums t))) (2 * j + 1)) = (t[j].toNat % 16 : Nat) := by
    intro j h
    have hb := UInt8.toNat_lt t[j]
    obtain ⟨h1, h2⟩ := hex_at t j h
    rw [h1, h2]
    exact ⟨fromHex_hexD _ (by omega), fromHex_hexD _ (by omega)⟩
  have hd : (strOfNums (hexL (nums t))).size / 2 = t.size := by omega
  obtain ⟨h1, h2⟩ := hex_all (s := strOfNums (hexL (nums t))) (by omega) (fun j hj => by
    obtain ⟨k1, k2⟩ := hv j (by omega)
    unfold hexGood
    rw [k1, k2, decide_eq_true (Int.natCast_nonneg _), decide_eq_true (Int.natCast_nonneg _)]
    rfl)
  refine ⟨?_, h2, hs⟩
  have hm : (List.range t.size).map (hexVal (strOfNums (hexL (nums t)))) = (nums t).map (fun b : Nat => (b : Int)) := by
    apply List.ext_getElem?
    intro j
    by_cases hj : j < t.size
    · obtain ⟨k1, k2⟩ := hv j hj
      rw [List.getElem?_map, List.getElem?_range hj, List.getElem?_map, nums_get hj]
      simp only [Option.map_some, Option.some.injEq]
      unfold hexVal
      rw [k1, k2]
      omega
    · rw [List.getElem?_eq_none (by simpa using hj), List.getElem?_eq_none (by rw [List.length_map, nums_len]; omega)]
  rw [h1, hd, hm]
  exact str_nums t
/-! ### Numerals -/
theorem digits_inj {a b : Nat} (h : Lib.decDigits a = Lib.decDigits b) : a = b := by
  have h1 := decFrom_digits a
  rw [h, decFrom_digits b] at h1
  exact (Option.some.inj h1).symm
theorem itoa_inj {a b : Int} (h : Lib.itoa a = Lib.itoa b) : a = b := by
  have dg : ∀ (u v : Nat), Lib.decDigits u ≠ 45 :: Lib.decDigits v := fun u v e => by
    obtain ⟨c, r, e1, hc⟩ := dg_head u
    rw [e1] at e
    obtain rfl := (List.cons.inj e).1
    exact absurd hc (by decide)
  by_cases ha : a < 0
  · obtain ⟨u, rfl⟩ : ∃ u : Nat, a = -(u : Int) := ⟨a.natAbs, by omega⟩
    rw [itoa_neg (by omega)] at h
    by_cases hb : b < 0
    · obtain ⟨v, rfl⟩ : ∃ v : Nat, b = -(v : Int) := ⟨b.natAbs, by omega⟩
      rw [itoa_neg (by omega)] at h
      rw [digits_inj (List.cons.inj h).2]
    · obtain ⟨v, rfl⟩ : ∃ v : Nat, b = (v : Int) := ⟨b.natAbs, by omega⟩
      rw [itoa_nn] at h
      exact absurd h.symm (dg _ _)
  · obtain ⟨u, rfl⟩ : ∃ u : Nat, a = (u : Int) := ⟨a.natAbs, by omega⟩
    rw [itoa_nn] at h
    by_cases hb : b < 0
    · obtain ⟨v, rfl⟩ : ∃ v : Nat, b = -(v : Int) := ⟨b.natAbs, by omega⟩
      rw [itoa_neg (by omega)] at h
      exact absurd h (dg _ _)
    · obtain ⟨v, rfl⟩ : ∃ v : Nat, b = (v : Int) := ⟨b.natAbs, by omega⟩
      rw [itoa_nn] at h
      rw [digits_inj h]
theorem parse_yes {n : Int} (h : -1000000000 < n ∧ n < 1000000000) : parseI (Lib.itoa n) = some n := parseI_itoa (by omega) (by omega)
theorem parse_no {n : Int} (h : ¬ (-1000000000 < n ∧ n < 1000000000)) : parseI (Lib.itoa n) = none := by
  cases hp : parseI (Lib.itoa n) with
  | none => rfl
  | some m =>
    obtain ⟨h1, h2, h3⟩ := parseI_some hp
    have := itoa_inj h1
    omega
end Go.Proofs.YtcdcpfcmhmhdjaaDoor
