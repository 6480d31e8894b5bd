/- DecodeVarint and its law. -/
import Derived.Test.YtcdcpfcmhmhdjaaDoorEnc
import Derived.Test.YtcdcpfcmhmhdjaaDoorStr
namespace Go.Proofs.YtcdcpfcmhmhdjaaDoor
open Go.RowKit
/-- The number of groups of seven bits, the lowest first. -/
def lowV : List Nat → Nat
  | [] => 0
  | b :: l => b % 128 + 128 * lowV l
theorem lowV_append (l : List Nat) (b : Nat) : lowV (l ++ [b]) = lowV l + (b % 128) * 128 ^ l.length := by
  induction l with
  | nil => simp [lowV]
  | cons c l ih => simp only [List.cons_append, lowV, ih, List.length_cons, Nat.pow_succ]; rw [Nat.mul_add, Nat.mul_comm (128 ^ l.length) 128, Nat.mul_left_comm]; omega
theorem lowV_lt (l : List Nat) : lowV l < 128 ^ l.length := by
  induction l with
  | nil => simp [lowV]
  | cons c l ih => simp only [lowV, List.length_cons, Nat.pow_succ]; have := Nat.mod_lt c (show 0 < 128 by decide); omega
theorem lowV_7 {l : List Nat} (h : l.length ≤ 7) : lowV l ≤ 562949953421311 := by
  have h1 := lowV_lt l
  have h2 : 128 ^ l.length ≤ 128 ^ 7 := Nat.pow_le_pow_right (by decide) h
  have h3 : 128 ^ 7 = 562949953421312 := by decide
  omega
theorem lowV_6 {l : List Nat} (h : l.length ≤ 6) : lowV l ≤ 4398046511103 := by
  have h1 := lowV_lt l
  have h2 : 128 ^ l.length ≤ 128 ^ 6 := Nat.pow_le_pow_right (by decide) h
  have h3 : 128 ^ 6 = 4398046511104 := by decide
  omega
theorem encV_range (n : Nat) : ∀ x ∈ encV n, 0 ≤ x ∧ x ≤ 255 := by
  induction n using Nat.strongRecOn with
  | _ n ih =>
    intro x hx
    by_cases h : n < 128
    · rw [encV_small h] at hx; simp at hx; omega
    · rw [encV_big h] at hx
      rcases List.mem_cons.1 hx with rfl | hx
      · omega
      · exact ih (n / 128) (by omega) x hx
/-- All but the last byte are raised; the last is not, and is not needless. -/
def GoodV : List Nat → Prop
  | [] => False
  | [b] => b < 128
  | b :: l => 128 ≤ b ∧ lowV l ≠ 0 ∧ GoodV l
theorem goodV_iff (l : List Nat) (hl : ∀ b ∈ l, b < 256) : encV (lowV l) = l.map (fun (b : Nat) => (b : Int)) ↔ GoodV l := by
  induction l with
  | nil => simp [GoodV, lowV, encV_small]
  | cons b l ih =>
    have hb := hl b (by simp)
    have ih := ih (fun c hc => hl c (by simp [hc]))
    cases l with
    | nil =>
      simp only [lowV, GoodV, List.map_cons, List.map_nil]
      rw [encV_small (by omega)]
      simp; omega
    | cons c l =>
      have e : lowV (b :: c :: l) = b % 128 + 128 * lowV (c :: l) := rfl
      by_cases h0 : lowV (c :: l) = 0
      · rw [e, h0, encV_small (by omega)]
        simp [GoodV, h0]
      · rw [e, encV_big (by omega), show (b % 128 + 128 * lowV (c :: l)) / 128 = lowV (c :: l) from by omega, show (b % 128 + 128 * lowV (c :: l)) % 128 = b % 128 from by omega]
        rw [List.map_cons, List.cons.injEq, ih]
        simp only [GoodV]
        constructor
        · rintro ⟨h1, h2⟩; exact ⟨by omega, h0, h2⟩
        · rintro ⟨h1, _, h2⟩; exact ⟨by omega, h2⟩
theorem goodV_last : ∀ (l : List Nat), GoodV l → ∃ m b, l = m ++ [b] ∧ b < 128 ∧ (∀ c ∈ m, 128 ≤ c) ∧ (m ≠ [] → b ≠ 0)
  | [], h => h.elim
  | [b], h => ⟨[], b, rfl, h, by simp, by simp⟩
  | b :: c :: l, h => by
    obtain ⟨h1, h2, h3⟩ := h
    obtain ⟨m, d, e, h4, h5, h6⟩ := goodV_last (c :: l) h3
    refine ⟨b :: m, d, by rw [e]; rfl, h4, by simpa using ⟨h1, h5⟩, fun _ => ?_⟩
    by_cases hm : m = []
    · subst hm
      simp at e
      obtain ⟨rfl, rfl⟩ := e
      intro h0; subst h0; exact h2 (by simp [lowV])
    · exact h6 hm
theorem goodV_mk : ∀ (m : List Nat) (b : Nat), b < 128 → (∀ c ∈ m, 128 ≤ c) → (m ≠ [] → b ≠ 0) → GoodV (m ++ [b])
  | [], b, h, _, _ => h
  | c :: m, b, h, h1, h2 => by
    have hb := h2 (by simp)
    have ih := goodV_mk m b h (fun d hd => h1 d (by simp [hd])) (fun _ => hb)
    cases hm : m ++ [b] with
    | nil => simp at hm
    | cons d l =>
      rw [List.cons_append, hm]
      refine ⟨h1 c (by simp), ?_, hm ▸ ih⟩
      rw [← hm, lowV_append]
      have : 0 < 128 ^ m.length := Nat.pow_pos (by decide)
      have : 0 < b % 128 * 128 ^ m.length := Nat.mul_pos (by omega) this
      omega
/-- What DecodeVarint tells of s. -/
def DecV (s : ByteArray) (a b : Int) : Prop :=
  (∃ k, 1 ≤ k ∧ k ≤ 7 ∧ k ≤ s.size ∧ GoodV ((nums s).take k) ∧ a = (lowV ((nums s).take k) : Int) ∧ b = (k : Int)) ∨ (a = 0 ∧ b = 0 ∧ ∀ k, 1 ≤ k → k ≤ 7 → k ≤ s.size → ¬ GoodV ((nums s).take k))
theorem goodV_one {s : ByteArray} {j k : Nat} (hj : j < k) (h1 : 1 ≤ j) (hk : k ≤ s.size) (gj : GoodV ((nums s).take j)) (gk : GoodV ((nums s).take k)) : False := by
  obtain ⟨m, b, e, hb, _, _⟩ := goodV_last _ gj
  obtain ⟨m', b', e', _, hm', _⟩ := goodV_last _ gk
  have hn := nums_len s
  have l1 : m.length + 1 = j := by have := congrArg List.length e; simp at this; omega
  have l2 : m'.length + 1 = k := by have := congrArg List.length e'; simp at this; omega
  have e1 : (nums s)[j - 1]? = some b := by
    have : ((nums s).take j)[j - 1]? = some b := by rw [e, List.getElem?_append_right (by omega)]; simp [show j - 1 - m.length = 0 from by omega]
    rwa [List.getElem?_take, if_pos (by omega)] at this
  have e2 : (m')[j - 1]? = some b := by
    have : ((nums s).take k)[j - 1]? = some b := by rw [List.getElem?_take, if_pos (by omega)]; exact e1
    rwa [e', List.getElem?_append_left (by omega)] at this
  have := hm' b (List.mem_of_getElem? e2)
  omega
theorem DecV.unique {s : ByteArray} {a b a' b' : Int} (h : DecV s a b) (h' : DecV s a' b') : a = a' ∧ b = b' := by
  rcases h with ⟨k, h1, h2, h3, h4, rfl, rfl⟩ | ⟨rfl, rfl, h⟩ <;> rcases h' with ⟨k', h1', h2', h3', h4', rfl, rfl⟩ | ⟨rfl, rfl, h'⟩
  · rcases Nat.lt_trichotomy k k' with hlt | rfl | hlt
    · exact (goodV_one hlt h1 h3' h4 h4').elim
    · exact ⟨rfl, rfl⟩
    · exact (goodV_one hlt h1' h3 h4' h4).elim
  · exact (h' k h1 h2 h3 h4).elim
  · exact (h k' h1' h2' h3' h4').elim
  · exact ⟨rfl, rfl⟩
theorem decV_stop {s : ByteArray} {k : Nat} (hk : k < s.size) (hall : ∀ c ∈ (nums s).take k, 128 ≤ c) (hb : s[k].toNat < 128) (h7 : k < 7) (h : k = 0 ∨ s[k].toNat ≠ 0) : DecV s (lowV ((nums s).take (k + 1))) ((k : Int) + 1) := by
  refine Or.inl ⟨k + 1, by omega, by omega, by omega, ?_, rfl, by omega⟩
  rw [take_snoc (nums_get hk)]
  refine goodV_mk _ _ hb hall fun hm => ?_
  rcases h with rfl | h
  · simp at hm
  · exact h
theorem decV_none {s : ByteArray} {k : Nat} (hall : ∀ c ∈ (nums s).take k, 128 ≤ c) (hk : ∀ j, k < j → j ≤ 7 → j ≤ s.size → ¬ GoodV ((nums s).take j)) : DecV s 0 0 := by
  refine Or.inr ⟨rfl, rfl, fun j h1 h2 h3 hg => ?_⟩
  by_cases hjk : k < j
  · exact hk j hjk h2 h3 hg
  · obtain ⟨m, b, e, hb, _, _⟩ := goodV_last _ hg
    have := hall b (by
      have h4 : (nums s).take j = ((nums s).take k).take j := by rw [List.take_take, Nat.min_eq_left (by omega)]
      rw [h4] at e
      exact List.mem_of_mem_take (i := j) (by rw [e]; simp))
    omega
theorem decV_zero {s : ByteArray} {k : Nat} (hk : k < s.size) (h0 : 0 < k) (hall : ∀ c ∈ (nums s).take k, 128 ≤ c) (hb : s[k].toNat = 0) : DecV s 0 0 := by
  refine decV_none hall fun j hj h7 hl hg => ?_
  obtain ⟨m, b, e, hlt, hm, hz⟩ := goodV_last _ hg
  have hn := nums_len s
  have l1 : m.length + 1 = j := by have := congrArg List.length e; simp at this; omega
  have e1 : ((nums s).take j)[k]? = some 0 := by rw [List.getElem?_take, if_pos hj, nums_get hk, hb]
  rw [e] at e1
  by_cases hlast : k < m.length
  · rw [List.getElem?_append_left hlast] at e1
    have := hm 0 (List.mem_of_getElem? e1); omega
  · rw [List.getElem?_append_right (by omega), show k - m.length = 0 from by omega] at e1
    simp at e1
    subst e1
    exact hz (by intro h; subst h; simp at l1; omega) rfl
theorem raise_all {s : ByteArray} {k : Nat} (hk : k < s.size) (hall : ∀ c ∈ (nums s).take k, 128 ≤ c) (hb : 128 ≤ s[k].toNat) : ∀ c ∈ (nums s).take (k + 1), 128 ≤ c := by
  rw [take_snoc (nums_get hk)]
  intro c hc
  rcases List.mem_append.1 hc with h | h
  · exact hall c h
  · simp at h; omega
theorem lowV_wrap {s : ByteArray} {k m : Nat} (hk : k < s.size) (h7 : k < 7) (hm : m = lowV ((nums s).take k)) :
    wrap64 ((m : Int) + wrap64 ((s[k].toNat : Int) % 128 * 2 ^ (7 * k))) = ((lowV ((nums s).take (k + 1)) : Nat) : Int) := by
  have hn := nums_len s
  have h1 : (2 : Int) ^ (7 * k) = ((128 ^ k : Nat) : Int) := by rw [Int.pow_mul, Int.natCast_pow]; rfl
  have h2 : 128 ^ k ≤ 128 ^ 6 := Nat.pow_le_pow_right (by decide) (by omega)
  have h3 : 128 ^ 6 = 4398046511104 := by decide
  have h4 : lowV ((nums s).take k) ≤ 4398046511103 := lowV_6 (by simp; omega)
  have h5 : (s[k].toNat % 128) * 128 ^ k ≤ 127 * 128 ^ k := Nat.mul_le_mul_right _ (by omega)
  have h6 : (s[k].toNat : Int) % 128 * 2 ^ (7 * k) = ((s[k].toNat % 128 * 128 ^ k : Nat) : Int) := by rw [h1]; simp
  rw [take_snoc (nums_get hk), lowV_append, List.length_take, Nat.min_eq_left (by omega), h6, ← hm]
  rw [← hm] at h4
  generalize s[k].toNat % 128 * 128 ^ k = z at *
  generalize 128 ^ k = y at *
  rw [IntWalk.wrap64_in (z : Int) (by omega), IntWalk.wrap64_in _ (by omega)]
  rfl
theorem lowV_down {s : ByteArray} {p m V : Nat} (hp : p < s.size) (h : V = lowV ((nums s).take (p + 1)) + m * 128 ^ (p + 1)) : V = lowV ((nums s).take p) + (m * 128 + s[p].toNat % 128) * 128 ^ p := by
  have hn := nums_len s
  rw [h, take_snoc (nums_get hp), lowV_append, List.length_take, Nat.min_eq_left (by omega), Nat.pow_succ, Nat.add_mul, Nat.mul_assoc m 128, Nat.mul_comm 128 (128 ^ p)]
  omega
theorem lowV_bd {l l' : List Nat} {m p : Nat} (hl : l.length ≤ 7) (h : lowV l = lowV l' + m * 128 ^ p) : m ≤ 562949953421311 := by
  have h1 := lowV_7 hl
  have h2 : m * 1 ≤ m * 128 ^ p := Nat.mul_le_mul_left _ (Nat.pow_pos (by decide))
  omega
theorem take_bytes (s : ByteArray) (K : Nat) : (s.extract 0 K).toList = s.data.toList.take K := by
  rw [ByteArray.toList_eq, ByteArray.data_extract]; simp
theorem decV_cmp {s : ByteArray} {K m : Nat} (h7 : K ≤ 7) (hK : K ≤ s.size) (hm : m = lowV ((nums s).take K)) : (encVarint (m : Int)).toList = (s.extract 0 K).toList ↔ GoodV ((nums s).take K) := by
  have hn := nums_len s
  have hb : m ≤ 562949953421311 := by rw [hm]; exact lowV_7 (by simp; omega)
  rw [← goodV_iff _ (fun b hb => nums_lt (List.mem_of_mem_take hb)), ← hm, take_bytes, ByteArray.toList_eq]
  unfold encVarint
  rw [if_pos ⟨by omega, by omega⟩, strOfNums_data, Int.toNat_natCast]
  unfold nums
  rw [← List.map_take, List.map_map]
  constructor
  · intro h
    rw [← h, List.map_map]
    refine (List.map_id' _).symm.trans (List.map_congr_left fun n hn => ?_)
    have := encV_range m n hn
    simp only [Function.comp]
    have h2 : n.toNat < 256 := by omega
    rw [show (UInt8.ofNat n.toNat).toNat = n.toNat from Nat.mod_eq_of_lt h2]; omega
  · intro h
    rw [h, List.map_map]
    conv => rhs; rw [← List.map_id (s.data.toList.take K)]
    refine List.map_congr_left fun b _ => ?_
    simp
theorem ret_int2 {a b c d : Int} (h : a = c) (h' : b = d) : Ending.returned (.tuple #[.int .i64 a, .int .i64 b]) = .returned (.tuple #[.int .i64 c, .int .i64 d]) := by rw [h, h']
set_option maxRecDepth 100000 in
set_option maxHeartbeats 1000000 in
theorem impl_DecodeVarint (s : ByteArray) (w : World) (hs : s.size ≤ 9223372036854775807) :
    Calls Tryd.prog 25 #[.string s] w fun e w' => ∃ a b, e = .returned (.tuple #[.int .i64 a, .int .i64 b]) ∧ Hid (DecV s a b) ∧ w = w' := by
  go_enter Tryd.func25, Tryd.ntmps25
  go_wp2
  go_loop [4, 5] (fun n i => ∃ k m : Nat, k ≤ 7 ∧ k ≤ s.size ∧ n = .int .i64 m ∧ i = .int .i64 k ∧ Hid (m = lowV ((nums s).take k)) ∧ Hid (∀ c ∈ (nums s).take k, 128 ≤ c)) (fun _ i => 7 - (intOf i).toNat)
  case atStart => exact ⟨0, 0, by omega, by omega, rfl, rfl, Lib.hid (by simp [lowV]), Lib.hid (by simp)⟩
  case round =>
    obtain ⟨k, m, h7, hk, rfl, rfl, hm, hall⟩ := hrel
    by_cases hlt : k < s.size
    · by_cases hlt7 : k < 7
      · have hby : s[k].toNat ≤ 255 := by have := UInt8.toNat_lt s[k]; omega
        go_wp2
        · go_ret2
          have hz : ((s[k].toNat : Int) == 0) = true := by assumption
          have h0 : 0 < k := by assumption
          exact ⟨0, 0, rfl, Lib.hid (decV_zero hlt h0 hall.out (by simpa using hz)), rfl⟩
        · go_ret2
          have hz : ((s[k].toNat : Int) == 0) = false := by assumption
          have hl : (s[k].toNat : Int) < 128 := by assumption
          exact ⟨_, _, ret_int2 (lowV_wrap hlt hlt7 hm.out) rfl, Lib.hid (decV_stop hlt hall.out (by omega) hlt7 (Or.inr (by simpa using hz))), rfl⟩
        · go_ret2
          have h0 : ¬ 0 < k := by assumption
          have hl : (s[k].toNat : Int) < 128 := by assumption
          exact ⟨_, _, ret_int2 (lowV_wrap hlt hlt7 hm.out) rfl, Lib.hid (decV_stop hlt hall.out (by omega) hlt7 (Or.inl (by omega))), rfl⟩
        · have hb : (128 : Int) ≤ (s[k].toNat : Int) := by assumption
          go_round
          case rel => exact ⟨k + 1, lowV ((nums s).take (k + 1)), by omega, by omega, congrArg _ (lowV_wrap hlt hlt7 hm.out), by go_num, Lib.hid rfl, Lib.hid (raise_all hlt hall.out (by omega))⟩
          case measure => simp [intOf]; omega
      · go_wp2
        go_ret2
        exact ⟨0, 0, rfl, Lib.hid (decV_none hall.out (fun j h1 h2 => by omega)), rfl⟩
    · go_wp2
      go_ret2
      exact ⟨0, 0, rfl, Lib.hid (decV_none hall.out (fun j h1 h2 h3 => by omega)), rfl⟩
end Go.Proofs.YtcdcpfcmhmhdjaaDoor
