/- ParseSet: the plain law: what the two readers make is one and the same. No program in sight. -/
import Derived.Test.YtcdcpfcmhmhdjaaDoorCutP
import Derived.Test.YtcdcpfcmhmhdjaaDoorSpanP
namespace Go.Proofs.YtcdcpfcmhmhdjaaDoor
open Go.RowKit
theorem dg_all (u : Nat) : ∀ b ∈ Lib.decDigits u, isDg b = true := by
  refine dec_ind (p := fun u => ∀ b ∈ Lib.decDigits u, isDg b = true) (fun u h => ?_) (fun u h ih => ?_) u
  · rw [decDigits_small h]; intro b hb; rw [List.mem_singleton.1 hb]; exact (isDg_of h).1
  · rw [decDigits_big h]
    intro b hb
    rcases List.mem_append.1 hb with h1 | h1
    · exact ih b h1
    · rw [List.mem_singleton.1 h1]; exact (isDg_of (show u % 10 < 10 from by omega)).1
theorem itoa_dg {n : Int} (h : 0 ≤ n) : ∀ b ∈ Lib.itoa n, isDg b = true := by
  obtain ⟨u, rfl⟩ : ∃ u : Nat, n = (u : Int) := ⟨n.natAbs, by omega⟩
  rw [itoa_nn]; exact dg_all u
theorem dg_ne {b c : UInt8} (h : isDg b = true) (hc : isDg c = false) : b ≠ c := by rintro rfl; rw [h] at hc; cases hc
def numV (p : List UInt8) : Int := (parseI p).getD (-100000)
theorem numV_itoa {n : Int} (h : -999999999 ≤ n) (h' : n ≤ 999999999) : numV (Lib.itoa n) = n := by unfold numV; rw [parseI_itoa h h']; rfl
/-- The numbers from a to b. -/
def rng (a b : Int) : List Int := (List.range (b - a + 1).toNat).map fun k : Nat => a + (k : Int)
theorem rng_len (a b : Int) : (rng a b).length = (b - a + 1).toNat := by simp [rng]
theorem rng_none {a b : Int} (h : b < a) : rng a b = [] := List.eq_nil_of_length_eq_zero (by rw [rng_len]; omega)
theorem rng_get {a b : Int} {k : Nat} (h : k < (rng a b).length) : (rng a b)[k] = a + (k : Int) := by simp [rng]
/-- What the first k of them are. -/
def rngK (a : Int) (k : Nat) : List Int := (List.range k).map fun k : Nat => a + (k : Int)
theorem rngK_snoc (a : Int) (k : Nat) : rngK a (k + 1) = rngK a k ++ [a + (k : Int)] := by simp [rngK, List.range_succ]
theorem rngK_all (a b : Int) : rngK a (b - a + 1).toNat = rng a b := rfl
def wA (p : List UInt8) : Int := numV ((cutL 45 p).getD 0 [])
def wB (p : List UInt8) : Int := if (cutL 45 p).length = 2 then numV ((cutL 45 p).getD 1 []) else wA p
def wOk (p : List UInt8) : Bool := decide ((cutL 45 p).length ≤ 2) && (inB (wA p) 0 23 && inB (wB p) (wA p) 23)
def specAll : List (List UInt8) → List Int → Option (List Int)
  | [], acc => some acc
  | p :: ps, acc => if wOk p then specAll ps (acc ++ rng (wA p) (wB p)) else none
def implWord (p : List UInt8) : Option (Int × Int) := match Lib.cut p [45] with
  | (f, r, is) => match parseI f with
    | none => none
    | some a => if is then (match parseI r with | none => none | some b => some (a, b)) else some (a, a)
def implAll : List (List UInt8) → List Int → Option (List Int)
  | [], acc => some acc
  | p :: ps, acc => match implWord p with
    | none => none
    | some (a, b) => if 0 ≤ a ∧ b < 24 ∧ acc.length ≤ 24 then implAll ps (acc ++ rng a b) else none
def noneT : List UInt8 := [110, 111, 110, 101]
def chk (l : List UInt8) : Option (List Int) → Option (List Int)
  | some out => if setText out = l then some out else none
  | none => none
def specSet (l : List UInt8) : Option (List Int) := if l = noneT then some [] else chk l (specAll (cutL 32 l) [])
def implSet (l : List UInt8) : Option (List Int) := if l = noneT then some [] else chk l (implAll (cutL 32 l) [])
theorem word_spec {a b : Int} (h0 : 0 ≤ a) (h1 : a ≤ b) (h2 : b ≤ 23) {p : List UInt8} (hp : (p = Lib.itoa a ∧ a = b) ∨ p = Lib.itoa a ++ 45 :: Lib.itoa b) : wOk p = true ∧ wA p = a ∧ wB p = b ∧ implWord p = some (a, b) := by
  have hd : isDg 45 = false := by decide
  have ha : ∀ x ∈ Lib.itoa a, x ≠ 45 := fun x hx => dg_ne (itoa_dg h0 x hx) hd
  have hb : ∀ x ∈ Lib.itoa b, x ≠ 45 := fun x hx => dg_ne (itoa_dg (by omega) x hx) hd
  have na := numV_itoa (n := a) (by omega) (by omega)
  have nb := numV_itoa (n := b) (by omega) (by omega)
  have pa := parseI_itoa (n := a) (by omega) (by omega)
  have pb := parseI_itoa (n := b) (by omega) (by omega)
  rcases hp with ⟨rfl, rfl⟩ | rfl
  · have hc := cutL_lone ha
    have e1 : wA (Lib.itoa a) = a := by unfold wA; rw [hc]; exact na
    have e2 : wB (Lib.itoa a) = a := by unfold wB; rw [hc, if_neg (by simp)]; exact e1
    refine ⟨?_, e1, e2, ?_⟩
    · unfold wOk; rw [hc, e1, e2, inB_mk (by omega) (by omega), inB_mk (by omega) (by omega)]; rfl
    · rcases cut_cut 45 (Lib.itoa a) with ⟨_, h⟩ | ⟨x, y, h, _, _, _⟩
      · unfold implWord; rw [h]; simp only [pa]; rfl
      · exact absurd rfl (ha 45 (by rw [h]; simp))
  · have hc : cutL 45 (Lib.itoa a ++ 45 :: Lib.itoa b) = [Lib.itoa a, Lib.itoa b] := by rw [cutL_two ha, cutL_lone hb]
    have e1 : wA (Lib.itoa a ++ 45 :: Lib.itoa b) = a := by unfold wA; rw [hc]; exact na
    have e2 : wB (Lib.itoa a ++ 45 :: Lib.itoa b) = b := by unfold wB; rw [hc]; exact nb
    refine ⟨?_, e1, e2, ?_⟩
    · unfold wOk; rw [hc, e1, e2, inB_mk (by omega) (by omega), inB_mk (by omega) (by omega)]; rfl
    · rcases cut_cut 45 (Lib.itoa a ++ 45 :: Lib.itoa b) with ⟨h, _⟩ | ⟨x, y, h, hx, h3, h4⟩
      · rw [hc] at h; simp at h
      · rw [hc] at h3
        have e3 := List.cons.inj h3
        have e4 : x = Lib.itoa a := e3.1.symm
        subst e4
        have e5 : y = Lib.itoa b := by
          have := List.append_cancel_left h
          exact ((List.cons.inj this).2).symm
        subst e5
        unfold implWord; rw [h4]; simp only [pa, pb]; rfl
theorem run_val (l : List Int) (i : Nat) : ∀ j, i ≤ j → j ≤ endOf l i → l.getD j 0 = l.getD i 0 + ((j - i : Nat) : Int) := by
  intro j h1 h2
  by_cases hij : i = j
  · subst hij; simp
  · by_cases hc : i + 1 < l.length ∧ l.getD (i + 1) 0 = l.getD i 0 + 1
    · rw [endOf_go hc.1 hc.2] at h2
      rw [run_val l (i + 1) j (by omega) h2, hc.2]
      omega
    · rw [endOf_stop hc] at h2; omega
termination_by l.length - i
decreasing_by omega
theorem take_run {l : List Int} {i : Nat} (hi : i < l.length) : l.take i ++ rng (l.getD i 0) (l.getD (endOf l i) 0) = l.take (endOf l i + 1) := by
  have he := endOf_lt l i hi
  have hg := endOf_ge l i
  have hv := run_val l i (endOf l i) hg (Nat.le_refl _)
  have hr : (rng (l.getD i 0) (l.getD (endOf l i) 0)).length = endOf l i + 1 - i := by rw [rng_len, hv]; omega
  apply List.ext_getElem
  · rw [List.length_append, hr, List.length_take, List.length_take]; omega
  · intro k h1 h2
    have hk : k < endOf l i + 1 := by rw [List.length_take] at h2; omega
    rw [List.getElem_take]
    by_cases h3 : k < i
    · rw [List.getElem_append_left (by rw [List.length_take]; omega), List.getElem_take]
    · have h4 : (l.take i).length ≤ k := by rw [List.length_take]; omega
      rw [List.getElem_append_right h4, rng_get]
      have h5 := run_val l i k (by omega) (by omega)
      rw [getD_lt (by omega : k < l.length)] at h5
      rw [h5, List.length_take]
      have : min i l.length = i := by omega
      rw [this]
theorem word_of {l : List Int} (hs : isSetB l = true) {i : Nat} (hi : i < l.length) : 0 ≤ l.getD i 0 ∧ l.getD i 0 ≤ l.getD (endOf l i) 0 ∧ l.getD (endOf l i) 0 ≤ 23 ∧ ((wordOf l i (endOf l i) = Lib.itoa (l.getD i 0) ∧ l.getD i 0 = l.getD (endOf l i) 0) ∨ wordOf l i (endOf l i) = Lib.itoa (l.getD i 0) ++ 45 :: Lib.itoa (l.getD (endOf l i) 0)) := by
  have he := endOf_lt l i hi
  have hg := endOf_ge l i
  have hv := run_val l i (endOf l i) hg (Nat.le_refl _)
  have hb := isSet_bound hs
  have b1 := hb i hi
  have b2 := hb (endOf l i) he
  rw [← getD_lt hi (d := 0)] at b1
  rw [← getD_lt he (d := 0)] at b2
  refine ⟨b1.1, by omega, b2.2, ?_⟩
  by_cases h : i < endOf l i
  · right; exact wordOf_run h
  · left
    have : endOf l i = i := by omega
    exact ⟨wordOf_lone h, by rw [this]⟩
theorem specAll_words {l : List Int} (hs : isSetB l = true) (i : Nat) (hi : i ≤ l.length) : specAll (wordsFrom l i) (l.take i) = some l := by
  by_cases h : i < l.length
  · obtain ⟨h0, h1, h2, hw⟩ := word_of hs h
    obtain ⟨k1, k2, k3, _⟩ := word_spec h0 h1 h2 hw
    rw [wordsFrom_go h, specAll, if_pos k1, k2, k3, take_run h]
    exact specAll_words hs (endOf l i + 1) (endOf_lt l i h)
  · have : i = l.length := by omega
    subst this
    rw [wordsFrom_end h, List.take_length]; rfl
termination_by l.length - i
decreasing_by have := endOf_ge l i; omega
theorem implAll_words {l : List Int} (hs : isSetB l = true) (i : Nat) (hi : i ≤ l.length) : implAll (wordsFrom l i) (l.take i) = some l := by
  by_cases h : i < l.length
  · obtain ⟨h0, h1, h2, hw⟩ := word_of hs h
    obtain ⟨_, _, _, k4⟩ := word_spec h0 h1 h2 hw
    have hl := isSetB_len hs
    rw [wordsFrom_go h, implAll, k4]
    simp only
    rw [if_pos ⟨h0, by omega, by rw [List.length_take]; omega⟩, take_run h]
    exact implAll_words hs (endOf l i + 1) (endOf_lt l i h)
  · have : i = l.length := by omega
    subst this
    rw [wordsFrom_end h, List.take_length]; rfl
termination_by l.length - i
decreasing_by have := endOf_ge l i; omega
theorem words_sp {l : List Int} (hs : isSetB l = true) (i : Nat) : ∀ w ∈ wordsFrom l i, ∀ b ∈ w, b ≠ 32 := by
  by_cases h : i < l.length
  · rw [wordsFrom_go h]
    intro w hw
    rcases List.mem_cons.1 hw with rfl | hw
    · obtain ⟨h0, h1, h2, hw⟩ := word_of hs h
      have hd : isDg 32 = false := by decide
      have ha : ∀ x ∈ Lib.itoa (l.getD i 0), x ≠ 32 := fun x hx => dg_ne (itoa_dg h0 x hx) hd
      have hb : ∀ x ∈ Lib.itoa (l.getD (endOf l i) 0), x ≠ 32 := fun x hx => dg_ne (itoa_dg (by omega) x hx) hd
      rcases hw with ⟨e, _⟩ | e
      · rw [e]; exact ha
      · rw [e]
        intro x hx
        rcases List.mem_append.1 hx with h3 | h3
        · exact ha x h3
        · rcases List.mem_cons.1 h3 with rfl | h3
          · decide
          · exact hb x h3
    · exact words_sp hs (endOf l i + 1) w hw
  · rw [wordsFrom_end h]; intro w hw; simp at hw
termination_by l.length - i
decreasing_by have := endOf_ge l i; omega
theorem cut_setText {l : List Int} (hs : isSetB l = true) (hn : l ≠ []) : cutL 32 (setText l) = wordsFrom l 0 := by
  rw [setText_yes hs hn]
  refine cutL_join _ ?_ (words_sp hs 0)
  rw [wordsFrom_go (List.length_pos_iff.2 hn)]; simp
theorem chk_some {l : List UInt8} {o : Option (List Int)} {out : List Int} (h : chk l o = some out) : o = some out ∧ setText out = l := by
  unfold chk at h
  split at h
  · split at h
    · rename_i hc; injection h with h; subst h; exact ⟨rfl, hc⟩
    · cases h
  · cases h
theorem chk_pos {l : List UInt8} {out : List Int} (h : setText out = l) : chk l (some out) = some out := if_pos h
theorem good_out {l : List UInt8} {out : List Int} (h : setText out = l) (hl : l ≠ noneT) (h0 : l ≠ []) : isSetB out = true ∧ out ≠ [] := by
  constructor
  · cases hs : isSetB out with
    | true => rfl
    | false => rw [setText_no hs] at h; exact absurd h.symm h0
  · rintro rfl; rw [setText_nil] at h; exact hl h.symm
theorem spec_nil (acc : List Int) : specAll (cutL 32 []) acc = none := by
  have : wOk [] = false := by decide +kernel
  simp [cutL, specAll, this]
theorem impl_nil (acc : List Int) : implAll (cutL 32 []) acc = none := by
  have : implWord [] = none := by decide +kernel
  simp [cutL, implAll, this]
theorem specSet_eq (l : List UInt8) : specSet l = implSet l := by
  unfold specSet implSet
  by_cases hl : l = noneT
  · rw [if_pos hl, if_pos hl]
  · rw [if_neg hl, if_neg hl]
    by_cases h0 : l = []
    · subst h0; rw [spec_nil, impl_nil]
    · cases h1 : chk l (specAll (cutL 32 l) []) with
      | some out =>
        obtain ⟨_, h3⟩ := chk_some h1
        obtain ⟨h4, h5⟩ := good_out h3 hl h0
        have h6 := implAll_words h4 0 (Nat.zero_le _)
        rw [← cut_setText h4 h5, h3] at h6
        simp only [List.take_zero] at h6
        rw [h6]; exact (chk_pos h3).symm
      | none =>
        cases h2 : chk l (implAll (cutL 32 l) []) with
        | none => rfl
        | some out =>
          obtain ⟨_, h3⟩ := chk_some h2
          obtain ⟨h4, h5⟩ := good_out h3 hl h0
          have h6 := specAll_words h4 0 (Nat.zero_le _)
          rw [← cut_setText h4 h5, h3] at h6
          simp only [List.take_zero] at h6
          rw [h6, chk_pos h3] at h1; cases h1
end Go.Proofs.YtcdcpfcmhmhdjaaDoor
