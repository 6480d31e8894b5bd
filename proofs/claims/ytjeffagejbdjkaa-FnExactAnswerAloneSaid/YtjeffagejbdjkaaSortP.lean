/- Sorting in place by blocks and merges, as the library's stable sort does it: plain laws on arrays whose only change is a swap. No program in sight. -/
import Derived.Sort.LotA
namespace Go.Proofs.Ytjeffagejbdjkaa
open Go.Sort
variable {α : Type} [Inhabited α] {lt : α → α → Bool}

/-- The rows from x and from y, n long, have changed places. -/
structure Swapped (x y n : Nat) (d d' : Array α) : Prop where
  size : d'.size = d.size
  at_ : ∀ k, d'[k]! = if x ≤ k ∧ k < x + n then d[k - x + y]! else if y ≤ k ∧ k < y + n then d[k - y + x]! else d[k]!
theorem Swapped.zero (x y : Nat) (d : Array α) : Swapped x y 0 d d := ⟨rfl, fun k => by rw [if_neg (by omega), if_neg (by omega)]⟩
theorem Swapped.step {x y i n : Nat} {d d' : Array α} (h : Swapped x y i d d') (hi : i < n) (hxy : x + n ≤ y) (hy : y + n ≤ d.size) : Swapped x y (i + 1) d (swp d' (x + i) (y + i)) := by
  have hs := h.size
  refine ⟨by rw [swp_size, hs], fun k => ?_⟩
  rw [swp_get d' (by omega) (by omega), h.at_ k, h.at_ (x + i), h.at_ (y + i)]
  rw [if_neg (show ¬ (x ≤ x + i ∧ x + i < x + i) by omega), if_neg (show ¬ (y ≤ x + i ∧ x + i < y + i) by omega), if_neg (show ¬ (x ≤ y + i ∧ y + i < x + i) by omega), if_neg (show ¬ (y ≤ y + i ∧ y + i < y + i) by omega)]
  repeat' split
  all_goals first | rfl | (exfalso; omega) | (refine congrArg (fun z => d[z]!) ?_; omega)
theorem Swapped.step_perm {x y i n : Nat} {d d' : Array α} (hp : PermIn x (y + n) d d') (hi : i < n) (hxy : x + n ≤ y) (hy : y + n ≤ d.size) : PermIn x (y + n) d (swp d' (x + i) (y + i)) :=
  permIn_trans _ _ _ _ _ hp (swp_permIn _ _ _ _ _ (by omega) (by omega) (by omega) (by omega) (by rw [hp.1]; omega))
/-- The rows i long below m and j long from m on have been exchanged. -/
structure Rot (m i j : Nat) (d d' : Array α) : Prop where
  size : d'.size = d.size
  at_ : ∀ k, d'[k]! = if m - i ≤ k ∧ k < m - i + j then d[k + i]! else if m - i + j ≤ k ∧ k < m + j then d[k - j]! else d[k]!
theorem Rot.same {m i : Nat} {d d' : Array α} (h : Swapped (m - i) m i d d') (hi : i ≤ m) : Rot m i i d d' := by
  refine ⟨h.size, fun k => ?_⟩
  rw [h.at_ k]
  repeat' split
  all_goals first | rfl | (exfalso; omega) | (refine congrArg (fun z => d[z]!) ?_; omega)
theorem Rot.up {m i j : Nat} {d d' d'' : Array α} (h : Swapped (m - i) m j d d') (hj : j < i) (hi : i ≤ m) (k : Rot m (i - j) j d' d'') : Rot m i j d d'' := by
  refine ⟨k.size.trans h.size, fun p => ?_⟩
  rw [k.at_ p, h.at_ p, h.at_ (p + (i - j)), h.at_ (p - j)]
  repeat' split
  all_goals first | rfl | (exfalso; omega) | (refine congrArg (fun z => d[z]!) ?_; omega)
theorem Rot.lo {m i j : Nat} {d d' d'' : Array α} (h : Swapped (m - i) (m + j - i) i d d') (hj : i < j) (hi : i ≤ m) (k : Rot m i (j - i) d' d'') : Rot m i j d d'' := by
  refine ⟨k.size.trans h.size, fun p => ?_⟩
  rw [k.at_ p, h.at_ p, h.at_ (p + i), h.at_ (p - (j - i))]
  repeat' split
  all_goals first | rfl | (exfalso; omega) | (refine congrArg (fun z => d[z]!) ?_; omega)

/-! ### One element into a sorted row -/
/-- The element at a has moved up to q. -/
structure MovedUp (a q : Nat) (d d' : Array α) : Prop where
  size : d'.size = d.size
  at_ : ∀ k, d'[k]! = if a ≤ k ∧ k < q then d[k + 1]! else if k = q then d[a]! else d[k]!
theorem MovedUp.zero (a : Nat) (d : Array α) : MovedUp a a d d := ⟨rfl, fun k => by
  rw [if_neg (by omega)]; split
  · rename_i h; rw [h]
  · rfl⟩
theorem MovedUp.step {a q : Nat} {d d' : Array α} (h : MovedUp a q d d') (ha : a ≤ q) (hq : q + 1 < d.size) : MovedUp a (q + 1) d (swp d' q (q + 1)) := by
  have hs := h.size
  refine ⟨by rw [swp_size, hs], fun k => ?_⟩
  rw [swp_get d' (by omega) (by omega), h.at_ k, h.at_ q, h.at_ (q + 1)]
  repeat' split
  all_goals first | rfl | (exfalso; omega) | (refine congrArg (fun z => d[z]!) ?_; omega)
/-- The element at m has moved down to q. -/
structure MovedDown (m q : Nat) (d d' : Array α) : Prop where
  size : d'.size = d.size
  at_ : ∀ k, d'[k]! = if k = q then d[m]! else if q < k ∧ k ≤ m then d[k - 1]! else d[k]!
theorem MovedDown.zero (m : Nat) (d : Array α) : MovedDown m m d d := ⟨rfl, fun k => by
  split
  · rename_i h; rw [h]
  · rw [if_neg (by omega)]⟩
theorem MovedDown.step {m q : Nat} {d d' : Array α} (h : MovedDown m (q + 1) d d') (hm : q + 1 ≤ m) (hq : m < d.size) : MovedDown m q d (swp d' (q + 1) q) := by
  have hs := h.size
  refine ⟨by rw [swp_size, hs], fun k => ?_⟩
  rw [swp_get d' (by omega) (by omega), h.at_ k, h.at_ q, h.at_ (q + 1)]
  repeat' split
  all_goals first | rfl | (exfalso; omega) | (refine congrArg (fun z => d[z]!) ?_; omega)
theorem permIn_one (a : Nat) {d d' : Array α} {b : Nat} (hp : PermIn a b d d') {i j : Nat} (hi : a ≤ i ∧ i < b) (hj : a ≤ j ∧ j < b) (hb : b ≤ d.size) : PermIn a b d (swp d' i j) :=
  permIn_trans _ _ _ _ _ hp (swp_permIn _ _ _ _ _ hi.1 hi.2 hj.1 hj.2 (by rw [hp.1]; exact hb))
theorem sorted_one (a b : Nat) (h : b ≤ a + 1) (d : Array α) : SortedIn lt a b d := fun i j h1 h2 h3 => by omega
/-- The left of two sorted rows is one element. -/
theorem sorted_up (hS : SWO lt) {a b i : Nat} {d d' : Array α} (hs : SortedIn lt (a + 1) b d) (hi : a + 1 ≤ i) (hib : i ≤ b) (h1 : ∀ k, a + 1 ≤ k → k < i → lt d[k]! d[a]! = true) (h2 : ∀ k, i ≤ k → k < b → lt d[k]! d[a]! = false) (hm : MovedUp a (i - 1) d d') : SortedIn lt a b d' := by
  intro p q hp hpq hq
  rw [hm.at_ p, hm.at_ q]
  by_cases q1 : q < i - 1
  · rw [if_pos (show a ≤ q ∧ q < i - 1 by omega), if_pos (show a ≤ p ∧ p < i - 1 by omega)]
    exact hs _ _ (by omega) (by omega) (by omega)
  · by_cases q2 : q = i - 1
    · rw [if_neg (show ¬ (a ≤ q ∧ q < i - 1) by omega), if_pos q2, if_pos (show a ≤ p ∧ p < i - 1 by omega)]
      exact hS.asymmA (h1 _ (by omega) (by omega))
    · rw [if_neg (show ¬ (a ≤ q ∧ q < i - 1) by omega), if_neg q2]
      by_cases p1 : p < i - 1
      · rw [if_pos (show a ≤ p ∧ p < i - 1 by omega)]; exact hs _ _ (by omega) (by omega) (by omega)
      · rw [if_neg (show ¬ (a ≤ p ∧ p < i - 1) by omega)]
        by_cases p2 : p = i - 1
        · rw [if_pos p2]; exact h2 _ (by omega) (by omega)
        · rw [if_neg p2]; exact hs _ _ (by omega) hpq hq
/-- The right of two sorted rows is one element. -/
theorem sorted_down (hS : SWO lt) {a m i : Nat} {d d' : Array α} (hs : SortedIn lt a m d) (hi : a ≤ i) (him : i ≤ m) (h1 : ∀ k, a ≤ k → k < i → lt d[m]! d[k]! = false) (h2 : ∀ k, i ≤ k → k < m → lt d[m]! d[k]! = true) (hm : MovedDown m i d d') : SortedIn lt a (m + 1) d' := by
  intro p q hp hpq hq
  rw [hm.at_ p, hm.at_ q]
  by_cases p1 : p = i
  · rw [if_pos p1, if_neg (by omega), if_pos (by omega)]; exact hS.asymmA (h2 _ (by omega) (by omega))
  · rw [if_neg p1]
    by_cases p2 : i < p ∧ p ≤ m
    · rw [if_pos p2, if_neg (by omega), if_pos (by omega)]; exact hs _ _ (by omega) (by omega) (by omega)
    · rw [if_neg p2]
      by_cases q1 : q = i
      · rw [if_pos q1]; exact h1 _ hp (by omega)
      · rw [if_neg q1]
        by_cases q2 : i < q ∧ q ≤ m
        · rw [if_pos q2]
          by_cases e : p = q - 1
          · exfalso; omega
          · exact hs _ _ hp (by omega) (by omega)
        · rw [if_neg q2]; exact hs _ _ hp hpq (by omega)
/-- Below an element that is less than x all are less than x. -/
theorem less_below (hS : SWO lt) {a b h : Nat} {d : Array α} {x : α} (hs : SortedIn lt a b d) (hb : h < b) (hx : lt d[h]! x = true) : ∀ k, a ≤ k → k ≤ h → lt d[k]! x = true := by
  intro k hk hkh
  by_cases e : k = h
  · rw [e]; exact hx
  · cases hc : lt d[k]! x with
    | true => rfl
    | false => have := hS.ntrans _ _ _ (hs k h hk (by omega) hb) hc; rw [this] at hx; cases hx
theorem less_above (hS : SWO lt) {a b h : Nat} {d : Array α} {x : α} (hs : SortedIn lt a b d) (ha : a ≤ h) (hx : lt d[h]! x = false) : ∀ k, h ≤ k → k < b → lt d[k]! x = false := by
  intro k hk hkb
  by_cases e : k = h
  · rw [e]; exact hx
  · exact hS.ntrans _ _ _ (hs h k ha (by omega) hkb) hx
theorem more_below (hS : SWO lt) {a b h : Nat} {d : Array α} {x : α} (hs : SortedIn lt a b d) (hb : h < b) (hx : lt x d[h]! = false) : ∀ k, a ≤ k → k ≤ h → lt x d[k]! = false := by
  intro k hk hkh
  by_cases e : k = h
  · rw [e]; exact hx
  · exact hS.ntrans _ _ _ hx (hs k h hk (by omega) hb)
theorem more_above (hS : SWO lt) {a b h : Nat} {d : Array α} {x : α} (hs : SortedIn lt a b d) (ha : a ≤ h) (hx : lt x d[h]! = true) : ∀ k, h ≤ k → k < b → lt x d[k]! = true := by
  intro k hk hkb
  by_cases e : k = h
  · rw [e]; exact hx
  · cases hc : lt x d[k]! with
    | true => rfl
    | false => have := hS.ntrans _ _ _ hc (hs h k ha (by omega) hkb); rw [this] at hx; cases hx
/-- The two rows' elements at c and at p - c, seen as c grows: once less, less ever after. -/
theorem pair_below (hS : SWO lt) {a m b p c : Nat} {d : Array α} (h1 : SortedIn lt a m d) (h2 : SortedIn lt m b d) (hc : c < m) (hp : m ≤ p - c) (hx : lt d[p - c]! d[c]! = false) : ∀ k, a ≤ k → k ≤ c → p - k < b → lt d[p - k]! d[k]! = false := by
  intro k hk hkc hb
  have q1 := more_below hS h1 hc hx k hk hkc
  by_cases e : p - k = p - c
  · rw [e]; exact q1
  · exact hS.ntrans _ _ _ (h2 (p - c) (p - k) hp (by omega) hb) q1
theorem pair_above (hS : SWO lt) {a m b p c : Nat} {d : Array α} (h1 : SortedIn lt a m d) (h2 : SortedIn lt m b d) (hc : a ≤ c) (hp : p - c < b) (hx : lt d[p - c]! d[c]! = true) : ∀ k, c ≤ k → k < m → m ≤ p - k → lt d[p - k]! d[k]! = true := by
  intro k hk hkm hm
  have q1 := more_above hS h1 hc hx k hk hkm
  by_cases e : p - k = p - c
  · rw [e]; exact q1
  · cases hl : lt d[p - k]! d[k]! with
    | true => rfl
    | false => have := hS.ntrans _ _ _ (h2 (p - k) (p - c) hm (by omega) hp) hl; rw [this] at q1; cases q1
/-- What the search finds: the rotation leaves two halves, each of two sorted rows, the lower half nowhere above the upper. -/
theorem sym_halves (hS : SWO lt) {a m b mid s st r0 : Nat} {d d' : Array α} (h1 : SortedIn lt a m d) (h2 : SortedIn lt m b d) (ham : a < m) (hmb : m < b) (hmid : mid = (a + b) / 2)
    (hs : s = if m > mid then mid + m - b else a) (hr : r0 = if m > mid then mid else m) (hst : s ≤ st) (hsr : st ≤ r0)
    (lo : ∀ c, s ≤ c → c < st → lt d[mid + m - 1 - c]! d[c]! = false) (hi : ∀ c, st ≤ c → c < r0 → lt d[mid + m - 1 - c]! d[c]! = true)
    (hR : Rot m (m - st) (mid + m - st - m) d d') :
    SortedIn lt a st d' ∧ SortedIn lt st mid d' ∧ SortedIn lt mid (mid + m - st) d' ∧ SortedIn lt (mid + m - st) b d' ∧ ∀ p q, a ≤ p → p < mid → mid ≤ q → q < b → lt d'[q]! d'[p]! = false := by
  have hsm : st ≤ m := by rw [hr] at hsr; split at hsr <;> omega
  have hsd : st ≤ mid := by rw [hr] at hsr; split at hsr <;> omega
  have hes : a ≤ s := by rw [hs]; split <;> omega
  have heb : mid + m - st ≤ b := by
    rw [hs] at hst; split at hst <;> omega
  have g : ∀ k, d'[k]! = if st ≤ k ∧ k < mid then d[k + (m - st)]! else if mid ≤ k ∧ k < mid + m - st then d[k - (mid - st)]! else d[k]! := by
    intro k; rw [hR.at_ k]
    have e1 : m - (m - st) = st := by omega
    have e2 : mid + m - st - m = mid - st := by omega
    rw [e1, e2]
    have e3 : st + (mid - st) = mid := by omega
    have e4 : m + (mid - st) = mid + m - st := by omega
    rw [e3, e4]
  have gL : ∀ k, k < st → d'[k]! = d[k]! := fun k hk => by rw [g k, if_neg (by omega), if_neg (by omega)]
  have gR1 : ∀ k, st ≤ k → k < mid → d'[k]! = d[k + (m - st)]! := fun k h h' => by rw [g k, if_pos ⟨h, h'⟩]
  have gL2 : ∀ k, mid ≤ k → k < mid + m - st → d'[k]! = d[k - (mid - st)]! := fun k h h' => by rw [g k, if_neg (by omega), if_pos ⟨h, h'⟩]
  have gR2 : ∀ k, mid + m - st ≤ k → d'[k]! = d[k]! := fun k h => by rw [g k, if_neg (by omega), if_neg (by omega)]
  refine ⟨fun i j h h' h'' => ?_, fun i j h h' h'' => ?_, fun i j h h' h'' => ?_, fun i j h h' h'' => ?_, fun p q hp hpm hq hqb => ?_⟩
  · rw [gL i (by omega), gL j (by omega)]; exact h1 _ _ h h' (by omega)
  · rw [gR1 i h (by omega), gR1 j (by omega) h'']; exact h2 _ _ (by omega) (by omega) (by omega)
  · rw [gL2 i h (by omega), gL2 j (by omega) h'']; exact h1 _ _ (by omega) (by omega) (by omega)
  · rw [gR2 i h, gR2 j (by omega)]; exact h2 _ _ (by omega) h' h''
  · -- the border
    have bLR : ∀ k e, a ≤ k → k < st → mid + m - st ≤ e → e < b → lt d[e]! d[k]! = false := by
      intro k e hk hks he heb'
      have hlo : s ≤ st - 1 := by
        rw [hs] at hst ⊢; split at hst <;> rename_i hc <;> simp only [hc, if_true, if_false] <;> omega
      have := lo (st - 1) hlo (by omega)
      rw [show mid + m - 1 - (st - 1) = mid + m - st by omega] at this
      have k1 := more_below hS h1 (h := st - 1) (by omega) this k hk (by omega)
      by_cases ee : e = mid + m - st
      · rw [ee]; exact k1
      · exact hS.ntrans _ _ _ (h2 (mid + m - st) e (by omega) (by omega) heb') k1
    have bRL : ∀ k e, st ≤ k → k < m → m ≤ e → e < mid + m - st → lt d[k]! d[e]! = false := by
      intro k e hk hkm he hee
      have hlt : st < r0 := by
        rw [hr] at hsr ⊢; split at hsr <;> rename_i hc <;> simp only [hc, if_true, if_false] <;> omega
      have := hS.asymmA (hi st (Nat.le_refl _) hlt)
      rw [show mid + m - 1 - st = mid + m - st - 1 by omega] at this
      have k1 : lt d[k]! d[mid + m - st - 1]! = false := by
        by_cases ek : k = st
        · rw [ek]; exact this
        · exact hS.ntrans _ _ _ (h1 st k (by omega) (by omega) hkm) this
      by_cases ee : e = mid + m - st - 1
      · rw [ee]; exact k1
      · exact hS.ntrans _ _ _ k1 (h2 e (mid + m - st - 1) he (by omega) (by omega))
    by_cases p1 : p < st
    · rw [gL p p1]
      by_cases q1 : q < mid + m - st
      · rw [gL2 q hq q1]; exact h1 _ _ hp (by omega) (by omega)
      · rw [gR2 q (by omega)]; exact bLR _ _ hp p1 (by omega) hqb
    · rw [gR1 p (by omega) hpm]
      by_cases q1 : q < mid + m - st
      · rw [gL2 q hq q1]; exact bRL _ _ (by omega) (by omega) (by omega) (by omega)
      · rw [gR2 q (by omega)]; exact h2 _ _ (by omega) (by omega) hqb
/-- Two sorted halves, the lower nowhere above the upper. -/
theorem sorted_join {a mid b : Nat} {d : Array α} (h1 : SortedIn lt a mid d) (h2 : SortedIn lt mid b d) (h : ∀ p q, a ≤ p → p < mid → mid ≤ q → q < b → lt d[q]! d[p]! = false) : SortedIn lt a b d := by
  intro p q hp hpq hq
  by_cases q1 : q < mid
  · exact h1 _ _ hp hpq q1
  · by_cases p1 : p < mid
    · exact h _ _ hp p1 (by omega) hq
    · exact h2 _ _ (by omega) hpq hq
theorem sorted_other {a b x y : Nat} {d d' : Array α} (h : SortedIn lt a b d) (hp : PermIn x y d d') (ho : b ≤ x ∨ y ≤ a) : SortedIn lt a b d' := by
  intro p q hp' hpq hq
  rw [hp.2.1 p (by omega), hp.2.1 q (by omega)]; exact h _ _ hp' hpq hq
/-- The border between two halves stands when each is permuted in itself. -/
theorem cross_left {a mid b : Nat} {d d' : Array α} (hb : mid ≤ d.size) (hp : PermIn a mid d d') (h : ∀ p q, a ≤ p → p < mid → mid ≤ q → q < b → lt d[q]! d[p]! = false) : ∀ p q, a ≤ p → p < mid → mid ≤ q → q < b → lt d'[q]! d'[p]! = false := by
  intro p q h1 h2 h3 h4
  rw [hp.2.1 q (by omega)]
  exact permIn_all d d' a mid (fun x => lt d[q]! x = false) hb hp (fun i hi hi' => h i q hi hi' h3 h4) p h1 h2
theorem cross_right {a mid b : Nat} {d d' : Array α} (hb : b ≤ d.size) (hp : PermIn mid b d d') (h : ∀ p q, a ≤ p → p < mid → mid ≤ q → q < b → lt d[q]! d[p]! = false) : ∀ p q, a ≤ p → p < mid → mid ≤ q → q < b → lt d'[q]! d'[p]! = false := by
  intro p q h1 h2 h3 h4
  rw [hp.2.1 p (by omega)]
  exact permIn_all d d' mid b (fun x => lt x d[p]! = false) hb hp (fun i hi hi' => h p i h1 h2 hi hi') q h3 h4
/-- Sorted block by block. -/
def Blocks (lt : α → α → Bool) (s n : Nat) (d : Array α) : Prop := ∀ q, SortedIn lt (q * s) (min (q * s + s) n) d
/-- The first q blocks. -/
def Blocked (lt : α → α → Bool) (s q : Nat) (d : Array α) : Prop := ∀ k, k < q → SortedIn lt (k * s) (k * s + s) d
theorem Blocked.zero (s : Nat) (d : Array α) : Blocked lt s 0 d := fun k hk => by omega
theorem mul_le_pred {k q s : Nat} (h : k < q) : k * s + s ≤ q * s := by
  have : (k + 1) * s ≤ q * s := Nat.mul_le_mul_right _ h
  rwa [Nat.add_mul, Nat.one_mul] at this
theorem Blocked.step {s q y : Nat} {d d' : Array α} (h : Blocked lt s q d) (hp : PermIn (q * s) y d d') (hs : SortedIn lt (q * s) (q * s + s) d') : Blocked lt s (q + 1) d' := by
  intro k hk
  by_cases e : k = q
  · rw [e]; exact hs
  · exact sorted_other (h k (by omega)) hp (Or.inl (mul_le_pred (by omega)))
theorem Blocked.all {s q n : Nat} {d d' : Array α} (h : Blocked lt s q d) (hn : q * s ≤ n) (hn' : n ≤ q * s + s) (hp : PermIn (q * s) n d d') (hs : SortedIn lt (q * s) n d') : Blocks lt s n d' := by
  intro k
  by_cases e : k < q
  · have := mul_le_pred (s := s) e
    rw [Nat.min_eq_left (by omega)]
    exact sorted_other (h k e) hp (Or.inl this)
  · by_cases e2 : k = q
    · rw [e2, Nat.min_eq_right hn']; exact hs
    · have := mul_le_pred (s := s) (show q < k by omega)
      intro i j h1 h2 h3; omega
/-- Some blocks of twice the size, the rest as it was. -/
def Merged (lt : α → α → Bool) (s q n : Nat) (d : Array α) : Prop := Blocked lt (2 * s) q d ∧ ∀ k, 2 * q ≤ k → SortedIn lt (k * s) (min (k * s + s) n) d
theorem Merged.start {s n : Nat} {d : Array α} (h : Blocks lt s n d) : Merged lt s 0 n d := ⟨Blocked.zero _ _, fun k _ => h k⟩
theorem two_mul_s (q s : Nat) : q * (2 * s) = 2 * q * s := by rw [← Nat.mul_assoc, Nat.mul_comm q 2]
theorem succ_mul_s (q s : Nat) : (2 * q + 1) * s = q * (2 * s) + s := by rw [Nat.add_mul, Nat.one_mul, two_mul_s]
theorem Merged.left {s q n : Nat} {d : Array α} (h : Merged lt s q n d) (hn : q * (2 * s) + s ≤ n) : SortedIn lt (q * (2 * s)) (q * (2 * s) + s) d := by
  have := h.2 (2 * q) (Nat.le_refl _)
  rw [← two_mul_s, Nat.min_eq_left hn] at this; exact this
theorem Merged.right {s q n : Nat} {d : Array α} (h : Merged lt s q n d) (hn : q * (2 * s) + 2 * s ≤ n) : SortedIn lt (q * (2 * s) + s) (q * (2 * s) + 2 * s) d := by
  have := h.2 (2 * q + 1) (by omega)
  rw [succ_mul_s, Nat.min_eq_left (by omega)] at this
  rw [show q * (2 * s) + 2 * s = q * (2 * s) + s + s by omega]; exact this
theorem Merged.last {s q n : Nat} {d : Array α} (h : Merged lt s q n d) (hn : n ≤ q * (2 * s) + 2 * s) : SortedIn lt (q * (2 * s) + s) n d := by
  have := h.2 (2 * q + 1) (by omega)
  rw [succ_mul_s, Nat.min_eq_right (by omega)] at this; exact this
theorem Merged.lone {s q n : Nat} {d : Array α} (h : Merged lt s q n d) (hn : n ≤ q * (2 * s) + s) : SortedIn lt (q * (2 * s)) n d := by
  have := h.2 (2 * q) (Nat.le_refl _)
  rw [← two_mul_s, Nat.min_eq_right hn] at this; exact this
theorem Merged.step {s q n : Nat} {d d' : Array α} (h : Merged lt s q n d) (hp : PermIn (q * (2 * s)) (q * (2 * s) + 2 * s) d d') (hs : SortedIn lt (q * (2 * s)) (q * (2 * s) + 2 * s) d') : Merged lt s (q + 1) n d' := by
  refine ⟨h.1.step hp hs, fun k hk => sorted_other (h.2 k (by omega)) hp (Or.inr ?_)⟩
  have := Nat.mul_le_mul_right s hk
  rw [show 2 * (q + 1) = 2 * q + 1 + 1 by omega, Nat.add_mul, Nat.one_mul, succ_mul_s] at this
  omega
theorem Merged.done {s q n : Nat} {d d' : Array α} (h : Merged lt s q n d) (hn : q * (2 * s) ≤ n) (hn' : n ≤ q * (2 * s) + 2 * s) (hp : PermIn (q * (2 * s)) n d d') (hs : SortedIn lt (q * (2 * s)) n d') : Blocks lt (2 * s) n d' := h.1.all hn hn' hp hs
theorem Blocks.sorted {s n : Nat} {d : Array α} (h : Blocks lt s n d) (hn : n ≤ s) : SortedIn lt 0 n d := by
  have := h 0
  rw [Nat.zero_mul, Nat.min_eq_right (by omega)] at this; exact this
end Go.Proofs.Ytjeffagejbdjkaa
