/- Memory of one's own: a slice whose row, and whatever its elements hold, lies in blocks of one set, each apart from the others. No program in sight. -/
import Derived.Test.YtcdcpfcmhmhdjaaGreatDoorInts
namespace Go.Proofs.YtcdcpfcmhmhdjaaGreatDoor
open Go.RowKit
/-- Blocks from lo up to hi. -/
def In (lo hi b : Nat) : Prop := lo ≤ b ∧ b < hi
/-- The blocks of F stand as they stood. -/
def Agree (F : Nat → Prop) (w w' : World) : Prop := ∀ b, F b → b < w.heap.size → w'.heap[b]? = w.heap[b]?
theorem Agree.refl (F : Nat → Prop) (w : World) : Agree F w w := fun _ _ _ => rfl
theorem Gr.agree {w w' : World} (h : Gr w w') (F : Nat → Prop) : Agree F w w' := fun b _ hb => h.block b hb
theorem Agree.mono {F F' : Nat → Prop} {w w' : World} (h : Agree F' w w') (k : ∀ b, F b → F' b) : Agree F w w' := fun b hb hl => h b (k b hb) hl
theorem Agree.setCell {F : Nat → Prop} {w w' : World} (h : Agree F w w') {p : Addr} (hp : ∀ b, F b → b ≠ p.block) (u : Value) : Agree F w (w'.setCell p u) := fun b hb hl => by rw [Below.heap_setCell _ _ _ _ (hp b hb)]; exact h b hb hl
theorem Loc.agree {lo : Nat} {w w' : World} (h : Loc lo w w') {F : Nat → Prop} (k : ∀ b, F b → lo ≤ b) : Agree F w w' := fun b hb hl => h.2 b (k b hb) hl
/-- Nothing outside F has changed; memory only grew. -/
structure Chg (F : Nat → Prop) (w w' : World) : Prop where
  os : w'.os = w.os
  tape : w'.tape = w.tape
  output : w'.output = w.output
  size : w.heap.size ≤ w'.heap.size
  block : ∀ b, b < w.heap.size → ¬ F b → w'.heap[b]? = w.heap[b]?
theorem Chg.refl (F : Nat → Prop) (w : World) : Chg F w w := ⟨rfl, rfl, rfl, Nat.le_refl _, fun _ _ _ => rfl⟩
theorem Chg.trans {F : Nat → Prop} {a b c : World} (h : Chg F a b) (k : Chg F b c) : Chg F a c :=
  ⟨k.os.trans h.os, k.tape.trans h.tape, k.output.trans h.output, Nat.le_trans h.size k.size, fun i hi hn => (k.block i (Nat.lt_of_lt_of_le hi h.size) hn).trans (h.block i hi hn)⟩
theorem Chg.mono {F F' : Nat → Prop} {w w' : World} (h : Chg F w w') (k : ∀ b, F b → F' b) : Chg F' w w' := ⟨h.os, h.tape, h.output, h.size, fun b hb hn => h.block b hb (fun hf => hn (k b hf))⟩
theorem Chg.setCell {F : Nat → Prop} {a w : World} (h : Chg F a w) {p : Addr} (hp : F p.block) (u : Value) : Chg F a (w.setCell p u) :=
  h.trans ⟨rfl, rfl, rfl, by simp [World.setCell], fun b _ hn => Below.heap_setCell _ _ _ _ (fun e => hn (e ▸ hp))⟩
theorem Chg.alloc {F : Nat → Prop} {a w : World} (h : Chg F a w) (o : Obj) : Chg F a (w.alloc o) :=
  h.trans ⟨rfl, rfl, rfl, by simp, fun b hb _ => Below.heap_alloc w o b hb⟩
theorem Chg.drew {F : Nat → Prop} {a w : World} (h : Chg F a w) : Chg F a w.drew := ⟨h.os, h.tape, h.output, h.size, h.block⟩
theorem Chg.below {F : Nat → Prop} {w w' : World} (h : Chg F w w') {B : Nat} (hB : ∀ b, F b → B ≤ b) (hw : B ≤ w.heap.size) : Below B w w' :=
  ⟨h.os, h.tape, h.output, h.size, fun b hb => h.block b (by omega) (fun hf => by have := hB b hf; omega)⟩
theorem Chg.agree {F G : Nat → Prop} {w w' : World} (h : Chg F w w') (k : ∀ b, G b → ¬ F b) : Agree G w w' := fun b hb hl => h.block b hl (k b hb)
/-- The cells of n elements, sz each. -/
def flatC (sz n : Nat) (cs : Nat → List Value) : List Value := (List.range (n * sz)).map fun p => (cs (p / sz)).getD (p % sz) undef
theorem flatC_len (sz n : Nat) (cs : Nat → List Value) : (flatC sz n cs).length = n * sz := by simp [flatC]
theorem flatC_get (sz n : Nat) (cs : Nat → List Value) (p : Nat) : (flatC sz n cs)[p]? = if p < n * sz then some ((cs (p / sz)).getD (p % sz) undef) else none := by
  unfold flatC; by_cases h : p < n * sz <;> simp [h]
theorem fillC_flat (sz n : Nat) (z : List Value) (cs : Nat → List Value) (hs : 0 < sz) : fillC sz n n z cs = flatC sz n cs := by
  apply List.ext_getElem?; intro p
  rw [fillC_get, flatC_get]
  by_cases h : p < n * sz
  · simp [h, (Nat.div_lt_iff_lt_mul hs).2 h]
  · simp [h]
theorem divmod {sz i j : Nat} (hj : j < sz) : (i * sz + j) / sz = i ∧ (i * sz + j) % sz = j := by
  have hs : 0 < sz := by omega
  constructor
  · rw [Nat.mul_comm, Nat.mul_add_div hs, Nat.div_eq_of_lt hj]; rfl
  · rw [Nat.mul_comm, Nat.mul_add_mod, Nat.mod_eq_of_lt hj]
theorem idx_lt {sz i j n : Nat} (hi : i < n) (hj : j < sz) : i * sz + j < n * sz := by
  have : (i + 1) * sz ≤ n * sz := Nat.mul_le_mul_right _ hi
  rw [Nat.add_mul] at this; omega
theorem flatC_at {sz n : Nat} {cs : Nat → List Value} {i j : Nat} (hi : i < n) (hj : j < sz) : (flatC sz n cs)[i * sz + j]? = some ((cs i).getD j undef) := by
  rw [flatC_get, if_pos (idx_lt hi hj), (divmod hj).1, (divmod hj).2]
theorem flatC_congr {sz n : Nat} {cs cs' : Nat → List Value} (h : ∀ i, i < n → cs i = cs' i) : flatC sz n cs = flatC sz n cs' := by
  unfold flatC
  refine List.map_congr_left fun p hp => ?_
  have hp : p < n * sz := by simpa using hp
  have hs : 0 < sz := Nat.pos_of_ne_zero fun e => by subst e; simp at hp
  rw [h _ ((Nat.div_lt_iff_lt_mul hs).2 hp)]
theorem flatC_snoc {sz n : Nat} {cs : Nat → List Value} {c : List Value} (hc : c.length = sz) : flatC sz (n + 1) (updC cs n c) = flatC sz n cs ++ c := by
  apply List.ext_getElem?; intro p
  rw [flatC_get, List.getElem?_append, flatC_len, flatC_get]
  by_cases hs : 0 < sz
  · by_cases h : p < n * sz
    · have h1 : p < (n + 1) * sz := by rw [Nat.add_mul]; omega
      have h2 : p / sz < n := (Nat.div_lt_iff_lt_mul hs).2 h
      rw [if_pos h, if_pos h, if_pos h1, updC_ne _ _ (by omega)]
    · rw [if_neg h]
      by_cases h1 : p < (n + 1) * sz
      · have h1' := h1
        rw [Nat.add_mul] at h1'
        obtain ⟨j, rfl⟩ : ∃ j, p = n * sz + j := ⟨p - n * sz, by omega⟩
        have hj : j < sz := by omega
        rw [if_pos h1, (divmod hj).1, (divmod hj).2, updC_at, Nat.add_sub_cancel_left]
        simp [hc, hj]
      · rw [if_neg h1, List.getElem?_eq_none]
        rw [Nat.add_mul] at h1; omega
  · have : sz = 0 := by omega
    subst this
    have : c = [] := List.eq_nil_of_length_eq_zero hc
    subst this
    simp
/-- v is a slice of xs; its row is a block of F, of its own; what its elements hold lies in F too, apart from the row and from one another. -/
def OSlE {α : Type} (t sz : Nat) (O : (Nat → Prop) → World → List Value → α → Prop) (F : Nat → Prop) (w : World) (v : Value) (xs : List α) (cs : Nat → List Value) : Prop :=
  w.ownsRow 0 t sz v xs.length (flatC sz xs.length cs) ∧ (∀ g, v.ownBlock = some g → F g) ∧ ∃ G : Nat → Nat → Prop, ∀ i (h : i < xs.length), (cs i).length = sz ∧ O (G i) w (cs i) xs[i] ∧ (∀ b, G i b → F b ∧ v.ownBlock ≠ some b) ∧ ∀ j, j < xs.length → j ≠ i → ∀ b, G i b → ¬ G j b
def OSl {α : Type} (t sz : Nat) (O : (Nat → Prop) → World → List Value → α → Prop) (F : Nat → Prop) (w : World) (v : Value) (xs : List α) : Prop := ∃ cs, OSlE t sz O F w v xs cs
def Framed {α : Type} (O : (Nat → Prop) → World → α → Prop) : Prop := ∀ F w w' x, Agree F w w' → O F w x → O F w' x
/-- The same, of elements. -/
def FramedE {α : Type} (O : (Nat → Prop) → World → List Value → α → Prop) : Prop := ∀ F w w' cs x, Agree F w w' → O F w cs x → O F w' cs x
def MonoE {α : Type} (O : (Nat → Prop) → World → List Value → α → Prop) : Prop := ∀ F F' w cs x, (∀ b, F b → F' b) → O F w cs x → O F' w cs x
section
variable {α : Type} {t sz : Nat} {O : (Nat → Prop) → World → List Value → α → Prop} {F F' : Nat → Prop} {w w' : World} {v : Value} {xs : List α} {cs : Nat → List Value}
theorem ownsRow_agree {n : Nat} {l : List Value} (h : w.ownsRow 0 t sz v n l) (k : ∀ g, v.ownBlock = some g → w'.heap[g]? = w.heap[g]?) : w'.ownsRow 0 t sz v n l := by
  refine ⟨h.1, ?_⟩
  rcases h.2 with h0 | ⟨g, cap, cur, hv, hb, hgg, r⟩
  · exact Or.inl h0
  · exact Or.inr ⟨g, cap, cur, hv, hb, by rw [k g (by rw [hv]; rfl)]; exact hgg, r⟩
theorem OSlE.frame (hO : FramedE O) (h : OSlE t sz O F w v xs cs) (k : Agree F w w') : OSlE t sz O F w' v xs cs := by
  obtain ⟨h1, h2, G, h3⟩ := h
  refine ⟨ownsRow_agree h1 fun g hg => k g (h2 g hg) (h1.lt g hg).2, h2, G, fun i hi => ?_⟩
  obtain ⟨a, b, c, d⟩ := h3 i hi
  exact ⟨a, hO _ _ _ _ _ (k.mono fun b hb => (c b hb).1) b, c, d⟩
theorem OSl.frame (hO : FramedE O) (h : OSl t sz O F w v xs) (k : Agree F w w') : OSl t sz O F w' v xs := by
  obtain ⟨cs, h⟩ := h; exact ⟨cs, h.frame hO k⟩
theorem OSl.gr (hO : FramedE O) (h : OSl t sz O F w v xs) (k : Gr w w') : OSl t sz O F w' v xs := h.frame hO (k.agree F)
theorem OSlE.mono (h : OSlE t sz O F w v xs cs) (k : ∀ b, F b → F' b) : OSlE t sz O F' w v xs cs := by
  obtain ⟨h1, h2, G, h3⟩ := h
  refine ⟨h1, fun g hg => k g (h2 g hg), G, fun i hi => ?_⟩
  obtain ⟨a, b, c, d⟩ := h3 i hi
  exact ⟨a, b, fun x hx => ⟨k x (c x hx).1, (c x hx).2⟩, d⟩
theorem OSl.mono (h : OSl t sz O F w v xs) (k : ∀ b, F b → F' b) : OSl t sz O F' w v xs := by
  obtain ⟨cs, h⟩ := h; exact ⟨cs, h.mono k⟩
theorem OSl.wide {lo hi lo' hi' : Nat} (h : OSl t sz O (In lo hi) w v xs) (h1 : lo' ≤ lo) (h2 : hi ≤ hi') : OSl t sz O (In lo' hi') w v xs := h.mono fun _ hb => ⟨Nat.le_trans h1 hb.1, Nat.lt_of_lt_of_le hb.2 h2⟩
theorem ownsRow_sl {lo n : Nat} {l : List Value} (h : w.ownsRow lo t sz v n l) : IsSl v := by
  rcases h.2 with ⟨rfl, _⟩ | ⟨g, cap, cur, rfl, _⟩ <;> exact ⟨_, _, _, rfl⟩
theorem OSl.isSl (h : OSl t sz O F w v xs) : IsSl v := by
  obtain ⟨cs, h, _⟩ := h; exact ownsRow_sl h
theorem OSl.loc {lo hi lo' : Nat} (hO : FramedE O) (h : OSl t sz O (In lo hi) w v xs) (k : Loc lo' w w') (hl : lo' ≤ lo) : OSl t sz O (In lo hi) w' v xs := h.frame hO (k.agree fun _ hb => Nat.le_trans hl hb.1)
theorem OSl.fresh {lo hi : Nat} {R : World → Value → List α → Prop} (h : OSl t sz O (In lo hi) w v xs) (hO : FramedE O) (hR : ∀ {w v}, OSl t sz O (In lo hi) w v xs → R w v xs) : Fresh lo R w v xs := fun _ k => hR (h.loc hO k (Nat.le_refl _))
theorem OSl.reads {R : World → List Value → α → Prop} (hR : ∀ F w cs x, O F w cs x → R w cs x) (h : OSl t sz O F w v xs) : RSlice sz R w v xs := by
  obtain ⟨cs, ⟨h1, h2⟩, _, G, h3⟩ := h
  rcases h2 with ⟨rfl, h0⟩ | ⟨g, cap, cur, rfl, _, hg, hn, hm, hs, ht⟩
  · exact ⟨none, 0, by simp [h0], by omega, by omega, fun i hi => absurd hi (by omega)⟩
  · refine ⟨_, cap, rfl, hn, by simpa [maxLen] using hm, fun i hi => ⟨g, 0, cs i, rfl, (h3 i hi).1, hR _ _ _ _ (h3 i hi).2.1, fun j hj => ?_⟩⟩
    have hjs : j < sz := by rw [← (h3 i hi).1]; exact hj
    have e : cur[i * sz + j]? = some ((cs i).getD j undef) := by
      have h4 : (cur.toList.take (xs.length * sz))[i * sz + j]? = some ((cs i).getD j undef) := by rw [ht]; exact flatC_at hi hjs
      rw [List.getElem?_take, if_pos (idx_lt hi hjs)] at h4
      simpa using h4
    simp [World.cell?, hg, e, hj]
/-- The row, of a base below which nothing of it lies. -/
theorem OSlE.row {lo : Nat} (h : OSlE t sz O F w v xs cs) (hlo : ∀ b, F b → lo ≤ b) : w.ownsRow lo t sz v xs.length (flatC sz xs.length cs) := by
  refine ⟨h.1.1, ?_⟩
  rcases h.1.2 with h0 | ⟨g, cap, cur, hv, _, r⟩
  · exact Or.inl h0
  · exact Or.inr ⟨g, cap, cur, hv, hlo g (h.2.1 g (by rw [hv]; rfl)), r⟩
theorem OSl.nil (w : World) : OSl t sz O F w (.slice none 0 0) [] := ⟨fun _ => [], ⟨by simp [flatC], Or.inl ⟨rfl, rfl⟩⟩, (fun _ hg => by cases hg), fun _ _ => False, fun i hi => absurd hi (Nat.not_lt_zero _)⟩
theorem OSl.made (w : World) (hF : F w.heap.size) : OSl t sz O F (w.alloc (.cells #[] t)) (.slice (some ⟨w.heap.size, 0, none⟩) 0 0) [] :=
  ⟨fun _ => [], ⟨by simp [flatC], Or.inr ⟨_, 0, #[], rfl, Nat.zero_le _, heap_alloc_new w _, Nat.le_refl _, Nat.zero_le _, by simp, by simp [flatC]⟩⟩, fun g hg => by cases hg; exact hF, fun _ _ => False, fun i hi => absurd hi (Nat.not_lt_zero _)⟩
/-- One element more, laid by an append. -/
theorem OSlE.push {lo a b : Nat} {w1 : World} {v' : Value} {c : List Value} {y : α} (hO : FramedE O) (h : OSlE t sz O (In lo w.heap.size) w v xs cs) (hlo : lo ≤ w.heap.size) (hg : Gr w w1) (hy : O (In a b) w1 c y) (ha : w.heap.size ≤ a) (hb : b ≤ w1.heap.size) (hc : c.length = sz)
    (hrow : w'.ownsRow lo t sz v' (xs.length + 1) (flatC sz xs.length cs ++ c)) (hw : w1.heap.size ≤ w'.heap.size) (hb' : ∀ g, v'.ownBlock = some g → v.ownBlock = some g ∨ w1.heap.size ≤ g)
    (hk : ∀ k, k < w1.heap.size → v.ownBlock ≠ some k → w'.heap[k]? = w1.heap[k]?) : OSlE t sz O (In lo w'.heap.size) w' v' (xs ++ [y]) (updC cs xs.length c) := by
  obtain ⟨h1, h2, G, h3⟩ := h
  have hsz := hg.size
  refine ⟨?_, fun g hgv => hrow.lt g hgv, fun i => if i = xs.length then In a b else G i, fun i hi => ?_⟩
  · have := hrow
    rw [List.length_append, List.length_singleton, flatC_snoc hc]
    refine ⟨this.1, ?_⟩
    rcases this.2 with h0 | ⟨g, cap, cur, hv, _, r⟩
    · exact Or.inl h0
    · exact Or.inr ⟨g, cap, cur, hv, Nat.zero_le _, r⟩
  · by_cases e : i = xs.length
    · subst e
      refine ⟨by rw [updC_at]; exact hc, ?_, ?_, ?_⟩
      · rw [updC_at]
        simp only [if_true, List.getElem_concat_length]
        refine hO _ _ _ _ _ (fun k hk' hl => hk k hl fun hv => ?_) hy
        have := (h1.lt k hv).2
        have := hk'.1
        omega
      · simp only [if_true]
        intro k hk'
        refine ⟨⟨by have := hk'.1; omega, by have := hk'.2; omega⟩, fun hv => ?_⟩
        rcases hb' k hv with hv | hv
        · have := (h1.lt k hv).2; have := hk'.1; omega
        · have := hk'.2; omega
      · intro j hj hne k hk'
        simp only [if_true] at hk'
        simp only [if_neg hne]
        intro hkj
        have := ((h3 j (by simp at hj; omega)).2.2.1 k hkj).1.2
        have := hk'.1
        omega
    · have hi' : i < xs.length := by simp at hi; omega
      obtain ⟨q1, q2, q3, q4⟩ := h3 i hi'
      refine ⟨by rw [updC_ne _ _ e]; exact q1, ?_, ?_, ?_⟩
      · rw [updC_ne _ _ e]
        simp only [if_neg e, List.getElem_append_left hi']
        refine hO _ _ _ _ _ (fun k hk' hl => ?_) q2
        rw [hk k (by omega) (q3 k hk').2, hg.block k hl]
      · simp only [if_neg e]
        intro k hk'
        refine ⟨⟨(q3 k hk').1.1, by have := (q3 k hk').1.2; omega⟩, fun hv => ?_⟩
        rcases hb' k hv with hv | hv
        · exact (q3 k hk').2 hv
        · have := (q3 k hk').1.2; omega
      · intro j hj hne k hk'
        simp only [if_neg e] at hk'
        by_cases ej : j = xs.length
        · simp only [if_pos ej]
          intro hkj
          have := (q3 k hk').1.2
          have := hkj.1
          omega
        · simp only [if_neg ej]
          exact q4 j (by simp at hj; omega) hne k hk'
/-- Elements without a row: what the first of a row hold that is being filled. -/
def ElemsO (O : (Nat → Prop) → World → List Value → α → Prop) (sz lo : Nat) (w : World) (ys : List α) (cs : Nat → List Value) : Prop :=
  ∃ G : Nat → Nat → Prop, ∀ i (h : i < ys.length), (cs i).length = sz ∧ O (G i) w (cs i) ys[i] ∧ (∀ b, G i b → lo ≤ b ∧ b < w.heap.size) ∧ ∀ j, j < ys.length → j ≠ i → ∀ b, G i b → ¬ G j b
theorem ElemsO.zero {lo : Nat} : ElemsO O sz lo w [] cs := ⟨fun _ _ => False, fun _ hi => absurd hi (Nat.not_lt_zero _)⟩
theorem ElemsO.snoc {lo a b : Nat} {W : World} {ys : List α} {c : List Value} {y : α} (hO : FramedE O) (h : ElemsO O sz lo w ys cs) (hlo : lo ≤ w.heap.size) (hs : w.heap.size ≤ W.heap.size) (hag : Agree (In lo w.heap.size) w W) (hy : O (In a b) W c y) (ha : w.heap.size ≤ a) (hb : b ≤ W.heap.size) (hc : c.length = sz) :
    ElemsO O sz lo W (ys ++ [y]) (updC cs ys.length c) := by
  obtain ⟨G, h3⟩ := h
  refine ⟨fun i => if i = ys.length then In a b else G i, fun i hi => ?_⟩
  by_cases e : i = ys.length
  · subst e
    refine ⟨by rw [updC_at]; exact hc, by rw [updC_at]; simp only [if_true, List.getElem_concat_length]; exact hy, ?_, ?_⟩
    · simp only [if_true]
      intro k hk'
      exact ⟨by have := hk'.1; omega, by have := hk'.2; omega⟩
    · intro j hj hne k hk'
      simp only [if_true] at hk'
      simp only [if_neg hne]
      intro hkj
      have := ((h3 j (by simp at hj; omega)).2.2.1 k hkj).2
      have := hk'.1
      omega
  · have hi' : i < ys.length := by simp at hi; omega
    obtain ⟨q1, q2, q3, q4⟩ := h3 i hi'
    refine ⟨by rw [updC_ne _ _ e]; exact q1, ?_, ?_, ?_⟩
    · rw [updC_ne _ _ e]
      simp only [if_neg e, List.getElem_append_left hi']
      exact hO _ _ _ _ _ (hag.mono fun b hb => q3 b hb) q2
    · simp only [if_neg e]
      intro k hk'
      exact ⟨(q3 k hk').1, by have := (q3 k hk').2; omega⟩
    · intro j hj hne k hk'
      simp only [if_neg e] at hk'
      by_cases ej : j = ys.length
      · simp only [if_pos ej]
        intro hkj
        have := (q3 k hk').2
        have := hkj.1
        omega
      · simp only [if_neg ej]
        exact q4 j (by simp at hj; omega) hne k hk'
theorem ElemsO.step {lo a b k : Nat} {W : World} {c : List Value} (hO : FramedE O) (h : ElemsO O sz lo w (xs.take k) cs) (hk : k < xs.length) (hlo : lo ≤ w.heap.size) (hs : w.heap.size ≤ W.heap.size) (hag : Agree (In lo w.heap.size) w W) (hy : O (In a b) W c xs[k]) (ha : w.heap.size ≤ a) (hb : b ≤ W.heap.size) (hc : c.length = sz) :
    ElemsO O sz lo W (xs.take (k + 1)) (updC cs k c) := by
  have := h.snoc hO hlo hs hag hy ha hb hc
  rw [List.take_succ_eq_append_getElem hk]
  rwa [List.length_take, Nat.min_eq_left (Nat.le_of_lt hk)] at this
theorem fill_own {lo g : Nat} {z : List Value} (hs : 0 < sz) (hg : w.heap[g]? = some (.cells (fillC sz xs.length xs.length z cs).toArray t (0, 0))) (hcs : ElemsO O sz (g + 1) w (xs.take xs.length) cs) (hlo : lo ≤ g) (hb : xs.length ≤ 9223372036854775807) :
    OSl t sz O (In lo w.heap.size) w (.slice (some ⟨g, 0, none⟩) xs.length xs.length) xs := by
  rw [List.take_length] at hcs
  obtain ⟨G, h3⟩ := hcs
  have hlt := (Array.getElem?_eq_some_iff.1 hg).1
  rw [fillC_flat sz _ z cs hs] at hg
  refine ⟨cs, ⟨flatC_len _ _ _, Or.inr ⟨g, xs.length, _, rfl, Nat.zero_le _, hg, Nat.le_refl _, by simpa [maxLen] using hb, by simp [flatC_len], by simp only; exact List.take_of_length_le (by rw [flatC_len]; exact Nat.le_refl _)⟩⟩,
    fun k hk => by cases hk; exact ⟨hlo, hlt⟩, G, fun i hi => ?_⟩
  obtain ⟨q1, q2, q3, q4⟩ := h3 i hi
  refine ⟨q1, q2, fun k hk => ⟨⟨by have := (q3 k hk).1; omega, (q3 k hk).2⟩, fun e => ?_⟩, q4⟩
  have h5 := (q3 k hk).1
  have h6 : g = k := Option.some.inj e
  omega
end
end Go.Proofs.YtcdcpfcmhmhdjaaGreatDoor
