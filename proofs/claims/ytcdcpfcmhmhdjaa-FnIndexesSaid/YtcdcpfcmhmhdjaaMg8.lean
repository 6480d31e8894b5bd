/- append(out, x) onto a row of one's own whose blocks are any set; a row whose element has been changed for one with other blocks. No program in sight. -/
import Derived.Test.YtcdcpfcmhmhdjaaOwnPush
import Derived.Test.YtcdcpfcmhmhdjaaMg2
import Derived.Test.YtcdcpfcmhmhdjaaStabiR
import Derived.Test.YtcdcpfcmhmhdjaaMg5
import Derived.Test.YtcdcpfcmhmhdjaaMg6
namespace Go.Proofs.Ytcdcpfcmhmhdjaa
open Go.ChangeShapes Go.WideShapes Go.RowKit Go.Deep
section
variable {α : Type} {P : Program} {O : (Nat → Prop) → World → List Value → α → Prop} {ops : Array Oper} {o : Oper} {a : Act} {Q : Exit → Act → World → Prop} {w0 wr w w1 w' : World} {F F' : Nat → Prop} {t sz : Nat} {v v' : Value} {xs : List α} {cs : Nat → List Value}
/-- F, and what came from block n up to m. -/
def Plus (F : Nat → Prop) (n m b : Nat) : Prop := F b ∨ In n m b
theorem OSlE.pushF {lo a b : Nat} {c : List Value} {y : α} (hO : FramedE O) (h : OSlE t sz O F w v xs cs) (hF : ∀ b, F b → b < w.heap.size) (hg : Gr w w1) (hy : O (In a b) w1 c y) (ha : w.heap.size ≤ a) (hb : b ≤ w1.heap.size) (hc : c.length = sz)
    (hrow : w'.ownsRow lo t sz v' (xs.length + 1) (flatC sz xs.length cs ++ c)) (hw : w1.heap.size ≤ w'.heap.size) (hb' : ∀ g, v'.ownBlock = some g → v.ownBlock = some g ∨ w1.heap.size ≤ g)
    (hk : ∀ k, k < w1.heap.size → v.ownBlock ≠ some k → w'.heap[k]? = w1.heap[k]?) : OSlE t sz O (Plus F w.heap.size w'.heap.size) w' v' (xs ++ [y]) (updC cs xs.length c) := by
  obtain ⟨h1, h2, G, h3⟩ := h
  have hsz := hg.size
  refine ⟨?_, fun g hgv => ?_, fun i => if i = xs.length then In a b else G i, fun i hi => ?_⟩
  · have := hrow
    rw [List.length_append, List.length_singleton, flatC_snoc hc]
    refine ⟨this.1, ?_⟩
    rcases this.2 with h0 | ⟨g, cap, cur, hv, _, r⟩
    · exact Or.inl h0
    · exact Or.inr ⟨g, cap, cur, hv, Nat.zero_le _, r⟩
  · rcases hb' g hgv with hv | hv
    · exact Or.inl (h2 g hv)
    · exact Or.inr ⟨by omega, (hrow.lt g hgv).2⟩
  · by_cases e : i = xs.length
    · subst e
      refine ⟨by rw [updC_at]; exact hc, ?_, ?_, ?_⟩
      · rw [updC_at]
        simp only [if_true, List.getElem_concat_length]
        refine hO _ _ _ _ _ (fun k hk' hl => hk k hl fun hv => ?_) hy
        have := hF k (h2 k hv)
        have := hk'.1
        omega
      · simp only [if_true]
        intro k hk'
        refine ⟨Or.inr ⟨by have := hk'.1; omega, by have := hk'.2; omega⟩, fun hv => ?_⟩
        rcases hb' k hv with hv | hv
        · have := hF k (h2 k hv); have := hk'.1; omega
        · have := hk'.2; omega
      · intro j hj hne k hk'
        simp only [if_true] at hk'
        simp only [if_neg hne]
        intro hkj
        have := hF k ((h3 j (by simp at hj; omega)).2.2.1 k hkj).1
        have := hk'.1
        omega
    · have hi' : i < xs.length := by simp at hi; omega
      obtain ⟨q1, q2, q3, q4⟩ := h3 i hi'
      refine ⟨by rw [updC_ne _ _ e]; exact q1, ?_, ?_, ?_⟩
      · rw [updC_ne _ _ e]
        simp only [if_neg e, List.getElem_append_left hi']
        refine hO _ _ _ _ _ (fun k hk' hl => ?_) q2
        rw [hk k (by omega) (q3 k hk').2, hg.block k hl]
      · simp only [if_neg e]
        intro k hk'
        refine ⟨Or.inl (q3 k hk').1, fun hv => ?_⟩
        rcases hb' k hv with hv | hv
        · exact (q3 k hk').2 hv
        · have := hF k (q3 k hk').1; omega
      · intro j hj hne k hk'
        simp only [if_neg e] at hk'
        by_cases ej : j = xs.length
        · simp only [if_pos ej]
          intro hkj
          have := hF k (q3 k hk').1
          have := hkj.1
          omega
        · simp only [if_neg ej]
          exact q4 j (by simp at hj; omega) hne k hk'
theorem push_f {rest : List Oper} {la hb lo : Nat} (t e size bytes : Nat) {z : Value} (ht : P.underlying t = some (.slice e))
    (hi : (P.info? e).map (fun i => (i.zero, i.size, i.bytes)) = some (some z, size, bytes)) (hzs : z.cells.size = size) (hsz : 0 < size) (hby : 0 < bytes) (hgd : o.guard = none) (s x : Operand)
    (ho : o.op = .call { callee := .builtin .append, args := #[s, x], argTypes := #[t, t] }) (hO : FramedE O) {v : Value} {ys : List α} (y : α) (c : List Value)
    (hs : a.eval s = v) (hx : a.eval x = .slice (some ⟨wr.heap.size, 0, none⟩) 1 1) (hw : w = wr.alloc (.cells c.toArray e)) (hown : OSl e size O F w0 v ys) (hF : ∀ b, F b → lo ≤ b ∧ b < w0.heap.size) (hlo : lo ≤ w0.heap.size) (hg : Gr w0 wr)
    (hy : O (In la hb) wr c y) (ha : w0.heap.size ≤ la) (hhb : hb ≤ wr.heap.size) (hl : c.length = size) (h1 : ∀ u ∈ c, u.oneCell' = true) (hn : (ys.length + 1) * bytes ≤ 140737488355328)
    (h : ∀ g cap w', OSl e size O (Plus F w0.heap.size w'.heap.size) w' (.slice (some ⟨g, 0, none⟩) (ys ++ [y]).length cap) (ys ++ [y]) → Chg F wr w' → wpList P ops Q rest (a.put o.dst (.slice (some ⟨g, 0, none⟩) (ys ++ [y]).length cap)) w') :
    wpList P ops Q (o :: rest) a w := by
  obtain ⟨cs, hE⟩ := hown
  have hrow : wr.ownsRow lo e size v ys.length (flatC size ys.length cs) := (hE.frame hO (hg.agree _)).row fun b hb => (hF b hb).1
  have hvF := hE.2.1
  refine push t e size bytes ht hi hzs hsz hby hgd s x ho c hs hx hw hrow hl h1 hn (Nat.le_trans hlo hg.size) fun g cap w' k1 k2 k3 k4 => ?_
  have hp := OSlE.pushF (v' := .slice (some ⟨g, 0, none⟩) (ys.length + 1) cap) hO hE (fun b hb => (hF b hb).2) hg hy ha hhb hl k1 k2.size (fun k hk => by
    have e : g = k := Option.some.inj hk
    subst e
    rcases k3 with h3 | h3
    · exact Or.inl h3
    · exact Or.inr (by omega)) k4
  have := h g cap w' (by rw [List.length_append, List.length_singleton]; exact ⟨_, hp⟩) ⟨k2.os, k2.tape, k2.output, k2.size, fun b hb hn => k4 b hb fun hv => hn (hvF b hv)⟩
  rwa [List.length_append, List.length_singleton] at this
/-- One element changed for one whose blocks are H: some of its own elder ones, some of blocks that nobody had. -/
theorem Parts.upd2 {G : Nat → Nat → Prop} {H : Nat → Prop} {k : Nat} {c : List Value} {y : α} (hO : FramedE O) (h : Parts O sz F w v xs cs G) (hk : k < xs.length) (hrow : w'.ownsRow 0 t sz v xs.length (flatC sz xs.length (updC cs k c))) (hc : c.length = sz) (hy : O H w' c y)
    (hH : ∀ b, H b → G k b ∨ ¬ F b) (hF : ∀ b, F b → F' b) (hHF : ∀ b, H b → F' b) (hch : Chg (fun b => G k b ∨ v.ownBlock = some b) w w') : OSl t sz O F' w' v (xs.set k y) := by
  refine ⟨updC cs k c, by rw [List.length_set]; exact hrow, fun g hg => hF g (h.1 g hg), fun i => if i = k then H else G i, fun i hi => ?_⟩
  have hi' : i < xs.length := by simpa using hi
  obtain ⟨q1, q2, q3, q4⟩ := h.2 i hi'
  by_cases e : i = k
  · subst e
    simp only [if_true]
    refine ⟨by rw [updC_at]; exact hc, by rw [updC_at]; simpa using hy, fun b hb => ⟨hHF b hb, fun hv => ?_⟩, fun j hj hne b hb => ?_⟩
    · rcases hH b hb with hg | hg
      · exact (q3 b hg).2 hv
      · exact hg (h.1 b hv)
    · simp only [if_neg hne]
      intro hj'
      have hjl : j < xs.length := by simpa using hj
      rcases hH b hb with hg | hg
      · exact q4 j hjl hne b hg hj'
      · exact hg ((h.2 j hjl).2.2.1 b hj').1
  · simp only [if_neg e]
    refine ⟨by rw [updC_ne _ _ e]; exact q1, ?_, fun b hb => ⟨hF b (q3 b hb).1, (q3 b hb).2⟩, fun j hj hne b hb => ?_⟩
    · rw [updC_ne _ _ e, List.getElem_set_ne (Ne.symm e)]
      refine hO _ _ _ _ _ (fun b hb hl => hch.block b hl fun hg => ?_) q2
      rcases hg with hg | hg
      · exact q4 k hk (Ne.symm e) b hb hg
      · exact (q3 b hb).2 hg
    · by_cases ej : j = k
      · subst ej
        simp only [if_true]
        intro hj'
        rcases hH b hj' with hg | hg
        · exact q4 j hk (Ne.symm e) b hb hg
        · exact hg (q3 b hb).1
      · simp only [if_neg ej]
        exact q4 j (by simpa using hj) hne b hb
end
end Go.Proofs.Ytcdcpfcmhmhdjaa

/- BuildIndex: the plain law; a copied row of conditions. No program in sight. -/
namespace Go.Proofs.Ytcdcpfcmhmhdjaa
open Go.RowKit
theorem ORd.conds {t : Nat} {W w : World} {v : Value} {xs : List DCond} (h : ORd t 3 RCond W w v xs) : OSl t 3 PCond (In W.heap.size w.heap.size) w v xs := by
  obtain ⟨cs, h1, h3⟩ := h
  refine ⟨cs, ⟨h1.1, ?_⟩, fun g hg => h1.lt g hg, fun _ _ => False, fun i hi => ⟨(h3 i hi).1, (h3 i hi).2, fun b hb => hb.elim, fun _ _ _ _ hb => hb.elim⟩⟩
  rcases h1.2 with h0 | ⟨g, cap, cur, hv, _, r⟩
  · exact Or.inl h0
  · exact Or.inr ⟨g, cap, cur, hv, Nat.zero_le _, r⟩
def fldsTo (xs : List DQuery) (k : Nat) : List (List DSpan) := (List.range k).map fun i : Nat => idxL xs (i : Int)
theorem fldsTo_succ (xs : List DQuery) (k : Nat) : fldsTo xs (k + 1) = fldsTo xs k ++ [idxL xs (k : Int)] := by simp [fldsTo, List.range_succ]
theorem fldsTo_len (xs : List DQuery) (k : Nat) : (fldsTo xs k).length = k := by simp [fldsTo]
def buildL (xs : List DQuery) : DIndex := if areQueriesB xs then ⟨xs, fldsTo xs 3⟩ else ⟨[], []⟩
theorem buildL_yes {xs : List DQuery} (h : areQueriesB xs = true) : buildL xs = ⟨xs, fldsTo xs 3⟩ := by unfold buildL; rw [if_pos h]
theorem buildL_no {xs : List DQuery} (h : areQueriesB xs = false) : buildL xs = ⟨[], []⟩ := by unfold buildL; rw [h]; rfl
theorem buildL_small (xs : List DQuery) : sumT cntQuery (buildL xs).queries + sumT (sumT cntSpan) (buildL xs).fields ≤ 3 * totL totQuery xs + 22503 := by
  unfold buildL
  split
  · have h1 := cnt_QueryS xs
    have h2 : sumT (sumT cntSpan) (fldsTo xs 3) ≤ 7500 * (fldsTo xs 3).length := sumT_const _ fun x hx => by
      obtain ⟨i, hi, rfl⟩ := List.getElem_of_mem hx
      have : (fldsTo xs 3)[i] = idxL xs (i : Int) := by simp [fldsTo]
      rw [this]; exact idxL_small xs _
    rw [fldsTo_len] at h2
    simp only
    omega
  · simp [sumT]
def qTo (xs : List DQuery) (k : Nat) : List DQuery := xs.take k
theorem qTo_succ {xs : List DQuery} {k : Nat} (h : k < xs.length) : qTo xs (k + 1) = qTo xs k ++ [xs[k]] := List.take_succ_eq_append_getElem h
theorem qTo_len {xs : List DQuery} {k : Nat} (h : k ≤ xs.length) : (qTo xs k).length = k := by unfold qTo; rw [List.length_take]; omega
theorem qTo_all (xs : List DQuery) : qTo xs xs.length = xs := List.take_length
end Go.Proofs.Ytcdcpfcmhmhdjaa

/- BuildIndex: a query copied: the walks. -/
namespace Go.Proofs.Ytcdcpfcmhmhdjaa
open Go.ChangeShapes Go.WideShapes Go.RowKit Go.Deep
theorem own_cells {w : World} {g e size base : Nat} (h : w.heap[g]? = some (.cells #[] e (0, 0))) (hb : base ≤ g) : w.ownsRow base e size (.slice (some ⟨g, 0, none⟩) 0 0) 0 [] :=
  ⟨by simp, Or.inr ⟨g, 0, #[], rfl, hb, h, Nat.le_refl _, Nat.zero_le _, by simp, by simp⟩⟩
/-- Block g, and what came from block n up to m. -/
def Sole (g n m b : Nat) : Prop := b = g ∨ In n m b
theorem copied_c {w w' : World} {g : Nat} {v' : Value} {ys : List DCond} {cs : Nat → List Value} (he : ∀ i (h : i < ys.length), (cs i).length = 3 ∧ RCond w (cs i) ys[i]) (h1 : w'.ownsRow 0 66 3 v' ys.length (flatC 3 ys.length cs))
    (h3 : ∀ k, v'.ownBlock = some k → (Value.slice (some ⟨g, 0, none⟩) 0 0).ownBlock = some k ∨ w.heap.size ≤ k) : PConds (Sole g w.heap.size w'.heap.size) w' v' ys :=
  ⟨cs, ⟨h1, fun k hk => by
    rcases h3 k hk with h | h
    · exact Or.inl (Option.some.inj h).symm
    · exact Or.inr ⟨h, (h1.lt k hk).2⟩, fun _ _ => False, fun i hi => ⟨(he i hi).1, (he i hi).2, fun b hb => hb.elim, fun _ _ _ _ hb => hb.elim⟩⟩⟩
/-- append([]Cond{}, u...), inside a region that draws its order. -/
theorem step_copy_c {ops : Array Oper} {o : Oper} {a : Act} {K : Act → World → Prop} {Q : Exit → Act → World → Prop} {E : Prop} {w : World} {g : Nat} (hgd : o.guard = none) (s x : Operand)
    (ho : o.op = .call { callee := .builtin .append, args := #[s, x], argTypes := #[42, 42] }) {u : Value} {ys : List DCond}
    (hs : a.eval s = .slice (some ⟨g, 0, none⟩) 0 0) (hx : a.eval x = u) (hg : w.heap[g]? = some (.cells #[] 66 (0, 0))) (hu : RConds w u ys) (hn : ys.length ≤ 4294967296)
    (h : ∀ b c' w', PConds (Sole g w.heap.size w'.heap.size) w' (.slice b ys.length c') ys → Chg (fun k => k = g) w w' → K (a.put o.dst (.slice b ys.length c')) w') :
    if Region.wanted o (yielded ops a.tmps) = true then Oper.wp Try.prog o a w K Q else E := by
  obtain ⟨ad, c, cs, rfl, he, hsrc⟩ := hu.src
  refine step_spread 42 66 3 24 Try.underlying42 (z := .agg #[.int .i64 0, .int .i64 0, .int .i64 0]) (by kernel_rfl) rfl (by decide) (by decide) hgd s x ho (base := 0) (flatC 3 ys.length cs) hs hx (own_cells hg (Nat.zero_le _)) (flatC_len ..) hsrc (fun q hq => ?_) (by omega) (Nat.zero_le _) fun v' w' h1 h2 h3 h4 => ?_
  · obtain ⟨p, hp, rfl⟩ := List.getElem_of_mem hq
    have hp' : p < ys.length * 3 := by rw [flatC_len] at hp; exact hp
    have hlt : p / 3 < ys.length := by omega
    have e0 := List.getElem?_eq_getElem hp
    rw [flatC_get, if_pos hp'] at e0
    have hm : p % 3 < (cs (p / 3)).length := by rw [(he _ hlt).1]; omega
    have e1 : (flatC 3 ys.length cs)[p] = (cs (p / 3))[p % 3] := by
      have := Option.some.inj e0
      rw [← this]; simp [hm]
    rw [e1]
    exact one_cond _ _ _ (he _ hlt).2 _ (List.getElem_mem hm)
  · simp only [Nat.zero_add, List.nil_append] at h1
    have hP := copied_c he h1 h3
    obtain ⟨b, c', rfl⟩ := hP.form
    exact h b c' w' hP ⟨h2.os, h2.tape, h2.output, h2.size, fun k hk hne => h4 k hk fun e => hne (Option.some.inj e).symm⟩
/-- append([]int{}, u...), inside a region that draws its order. -/
theorem step_copy_n {ops : Array Oper} {o : Oper} {a : Act} {K : Act → World → Prop} {Q : Exit → Act → World → Prop} {E : Prop} {w : World} {g : Nat} (hgd : o.guard = none) (s x : Operand)
    (ho : o.op = .call { callee := .builtin .append, args := #[s, x], argTypes := #[28, 28] }) {u : Value} {ys : List Int}
    (hs : a.eval s = .slice (some ⟨g, 0, none⟩) 0 0) (hx : a.eval x = u) (hg : w.heap[g]? = some (.cells #[] 3 (0, 0))) (hu : RInts w u ys) (hn : ys.length ≤ 4294967296)
    (h : ∀ b c' w', PInts (Sole g w.heap.size w'.heap.size) w' (.slice b ys.length c') ys → Chg (fun k => k = g) w w' → K (a.put o.dst (.slice b ys.length c')) w') :
    if Region.wanted o (yielded ops a.tmps) = true then Oper.wp Try.prog o a w K Q else E := by
  obtain ⟨ad, c, rfl, hsrc, hi⟩ := ints_src hu
  refine step_spread 28 3 1 8 Try.underlying28 (z := .int .i64 0) (by kernel_rfl) rfl (by decide) (by decide) hgd s x ho (base := 0) (ys.map (Value.int .i64)) hs hx (own_cells hg (Nat.zero_le _)) (by simp) hsrc (by simp [Value.oneCell']) (by omega) (Nat.zero_le _) fun v' w' h1 h2 h3 h4 => ?_
  simp only [Nat.zero_add, List.nil_append] at h1
  have hP : PInts (Sole g w.heap.size w'.heap.size) w' v' ys := pints_of rfl h1 hi fun k hk => by
    rcases h3 k hk with h | h
    · exact Or.inl (Option.some.inj h).symm
    · exact Or.inr ⟨h, (h1.lt k hk).2⟩
  obtain ⟨b, c', rfl⟩ := hP.form
  exact h b c' w' hP ⟨h2.os, h2.tape, h2.output, h2.size, fun k hk hne => h4 k hk fun e => hne (Option.some.inj e).symm⟩
end Go.Proofs.Ytcdcpfcmhmhdjaa
