/- BuildIndex: a query copied: the walks. -/
import Derived.Test.YtnnapjaggahjgaaBuildP
import Derived.Test.YtnnapjaggahjgaaHeld
import Derived.Test.YtnnapjaggahjgaaStepN
namespace Go.Proofs.Ytnnapjaggahjgaa
open Go.ChangeShapes Go.WideShapes Go.RowKit Go.Deep
theorem own_cells {w : World} {g e size base : Nat} (h : w.heap[g]? = some (.cells #[] e (0, 0))) (hb : base ≤ g) : w.ownsRow base e size (.slice (some ⟨g, 0, none⟩) 0 0) 0 [] :=
  ⟨by simp, Or.inr ⟨g, 0, #[], rfl, hb, h, Nat.le_refl _, Nat.zero_le _, by simp, by simp⟩⟩
/-- Block g, and what came from block n up to m. -/
def Sole (g n m b : Nat) : Prop := b = g ∨ In n m b
theorem copied_c {w w' : World} {g : Nat} {v' : Value} {ys : List DCond} {cs : Nat → List Value} (he : ∀ i (h : i < ys.length), (cs i).length = 3 ∧ RCond w (cs i) ys[i]) (h1 : w'.ownsRow 0 144 3 v' ys.length (flatC 3 ys.length cs))
    (h3 : ∀ k, v'.ownBlock = some k → (Value.slice (some ⟨g, 0, none⟩) 0 0).ownBlock = some k ∨ w.heap.size ≤ k) : PConds (Sole g w.heap.size w'.heap.size) w' v' ys :=
  ⟨cs, ⟨h1, fun k hk => by
    rcases h3 k hk with h | h
    · exact Or.inl (Option.some.inj h).symm
    · exact Or.inr ⟨h, (h1.lt k hk).2⟩, fun _ _ => False, fun i hi => ⟨(he i hi).1, (he i hi).2, fun b hb => hb.elim, fun _ _ _ _ hb => hb.elim⟩⟩⟩
/-- append([]Cond{}, u...), inside a region that draws its order. -/
theorem step_copy_c {ops : Array Oper} {o : Oper} {a : Act} {K : Act → World → Prop} {Q : Exit → Act → World → Prop} {E : Prop} {w : World} {g : Nat} (hgd : o.guard = none) (s x : Operand)
    (ho : o.op = .call { callee := .builtin .append, args := #[s, x], argTypes := #[42, 42] }) {u : Value} {ys : List DCond}
    (hs : a.eval s = .slice (some ⟨g, 0, none⟩) 0 0) (hx : a.eval x = u) (hg : w.heap[g]? = some (.cells #[] 144 (0, 0))) (hu : RConds w u ys) (hn : ys.length ≤ 4294967296)
    (h : ∀ b c' w', PConds (Sole g w.heap.size w'.heap.size) w' (.slice b ys.length c') ys → Chg (fun k => k = g) w w' → K (a.put o.dst (.slice b ys.length c')) w') :
    if Region.wanted o (yielded ops a.tmps) = true then Oper.wp Try.prog o a w K Q else E := by
  obtain ⟨ad, c, cs, rfl, he, hsrc⟩ := hu.src
  refine step_spread 42 144 3 24 Try.underlying42 (z := .agg #[.int .i64 0, .int .i64 0, .int .i64 0]) (by kernel_rfl) rfl (by decide) (by decide) hgd s x ho (base := 0) (flatC 3 ys.length cs) hs hx (own_cells hg (Nat.zero_le _)) (flatC_len ..) hsrc (fun q hq => ?_) (by omega) (Nat.zero_le _) fun v' w' h1 h2 h3 h4 => ?_
  · obtain ⟨p, hp, rfl⟩ := List.getElem_of_mem hq
    have hp' : p < ys.length * 3 := by rw [flatC_len] at hp; exact hp
    have hlt : p / 3 < ys.length := by omega
    have e0 := List.getElem?_eq_getElem hp
    rw [flatC_get, if_pos hp'] at e0
    have hm : p % 3 < (cs (p / 3)).length := by rw [(he _ hlt).1]; omega
    have e1 : (flatC 3 ys.length cs)[p] = (cs (p / 3))[p % 3] := by
      have := Option.some.inj e0
      rw [← this]; simp [hm]
    rw [e1]
    exact one_cond _ _ _ (he _ hlt).2 _ (List.getElem_mem hm)
  · simp only [Nat.zero_add, List.nil_append] at h1
    have hP := copied_c he h1 h3
    obtain ⟨b, c', rfl⟩ := hP.form
    exact h b c' w' hP ⟨h2.os, h2.tape, h2.output, h2.size, fun k hk hne => h4 k hk fun e => hne (Option.some.inj e).symm⟩
/-- append([]int{}, u...), inside a region that draws its order. -/
theorem step_copy_n {ops : Array Oper} {o : Oper} {a : Act} {K : Act → World → Prop} {Q : Exit → Act → World → Prop} {E : Prop} {w : World} {g : Nat} (hgd : o.guard = none) (s x : Operand)
    (ho : o.op = .call { callee := .builtin .append, args := #[s, x], argTypes := #[34, 34] }) {u : Value} {ys : List Int}
    (hs : a.eval s = .slice (some ⟨g, 0, none⟩) 0 0) (hx : a.eval x = u) (hg : w.heap[g]? = some (.cells #[] 3 (0, 0))) (hu : RInts w u ys) (hn : ys.length ≤ 4294967296)
    (h : ∀ b c' w', PInts (Sole g w.heap.size w'.heap.size) w' (.slice b ys.length c') ys → Chg (fun k => k = g) w w' → K (a.put o.dst (.slice b ys.length c')) w') :
    if Region.wanted o (yielded ops a.tmps) = true then Oper.wp Try.prog o a w K Q else E := by
  obtain ⟨ad, c, rfl, hsrc, hi⟩ := ints_src hu
  refine step_spread 34 3 1 8 Try.underlying34 (z := .int .i64 0) (by kernel_rfl) rfl (by decide) (by decide) hgd s x ho (base := 0) (ys.map (Value.int .i64)) hs hx (own_cells hg (Nat.zero_le _)) (by simp) hsrc (by simp [Value.oneCell']) (by omega) (Nat.zero_le _) fun v' w' h1 h2 h3 h4 => ?_
  simp only [Nat.zero_add, List.nil_append] at h1
  have hP : PInts (Sole g w.heap.size w'.heap.size) w' v' ys := pints_of rfl h1 hi fun k hk => by
    rcases h3 k hk with h | h
    · exact Or.inl (Option.some.inj h).symm
    · exact Or.inr ⟨h, (h1.lt k hk).2⟩
  obtain ⟨b, c', rfl⟩ := hP.form
  exact h b c' w' hP ⟨h2.os, h2.tape, h2.output, h2.size, fun k hk hne => h4 k hk fun e => hne (Option.some.inj e).symm⟩
set_option maxRecDepth 100000 in
set_option maxHeartbeats 1000000 in
theorem impl_copyQuery (q : DQuery) (u x : Value) (w : World) (hu : RConds w u q.conds) (hx : RInts w x q.out) (hb : totQuery q ≤ 4294967296) :
    Calls Try.prog 139 #[.agg #[.int .i64 q.id, .int .i64 q.tenant, u, x]] w fun e w' => ∃ u' x', e = .returned (.agg #[.int .i64 q.id, .int .i64 q.tenant, u', x']) ∧ Gr w w' ∧ ∃ m, w.heap.size ≤ m ∧ m ≤ w'.heap.size ∧ PConds (In w.heap.size m) w' u' q.conds ∧ PInts (In m w'.heap.size) w' x' q.out := by
  obtain ⟨id, ten, conds, out⟩ := q
  unfold totQuery at hb
  dsimp only at *
  obtain ⟨ua, uc, rfl⟩ := hu.form
  obtain ⟨xa, xc, rfl⟩ := hx.form
  have g0 : Gr w ((w.alloc (.cells #[.int .i64 id, .int .i64 ten, .slice ua conds.length uc, .slice xa out.length xc] 44)).alloc (.cells #[.int .i64 0, .int .i64 0, .slice none 0 0, .slice none 0 0] 44)) := ((Gr.refl w).alloc _).alloc _
  have hz : ((w.alloc (.cells #[.int .i64 id, .int .i64 ten, .slice ua conds.length uc, .slice xa out.length xc] 44)).alloc (.cells #[.int .i64 0, .int .i64 0, .slice none 0 0, .slice none 0 0] 44)).heap.size = w.heap.size + 1 + 1 := by simp
  have hST : ORd 144 3 RCond ((w.alloc (.cells #[.int .i64 id, .int .i64 ten, .slice ua conds.length uc, .slice xa out.length xc] 44)).alloc (.cells #[.int .i64 0, .int .i64 0, .slice none 0 0, .slice none 0 0] 44)) (((w.alloc (.cells #[.int .i64 id, .int .i64 ten, .slice ua conds.length uc, .slice xa out.length xc] 44)).alloc (.cells #[.int .i64 0, .int .i64 0, .slice none 0 0, .slice none 0 0] 44)).alloc (.cells #[] 144)) (.slice (some ⟨((w.alloc (.cells #[.int .i64 id, .int .i64 ten, .slice ua conds.length uc, .slice xa out.length xc] 44)).alloc (.cells #[.int .i64 0, .int .i64 0, .slice none 0 0, .slice none 0 0] 44)).heap.size, 0, none⟩) 0 0) [] := ORd.made (Gr.refl _)
  rw [hz] at hST
  have HST := Lib.hid hST
  have HU := Lib.hid (RSlice.mono keeps_cond g0 hu)
  have HX := Lib.hid hx
  have HZ := Lib.hid hz
  have HG0 := Lib.hid g0
  clear hST hu hx hz g0
  go_enter Try.func139, Try.ntmps139
  go_wp2_with (at_builtin; refine spread_r 42 144 3 24 Try.underlying42 (z := .agg #[.int .i64 0, .int .i64 0, .int .i64 0]) (by kernel_rfl) rfl (by decide) (by decide) one_cond rfl _ _ rfl rfl rfl HST.out HU.out ((Gr.refl _).alloc _) (by simp; omega) ?_; intro b1 c1 w1 hown1 hb1; (rw [HZ.out] at hb1); have k0 := (hb1.cell (p := ⟨w.heap.size, 0, none⟩) (by dsimp only; omega)).trans (show (((w.alloc (.cells #[.int .i64 id, .int .i64 ten, .slice ua conds.length uc, .slice xa out.length xc] 44)).alloc (.cells #[.int .i64 0, .int .i64 0, .slice none 0 0, .slice none 0 0] 44)).alloc (.cells #[] 144)).cell? ⟨w.heap.size, 0, none⟩ = some (.int .i64 id) by simp [go_sem]); have k1 := (hb1.cell (p := ⟨w.heap.size, 1, none⟩) (by dsimp only; omega)).trans (show (((w.alloc (.cells #[.int .i64 id, .int .i64 ten, .slice ua conds.length uc, .slice xa out.length xc] 44)).alloc (.cells #[.int .i64 0, .int .i64 0, .slice none 0 0, .slice none 0 0] 44)).alloc (.cells #[] 144)).cell? ⟨w.heap.size, 1, none⟩ = some (.int .i64 ten) by simp [go_sem]); have k2 := (hb1.cell (p := ⟨w.heap.size, 2, none⟩) (by dsimp only; omega)).trans (show (((w.alloc (.cells #[.int .i64 id, .int .i64 ten, .slice ua conds.length uc, .slice xa out.length xc] 44)).alloc (.cells #[.int .i64 0, .int .i64 0, .slice none 0 0, .slice none 0 0] 44)).alloc (.cells #[] 144)).cell? ⟨w.heap.size, 2, none⟩ = some (.slice ua conds.length uc) by simp [go_sem]); have k3 := (hb1.cell (p := ⟨w.heap.size, 3, none⟩) (by dsimp only; omega)).trans (show (((w.alloc (.cells #[.int .i64 id, .int .i64 ten, .slice ua conds.length uc, .slice xa out.length xc] 44)).alloc (.cells #[.int .i64 0, .int .i64 0, .slice none 0 0, .slice none 0 0] 44)).alloc (.cells #[] 144)).cell? ⟨w.heap.size, 3, none⟩ = some (.slice xa out.length xc) by simp [go_sem]); have kf2 := (hb1.frozen (p := ⟨w.heap.size, 2, none⟩) (by dsimp only; omega)).trans (show (((w.alloc (.cells #[.int .i64 id, .int .i64 ten, .slice ua conds.length uc, .slice xa out.length xc] 44)).alloc (.cells #[.int .i64 0, .int .i64 0, .slice none 0 0, .slice none 0 0] 44)).alloc (.cells #[] 144)).frozen? ⟨w.heap.size, 2, none⟩ = false by simp [go_sem]); have kf3 := (hb1.frozen (p := ⟨w.heap.size, 3, none⟩) (by dsimp only; omega)).trans (show (((w.alloc (.cells #[.int .i64 id, .int .i64 ten, .slice ua conds.length uc, .slice xa out.length xc] 44)).alloc (.cells #[.int .i64 0, .int .i64 0, .slice none 0 0, .slice none 0 0] 44)).alloc (.cells #[] 144)).frozen? ⟨w.heap.size, 3, none⟩ = false by simp [go_sem]); have r0 := (hb1.cell (p := ⟨w.heap.size + 1, 0, none⟩) (by dsimp only; omega)).trans (show (((w.alloc (.cells #[.int .i64 id, .int .i64 ten, .slice ua conds.length uc, .slice xa out.length xc] 44)).alloc (.cells #[.int .i64 0, .int .i64 0, .slice none 0 0, .slice none 0 0] 44)).alloc (.cells #[] 144)).cell? ⟨w.heap.size + 1, 0, none⟩ = some (.int .i64 0) by simp [go_sem]); have r1 := (hb1.cell (p := ⟨w.heap.size + 1, 1, none⟩) (by dsimp only; omega)).trans (show (((w.alloc (.cells #[.int .i64 id, .int .i64 ten, .slice ua conds.length uc, .slice xa out.length xc] 44)).alloc (.cells #[.int .i64 0, .int .i64 0, .slice none 0 0, .slice none 0 0] 44)).alloc (.cells #[] 144)).cell? ⟨w.heap.size + 1, 1, none⟩ = some (.int .i64 0) by simp [go_sem]); have r2 := (hb1.cell (p := ⟨w.heap.size + 1, 2, none⟩) (by dsimp only; omega)).trans (show (((w.alloc (.cells #[.int .i64 id, .int .i64 ten, .slice ua conds.length uc, .slice xa out.length xc] 44)).alloc (.cells #[.int .i64 0, .int .i64 0, .slice none 0 0, .slice none 0 0] 44)).alloc (.cells #[] 144)).cell? ⟨w.heap.size + 1, 2, none⟩ = some (.slice none 0 0) by simp [go_sem]); have r3 := (hb1.cell (p := ⟨w.heap.size + 1, 3, none⟩) (by dsimp only; omega)).trans (show (((w.alloc (.cells #[.int .i64 id, .int .i64 ten, .slice ua conds.length uc, .slice xa out.length xc] 44)).alloc (.cells #[.int .i64 0, .int .i64 0, .slice none 0 0, .slice none 0 0] 44)).alloc (.cells #[] 144)).cell? ⟨w.heap.size + 1, 3, none⟩ = some (.slice none 0 0) by simp [go_sem]); have rf0 := (hb1.frozen (p := ⟨w.heap.size + 1, 0, none⟩) (by dsimp only; omega)).trans (show (((w.alloc (.cells #[.int .i64 id, .int .i64 ten, .slice ua conds.length uc, .slice xa out.length xc] 44)).alloc (.cells #[.int .i64 0, .int .i64 0, .slice none 0 0, .slice none 0 0] 44)).alloc (.cells #[] 144)).frozen? ⟨w.heap.size + 1, 0, none⟩ = false by simp [go_sem]); have rf1 := (hb1.frozen (p := ⟨w.heap.size + 1, 1, none⟩) (by dsimp only; omega)).trans (show (((w.alloc (.cells #[.int .i64 id, .int .i64 ten, .slice ua conds.length uc, .slice xa out.length xc] 44)).alloc (.cells #[.int .i64 0, .int .i64 0, .slice none 0 0, .slice none 0 0] 44)).alloc (.cells #[] 144)).frozen? ⟨w.heap.size + 1, 1, none⟩ = false by simp [go_sem]); have rf2 := (hb1.frozen (p := ⟨w.heap.size + 1, 2, none⟩) (by dsimp only; omega)).trans (show (((w.alloc (.cells #[.int .i64 id, .int .i64 ten, .slice ua conds.length uc, .slice xa out.length xc] 44)).alloc (.cells #[.int .i64 0, .int .i64 0, .slice none 0 0, .slice none 0 0] 44)).alloc (.cells #[] 144)).frozen? ⟨w.heap.size + 1, 2, none⟩ = false by simp [go_sem]); have rf3 := (hb1.frozen (p := ⟨w.heap.size + 1, 3, none⟩) (by dsimp only; omega)).trans (show (((w.alloc (.cells #[.int .i64 id, .int .i64 ten, .slice ua conds.length uc, .slice xa out.length xc] 44)).alloc (.cells #[.int .i64 0, .int .i64 0, .slice none 0 0, .slice none 0 0] 44)).alloc (.cells #[] 144)).frozen? ⟨w.heap.size + 1, 3, none⟩ = false by simp [go_sem]))
  have hz1 := hb1.size
  have hz2 : w.heap.size + 1 + 1 < w1.heap.size := by simp at hz1; omega
  have HC1 : Hid (PConds (In (w.heap.size + 1 + 1) w1.heap.size) w1 (.slice b1 conds.length c1) conds) := Lib.hid (by have h := hown1.conds; rw [HZ.out] at h; simpa only [List.nil_append] using h)
  have gw1 : Gr w w1 := (HG0.out.alloc _).trans' (hb1.mono (by omega) : Below w.heap.size _ w1)
  have gw2 := gw1.setCell (p := ⟨w.heap.size, 2, none⟩) (Nat.le_refl _) (.slice b1 conds.length c1)
  clear hown1 hz1
  refine (impl_copyInts _ out _ (HX.out.mono gw2) (by omega)).mono ?_
  rintro e w3 ⟨v3, rfl, g3, hp3⟩
  obtain ⟨pa, pc, rfl⟩ := (rd_pints hp3).form
  have m0 : w3.cell? ⟨w.heap.size, 0, none⟩ = some (.int .i64 id) := g3.cellv (by simp [go_sem, k0])
  have m1 : w3.cell? ⟨w.heap.size, 1, none⟩ = some (.int .i64 ten) := g3.cellv (by simp [go_sem, k1])
  have m2 : w3.cell? ⟨w.heap.size, 2, none⟩ = some (.slice b1 conds.length c1) := g3.cellv (by simp [go_sem, k2])
  have m3 : w3.cell? ⟨w.heap.size, 3, none⟩ = some (.slice xa out.length xc) := g3.cellv (by simp [go_sem, k3])
  have mf3 : w3.frozen? ⟨w.heap.size, 3, none⟩ = false := (g3.frozen (by simp [World.setCell]; omega)).trans (by simp [go_sem, kf3])
  have n0 : w3.cell? ⟨w.heap.size + 1, 0, none⟩ = some (.int .i64 0) := g3.cellv (by simp [go_sem, r0])
  have n1 : w3.cell? ⟨w.heap.size + 1, 1, none⟩ = some (.int .i64 0) := g3.cellv (by simp [go_sem, r1])
  have n2 : w3.cell? ⟨w.heap.size + 1, 2, none⟩ = some (.slice none 0 0) := g3.cellv (by simp [go_sem, r2])
  have n3 : w3.cell? ⟨w.heap.size + 1, 3, none⟩ = some (.slice none 0 0) := g3.cellv (by simp [go_sem, r3])
  have nf0 : w3.frozen? ⟨w.heap.size + 1, 0, none⟩ = false := (g3.frozen (by simp [World.setCell]; omega)).trans (by simp [go_sem, rf0])
  have nf1 : w3.frozen? ⟨w.heap.size + 1, 1, none⟩ = false := (g3.frozen (by simp [World.setCell]; omega)).trans (by simp [go_sem, rf1])
  have nf2 : w3.frozen? ⟨w.heap.size + 1, 2, none⟩ = false := (g3.frozen (by simp [World.setCell]; omega)).trans (by simp [go_sem, rf2])
  have nf3 : w3.frozen? ⟨w.heap.size + 1, 3, none⟩ = false := (g3.frozen (by simp [World.setCell]; omega)).trans (by simp [go_sem, rf3])
  have HP3 : Hid (PInts (In w1.heap.size w3.heap.size) w3 (.slice pa out.length pc) out) := Lib.hid (hp3.wide (by simp [World.setCell]) (Nat.le_refl _))
  have HC3 : Hid (PConds (In (w.heap.size + 1 + 1) w1.heap.size) w3 (.slice b1 conds.length c1) conds) := Lib.hid ((HC1.out.loc (lo' := w.heap.size + 1) fr_cond (Loc.setCell (Loc.refl _ _) (by dsimp only; omega) _) (by omega)).gr fr_cond g3)
  have GW3 := Lib.hid (gw2.trans g3)
  have HZ3 : Hid (w1.heap.size ≤ w3.heap.size) := Lib.hid (by have := g3.size; simpa [World.setCell] using this)
  have hzz := HZ3.out
  clear hp3 g3 gw1 gw2 hb1 k0 k1 k2 k3 kf2 kf3 r0 r1 r2 r3 rf0 rf1 rf2 rf3
  go_wp2_with fail
  refine bodyPost_ret (v := .agg #[.int .i64 id, .int .i64 ten, .slice b1 conds.length c1, .slice pa out.length pc]) (by simp [results, Try.results139, go_sem, *]) rfl ⟨_, _, rfl, (by repeat' (first | with_reducible exact GW3.out | with_reducible refine Gr.setCell ?_ ?_ _ | (dsimp only; omega))), w1.heap.size, by omega, by simp [World.setCell]; omega, ?_, ?_⟩
  · exact (HC3.out.loc (lo' := w.heap.size + 1 + 1) fr_cond (by repeat' (first | with_reducible exact Loc.refl _ _ | with_reducible refine Loc.setCell ?_ ?_ _ | (dsimp only; omega))) (Nat.le_refl _)).wide (by omega) (Nat.le_refl _)
  · exact (HP3.out.loc (lo' := w.heap.size + 1 + 1) fr_int (by repeat' (first | with_reducible exact Loc.refl _ _ | with_reducible refine Loc.setCell ?_ ?_ _ | (dsimp only; omega))) (by omega)).wide (Nat.le_refl _) (by simp [World.setCell])
end Go.Proofs.Ytnnapjaggahjgaa
