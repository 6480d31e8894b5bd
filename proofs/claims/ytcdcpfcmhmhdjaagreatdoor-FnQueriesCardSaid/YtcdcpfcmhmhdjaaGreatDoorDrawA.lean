/- The drawing of values: a query that may be spoilt; lists of queries with one. (Printed by gen_drawa.py.) -/
import Derived.Test.YtcdcpfcmhmhdjaaGreatDoorDrawL
import Derived.Test.YtcdcpfcmhmhdjaaGreatDoorHeld
import Derived.Test.YtcdcpfcmhmhdjaaGreatDoorStepN
namespace Go.Proofs.YtcdcpfcmhmhdjaaGreatDoor
open Go.RowKit Go.ChangeShapes Go.WideShapes Go.Deep
theorem step_push_q {α : Type} {P : Program} {ops : Array Oper} {o : Oper} {a : Act} {K : Act → World → Prop} {Q : Exit → Act → World → Prop} {E : Prop} {w wr : World} {R : World → List Value → α → Prop} {S S' : World → Prop} {lo : Nat} (t e size bytes : Nat) {z : Value} (ht : P.underlying t = some (.slice e))
    (hi : (P.info? e).map (fun i => (i.zero, i.size, i.bytes)) = some (some z, size, bytes)) (hzs : z.cells.size = size) (hsz : 0 < size) (hby : 0 < bytes) (hgd : o.guard = none) (s x : Operand)
    (ho : o.op = .call { callee := .builtin .append, args := #[s, x], argTypes := #[t, t] }) {v : Value} {ys : List α} (y : α) (c : List Value)
    (hs : a.eval s = v) (hx : a.eval x = .slice (some ⟨wr.heap.size, 0, none⟩) 1 1) (hw : w = wr.alloc (.cells c.toArray e)) (hown : ORq e size R S lo wr v ys) (hlo : lo ≤ wr.heap.size) (hl : c.length = size) (h1 : ∀ u ∈ c, u.oneCell' = true)
    (hQ : ∀ w', S' w' → S w') (hy : ∀ w', S' w' → R w' c y) (hn : (ys.length + 1) * bytes ≤ 140737488355328)
    (h : ∀ g cap w', ORq e size R S' lo w' (.slice (some ⟨g, 0, none⟩) (ys ++ [y]).length cap) (ys ++ [y]) → Below lo wr w' → (v.ownBlock = some g ∨ g = wr.heap.size + 1) → (∀ k, k < wr.heap.size → v.ownBlock ≠ some k → w'.heap[k]? = wr.heap[k]?) → K (a.put o.dst (.slice (some ⟨g, 0, none⟩) (ys ++ [y]).length cap)) w') :
    if Region.wanted o (yielded ops a.tmps) = true then Oper.wp P o a w K Q else E := by
  obtain ⟨cs, hrow, hel⟩ := hown
  refine step_push_n t e size bytes ht hi hzs hsz hby hgd s x ho 1 (by decide) c hs hx hw hrow (by omega) h1 hn hlo fun g cap w' k1 k2 k3 k4 => ?_
  have hO : ORq e size R S' lo w' (.slice (some ⟨g, 0, none⟩) (ys ++ [y]).length cap) (ys ++ [y]) := by
    refine ⟨updC cs ys.length c, ?_, fun i hi => ?_⟩
    · rw [List.length_append, List.length_singleton, flatC_snoc hl]; exact k1
    · by_cases e : i = ys.length
      · subst e
        exact ⟨by rw [updC_at]; exact hl, fun w' hw' => by rw [updC_at]; simpa using hy w' hw'⟩
      · have hi' : i < ys.length := by simp at hi; omega
        refine ⟨by rw [updC_ne _ _ e]; exact (hel i hi').1, fun w' hw' => ?_⟩
        rw [updC_ne _ _ e, List.getElem_append_left hi']
        exact (hel i hi').2 w' (hQ w' hw')
  have := h g cap w' hO k2 k3 k4
  rwa [List.length_append, List.length_singleton] at this
theorem pconds_row {F : Nat → Prop} {w : World} {v : Value} {cs : List DCond} {lo : Nat} (h : PConds F w v cs) (k : ∀ b, F b → lo ≤ b) : ORq 57 3 RCond (fun _ => True) lo w v cs := by
  obtain ⟨c1, hE⟩ := h
  have hr := hE.row k
  obtain ⟨_, _, G, h3⟩ := hE
  exact ⟨c1, hr, fun i hi => ⟨(h3 i hi).1, fun _ _ => (h3 i hi).2.1⟩⟩
theorem pints_row {F : Nat → Prop} {w : World} {v : Value} {xs : List Int} {lo : Nat} (h : PInts F w v xs) (k : ∀ b, F b → lo ≤ b) : ORq 3 1 RInt (fun _ => True) lo w v xs := by
  obtain ⟨c1, hE⟩ := h
  have hr := hE.row k
  obtain ⟨_, _, G, h3⟩ := hE
  exact ⟨c1, hr, fun i hi => ⟨(h3 i hi).1, fun _ _ => (h3 i hi).2.1⟩⟩
theorem row_pconds {w : World} {v : Value} {cs : List DCond} {lo : Nat} (h : ORq 57 3 RCond (fun _ => True) lo w v cs) : PConds (fun b => v.ownBlock = some b) w v cs := by
  obtain ⟨c1, hr, he⟩ := h
  exact ⟨c1, Joins.ownsRow_le hr (Nat.zero_le _), fun q hq => hq, fun _ _ => False, fun i hi => ⟨(he i hi).1, (he i hi).2 w trivial, fun b hb => hb.elim, fun _ _ _ _ hb => hb.elim⟩⟩
theorem row_pints {w : World} {v : Value} {xs : List Int} {lo : Nat} (h : ORq 3 1 RInt (fun _ => True) lo w v xs) : PInts (fun b => v.ownBlock = some b) w v xs := by
  obtain ⟨c1, hr, he⟩ := h
  exact ⟨c1, Joins.ownsRow_le hr (Nat.zero_le _), fun q hq => hq, fun _ _ => False, fun i hi => ⟨(he i hi).1, (he i hi).2 w trivial, fun b hb => hb.elim, fun _ _ _ _ hb => hb.elim⟩⟩
/-- Two flat rows, apart. -/
def Rows2 (lo : Nat) (w : World) (u x : Value) (cs : List DCond) (os : List Int) : Prop :=
  ORq 57 3 RCond (fun _ => True) lo w u cs ∧ ORq 3 1 RInt (fun _ => True) lo w x os ∧ ∀ b, u.ownBlock = some b → x.ownBlock ≠ some b
theorem TwoRow.rows {lo : Nat} {w : World} {u x : Value} {cs : List DCond} {os : List Int} (h : TwoRow lo w u x cs os) : Rows2 lo w u x cs os := by
  obtain ⟨F1, F2, h1, h2, h3, h4⟩ := h
  refine ⟨pconds_row h1 fun b hb => (h3 b hb).1.1, pints_row h2 fun b hb => (h4 b hb).1, fun b hb hx => ?_⟩
  obtain ⟨_, _, k1, _⟩ := h1
  obtain ⟨_, _, k2, _⟩ := h2
  exact (h3 b (k1 b hb)).2 (k2 b hx)
theorem Rows2.two {lo : Nat} {w : World} {u x : Value} {cs : List DCond} {os : List Int} (h : Rows2 lo w u x cs os) : TwoRow lo w u x cs os :=
  ⟨_, _, row_pconds h.1, row_pints h.2.1, fun b hb => ⟨⟨(h.1.lt hb).1, (h.1.lt hb).2⟩, h.2.2 b hb⟩, fun _ hb => ⟨(h.2.1.lt hb).1, (h.2.1.lt hb).2⟩⟩
theorem Rows2.keep {lo : Nat} {w w' : World} {u x : Value} {cs : List DCond} {os : List Int} (h : Rows2 lo w u x cs os) (k : ∀ b, lo ≤ b → b < w.heap.size → w'.heap[b]? = w.heap[b]?) : Rows2 lo w' u x cs os :=
  ⟨h.1.keep fun b _ h1 h2 => k b h1 h2, h.2.1.keep fun b _ h1 h2 => k b h1 h2, h.2.2⟩
theorem Rows2.gr {lo : Nat} {w w' : World} {u x : Value} {cs : List DCond} {os : List Int} (h : Rows2 lo w u x cs os) (k : Gr w w') : Rows2 lo w' u x cs os := h.keep fun b _ hb => k.block b hb
theorem Rows2.dr {lo g : Nat} {w w' : World} {u x : Value} {cs : List DCond} {os : List Int} (h : Rows2 lo w u x cs os) (hg : g < lo) (k : Dr g w w') : Rows2 lo w' u x cs os := h.keep fun b hb hl => k.block b hl (by omega)
theorem Rows2.set {lo : Nat} {w : World} {u x : Value} {cs : List DCond} {os : List Int} (h : Rows2 lo w u x cs os) {p : Addr} (v : Value) (hu : u.ownBlock ≠ some p.block) (hx : x.ownBlock ≠ some p.block) : Rows2 lo (w.setCell p v) u x cs os :=
  ⟨h.1.keep fun _ hb _ _ => Below.heap_setCell _ _ _ _ (fun e => hu (e ▸ hb)), h.2.1.keep fun _ hb _ _ => Below.heap_setCell _ _ _ _ (fun e => hx (e ▸ hb)), h.2.2⟩
/-- The query in its box B: what its fields own lies elsewhere. -/
structure QA (w : World) (g R B lo : Nat) (id ten : Int) (u x : Value) (cs : List DCond) (os : List Int) (wr : World) : Prop where
  q : QB w g R B id ten u x wr
  rows : Rows2 lo wr u x cs os
  ne : u.ownBlock ≠ some B ∧ x.ownBlock ≠ some B
  lo : R < lo ∧ lo ≤ B
  i64 : I64 id ∧ I64 ten
section
variable {w wr w' : World} {g R B lo : Nat} {id ten : Int} {u x : Value} {cs : List DCond} {os : List Int}
theorem QA.draw (h : QA w g R B lo id ten u x cs os wr) (k : Cur w' g ∧ Dr g wr w') : QA w g R B lo id ten u x cs os w' :=
  ⟨h.q.draw k, h.rows.dr (by have := h.q.lt; have := h.lo; omega) k.2, h.ne, h.lo, h.i64⟩
theorem QA.gr (h : QA w g R B lo id ten u x cs os wr) (k : Gr wr w') : QA w g R B lo id ten u x cs os w' := ⟨h.q.gr k, h.rows.gr k, h.ne, h.lo, h.i64⟩
theorem QA.box (h : QA w g R B lo id ten u x cs os wr) {o : Value} (ho : ∀ b, o.ownBlock = some b → lo ≤ b ∧ b ≠ B) (hsz : wr.heap.size ≤ w'.heap.size) (hb : Below lo wr w') (hs : ∀ k, k < wr.heap.size → o.ownBlock ≠ some k → w'.heap[k]? = wr.heap[k]?) : QB w g R B id ten u x w' := by
  have hl := h.q.lt
  have hlo := h.lo
  have hBl := h.q.ltB
  have k : ∀ b, b < lo → b < wr.heap.size → w'.heap[b]? = wr.heap[b]? := fun b h1 h2 => hs b h2 fun e => by have := (ho b e).1; omega
  exact ⟨by rw [k R hlo.1 (by omega)]; exact h.q.r, by rw [hs B hBl fun e => (ho B e).2 rfl]; exact h.q.b, hl, h.q.cur.keep fun b hb => k b (by omega) (by omega),
    ⟨hb.os.trans h.q.dr.os, hb.tape.trans h.q.dr.tape, hb.output.trans h.q.dr.output, Nat.le_trans h.q.dr.size hsz, fun b h1 h2 => (k b (by omega) (Nat.lt_of_lt_of_le h1 h.q.dr.size)).trans (h.q.dr.block b h1 h2)⟩⟩
theorem QA.pushX (h : QA w g R B lo id ten u x cs os wr) {g' c' : Nat} {ys : List Int} (hO : ORq 3 1 RInt (fun _ => True) lo w' (.slice (some ⟨g', 0, none⟩) ys.length c') ys) (hb : Below lo wr w') (hor : x.ownBlock = some g' ∨ g' = wr.heap.size + 1) (hs : ∀ k, k < wr.heap.size → x.ownBlock ≠ some k → w'.heap[k]? = wr.heap[k]?) :
    QA w g R B lo id ten u (.slice (some ⟨g', 0, none⟩) ys.length c') cs ys (w'.setCell ⟨B, 3, none⟩ (.slice (some ⟨g', 0, none⟩) ys.length c')) := by
  have hx := fun b hb => h.rows.2.1.lt (g := b) hb
  have hu := fun b hb => h.rows.1.lt (g := b) hb
  have hBl := h.q.ltB
  have hgB : g' ≠ B := fun e => by
    rcases hor with h1 | h1
    · exact h.ne.2 (e ▸ h1)
    · omega
  have hq := h.box (o := x) (fun b e => ⟨(hx b e).1, fun e2 => h.ne.2 (e2 ▸ e)⟩) hb.size hb hs
  have hne : (Value.slice (some ⟨g', 0, none⟩) ys.length c').ownBlock ≠ some B := fun e => hgB (Option.some.inj e)
  refine ⟨hq.set (k := 3) _ rfl, Rows2.set ⟨h.rows.1.keep fun b e _ hl => hs b hl fun e2 => h.rows.2.2 b e e2, hO, fun b e e2 => ?_⟩ _ h.ne.1 hne, ⟨h.ne.1, hne⟩, h.lo, h.i64⟩
  have e3 : g' = b := Option.some.inj e2
  subst e3
  rcases hor with h1 | h1
  · exact h.rows.2.2 _ e h1
  · have := (hu _ e).2; omega
theorem QA.pushU (h : QA w g R B lo id ten u x cs os wr) {g' c' : Nat} {ys : List DCond} (hO : ORq 57 3 RCond (fun _ => True) lo w' (.slice (some ⟨g', 0, none⟩) ys.length c') ys) (hb : Below lo wr w') (hor : u.ownBlock = some g' ∨ g' = wr.heap.size + 1) (hs : ∀ k, k < wr.heap.size → u.ownBlock ≠ some k → w'.heap[k]? = wr.heap[k]?) :
    QA w g R B lo id ten (.slice (some ⟨g', 0, none⟩) ys.length c') x ys os (w'.setCell ⟨B, 2, none⟩ (.slice (some ⟨g', 0, none⟩) ys.length c')) := by
  have hx := fun b hb => h.rows.2.1.lt (g := b) hb
  have hu := fun b hb => h.rows.1.lt (g := b) hb
  have hBl := h.q.ltB
  have hgB : g' ≠ B := fun e => by
    rcases hor with h1 | h1
    · exact h.ne.1 (e ▸ h1)
    · omega
  have hq := h.box (o := u) (fun b e => ⟨(hu b e).1, fun e2 => h.ne.1 (e2 ▸ e)⟩) hb.size hb hs
  have hne : (Value.slice (some ⟨g', 0, none⟩) ys.length c').ownBlock ≠ some B := fun e => hgB (Option.some.inj e)
  refine ⟨hq.set (k := 2) _ rfl, Rows2.set ⟨hO, h.rows.2.1.keep fun b e _ hl => hs b hl fun e2 => h.rows.2.2 b e2 e, fun b e e2 => ?_⟩ _ hne h.ne.2, ⟨hne, h.ne.2⟩, h.lo, h.i64⟩
  have e3 : g' = b := Option.some.inj e
  subst e3
  rcases hor with h1 | h1
  · exact h.rows.2.2 _ h1 e2
  · have := (hx _ e2).2; omega
theorem QA.set0 (h : QA w g R B lo id ten u x cs os wr) {id' : Int} (hi : I64 id') : QA w g R B lo id' ten u x cs os (wr.setCell ⟨B, 0, none⟩ (.int .i64 id')) := ⟨h.q.set (k := 0) _ rfl, h.rows.set _ h.ne.1 h.ne.2, h.ne, h.lo, hi, h.i64.2⟩
theorem QA.set1 (h : QA w g R B lo id ten u x cs os wr) {ten' : Int} (hi : I64 ten') : QA w g R B lo id ten' u x cs os (wr.setCell ⟨B, 1, none⟩ (.int .i64 ten')) := ⟨h.q.set (k := 1) _ rfl, h.rows.set _ h.ne.1 h.ne.2, h.ne, h.lo, h.i64.1, hi⟩
end
def pick0 : List Int := [-1, 23, 24]
def pick1 : List Int := [-1, 3, 4]
def pick2 : List Int := [2, 3, 99, 100]
def pick3 : List Int := [-1, 0, 3]
theorem pick0_i64 : ∀ x ∈ pick0, I64 x := by intro x hx; simp only [pick0, List.mem_cons, List.not_mem_nil, or_false] at hx; unfold I64; omega
theorem pick1_i64 : ∀ x ∈ pick1, I64 x := by intro x hx; simp only [pick1, List.mem_cons, List.not_mem_nil, or_false] at hx; unfold I64; omega
theorem pick2_i64 : ∀ x ∈ pick2, I64 x := by intro x hx; simp only [pick2, List.mem_cons, List.not_mem_nil, or_false] at hx; unfold I64; omega
theorem pick3_i64 : ∀ x ∈ pick3, I64 x := by intro x hx; simp only [pick3, List.mem_cons, List.not_mem_nil, or_false] at hx; unfold I64; omega
set_option maxRecDepth 100000 in
set_option maxHeartbeats 4000000 in
theorem spec_l4Any (g : Nat) (w : World) (hc : Cur w g) : Calls Tryz.prog 23 #[.pointer (some ⟨g, 0, none⟩)] w fun e w' => ∃ (u x : Value) (id ten : Int) (cs : List DCond) (os : List Int), e = .returned (.agg #[.int .i64 id, .int .i64 ten, u, x]) ∧ Hid (I64 id ∧ I64 ten ∧ cs.length ≤ 4 ∧ os.length ≤ 4) ∧ Hid (TwoRow w.heap.size w' u x cs os) ∧ Hid (Cur w' g ∧ Dr g w w') := by
  have HC := Lib.hid hc
  obtain ⟨W0, hW0⟩ : ∃ W0, W0 = w.alloc (.cells #[.int .i64 0, .int .i64 0, .slice none 0 0, .slice none 0 0] 27) := ⟨_, rfl⟩
  have HW0 : Hid (Cur W0 g ∧ Dr g w W0 ∧ W0.heap[w.heap.size]? = some (.cells #[.int .i64 0, .int .i64 0, .slice none 0 0, .slice none 0 0] 27) ∧ W0.heap.size = w.heap.size + 1) := Lib.hid (by rw [hW0]; exact ⟨hc.gr ((Gr.refl w).alloc _), (Chg.refl _ _).alloc _, heap_alloc_new _ _, by simp⟩)
  have HGW : Hid (g < w.heap.size) := Lib.hid hc.lt
  clear hc
  go_enter Tryz.func23, Tryz.ntmps23
  go_wp2_with fail
  rw [← hW0]
  clear hW0
  refine (spec_l1Below g 9 _ HW0.out.1 (by decide) (by decide)).mono ?_
  rintro e w1 ⟨id, rfl, hid, hk1⟩
  go_wp2_with fail
  refine (spec_l4Query g id _ hk1.out.1 (by have := hid.out; omega)).mono ?_
  rintro e w2 ⟨u, x, ten, cs, os, rfl, hq, htw, hk2⟩
  obtain ⟨ua, uc, xa, xc, rfl, rfl⟩ := htw.out.form
  obtain ⟨B, hB⟩ : ∃ B, B = w2.heap.size := ⟨_, rfl⟩
  obtain ⟨W, hW⟩ : ∃ W, W = w2.alloc (.cells #[.int .i64 id, .int .i64 ten, .slice ua cs.length uc, .slice xa os.length xc] 27) := ⟨_, rfl⟩
  have HLEN : Hid (cs.length ≤ 3 ∧ os.length ≤ 3) := Lib.hid (query_ids hq.out).2.2
  have HA : Hid (QA w g w.heap.size B (w.heap.size + 1) id ten (.slice ua cs.length uc) (.slice xa os.length xc) cs os W) := Lib.hid (by
    have h1 := hk1.out
    have h2 := hk2.out
    have hs : w.heap.size + 1 ≤ w1.heap.size := by have := h1.2.size; have := HW0.out.2.2.2; omega
    have hs2 := h2.2.size
    have hgw := HGW.out
    have hr := htw.out.rows
    have hlt1 := fun b hb => hr.1.lt (g := b) hb
    have hlt2 := fun b hb => hr.2.1.lt (g := b) hb
    rw [hW, hB]
    refine ⟨⟨?_, heap_alloc_new _ _, ⟨hgw, Nat.le_refl _, by omega⟩, h2.1.gr ((Gr.refl _).alloc _), ((HW0.out.2.1.trans h1.2).trans h2.2).alloc _⟩, ?_, ⟨fun e => ?_, fun e => ?_⟩, ⟨Nat.lt_succ_self _, by omega⟩, ?_, ?_⟩
    · rw [Below.heap_alloc _ _ _ (by omega), h2.2.block _ (by omega) (by omega), h1.2.block _ (by have := HW0.out.2.2.2; omega) (by omega)]
      exact HW0.out.2.2.1
    · have h3 : Rows2 (w.heap.size + 1) w2 (.slice ua cs.length uc) (.slice xa os.length xc) cs os := by
        obtain ⟨⟨c1, k1, k2⟩, ⟨c2, k3, k4⟩, k5⟩ := hr
        exact ⟨⟨c1, Joins.ownsRow_le k1 hs, k2⟩, ⟨c2, Joins.ownsRow_le k3 hs, k4⟩, k5⟩
      exact h3.gr ((Gr.refl _).alloc _)
    · have := (hlt1 _ e).2; omega
    · have := (hlt2 _ e).2; omega
    · have := hid.out; unfold I64; omega
    · have := query_ids hq.out; unfold I64; dsimp only at *; omega)
  clear hk1 hk2 htw hid hq
  go_wp2_with fail
  rw [← hW, ← hB]
  clear hW hB
  refine (spec_l1Below g 10 _ HA.out.q.cur (by decide) (by decide)).mono ?_
  rintro e w3 ⟨t, rfl, ht, hk3⟩
  have HA3 := Lib.hid (HA.out.draw hk3.out)
  clear HA hk3
  by_cases t0 : t = 0
  · have e0 : (t == 0) = true := by simp [t0]
    have T := Lib.hid t0
    clear t0 ht
    have HK : Hid (Cur (w3.alloc (.cells (pick0.map (Value.int .i64)).toArray 3)) g) := Lib.hid (HA3.out.q.cur.gr ((Gr.refl _).alloc _))
    have HV : Hid (∀ w', Dr g (w3.alloc (.cells (pick0.map (Value.int .i64)).toArray 3)) w' → RInts w' (.slice (some ⟨w3.heap.size, 0, none⟩) 3 3) pick0) := Lib.hid fun w' k => lit_ints HA3.out.q.cur.lt pick0 pick0_i64 (by decide) k
    go_wp2_with fail
    refine (spec_l1PickInt g _ pick0 _ HK.out HV.out (by decide)).mono ?_
    rintro e w4 ⟨p, rfl, hp, hk4⟩
    have HA4 := Lib.hid ((HA3.out.gr ((Gr.refl _).alloc (.cells (pick0.map (Value.int .i64)).toArray 3))).draw hk4.out)
    have c4 := HA4.out.q.cells.1
    have f4 := (HA4.out.q.frz 0).1
    have HA5 := Lib.hid (HA4.out.set0 (pick0_i64 _ hp.out))
    clear HK HV hk4 HA3
    obtain ⟨d0, d1, d2, d3⟩ := HA5.out.q.cells
    obtain ⟨r0, r1, r2, r3⟩ := HA5.out.q.cellsR
    have f0 := (HA5.out.q.frz 0).2
    have f1 := (HA5.out.q.frz 1).2
    have f2 := (HA5.out.q.frz 2).2
    have f3 := (HA5.out.q.frz 3).2
    go_wp2_with fail
    refine bodyPost_ret (v := .agg #[.int .i64 p, .int .i64 ten, .slice ua cs.length uc, .slice xa os.length xc]) (by simp [results, Tryz.results23, go_sem, *]) rfl ⟨_, _, p, ten, cs, os, rfl, Lib.hid ⟨HA5.out.i64.1, HA5.out.i64.2, by have := HLEN.out; omega, by have := HLEN.out; omega⟩, Lib.hid (HA5.out.rows.two.keep (Nat.le_succ _) (by simp [World.setCell]) fun q hq _ => ?_), Lib.hid ⟨HA5.out.q.cur.keep fun q hq => ?_, ?_⟩⟩
    · exact four_other (by omega)
    · exact four_other (by have := HGW.out; omega)
    · exact (((HA5.out.q.dr.setHigh (Nat.le_refl _) _).setHigh (Nat.le_refl _) _).setHigh (Nat.le_refl _) _).setHigh (Nat.le_refl _) _
  · have e0 : (t == 0) = false := by simp [t0]
    by_cases t1 : t = 1
    · have e1 : (t == 1) = true := by simp [t1]
      have T := Lib.hid t1
      clear t1 ht
      have HK : Hid (Cur (w3.alloc (.cells (pick1.map (Value.int .i64)).toArray 3)) g) := Lib.hid (HA3.out.q.cur.gr ((Gr.refl _).alloc _))
      have HV : Hid (∀ w', Dr g (w3.alloc (.cells (pick1.map (Value.int .i64)).toArray 3)) w' → RInts w' (.slice (some ⟨w3.heap.size, 0, none⟩) 3 3) pick1) := Lib.hid fun w' k => lit_ints HA3.out.q.cur.lt pick1 pick1_i64 (by decide) k
      go_wp2_with fail
      refine (spec_l1PickInt g _ pick1 _ HK.out HV.out (by decide)).mono ?_
      rintro e w4 ⟨p, rfl, hp, hk4⟩
      have HA4 := Lib.hid ((HA3.out.gr ((Gr.refl _).alloc (.cells (pick1.map (Value.int .i64)).toArray 3))).draw hk4.out)
      have c4 := HA4.out.q.cells.2.1
      have f4 := (HA4.out.q.frz 1).1
      have HA5 := Lib.hid (HA4.out.set1 (pick1_i64 _ hp.out))
      clear HK HV hk4 HA3
      obtain ⟨d0, d1, d2, d3⟩ := HA5.out.q.cells
      obtain ⟨r0, r1, r2, r3⟩ := HA5.out.q.cellsR
      have f0 := (HA5.out.q.frz 0).2
      have f1 := (HA5.out.q.frz 1).2
      have f2 := (HA5.out.q.frz 2).2
      have f3 := (HA5.out.q.frz 3).2
      go_wp2_with fail
      refine bodyPost_ret (v := .agg #[.int .i64 id, .int .i64 p, .slice ua cs.length uc, .slice xa os.length xc]) (by simp [results, Tryz.results23, go_sem, *]) rfl ⟨_, _, id, p, cs, os, rfl, Lib.hid ⟨HA5.out.i64.1, HA5.out.i64.2, by have := HLEN.out; omega, by have := HLEN.out; omega⟩, Lib.hid (HA5.out.rows.two.keep (Nat.le_succ _) (by simp [World.setCell]) fun q hq _ => ?_), Lib.hid ⟨HA5.out.q.cur.keep fun q hq => ?_, ?_⟩⟩
      · exact four_other (by omega)
      · exact four_other (by have := HGW.out; omega)
      · exact (((HA5.out.q.dr.setHigh (Nat.le_refl _) _).setHigh (Nat.le_refl _) _).setHigh (Nat.le_refl _) _).setHigh (Nat.le_refl _) _
    · have e1 : (t == 1) = false := by simp [t1]
      by_cases t2 : t = 2
      · have e2 : (t == 2) = true := by simp [t2]
        have T := Lib.hid t2
        clear t2 ht
        go_wp2_with fail
        obtain ⟨W3, hW3⟩ : ∃ W3, W3 = w3.drew := ⟨_, rfl⟩
        have HA4 : Hid (QA w g w.heap.size B (w.heap.size + 1) id ten (.slice ua cs.length uc) (.slice xa os.length xc) cs os W3) := Lib.hid (by rw [hW3]; exact HA3.out.gr ((Gr.refl _).drew))
        refine wp_region_G (S := fun w' => w'.cell? ⟨B, 2, none⟩ = some (.slice ua cs.length uc)) (m := 11) (by kernel_rfl) ?_
        rw [← hW3]
        clear hW3 HA3
        have hS : (fun w' : World => w'.cell? ⟨B, 2, none⟩ = some (.slice ua cs.length uc)) W3 := HA4.out.q.cells.2.2.1
        refine wpAnyG_take (i := 0) (v := ?v0) hS rfl (by kernel_rfl) (by kernel_rfl) (by kernel_rfl) (by kernel_rfl) (fun _ _ _ h => h) (Or.inl ⟨by rfl, ?hy0⟩) ?rest0
        case hy0 => (intro w' hw'; (try dsimp only at hw'); go_simp; try with_reducible rfl)
        try simp only [Act.put]
        refine wpAnyG_take (i := 1) (v := ?v1) hS rfl (by kernel_rfl) (by kernel_rfl) (by kernel_rfl) (by kernel_rfl) (fun _ _ _ h => h) (Or.inl ⟨by rfl, ?hy1⟩) ?rest1
        case hy1 => (intro w' hw'; (try dsimp only at hw'); go_simp; try with_reducible rfl)
        try simp only [Act.put]
        refine wpAnyG_take (i := 2) (v := ?v2) hS rfl (by kernel_rfl) (by kernel_rfl) (by kernel_rfl) (by kernel_rfl) (fun _ _ _ h => h) (Or.inl ⟨by rfl, ?hy2⟩) ?rest2
        case hy2 => (intro w' hw'; (try dsimp only at hw'); go_simp; try with_reducible rfl)
        try simp only [Act.put]
        refine wpAnyG_take (i := 4) (v := ?v4) hS rfl (by kernel_rfl) (by kernel_rfl) (by kernel_rfl) (by kernel_rfl) (fun _ _ _ h => h) (Or.inl ⟨by rfl, ?hy4⟩) ?rest4
        case hy4 => (intro w' hw'; (try dsimp only at hw'); go_simp; try with_reducible rfl)
        try simp only [Act.put]
        refine wpAnyG_two (i := 3) (j := 5) rfl rfl (by kernel_rfl) (fun K3 hK3 => ?_) (fun K5 hK5 => ?_)
        · go_simp
          refine (spec_l1Below g 4 _ HA4.out.q.cur (by decide) (by decide)).mono ?_
          rintro e w4 ⟨y, rfl, hy, hk4⟩
          have HA5 := Lib.hid (HA4.out.draw hk4.out)
          go_simp
          refine hK3.out _ _ (fun _ => HA5.out.q.cells.2.2.1) ?_
          clear hK3 K3
          try simp only [Act.put]
          have HA6 := Lib.hid (HA5.out.gr ((Gr.refl _).alloc (.cells (pick2.map (Value.int .i64)).toArray 3)))
          refine wpAnyG_one (i := 5) rfl (by kernel_rfl) (fun K5 hK5 => ?_)
          go_simp
          refine hK5.out _ _ (fun _ => HA6.out.q.cells.2.2.1) ?_
          clear hK5 K5
          try simp only [Act.put]
          have HV : Hid (∀ w', Dr g (w4.alloc (.cells (pick2.map (Value.int .i64)).toArray 3)) w' → RInts w' (.slice (some ⟨w4.heap.size, 0, none⟩) 4 4) pick2) := Lib.hid fun w' k => lit_ints HA5.out.q.cur.lt pick2 pick2_i64 (by decide) k
          refine wpAnyG_one (i := 6) rfl (by kernel_rfl) (fun K6 hK6 => ?_)
          go_simp
          refine (spec_l1PickInt g _ pick2 _ HA6.out.q.cur HV.out (by decide)).mono ?_
          rintro e w5 ⟨p, rfl, hp, hk5⟩
          have HA7 := Lib.hid (HA6.out.draw hk5.out)
          go_simp
          refine hK6.out _ _ (fun _ => HA7.out.q.cells.2.2.1) ?_
          clear hK6 K6
          try simp only [Act.put]
          clear HV HA4 HA5 HA6 hk4 hk5 hS
          have hS6 : (fun w' : World => w'.cell? ⟨B, 2, none⟩ = some (.slice ua cs.length uc)) w5 := HA7.out.q.cells.2.2.1
          refine wpAnyG_take (i := 7) (v := ?va7) hS6 rfl (by kernel_rfl) (by kernel_rfl) (by kernel_rfl) (by kernel_rfl) (fun _ _ _ h => h) (Or.inl ⟨by rfl, ?hya7⟩) ?resta7
          case hya7 => (intro w' hw'; (try dsimp only at hw'); go_simp; try with_reducible rfl)
          try simp only [Act.put]
          refine wpAnyG_one (i := 8) rfl (by kernel_rfl) (fun K8 hK8 => ?_)
          go_simp
          refine hK8.out _ _ (fun _ => (HA7.out.gr ((Gr.refl _).alloc _)).q.cells.2.2.1) ?_
          clear hK8 K8
          try simp only [Act.put]
          refine wpAnyG_one (i := 9) rfl (by kernel_rfl) (fun K9 hK9 => ?_)
          refine step_push_q (wr := w5) (R := RCond) (S := fun _ => True) (S' := fun _ => True) (lo := w.heap.size + 1) 24 57 3 24 Tryz.underlying24 (z := .agg #[.int .i64 0, .int .i64 0, .int .i64 0]) (by kernel_rfl) rfl (by decide) (by decide) rfl _ _ rfl (v := .slice ua cs.length uc) (ys := cs) ⟨y, 3, p⟩ [.int .i64 y, .int .i64 3, .int .i64 p] rfl rfl rfl HA7.out.rows.1 (by have := HA7.out.lo; have := HA7.out.q.ltB; omega) rfl (by simp [Value.oneCell']) (fun _ h => h) (fun _ _ => ⟨rfl, by have := hy.out; unfold I64; dsimp only; omega, by unfold I64; dsimp only; omega, pick2_i64 _ hp.out⟩) (by have := HLEN.out; omega) ?_
          intro g7 c7 w7 hO7 hB7 hor7 hs7
          obtain ⟨X, hX⟩ : ∃ X, X = cs ++ [⟨y, 3, p⟩] := ⟨_, rfl⟩
          rw [← hX] at hO7
          rw [← hX]
          have HX : Hid (X.length ≤ 4) := Lib.hid (by rw [hX]; have := HLEN.out; simp; omega)
          have HA8 := Lib.hid (HA7.out.pushU hO7 hB7 hor7 hs7)
          have HB7 := Lib.hid (HA7.out.box (o := .slice ua cs.length uc) (fun b e => ⟨(HA7.out.rows.1.lt e).1, fun e2 => HA7.out.ne.1 (e2 ▸ e)⟩) hB7.size hB7 hs7)
          clear hO7 hB7 hor7 hs7 hX
          have d7 := HB7.out.cells.2.2.1
          have f7 := (HB7.out.frz 2).1
          refine hK9.out _ _ (fun _ => d7) ?_
          clear hK9 K9
          try simp only [Act.put]
          have hS7 : (fun w' : World => w'.cell? ⟨B, 2, none⟩ = some (.slice ua cs.length uc)) w7 := d7
          refine wpAnyG_take (i := 10) (v := ?va10) hS7 rfl (by kernel_rfl) (by kernel_rfl) (by kernel_rfl) (by kernel_rfl) (fun _ _ _ h => h) (Or.inl ⟨by rfl, ?hya10⟩) ?resta10
          case hya10 => (intro w' hw'; (try dsimp only at hw'); go_simp; try with_reducible rfl)
          try simp only [Act.put]
          refine wpAnyG_one (i := 11) rfl (by kernel_rfl) (fun K11 hK11 => ?_)
          go_simp
          refine hK11.out _ _ (fun h => absurd rfl h) ?_
          clear hK11 K11
          try simp only [Act.put]
          refine wpAnyG_done (by kernel_rfl) ?_ _
          clear hS6 hS7 d7 f7
          obtain ⟨d0, d1, d2, d3⟩ := HA8.out.q.cells
          obtain ⟨r0, r1, r2, r3⟩ := HA8.out.q.cellsR
          have f0 := (HA8.out.q.frz 0).2
          have f1 := (HA8.out.q.frz 1).2
          have f2 := (HA8.out.q.frz 2).2
          have f3 := (HA8.out.q.frz 3).2
          go_wp2_with fail
          refine bodyPost_ret (v := .agg #[.int .i64 id, .int .i64 ten, .slice (some ⟨g7, 0, none⟩) X.length c7, .slice xa os.length xc]) (by simp [results, Tryz.results23, go_sem, *]) rfl ⟨_, _, id, ten, X, os, rfl, Lib.hid ⟨HA8.out.i64.1, HA8.out.i64.2, HX.out, by have := HLEN.out; omega⟩, Lib.hid (HA8.out.rows.two.keep (Nat.le_succ _) (by simp [World.setCell]) fun q hq _ => ?_), Lib.hid ⟨HA8.out.q.cur.keep fun q hq => ?_, ?_⟩⟩
          · exact four_other (by omega)
          · exact four_other (by have := HGW.out; omega)
          · exact (((HA8.out.q.dr.setHigh (Nat.le_refl _) _).setHigh (Nat.le_refl _) _).setHigh (Nat.le_refl _) _).setHigh (Nat.le_refl _) _
        · have HA5 := Lib.hid (HA4.out.gr ((Gr.refl _).alloc (.cells (pick2.map (Value.int .i64)).toArray 3)))
          go_simp
          refine hK5.out _ _ (fun _ => HA5.out.q.cells.2.2.1) ?_
          clear hK5 K5
          try simp only [Act.put]
          refine wpAnyG_one (i := 3) rfl (by kernel_rfl) (fun K3 hK3 => ?_)
          go_simp
          refine (spec_l1Below g 4 _ HA5.out.q.cur (by decide) (by decide)).mono ?_
          rintro e w4 ⟨y, rfl, hy, hk4⟩
          have HA6 := Lib.hid (HA5.out.draw hk4.out)
          go_simp
          refine hK3.out _ _ (fun _ => HA6.out.q.cells.2.2.1) ?_
          clear hK3 K3
          try simp only [Act.put]
          have HV : Hid (∀ w', Dr g w4 w' → RInts w' (.slice (some ⟨W3.heap.size, 0, none⟩) 4 4) pick2) := Lib.hid fun w' k => lit_ints HA4.out.q.cur.lt pick2 pick2_i64 (by decide) (hk4.out.2.trans k)
          refine wpAnyG_one (i := 6) rfl (by kernel_rfl) (fun K6 hK6 => ?_)
          go_simp
          refine (spec_l1PickInt g _ pick2 _ HA6.out.q.cur HV.out (by decide)).mono ?_
          rintro e w5 ⟨p, rfl, hp, hk5⟩
          have HA7 := Lib.hid (HA6.out.draw hk5.out)
          go_simp
          refine hK6.out _ _ (fun _ => HA7.out.q.cells.2.2.1) ?_
          clear hK6 K6
          try simp only [Act.put]
          clear HV HA4 HA5 HA6 hk4 hk5 hS
          have hS6 : (fun w' : World => w'.cell? ⟨B, 2, none⟩ = some (.slice ua cs.length uc)) w5 := HA7.out.q.cells.2.2.1
          refine wpAnyG_take (i := 7) (v := ?vb7) hS6 rfl (by kernel_rfl) (by kernel_rfl) (by kernel_rfl) (by kernel_rfl) (fun _ _ _ h => h) (Or.inl ⟨by rfl, ?hyb7⟩) ?restb7
          case hyb7 => (intro w' hw'; (try dsimp only at hw'); go_simp; try with_reducible rfl)
          try simp only [Act.put]
          refine wpAnyG_one (i := 8) rfl (by kernel_rfl) (fun K8 hK8 => ?_)
          go_simp
          refine hK8.out _ _ (fun _ => (HA7.out.gr ((Gr.refl _).alloc _)).q.cells.2.2.1) ?_
          clear hK8 K8
          try simp only [Act.put]
          refine wpAnyG_one (i := 9) rfl (by kernel_rfl) (fun K9 hK9 => ?_)
          refine step_push_q (wr := w5) (R := RCond) (S := fun _ => True) (S' := fun _ => True) (lo := w.heap.size + 1) 24 57 3 24 Tryz.underlying24 (z := .agg #[.int .i64 0, .int .i64 0, .int .i64 0]) (by kernel_rfl) rfl (by decide) (by decide) rfl _ _ rfl (v := .slice ua cs.length uc) (ys := cs) ⟨y, 3, p⟩ [.int .i64 y, .int .i64 3, .int .i64 p] rfl rfl rfl HA7.out.rows.1 (by have := HA7.out.lo; have := HA7.out.q.ltB; omega) rfl (by simp [Value.oneCell']) (fun _ h => h) (fun _ _ => ⟨rfl, by have := hy.out; unfold I64; dsimp only; omega, by unfold I64; dsimp only; omega, pick2_i64 _ hp.out⟩) (by have := HLEN.out; omega) ?_
          intro g7 c7 w7 hO7 hB7 hor7 hs7
          obtain ⟨X, hX⟩ : ∃ X, X = cs ++ [⟨y, 3, p⟩] := ⟨_, rfl⟩
          rw [← hX] at hO7
          rw [← hX]
          have HX : Hid (X.length ≤ 4) := Lib.hid (by rw [hX]; have := HLEN.out; simp; omega)
          have HA8 := Lib.hid (HA7.out.pushU hO7 hB7 hor7 hs7)
          have HB7 := Lib.hid (HA7.out.box (o := .slice ua cs.length uc) (fun b e => ⟨(HA7.out.rows.1.lt e).1, fun e2 => HA7.out.ne.1 (e2 ▸ e)⟩) hB7.size hB7 hs7)
          clear hO7 hB7 hor7 hs7 hX
          have d7 := HB7.out.cells.2.2.1
          have f7 := (HB7.out.frz 2).1
          refine hK9.out _ _ (fun _ => d7) ?_
          clear hK9 K9
          try simp only [Act.put]
          have hS7 : (fun w' : World => w'.cell? ⟨B, 2, none⟩ = some (.slice ua cs.length uc)) w7 := d7
          refine wpAnyG_take (i := 10) (v := ?vb10) hS7 rfl (by kernel_rfl) (by kernel_rfl) (by kernel_rfl) (by kernel_rfl) (fun _ _ _ h => h) (Or.inl ⟨by rfl, ?hyb10⟩) ?restb10
          case hyb10 => (intro w' hw'; (try dsimp only at hw'); go_simp; try with_reducible rfl)
          try simp only [Act.put]
          refine wpAnyG_one (i := 11) rfl (by kernel_rfl) (fun K11 hK11 => ?_)
          go_simp
          refine hK11.out _ _ (fun h => absurd rfl h) ?_
          clear hK11 K11
          try simp only [Act.put]
          refine wpAnyG_done (by kernel_rfl) ?_ _
          clear hS6 hS7 d7 f7
          obtain ⟨d0, d1, d2, d3⟩ := HA8.out.q.cells
          obtain ⟨r0, r1, r2, r3⟩ := HA8.out.q.cellsR
          have f0 := (HA8.out.q.frz 0).2
          have f1 := (HA8.out.q.frz 1).2
          have f2 := (HA8.out.q.frz 2).2
          have f3 := (HA8.out.q.frz 3).2
          go_wp2_with fail
          refine bodyPost_ret (v := .agg #[.int .i64 id, .int .i64 ten, .slice (some ⟨g7, 0, none⟩) X.length c7, .slice xa os.length xc]) (by simp [results, Tryz.results23, go_sem, *]) rfl ⟨_, _, id, ten, X, os, rfl, Lib.hid ⟨HA8.out.i64.1, HA8.out.i64.2, HX.out, by have := HLEN.out; omega⟩, Lib.hid (HA8.out.rows.two.keep (Nat.le_succ _) (by simp [World.setCell]) fun q hq _ => ?_), Lib.hid ⟨HA8.out.q.cur.keep fun q hq => ?_, ?_⟩⟩
          · exact four_other (by omega)
          · exact four_other (by have := HGW.out; omega)
          · exact (((HA8.out.q.dr.setHigh (Nat.le_refl _) _).setHigh (Nat.le_refl _) _).setHigh (Nat.le_refl _) _).setHigh (Nat.le_refl _) _
      · have e2 : (t == 2) = false := by simp [t2]
        by_cases t3 : t = 3
        · have e3 : (t == 3) = true := by simp [t3]
          have T := Lib.hid t3
          clear t3 ht
          go_wp2_with fail
          obtain ⟨W3, hW3⟩ : ∃ W3, W3 = w3.drew := ⟨_, rfl⟩
          have HA4 : Hid (QA w g w.heap.size B (w.heap.size + 1) id ten (.slice ua cs.length uc) (.slice xa os.length xc) cs os W3) := Lib.hid (by rw [hW3]; exact HA3.out.gr ((Gr.refl _).drew))
          refine wp_region_G (S := fun w' => w'.cell? ⟨B, 3, none⟩ = some (.slice xa os.length xc)) (m := 8) (by kernel_rfl) ?_
          rw [← hW3]
          clear hW3 HA3
          have hS : (fun w' : World => w'.cell? ⟨B, 3, none⟩ = some (.slice xa os.length xc)) W3 := HA4.out.q.cells.2.2.2
          refine wpAnyG_take (i := 0) (v := ?vc0) hS rfl (by kernel_rfl) (by kernel_rfl) (by kernel_rfl) (by kernel_rfl) (fun _ _ _ h => h) (Or.inl ⟨by rfl, ?hyc0⟩) ?restc0
          case hyc0 => (intro w' hw'; (try dsimp only at hw'); go_simp; try with_reducible rfl)
          try simp only [Act.put]
          refine wpAnyG_take (i := 1) (v := ?vc1) hS rfl (by kernel_rfl) (by kernel_rfl) (by kernel_rfl) (by kernel_rfl) (fun _ _ _ h => h) (Or.inl ⟨by rfl, ?hyc1⟩) ?restc1
          case hyc1 => (intro w' hw'; (try dsimp only at hw'); go_simp; try with_reducible rfl)
          try simp only [Act.put]
          refine wpAnyG_take (i := 2) (v := ?vc2) hS rfl (by kernel_rfl) (by kernel_rfl) (by kernel_rfl) (by kernel_rfl) (fun _ _ _ h => h) (Or.inl ⟨by rfl, ?hyc2⟩) ?restc2
          case hyc2 => (intro w' hw'; (try dsimp only at hw'); go_simp; try with_reducible rfl)
          try simp only [Act.put]
          have HA5 := Lib.hid (HA4.out.gr ((Gr.refl _).alloc (.cells (pick3.map (Value.int .i64)).toArray 3)))
          refine wpAnyG_one (i := 3) rfl (by kernel_rfl) (fun K3 hK3 => ?_)
          go_simp
          refine hK3.out _ _ (fun _ => HA5.out.q.cells.2.2.2) ?_
          clear hK3 K3
          try simp only [Act.put]
          have HV : Hid (∀ w', Dr g (W3.alloc (.cells (pick3.map (Value.int .i64)).toArray 3)) w' → RInts w' (.slice (some ⟨W3.heap.size, 0, none⟩) 3 3) pick3) := Lib.hid fun w' k => lit_ints HA4.out.q.cur.lt pick3 pick3_i64 (by decide) k
          refine wpAnyG_one (i := 4) rfl (by kernel_rfl) (fun K4 hK4 => ?_)
          go_simp
          refine (spec_l1PickInt g _ pick3 _ HA5.out.q.cur HV.out (by decide)).mono ?_
          rintro e w4 ⟨p, rfl, hp, hk4⟩
          have HA6 := Lib.hid (HA5.out.draw hk4.out)
          go_simp
          refine hK4.out _ _ (fun _ => HA6.out.q.cells.2.2.2) ?_
          clear hK4 K4
          try simp only [Act.put]
          refine wpAnyG_one (i := 5) rfl (by kernel_rfl) (fun K5 hK5 => ?_)
          go_simp
          refine hK5.out _ _ (fun _ => (HA6.out.gr ((Gr.refl _).alloc _)).q.cells.2.2.2) ?_
          clear hK5 K5
          try simp only [Act.put]
          refine wpAnyG_one (i := 6) rfl (by kernel_rfl) (fun K6 hK6 => ?_)
          refine step_push_q (wr := w4) (R := RInt) (S := fun _ => True) (S' := fun _ => True) (lo := w.heap.size + 1) 25 3 1 8 Tryz.underlying25 (z := .int .i64 0) (by kernel_rfl) rfl (by decide) (by decide) rfl _ _ rfl (v := .slice xa os.length xc) (ys := os) p [.int .i64 p] rfl rfl rfl HA6.out.rows.2.1 (by have := HA6.out.lo; have := HA6.out.q.ltB; omega) rfl (by simp [Value.oneCell']) (fun _ h => h) (fun _ _ => ⟨rfl, pick3_i64 _ hp.out⟩) (by have := HLEN.out; omega) ?_
          intro g7 c7 w7 hO7 hB7 hor7 hs7
          obtain ⟨X, hX⟩ : ∃ X, X = os ++ [p] := ⟨_, rfl⟩
          rw [← hX] at hO7
          rw [← hX]
          have HX : Hid (X.length ≤ 4) := Lib.hid (by rw [hX]; have := HLEN.out; simp; omega)
          have HA7 := Lib.hid (HA6.out.pushX hO7 hB7 hor7 hs7)
          have HB7 := Lib.hid (HA6.out.box (o := .slice xa os.length xc) (fun b e => ⟨(HA6.out.rows.2.1.lt e).1, fun e2 => HA6.out.ne.2 (e2 ▸ e)⟩) hB7.size hB7 hs7)
          clear hO7 hB7 hor7 hs7 hX
          have d7 := HB7.out.cells.2.2.2
          have f7 := (HB7.out.frz 3).1
          refine hK6.out _ _ (fun _ => d7) ?_
          clear hK6 K6
          try simp only [Act.put]
          have hS7 : (fun w' : World => w'.cell? ⟨B, 3, none⟩ = some (.slice xa os.length xc)) w7 := d7
          refine wpAnyG_take (i := 7) (v := ?vc7) hS7 rfl (by kernel_rfl) (by kernel_rfl) (by kernel_rfl) (by kernel_rfl) (fun _ _ _ h => h) (Or.inl ⟨by rfl, ?hyc7⟩) ?restc7
          case hyc7 => (intro w' hw'; (try dsimp only at hw'); go_simp; try with_reducible rfl)
          try simp only [Act.put]
          refine wpAnyG_one (i := 8) rfl (by kernel_rfl) (fun K8 hK8 => ?_)
          go_simp
          refine hK8.out _ _ (fun h => absurd rfl h) ?_
          clear hK8 K8
          try simp only [Act.put]
          refine wpAnyG_done (by kernel_rfl) ?_ _
          clear hS hS7 HV d7 f7
          obtain ⟨d0, d1, d2, d3⟩ := HA7.out.q.cells
          obtain ⟨r0, r1, r2, r3⟩ := HA7.out.q.cellsR
          have f0 := (HA7.out.q.frz 0).2
          have f1 := (HA7.out.q.frz 1).2
          have f2 := (HA7.out.q.frz 2).2
          have f3 := (HA7.out.q.frz 3).2
          go_wp2_with fail
          refine bodyPost_ret (v := .agg #[.int .i64 id, .int .i64 ten, .slice ua cs.length uc, .slice (some ⟨g7, 0, none⟩) X.length c7]) (by simp [results, Tryz.results23, go_sem, *]) rfl ⟨_, _, id, ten, cs, X, rfl, Lib.hid ⟨HA7.out.i64.1, HA7.out.i64.2, by have := HLEN.out; omega, HX.out⟩, Lib.hid (HA7.out.rows.two.keep (Nat.le_succ _) (by simp [World.setCell]) fun q hq _ => ?_), Lib.hid ⟨HA7.out.q.cur.keep fun q hq => ?_, ?_⟩⟩
          · exact four_other (by omega)
          · exact four_other (by have := HGW.out; omega)
          · exact (((HA7.out.q.dr.setHigh (Nat.le_refl _) _).setHigh (Nat.le_refl _) _).setHigh (Nat.le_refl _) _).setHigh (Nat.le_refl _) _
        · have e3 : (t == 3) = false := by simp [t3]
          clear t0 t1 t2 t3 ht
          obtain ⟨d0, d1, d2, d3⟩ := HA3.out.q.cells
          obtain ⟨r0, r1, r2, r3⟩ := HA3.out.q.cellsR
          have f0 := (HA3.out.q.frz 0).2
          have f1 := (HA3.out.q.frz 1).2
          have f2 := (HA3.out.q.frz 2).2
          have f3 := (HA3.out.q.frz 3).2
          go_wp2_with fail
          refine bodyPost_ret (v := .agg #[.int .i64 id, .int .i64 ten, .slice ua cs.length uc, .slice xa os.length xc]) (by simp [results, Tryz.results23, go_sem, *]) rfl ⟨_, _, id, ten, cs, os, rfl, Lib.hid ⟨HA3.out.i64.1, HA3.out.i64.2, by have := HLEN.out; omega, by have := HLEN.out; omega⟩, Lib.hid (HA3.out.rows.two.keep (Nat.le_succ _) (by simp [World.setCell]) fun q hq _ => ?_), Lib.hid ⟨HA3.out.q.cur.keep fun q hq => ?_, ?_⟩⟩
          · exact four_other (by omega)
          · exact four_other (by have := HGW.out; omega)
          · exact (((HA3.out.q.dr.setHigh (Nat.le_refl _) _).setHigh (Nat.le_refl _) _).setHigh (Nat.le_refl _) _).setHigh (Nat.le_refl _) _
end Go.Proofs.YtcdcpfcmhmhdjaaGreatDoor
