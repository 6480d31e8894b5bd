/- The drawing of values: a query. -/
import Derived.Test.YtcdcpfcmhmhdjaaGreatDoorDrawQ0
import Derived.Test.YtcdcpfcmhmhdjaaGreatDoorDrawW
import Derived.Test.YtcdcpfcmhmhdjaaGreatDoorDrawS0
import Derived.Test.YtcdcpfcmhmhdjaaGreatDoorSortV
import Derived.Test.YtcdcpfcmhmhdjaaGreatDoorLawI
namespace Go.Proofs.YtcdcpfcmhmhdjaaGreatDoor
open Go.RowKit Go.ChangeShapes Go.WideShapes Go.Deep
/-- Two rows of one's own, apart. -/
def TwoRow (lo : Nat) (w' : World) (u' x' : Value) (cs : List DCond) (os : List Int) : Prop := ∃ F1 F2 : Nat → Prop, PConds F1 w' u' cs ∧ PInts F2 w' x' os ∧ (∀ b, F1 b → In lo w'.heap.size b ∧ ¬ F2 b) ∧ ∀ b, F2 b → In lo w'.heap.size b
theorem TwoRow.keep {lo lo' : Nat} {w w' : World} {u x : Value} {cs : List DCond} {os : List Int} (h : TwoRow lo w u x cs os) (hl : lo' ≤ lo) (hs : w.heap.size ≤ w'.heap.size) (k : ∀ b, lo ≤ b → b < w.heap.size → w'.heap[b]? = w.heap[b]?) : TwoRow lo' w' u x cs os := by
  obtain ⟨F1, F2, h1, h2, h3, h4⟩ := h
  exact ⟨F1, F2, h1.frame fr_cond fun b hb hl => k b (h3 b hb).1.1 hl, h2.frame fr_int fun b hb hl => k b (h4 b hb).1 hl, fun b hb => ⟨⟨Nat.le_trans hl (h3 b hb).1.1, Nat.lt_of_lt_of_le (h3 b hb).1.2 hs⟩, (h3 b hb).2⟩, fun b hb => ⟨Nat.le_trans hl (h4 b hb).1, Nat.lt_of_lt_of_le (h4 b hb).2 hs⟩⟩
theorem four_other {wr : World} {q R : Nat} (h : q ≠ R) {a b c d : Nat} {x y z u : Value} : ((((wr.setCell ⟨R, a, none⟩ x).setCell ⟨R, b, none⟩ y).setCell ⟨R, c, none⟩ z).setCell ⟨R, d, none⟩ u).heap[q]? = wr.heap[q]? :=
  (Below.heap_setCell _ _ _ _ h).trans ((Below.heap_setCell _ _ _ _ h).trans ((Below.heap_setCell _ _ _ _ h).trans (Below.heap_setCell _ _ _ _ h)))
theorem own_keep {w w' : World} {lo t sz n : Nat} {v : Value} {cs : List Value} (h : w.ownsRow lo t sz v n cs) (k : ∀ b, v.ownBlock = some b → lo ≤ b → b < w.heap.size → w'.heap[b]? = w.heap[b]?) : w'.ownsRow lo t sz v n cs := by
  obtain ⟨h1, h2⟩ := h
  refine ⟨h1, ?_⟩
  rcases h2 with h0 | ⟨b, cap, cur, hv, hb, hgg, r⟩
  · exact Or.inl h0
  · exact Or.inr ⟨b, cap, cur, hv, hb, by rw [k b (by rw [hv]; rfl) hb (Array.getElem?_eq_some_iff.1 hgg).1]; exact hgg, r⟩
theorem ORq.keep {α : Type} {t sz lo : Nat} {R : World → List Value → α → Prop} {Q : World → Prop} {w w' : World} {v : Value} {xs : List α} (h : ORq t sz R Q lo w v xs) (k : ∀ b, v.ownBlock = some b → lo ≤ b → b < w.heap.size → w'.heap[b]? = w.heap[b]?) : ORq t sz R Q lo w' v xs := by
  obtain ⟨cs, h1, h2⟩ := h; exact ⟨cs, own_keep h1 k, h2⟩
theorem ORq.nil {α : Type} {t sz lo : Nat} {R : World → List Value → α → Prop} {Q : World → Prop} (w : World) : ORq t sz R Q lo w (.slice none 0 0) ([] : List α) := ⟨fun _ => [], ⟨by simp [flatC], Or.inl ⟨rfl, rfl⟩⟩, fun i hi => absurd hi (Nat.not_lt_zero _)⟩
/-- The result's box R, the query's box B, and what the drawing has changed since w. -/
structure QB (w : World) (g R B : Nat) (id ten : Int) (cv ov : Value) (wr : World) : Prop where
  r : wr.heap[R]? = some (.cells #[.int .i64 0, .int .i64 0, .slice none 0 0, .slice none 0 0] 27)
  b : wr.heap[B]? = some (.cells #[.int .i64 id, .int .i64 ten, cv, ov] 27)
  lt : g < w.heap.size ∧ w.heap.size ≤ R ∧ R < B
  cur : Cur wr g
  dr : Dr g w wr
section
variable {w wr w' : World} {g R B : Nat} {id ten : Int} {cv ov : Value}
theorem QB.ltB (h : QB w g R B id ten cv ov wr) : B < wr.heap.size := (Array.getElem?_eq_some_iff.1 h.b).1
theorem QB.draw (h : QB w g R B id ten cv ov wr) (k : Cur w' g ∧ Dr g wr w') : QB w g R B id ten cv ov w' := by
  have hB := h.ltB
  have hl := h.lt
  exact ⟨by rw [k.2.block R (by omega) (by omega)]; exact h.r, by rw [k.2.block B hB (by omega)]; exact h.b, h.lt, k.1, h.dr.trans k.2⟩
theorem QB.gr (h : QB w g R B id ten cv ov wr) (k : Gr wr w') : QB w g R B id ten cv ov w' := by
  have hB := h.ltB
  have hl := h.lt
  exact ⟨by rw [k.block R (by omega)]; exact h.r, by rw [k.block B hB]; exact h.b, h.lt, h.cur.gr k, h.dr.belowT k h.dr.size⟩
theorem QB.below (h : QB w g R B id ten cv ov wr) {lo : Nat} (hlo : B < lo) (k : Below lo wr w') : QB w g R B id ten cv ov w' := by
  have hl := h.lt
  exact ⟨by rw [k.block R (by omega)]; exact h.r, by rw [k.block B hlo]; exact h.b, h.lt, h.cur.below (by omega) k, h.dr.belowT k (by omega)⟩
theorem QB.set (h : QB w g R B id ten cv ov wr) {k : Nat} (v : Value) {id' ten' : Int} {cv' ov' : Value} (e : (#[.int .i64 id, .int .i64 ten, cv, ov] : Array Value).setIfInBounds k v = #[.int .i64 id', .int .i64 ten', cv', ov']) : QB w g R B id' ten' cv' ov' (wr.setCell ⟨B, k, none⟩ v) := by
  have hl := h.lt
  have hs := heap_set (k := k) h.b v
  rw [e] at hs
  refine ⟨by rw [Below.heap_setCell _ _ _ _ (by dsimp only; omega)]; exact h.r, hs, h.lt, h.cur.keep fun b hb => Below.heap_setCell _ _ _ _ (by dsimp only; omega), ?_⟩
  exact ⟨h.dr.os, h.dr.tape, h.dr.output, by rw [size_set]; exact h.dr.size, fun b hb hn => (Below.heap_setCell _ _ _ _ (by dsimp only; omega)).trans (h.dr.block b hb hn)⟩
theorem QB.cells (h : QB w g R B id ten cv ov wr) : wr.cell? ⟨B, 0, none⟩ = some (.int .i64 id) ∧ wr.cell? ⟨B, 1, none⟩ = some (.int .i64 ten) ∧ wr.cell? ⟨B, 2, none⟩ = some cv ∧ wr.cell? ⟨B, 3, none⟩ = some ov := by
  refine ⟨?_, ?_, ?_, ?_⟩ <;> simp [World.cell?, h.b]
theorem QB.cellsR (h : QB w g R B id ten cv ov wr) : wr.cell? ⟨R, 0, none⟩ = some (.int .i64 0) ∧ wr.cell? ⟨R, 1, none⟩ = some (.int .i64 0) ∧ wr.cell? ⟨R, 2, none⟩ = some (.slice none 0 0) ∧ wr.cell? ⟨R, 3, none⟩ = some (.slice none 0 0) := by
  refine ⟨?_, ?_, ?_, ?_⟩ <;> simp [World.cell?, h.r]
theorem QB.frz (h : QB w g R B id ten cv ov wr) (j : Nat) : wr.frozen? ⟨B, j, none⟩ = false ∧ wr.frozen? ⟨R, j, none⟩ = false := by
  constructor <;> simp [World.frozen?, h.b, h.r]
theorem QB.row (h : QB w g R B id ten cv ov wr) {α : Type} {t sz lo : Nat} {S : World → List Value → α → Prop} {Q : World → Prop} {v : Value} {xs : List α} (ho : ORq t sz S Q lo wr v xs) (hlo : B < lo) (k : Dr g wr w') : ORq t sz S Q lo w' v xs :=
  ho.keep fun b _ h1 h2 => k.block b h2 (by have := h.lt; omega)
theorem orq_set {α : Type} {t sz lo : Nat} {S : World → List Value → α → Prop} {Q : World → Prop} {v : Value} {xs : List α} (ho : ORq t sz S Q lo wr v xs) {p : Addr} (hlo : p.block < lo) (u : Value) : ORq t sz S Q lo (wr.setCell p u) v xs :=
  ho.keep fun b _ h1 _ => Below.heap_setCell _ _ _ _ (by omega)
end
/-- The conditions drawn for the fields below k. -/
def CondsTo (cs : List DCond) (k : Nat) : Prop := (∀ c ∈ cs, isCondB c = true ∧ c.field < k) ∧ cs.Pairwise (fun a b => a.field < b.field) ∧ cs.length ≤ k
theorem CondsTo.nil : CondsTo [] 0 := ⟨by simp, List.Pairwise.nil, Nat.le_refl _⟩
theorem CondsTo.skip {cs : List DCond} {k : Nat} (h : CondsTo cs k) : CondsTo cs (k + 1) := ⟨fun c hc => ⟨(h.1 c hc).1, by have := (h.1 c hc).2; omega⟩, h.2.1, by have := h.2.2; omega⟩
theorem CondsTo.push {cs : List DCond} {k : Nat} (h : CondsTo cs k) (hk : k < 3) {lo hi : Int} (h0 : 0 ≤ lo) (h1 : lo ≤ hi) (h2 : hi ≤ 99) : CondsTo (cs ++ [⟨(k : Int), lo, hi⟩]) (k + 1) := by
  refine ⟨fun c hc => ?_, ?_, by have := h.2.2; simp; omega⟩
  · rcases List.mem_append.1 hc with h3 | h3
    · exact ⟨(h.1 c h3).1, by have := (h.1 c h3).2; omega⟩
    · rw [List.mem_singleton.1 h3]
      refine ⟨?_, by dsimp only; omega⟩
      unfold isCondB
      dsimp only
      rw [inB_mk (Int.natCast_nonneg _) (by omega), inB_mk h0 h1, decide_eq_true h2]; rfl
  · rw [List.pairwise_append]
    exact ⟨h.2.1, List.pairwise_singleton _ _, fun a ha b hb => by rw [List.mem_singleton.1 hb]; exact (h.1 a ha).2⟩
/-- A drawn query is a query. -/
theorem drawn_query {id ten : Int} {cs : List DCond} {os : List Int} (hi : 0 ≤ id ∧ id ≤ 23) (ht : 0 ≤ ten ∧ ten ≤ 3) (hc : CondsTo cs 3) (ho : ∀ x ∈ os, 0 ≤ x ∧ x ≤ 2) (hl : 1 ≤ os.length ∧ os.length ≤ 3) : isQueryB ⟨id, ten, cs, os⟩ = true := by
  unfold isQueryB fieldsB
  dsimp only
  rw [inB_mk hi.1 hi.2, inB_mk ht.1 ht.2, decide_eq_true hc.2.2, inB_mk (by omega) (by omega), allB_true, allB_true]
  · rfl
  · intro j hj
    unfold fieldAt
    rw [getD_lt hj]
    have := ho _ (List.getElem_mem hj)
    exact inB_mk this.1 this.2
  · intro j hj
    unfold condAt condOk condOrd
    rw [getD_lt hj, (hc.1 _ (List.getElem_mem hj)).1, Bool.true_and]
    by_cases e : j = 0
    · rw [decide_eq_true e]; rfl
    · rw [getD_lt (show j - 1 < cs.length by omega), decide_eq_true (List.pairwise_iff_getElem.1 hc.2.1 (j - 1) j (by omega) hj (by omega)), Bool.or_true]
theorem two_row {wr : World} {lo L W : Nat} {cv xv : Value} {cs : List DCond} {os : List Int} (h1 : ORq 57 3 RCond (fun _ => True) lo wr cv cs) (h2 : OInts L wr xv os) (hL : ∀ q, cv.ownBlock = some q → W ≤ q ∧ q < L) (hWL : W ≤ L) : TwoRow W wr cv xv cs os := by
  obtain ⟨c1, hr, he⟩ := h1
  refine ⟨fun b => cv.ownBlock = some b, fun b => xv.ownBlock = some b, ⟨c1, Joins.ownsRow_le hr (Nat.zero_le _), fun q hq => hq, fun _ _ => False, fun i hi => ⟨(he i hi).1, (he i hi).2 wr trivial, fun b hb => hb.elim, fun _ _ _ _ hb => hb.elim⟩⟩, ⟨fun i => [.int .i64 (os.getD i 0)], ?_, fun q hq => hq, fun _ _ => False, fun i hi => ⟨rfl, ⟨(by show [Value.int .i64 (os.getD i 0)] = _; rw [getD_lt hi]), h2.2 _ (List.getElem_mem hi)⟩, fun b hb => hb.elim, fun _ _ _ _ hb => hb.elim⟩⟩, fun b hb => ⟨⟨(hL b hb).1, (hr.lt b hb).2⟩, fun hb2 => ?_⟩, fun b hb => ⟨Nat.le_trans hWL (h2.1.lt b hb).1, (h2.1.lt b hb).2⟩⟩
  · have := Joins.ownsRow_le h2.1 (Nat.zero_le L)
    rw [show flatC 1 os.length (fun i => [Value.int .i64 (os.getD i 0)]) = os.map (Value.int .i64) from ?_]
    · exact this
    · apply List.ext_getElem?
      intro p
      rw [flatC_get, List.getElem?_map]
      by_cases hp : p < os.length
      · simp [hp, Nat.mod_one]
      · simp [hp]
  · have := (h2.1.lt b hb2).1
    have := (hL b hb).2
    omega
set_option maxRecDepth 100000 in
set_option maxHeartbeats 4000000 in
theorem spec_l4Query (g : Nat) (id : Int) (w : World) (hc : Cur w g) (hid : 0 ≤ id ∧ id ≤ 23) : Calls Tryz.prog 52 #[.pointer (some ⟨g, 0, none⟩), .int .i64 id] w fun e w' => ∃ (u x : Value) (ten : Int) (cs : List DCond) (os : List Int), e = .returned (.agg #[.int .i64 id, .int .i64 ten, u, x]) ∧ Hid (isQueryB ⟨id, ten, cs, os⟩ = true) ∧ Hid (TwoRow w.heap.size w' u x cs os) ∧ Hid (Cur w' g ∧ Dr g w w') := by
  have HC := Lib.hid hc
  have HID := Lib.hid hid
  obtain ⟨W0, hW0⟩ : ∃ W0, W0 = w.alloc (.cells #[.int .i64 0, .int .i64 0, .slice none 0 0, .slice none 0 0] 27) := ⟨_, rfl⟩
  have HW0 : Hid (Cur W0 g ∧ Dr g w W0 ∧ W0.heap[w.heap.size]? = some (.cells #[.int .i64 0, .int .i64 0, .slice none 0 0, .slice none 0 0] 27) ∧ W0.heap.size = w.heap.size + 1) := Lib.hid (by rw [hW0]; exact ⟨hc.gr ((Gr.refl w).alloc _), (Chg.refl _ _).alloc _, heap_alloc_new _ _, by simp⟩)
  have HGW : Hid (g < w.heap.size) := Lib.hid hc.lt
  clear hc hid
  go_enter Tryz.func52, Tryz.ntmps52
  go_wp2_with fail
  rw [← hW0]
  clear hW0
  refine (spec_l1Below g 4 _ HW0.out.1 (by decide) (by decide)).mono ?_
  rintro e w1 ⟨ten, rfl, hten, hk1⟩
  obtain ⟨B, hB⟩ : ∃ B, B = w1.heap.size := ⟨_, rfl⟩
  obtain ⟨W1, hW1⟩ : ∃ W1, W1 = w1.alloc (.cells #[.int .i64 id, .int .i64 ten, .slice none 0 0, .slice none 0 0] 27) := ⟨_, rfl⟩
  have HQ1 : Hid (QB w g w.heap.size B id ten (.slice none 0 0) (.slice none 0 0) W1) := Lib.hid (by
    have h1 := hk1.out
    have hs : w.heap.size + 1 ≤ w1.heap.size := by have := h1.2.size; have := HW0.out.2.2.2; omega
    rw [hW1, hB]
    exact ⟨by rw [Below.heap_alloc _ _ _ (by omega), h1.2.block _ (by have := HW0.out.2.2.2; omega) (by have := HGW.out; omega)]; exact HW0.out.2.2.1, heap_alloc_new _ _, ⟨HGW.out, Nat.le_refl _, by omega⟩, h1.1.gr ((Gr.refl _).alloc _), (HW0.out.2.1.trans h1.2).alloc _⟩)
  have HK1 : Hid (Cur (W1.alloc (.cells (wides.map (Value.int .i64)).toArray 3)) g) := Lib.hid (HQ1.out.cur.gr ((Gr.refl _).alloc _))
  have HV1 : Hid (∀ w', Dr g (W1.alloc (.cells (wides.map (Value.int .i64)).toArray 3)) w' → RInts w' (.slice (some ⟨B + 1, 0, none⟩) 3 3) wides) := Lib.hid fun w' k => by
    rw [show B + 1 = W1.heap.size by rw [hW1, hB]; simp]
    exact lit_ints HQ1.out.cur.lt wides wides_i64 (by decide) k
  go_wp2_with fail
  rw [← hW1, ← hB]
  refine (spec_l1PickInt g _ wides _ HK1.out HV1.out (by decide)).mono ?_
  rintro e w2 ⟨wd, rfl, hwd, hk2⟩
  have HQ2 := Lib.hid ((HQ1.out.gr ((Gr.refl _).alloc (.cells (wides.map (Value.int .i64)).toArray 3))).draw hk2.out)
  have HWD := Lib.hid (wides_in hwd.out)
  have wd0 := HWD.out.1
  have wd1 := HWD.out.2
  clear hk2 hwd HV1 HK1 HQ1 hk1 hW1 hB HW0
  go_wp2_with fail
  go_loopw [7] (fun vf wr => ∃ (k : Nat) (b : Option Addr) (c : Nat) (cs : List DCond), vf = .int .i64 k ∧ k ≤ 3 ∧ Hid (CondsTo cs k) ∧ Hid (QB w g w.heap.size B id ten (.slice b cs.length c) (.slice none 0 0) wr) ∧ Hid (ORq 57 3 RCond (fun _ => True) (B + 1) wr (.slice b cs.length c) cs)) (fun vf _ => 3 - (intOf vf).toNat)
  case atStart => exact ⟨0, none, 0, [], rfl, by omega, Lib.hid CondsTo.nil, HQ2, Lib.hid (ORq.nil _)⟩
  case round =>
    obtain ⟨k, b, c, cs, rfl, hk, HCT, HQ, HO⟩ := hrel
    by_cases hlt : k < 3
    · have hlz : (k : Int) < 3 := by omega
      go_wp2_with fail
      refine (spec_l1Once g 2 _ HQ.out.cur (by decide) (by decide)).mono ?_
      rintro e w3 ⟨t, rfl, hk3⟩
      have HQ3 := Lib.hid (HQ.out.draw hk3.out)
      have HO3 := Lib.hid (HQ.out.row HO.out (Nat.lt_succ_self _) hk3.out.2)
      clear HQ HO hk3
      cases t with
      | false =>
        go_wp2_with fail
        go_roundw
        case rel => exact ⟨k + 1, b, c, cs, by go_num, by omega, Lib.hid HCT.out.skip, HQ3, HO3⟩
        case measure => simp [intOf]; omega
      | true =>
        go_wp2_with fail
        refine (spec_l1Below g wd _ HQ3.out.cur (by omega) (by omega)).mono ?_
        rintro e w4 ⟨lo, rfl, hlo, hk4⟩
        have HQ4 := Lib.hid (HQ3.out.draw hk4.out)
        have HO4 := Lib.hid (HQ3.out.row HO3.out (Nat.lt_succ_self _) hk4.out.2)
        have lo0 := hlo.out.1
        have lo1 : lo ≤ 99 := by have := hlo.out.2; omega
        clear HQ3 HO3 hk4 hlo
        go_wp2_with fail
        refine (spec_l1Below g wd _ HQ4.out.cur (by omega) (by omega)).mono ?_
        rintro e w5 ⟨s, rfl, hs, hk5⟩
        have HQ5 := Lib.hid (HQ4.out.draw hk5.out)
        have HO5 := Lib.hid (HQ4.out.row HO4.out (Nat.lt_succ_self _) hk5.out.2)
        have s0 := hs.out.1
        have s1 : s ≤ 99 := by have := hs.out.2; omega
        clear HQ4 HO4 hk5 hs
-- drawq
        by_cases hmin : lo + s < 99
        · have hmv : min 99 (lo + s) = lo + s := by omega
          go_wp2_with fail
          refine (spec_l1Once g 3 _ HQ5.out.cur (by decide) (by decide)).mono ?_
          rintro e w6 ⟨t, rfl, hk6⟩
          have HQ6 := Lib.hid (HQ5.out.draw hk6.out)
          have HO6 := Lib.hid (HQ5.out.row HO5.out (Nat.lt_succ_self _) hk6.out.2)
          clear HQ5 HO5 hk6
          cases t with
          | false =>
            have HS6 : Hid (B + 1 ≤ w6.heap.size) := Lib.hid HQ6.out.ltB
            have d2 := HQ6.out.cells.2.2.1
            go_wp2_with (at_builtin; refine push_q (wr := w6) (R := RCond) (Q := fun _ => True) (Q' := fun _ => True) (lo := B + 1) 24 57 3 24 Tryz.underlying24 (z := .agg #[.int .i64 0, .int .i64 0, .int .i64 0]) (by kernel_rfl) rfl (by decide) (by decide) rfl _ _ rfl (v := .slice b cs.length c) (ys := cs) ⟨(k : Int), lo, lo + s⟩ [.int .i64 (k : Int), .int .i64 lo, .int .i64 (lo + s)] rfl rfl rfl HO6.out HS6.out rfl (by simp [Value.oneCell']) (fun _ h => h) (fun _ _ => ⟨rfl, by unfold I64; dsimp only; omega, by unfold I64; dsimp only; omega, by unfold I64; dsimp only; omega⟩) (by have := HCT.out.2.2; omega) ?_; intro g7 c7 w7 hO7 hB7 _ _; obtain ⟨X, hX⟩ : ∃ X, X = cs ++ [⟨(k : Int), lo, lo + s⟩] := ⟨_, rfl⟩; rw [← hX] at hO7; rw [← hX]; have HX := Lib.hid hX; have HQ7 := Lib.hid (HQ6.out.below (Nat.lt_succ_self _) hB7); have HO7 := Lib.hid hO7; have f7 := (HQ7.out.frz 2).1; have d7 := HQ7.out.cells.2.2.1; clear hO7 hB7 hX)
            go_roundw
            case rel => exact ⟨k + 1, some ⟨g7, 0, none⟩, c7, X, by go_num, by omega, Lib.hid (by rw [HX.out]; exact HCT.out.push hlt lo0 (by omega) (by omega)), Lib.hid (HQ7.out.set _ rfl), Lib.hid (orq_set HO7.out (Nat.lt_succ_self _) _)⟩
            case measure => simp [intOf]; omega
          | true =>
            have HS6 : Hid (B + 1 ≤ w6.heap.size) := Lib.hid HQ6.out.ltB
            have d2 := HQ6.out.cells.2.2.1
            go_wp2_with (at_builtin; refine push_q (wr := w6) (R := RCond) (Q := fun _ => True) (Q' := fun _ => True) (lo := B + 1) 24 57 3 24 Tryz.underlying24 (z := .agg #[.int .i64 0, .int .i64 0, .int .i64 0]) (by kernel_rfl) rfl (by decide) (by decide) rfl _ _ rfl (v := .slice b cs.length c) (ys := cs) ⟨(k : Int), lo, lo⟩ [.int .i64 (k : Int), .int .i64 lo, .int .i64 (lo)] rfl rfl rfl HO6.out HS6.out rfl (by simp [Value.oneCell']) (fun _ h => h) (fun _ _ => ⟨rfl, by unfold I64; dsimp only; omega, by unfold I64; dsimp only; omega, by unfold I64; dsimp only; omega⟩) (by have := HCT.out.2.2; omega) ?_; intro g7 c7 w7 hO7 hB7 _ _; obtain ⟨X, hX⟩ : ∃ X, X = cs ++ [⟨(k : Int), lo, lo⟩] := ⟨_, rfl⟩; rw [← hX] at hO7; rw [← hX]; have HX := Lib.hid hX; have HQ7 := Lib.hid (HQ6.out.below (Nat.lt_succ_self _) hB7); have HO7 := Lib.hid hO7; have f7 := (HQ7.out.frz 2).1; have d7 := HQ7.out.cells.2.2.1; clear hO7 hB7 hX)
            go_roundw
            case rel => exact ⟨k + 1, some ⟨g7, 0, none⟩, c7, X, by go_num, by omega, Lib.hid (by rw [HX.out]; exact HCT.out.push hlt lo0 (by omega) (by omega)), Lib.hid (HQ7.out.set _ rfl), Lib.hid (orq_set HO7.out (Nat.lt_succ_self _) _)⟩
            case measure => simp [intOf]; omega
        · have hmin' : (99 : Int) ≤ lo + s := by omega
          have hmv : min 99 (lo + s) = 99 := by omega
          go_wp2_with fail
          refine (spec_l1Once g 3 _ HQ5.out.cur (by decide) (by decide)).mono ?_
          rintro e w6 ⟨t, rfl, hk6⟩
          have HQ6 := Lib.hid (HQ5.out.draw hk6.out)
          have HO6 := Lib.hid (HQ5.out.row HO5.out (Nat.lt_succ_self _) hk6.out.2)
          clear HQ5 HO5 hk6
          cases t with
          | false =>
            have HS6 : Hid (B + 1 ≤ w6.heap.size) := Lib.hid HQ6.out.ltB
            have d2 := HQ6.out.cells.2.2.1
            go_wp2_with (at_builtin; refine push_q (wr := w6) (R := RCond) (Q := fun _ => True) (Q' := fun _ => True) (lo := B + 1) 24 57 3 24 Tryz.underlying24 (z := .agg #[.int .i64 0, .int .i64 0, .int .i64 0]) (by kernel_rfl) rfl (by decide) (by decide) rfl _ _ rfl (v := .slice b cs.length c) (ys := cs) ⟨(k : Int), lo, 99⟩ [.int .i64 (k : Int), .int .i64 lo, .int .i64 (99)] rfl rfl rfl HO6.out HS6.out rfl (by simp [Value.oneCell']) (fun _ h => h) (fun _ _ => ⟨rfl, by unfold I64; dsimp only; omega, by unfold I64; dsimp only; omega, by unfold I64; dsimp only; omega⟩) (by have := HCT.out.2.2; omega) ?_; intro g7 c7 w7 hO7 hB7 _ _; obtain ⟨X, hX⟩ : ∃ X, X = cs ++ [⟨(k : Int), lo, 99⟩] := ⟨_, rfl⟩; rw [← hX] at hO7; rw [← hX]; have HX := Lib.hid hX; have HQ7 := Lib.hid (HQ6.out.below (Nat.lt_succ_self _) hB7); have HO7 := Lib.hid hO7; have f7 := (HQ7.out.frz 2).1; have d7 := HQ7.out.cells.2.2.1; clear hO7 hB7 hX)
            go_roundw
            case rel => exact ⟨k + 1, some ⟨g7, 0, none⟩, c7, X, by go_num, by omega, Lib.hid (by rw [HX.out]; exact HCT.out.push hlt lo0 (by omega) (by omega)), Lib.hid (HQ7.out.set _ rfl), Lib.hid (orq_set HO7.out (Nat.lt_succ_self _) _)⟩
            case measure => simp [intOf]; omega
          | true =>
            have HS6 : Hid (B + 1 ≤ w6.heap.size) := Lib.hid HQ6.out.ltB
            have d2 := HQ6.out.cells.2.2.1
            go_wp2_with (at_builtin; refine push_q (wr := w6) (R := RCond) (Q := fun _ => True) (Q' := fun _ => True) (lo := B + 1) 24 57 3 24 Tryz.underlying24 (z := .agg #[.int .i64 0, .int .i64 0, .int .i64 0]) (by kernel_rfl) rfl (by decide) (by decide) rfl _ _ rfl (v := .slice b cs.length c) (ys := cs) ⟨(k : Int), lo, lo⟩ [.int .i64 (k : Int), .int .i64 lo, .int .i64 (lo)] rfl rfl rfl HO6.out HS6.out rfl (by simp [Value.oneCell']) (fun _ h => h) (fun _ _ => ⟨rfl, by unfold I64; dsimp only; omega, by unfold I64; dsimp only; omega, by unfold I64; dsimp only; omega⟩) (by have := HCT.out.2.2; omega) ?_; intro g7 c7 w7 hO7 hB7 _ _; obtain ⟨X, hX⟩ : ∃ X, X = cs ++ [⟨(k : Int), lo, lo⟩] := ⟨_, rfl⟩; rw [← hX] at hO7; rw [← hX]; have HX := Lib.hid hX; have HQ7 := Lib.hid (HQ6.out.below (Nat.lt_succ_self _) hB7); have HO7 := Lib.hid hO7; have f7 := (HQ7.out.frz 2).1; have d7 := HQ7.out.cells.2.2.1; clear hO7 hB7 hX)
            go_roundw
            case rel => exact ⟨k + 1, some ⟨g7, 0, none⟩, c7, X, by go_num, by omega, Lib.hid (by rw [HX.out]; exact HCT.out.push hlt lo0 (by omega) (by omega)), Lib.hid (HQ7.out.set _ rfl), Lib.hid (orq_set HO7.out (Nat.lt_succ_self _) _)⟩
            case measure => simp [intOf]; omega
    · obtain rfl : k = 3 := by omega
      go_wp2_with fail
      refine (spec_l1Below g 3 _ HQ.out.cur (by decide) (by decide)).mono ?_
      rintro e w3 ⟨n, rfl, hn, hk3⟩
      obtain ⟨N, hN⟩ := Int.eq_ofNat_of_zero_le hn.out.1
      subst hN
      have HN : Hid (N < 3) := Lib.hid (by have := hn.out.2; omega)
      have n2 : (N : Int) ≤ 2 := by have := HN.out; omega
      have HQ3 := Lib.hid (HQ.out.draw hk3.out)
      have HO3 := Lib.hid (HQ.out.row HO.out (Nat.lt_succ_self _) hk3.out.2)
      obtain ⟨L, hL⟩ : ∃ L, L = w3.heap.size := ⟨_, rfl⟩
      have HL : Hid (B < L ∧ ∀ q, (Value.slice b cs.length c).ownBlock = some q → w.heap.size + 1 ≤ q ∧ q < L) := Lib.hid ⟨by rw [hL]; exact HQ3.out.ltB, fun q hq => ⟨by have := (HO3.out.lt hq).1; have := HQ3.out.lt; omega, by rw [hL]; exact (HO3.out.lt hq).2⟩⟩
      have HL3 : Hid (L ≤ w3.heap.size) := Lib.hid (by rw [hL]; exact Nat.le_refl _)
      clear HQ HO hk3 hn hL
      go_wp2_with fail
      go_loopw [10] (fun vn wr => ∃ (m : Nat) (b2 : Option Addr) (c2 : Nat) (os : List Int), vn = .int .i64 m ∧ Hid (os.length + m ≤ 3 ∧ 1 ≤ os.length + m) ∧ Hid (∀ x ∈ os, 0 ≤ x ∧ x ≤ 2) ∧ Hid (QB w g w.heap.size B id ten (.slice b cs.length c) (.slice b2 os.length c2) wr) ∧ Hid (ORq 57 3 RCond (fun _ => True) (B + 1) wr (.slice b cs.length c) cs) ∧ Hid (OInts L wr (.slice b2 os.length c2) os) ∧ Hid (L ≤ wr.heap.size)) (fun vn _ => (intOf vn).toNat)
      case atStart => exact ⟨N + 1, none, 0, [], by go_num, Lib.hid (by have := HN.out; simp; omega), Lib.hid (by simp), HQ3, HO3, Lib.hid ⟨⟨by simp, Or.inl ⟨rfl, rfl⟩⟩, by simp⟩, HL3⟩
      case round =>
        obtain ⟨m, b2, c2, os, rfl, HLN, HIN, HQ, HO, HP, HLW⟩ := hrel
        have m3 : (m : Int) ≤ 3 := by have := HLN.out.1; omega
        by_cases hm : 0 < m
        · have hmz : (0 : Int) < (m : Int) := by omega
          go_wp2_with fail
          refine (spec_l1Below g 3 _ HQ.out.cur (by decide) (by decide)).mono ?_
          rintro e w4 ⟨f, rfl, hf, hk4⟩
          have HQ4 := Lib.hid (HQ.out.draw hk4.out)
          have HO4 := Lib.hid (HQ.out.row HO.out (Nat.lt_succ_self _) hk4.out.2)
          have HP4 := Lib.hid (oints_dr HP.out (show g < L by have := HQ.out.lt; have := HL.out.1; omega) hk4.out.2)
          have HLW4 : Hid (L ≤ w4.heap.size) := Lib.hid (Nat.le_trans HLW.out hk4.out.2.size)
          have d3 := HQ4.out.cells.2.2.2
          clear HQ HO HP HLW hk4
          go_wp2_with (at_builtin; refine push_i rfl _ _ rfl os f rfl rfl rfl HP4.out.1 (by have := HLN.out.1; omega) HLW4.out ?_; intro g7 c7 w7 hO7 hB7; have HO7 := Lib.hid hO7; have HQ7 := Lib.hid (HQ4.out.below HL.out.1 hB7); have HC7 := Lib.hid (HO4.out.keep (w' := w7) fun q hq _ _ => hB7.block q (HL.out.2 q hq).2); have HLW7 : Hid (L ≤ w7.heap.size) := (Lib.hid (Nat.le_trans HLW4.out hB7.size)); have f7 := (HQ7.out.frz 3).1; have d7 := HQ7.out.cells.2.2.2; clear hO7 hB7)
          go_roundw
          case rel => exact ⟨m - 1, some ⟨g7, 0, none⟩, c7, os ++ [f], by go_num, Lib.hid (by have := HLN.out; simp; omega), Lib.hid (fun x hx => by
            rcases List.mem_append.1 hx with h | h
            · exact HIN.out x h
            · rw [List.mem_singleton.1 h]; have := hf.out; omega), Lib.hid (by simpa using HQ7.out.set (k := 3) (.slice (some ⟨g7, 0, none⟩) (os.length + 1) c7) rfl), Lib.hid (orq_set HC7.out (Nat.lt_succ_self _) _), Lib.hid ⟨by simpa using own_keep (w' := w7.setCell ⟨B, 3, none⟩ (.slice (some ⟨g7, 0, none⟩) (os.length + 1) c7)) HO7.out (fun q _ h1 _ => Below.heap_setCell _ _ _ _ (by have := HL.out.1; dsimp only; omega)), fun x hx => by
            rcases List.mem_append.1 hx with h | h
            · exact HP4.out.2 x h
            · rw [List.mem_singleton.1 h]; have := hf.out; unfold I64; omega⟩, Lib.hid (by rw [size_set]; exact HLW7.out)⟩
          case measure => simp [intOf]; omega
        · obtain rfl : m = 0 := by omega
          obtain ⟨d0, d1, d2, d3⟩ := HQ.out.cells
          have f0 := (HQ.out.frz 0).2
          have f1 := (HQ.out.frz 1).2
          have f2 := (HQ.out.frz 2).2
          have f3 := (HQ.out.frz 3).2
          have HFIN : Hid (isQueryB ⟨id, ten, cs, os⟩ = true ∧ TwoRow (w.heap.size + 1) wr (.slice b cs.length c) (.slice b2 os.length c2) cs os) := Lib.hid ⟨drawn_query HID.out (by have := hten.out; omega) HCT.out HIN.out (by have := HLN.out; omega), two_row HO.out HP.out HL.out.2 (by have := HL.out.1; have := HQ.out.lt; omega)⟩
          obtain ⟨r0, r1, r2, r3⟩ := HQ.out.cellsR
          go_wp2_with fail
          refine bodyPost_ret (v := .agg #[.int .i64 id, .int .i64 ten, .slice b cs.length c, .slice b2 os.length c2]) (by simp [results, Tryz.results52, go_sem, *]) rfl ⟨_, _, ten, cs, os, rfl, Lib.hid HFIN.out.1, Lib.hid (HFIN.out.2.keep (Nat.le_succ _) (by simp [World.setCell]) fun q hq _ => ?_), Lib.hid ⟨HQ.out.cur.keep fun q hq => ?_, ?_⟩⟩
          · exact four_other (by omega)
          · exact four_other (by have := HGW.out; omega)
          · exact (((HQ.out.dr.setHigh (Nat.le_refl _) _).setHigh (Nat.le_refl _) _).setHigh (Nat.le_refl _) _).setHigh (Nat.le_refl _) _
-- end drawq
end Go.Proofs.YtcdcpfcmhmhdjaaGreatDoor
