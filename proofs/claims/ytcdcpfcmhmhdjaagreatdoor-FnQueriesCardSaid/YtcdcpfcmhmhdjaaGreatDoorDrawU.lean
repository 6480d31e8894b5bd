/- The drawing of values: a row that may be spoilt. -/
import Derived.Test.YtcdcpfcmhmhdjaaGreatDoorDrawT
import Derived.Test.YtcdcpfcmhmhdjaaGreatDoorHeld
namespace Go.Proofs.YtcdcpfcmhmhdjaaGreatDoor
open Go.RowKit Go.ChangeShapes Go.WideShapes Go.Deep
theorem own_up {w : World} {lo t sz n : Nat} {v : Value} {cs : List Value} (h : w.ownsRow 0 t sz v n cs) (k : ∀ g, v.ownBlock = some g → lo ≤ g) : w.ownsRow lo t sz v n cs := by
  obtain ⟨h1, h2⟩ := h
  refine ⟨h1, ?_⟩
  rcases h2 with h0 | ⟨b, cap, cur, hv, _, r⟩
  · exact Or.inl h0
  · exact Or.inr ⟨b, cap, cur, hv, k b (by rw [hv]; rfl), r⟩
theorem flat_ints (xs : List Int) : flatC 1 xs.length (fun i => [Value.int .i64 (xs.getD i 0)]) = xs.map (Value.int .i64) := by
  apply List.ext_getElem?
  intro p
  rw [flatC_get, List.getElem?_map]
  by_cases hp : p < xs.length
  · simp [hp, Nat.mod_one]
  · simp [hp]
theorem OInts.set0 {w : World} {lo g c : Nat} {x y : Int} {xs : List Int} (h : OInts lo w (.slice (some ⟨g, 0, none⟩) (x :: xs).length c) (x :: xs)) (hy : I64 y) : OInts lo (w.setCell ⟨g, 0, none⟩ (.int .i64 y)) (.slice (some ⟨g, 0, none⟩) (y :: xs).length c) (y :: xs) := by
  refine ⟨?_, fun z hz => ?_⟩
  · have h0 := Joins.ownsRow_le h.1 (Nat.zero_le lo)
    rw [← flat_ints] at h0
    have h1 := row_set (u := .int .i64 y) (k := 0) (j := 0) (p := 0) h0 (by simp) (by decide) rfl rfl
    refine own_up (v := .slice (some ⟨g, 0, none⟩) (y :: xs).length c) ?_ fun q hq => (h.1.lt q hq).1
    rw [← flat_ints]
    have e : flatC 1 (x :: xs).length (updC (fun i => [Value.int .i64 ((x :: xs).getD i 0)]) 0 (([Value.int .i64 ((x :: xs).getD 0 0)]).set 0 (.int .i64 y))) = flatC 1 (y :: xs).length (fun i => [Value.int .i64 ((y :: xs).getD i 0)]) := by
      show flatC 1 (xs.length + 1) _ = flatC 1 (xs.length + 1) _
      refine flatC_congr fun i _ => ?_
      cases i with
      | zero => rw [updC_at]; rfl
      | succ i => rw [updC_ne _ _ (by omega)]; rfl
    rw [e] at h1
    exact h1
  · rcases List.mem_cons.1 hz with h1 | h1
    · rw [h1]; exact hy
    · exact h.2 z (List.mem_cons_of_mem _ h1)
/-- The row in its box B: what it owns lies elsewhere. -/
structure RA (w : World) (g R B lo : Nat) (id : Int) (u : Value) (vs : List Int) (wr : World) : Prop where
  x : BX 36 w g R B #[.int .i64 0, .slice none 0 0] #[.int .i64 id, u] wr
  row : OInts lo wr u vs
  ne : u.ownBlock ≠ some B
  lo : R < lo ∧ lo ≤ B
  i64 : I64 id
section
variable {w wr w' : World} {g R B lo : Nat} {id : Int} {u : Value} {vs : List Int}
theorem RA.draw (h : RA w g R B lo id u vs wr) (k : Cur w' g ∧ Dr g wr w') : RA w g R B lo id u vs w' :=
  ⟨h.x.draw k, oints_dr h.row (by have := h.x.lt; have := h.lo; omega) k.2, h.ne, h.lo, h.i64⟩
theorem RA.gr (h : RA w g R B lo id u vs wr) (k : Gr wr w') : RA w g R B lo id u vs w' := ⟨h.x.gr k, h.row.mono k, h.ne, h.lo, h.i64⟩
theorem RA.set0 (h : RA w g R B lo id u vs wr) {id' : Int} (hi : I64 id') : RA w g R B lo id' u vs (wr.setCell ⟨B, 0, none⟩ (.int .i64 id')) :=
  ⟨h.x.set (k := 0) _ rfl, ⟨own_keep h.row.1 fun b hb _ _ => Below.heap_setCell _ _ _ _ (fun e => h.ne (by rw [← show b = B from e]; exact hb)), h.row.2⟩, h.ne, h.lo, hi⟩
end
section
variable {w wr w' : World} {g R B lo : Nat} {id : Int} {u : Value} {vs : List Int}
theorem RA.box (h : RA w g R B lo id u vs wr) (hb : Below lo wr w') (hs : ∀ k, k < wr.heap.size → u.ownBlock ≠ some k → w'.heap[k]? = wr.heap[k]?) : BX 36 w g R B #[.int .i64 0, .slice none 0 0] #[.int .i64 id, u] w' := by
  have hl := h.x.lt
  have hlo := h.lo
  have hBl := h.x.ltB
  have k : ∀ b, b < lo → b < wr.heap.size → w'.heap[b]? = wr.heap[b]? := fun b h1 h2 => hs b h2 fun e => by have := (h.row.1.lt b e).1; omega
  exact ⟨by rw [k R hlo.1 (by omega)]; exact h.x.r, by rw [hs B hBl h.ne]; exact h.x.b, hl, h.x.cur.keep fun b hb => k b (by omega) (by omega),
    ⟨hb.os.trans h.x.dr.os, hb.tape.trans h.x.dr.tape, hb.output.trans h.x.dr.output, Nat.le_trans h.x.dr.size hb.size, fun b h1 h2 => (k b (by omega) (Nat.lt_of_lt_of_le h1 h.x.dr.size)).trans (h.x.dr.block b h1 h2)⟩⟩
theorem RA.push (h : RA w g R B lo id u vs wr) {g' c' : Nat} {y : Int} (hO : w'.ownsRow lo 3 1 (.slice (some ⟨g', 0, none⟩) (vs.length + 1) c') (vs.length + 1) ((vs ++ [y]).map (Value.int .i64))) (hb : Below lo wr w') (hor : u.ownBlock = some g' ∨ g' = wr.heap.size + 1) (hs : ∀ k, k < wr.heap.size → u.ownBlock ≠ some k → w'.heap[k]? = wr.heap[k]?) (hy : I64 y) :
    RA w g R B lo id (.slice (some ⟨g', 0, none⟩) (vs.length + 1) c') (vs ++ [y]) (w'.setCell ⟨B, 1, none⟩ (.slice (some ⟨g', 0, none⟩) (vs.length + 1) c')) := by
  have hBl := h.x.ltB
  have hgB : g' ≠ B := fun e => by
    rcases hor with h1 | h1
    · exact h.ne (e ▸ h1)
    · omega
  have hne : (Value.slice (some ⟨g', 0, none⟩) (vs.length + 1) c').ownBlock ≠ some B := fun e => hgB (Option.some.inj e)
  refine ⟨(h.box hb hs).set (k := 1) _ rfl, ⟨?_, fun x hx => ?_⟩, hne, h.lo, h.i64⟩
  · have h1 := own_keep (w' := w'.setCell ⟨B, 1, none⟩ (.slice (some ⟨g', 0, none⟩) (vs.length + 1) c')) hO fun b hb _ _ => Below.heap_setCell _ _ _ _ (fun e => hne (by rw [← show b = B from e]; exact hb))
    simpa using h1
  · rcases List.mem_append.1 hx with h1 | h1
    · exact h.row.2 x h1
    · rw [List.mem_singleton.1 h1]; exact hy
theorem RA.first {gb c : Nat} {x : Int} {xs : List Int} (h : RA w g R B lo id (.slice (some ⟨gb, 0, none⟩) (x :: xs).length c) (x :: xs) wr) : wr.cell? ⟨gb, 0, none⟩ = some (.int .i64 x) ∧ wr.frozen? ⟨gb, 0, none⟩ = false ∧ gb ≠ B ∧ R < gb := by
  obtain ⟨a', c', e', _, _, hat⟩ := h.row.reads.open
  have e1 : (some ⟨gb, 0, none⟩ : Option Addr) = a' := by simp only [Value.slice.injEq] at e'; exact e'.1
  obtain ⟨b, off, e2, hc, _⟩ := hat 0 (by simp)
  rw [← e1] at e2
  obtain ⟨rfl, rfl⟩ : gb = b ∧ 0 = off := by simpa using e2
  refine ⟨by simpa using hc, ?_, fun e => h.ne (by rw [e]; rfl), by have := (h.row.1.lt gb rfl).1; have := h.lo; omega⟩
  rcases h.row.1.2 with ⟨h0, _⟩ | ⟨b, cap, cur, hv, _, hgg, _⟩
  · simp at h0
  · simp only [Value.slice.injEq, Option.some.injEq, Addr.mk.injEq] at hv
    obtain ⟨⟨rfl, _⟩, _⟩ := hv
    simp [World.frozen?, hgg]
theorem RA.put {gb c : Nat} {x y : Int} {xs : List Int} (h : RA w g R B lo id (.slice (some ⟨gb, 0, none⟩) (x :: xs).length c) (x :: xs) wr) (hy : I64 y) : RA w g R B lo id (.slice (some ⟨gb, 0, none⟩) (y :: xs).length c) (y :: xs) (wr.setCell ⟨gb, 0, none⟩ (.int .i64 y)) := by
  obtain ⟨_, _, h3, h4⟩ := h.first
  exact ⟨h.x.other (p := ⟨gb, 0, none⟩) h4 h3 _, h.row.set0 hy, fun e => h3 (Option.some.inj e), h.lo, h.i64⟩
theorem RA.first' {gb c n : Nat} {x : Int} {xs : List Int} (hn : n = (x :: xs).length) (h : RA w g R B lo id (.slice (some ⟨gb, 0, none⟩) n c) (x :: xs) wr) : wr.cell? ⟨gb, 0, none⟩ = some (.int .i64 x) ∧ wr.frozen? ⟨gb, 0, none⟩ = false := by
  subst hn; exact ⟨h.first.1, h.first.2.1⟩
theorem RA.put' {gb c n : Nat} {x y : Int} {xs : List Int} (hn : n = (x :: xs).length) (h : RA w g R B lo id (.slice (some ⟨gb, 0, none⟩) n c) (x :: xs) wr) (hy : I64 y) : RA w g R B lo id (.slice (some ⟨gb, 0, none⟩) n c) (y :: xs) (wr.setCell ⟨gb, 0, none⟩ (.int .i64 y)) := by
  subst hn; exact h.put hy
end
-- drawu
def rpick0 : List Int := [-1, 999, 1000]
def rpick1 : List Int := [-1, 99, 100]
theorem rpick0_i64 : ∀ x ∈ rpick0, I64 x := by intro x hx; simp only [rpick0, List.mem_cons, List.not_mem_nil, or_false] at hx; unfold I64; omega
theorem rpick1_i64 : ∀ x ∈ rpick1, I64 x := by intro x hx; simp only [rpick1, List.mem_cons, List.not_mem_nil, or_false] at hx; unfold I64; omega
set_option maxRecDepth 100000 in
set_option maxHeartbeats 4000000 in
theorem spec_l3Any (g : Nat) (w : World) (hc : Cur w g) : Calls Tryz.prog 39 #[.pointer (some ⟨g, 0, none⟩)] w fun e w' => ∃ (u : Value) (id : Int) (vs : List Int), e = .returned (.agg #[.int .i64 id, u]) ∧ Hid (I64 id ∧ vs.length ≤ 4) ∧ Hid (OInts (w.heap.size + 1) w' u vs) ∧ Hid (Cur w' g ∧ Dr g w w') := by
  have HC := Lib.hid hc
  obtain ⟨W0, hW0⟩ : ∃ W0, W0 = w.alloc (.cells #[.int .i64 0, .slice none 0 0] 36) := ⟨_, rfl⟩
  have HW0 : Hid (Cur W0 g ∧ Dr g w W0 ∧ W0.heap[w.heap.size]? = some (.cells #[.int .i64 0, .slice none 0 0] 36) ∧ W0.heap.size = w.heap.size + 1) := Lib.hid (by rw [hW0]; exact ⟨hc.gr ((Gr.refl w).alloc _), (Chg.refl _ _).alloc _, heap_alloc_new _ _, by simp⟩)
  have HGW : Hid (g < w.heap.size) := Lib.hid hc.lt
  clear hc
  go_enter Tryz.func39, Tryz.ntmps39
  go_wp2_with fail
  rw [← hW0]
  clear hW0
  refine (spec_l1Below g 9 _ HW0.out.1 (by decide) (by decide)).mono ?_
  rintro e w1 ⟨id, rfl, hid, hk1⟩
  go_wp2_with fail
  refine (spec_l3Row g id _ hk1.out.1).mono ?_
  rintro e w2 ⟨bo, n, c, vs, rfl, hl, ho, hk2⟩
  obtain rfl := hl.out.1
  have HL : Hid (vs.length = 3) := Lib.hid hl.out.2.1
  obtain ⟨gb, rfl⟩ : ∃ gb, bo = some ⟨gb, 0, none⟩ := row_ptr (Joins.ownsRow_le ho.out.1 (Nat.zero_le _)) (by have := HL.out; omega)
  obtain ⟨B, hB⟩ : ∃ B, B = w2.heap.size := ⟨_, rfl⟩
  obtain ⟨W, hW⟩ : ∃ W, W = w2.alloc (.cells #[.int .i64 id, .slice (some ⟨gb, 0, none⟩) vs.length c] 36) := ⟨_, rfl⟩
  have HA : Hid (RA w g w.heap.size B (w.heap.size + 1) id (.slice (some ⟨gb, 0, none⟩) vs.length c) vs W) := Lib.hid (by
    have h1 := hk1.out
    have h2 := hk2.out
    have hs : w.heap.size + 1 ≤ w1.heap.size := by have := h1.2.size; have := HW0.out.2.2.2; omega
    have hs2 := h2.2.size
    have hgw := HGW.out
    have hlt := fun b hb => ho.out.1.lt b hb
    rw [hW, hB]
    refine ⟨⟨?_, heap_alloc_new _ _, ⟨hgw, Nat.le_refl _, by omega⟩, h2.1.gr ((Gr.refl _).alloc _), ((HW0.out.2.1.trans h1.2).trans h2.2).alloc _⟩, (ho.out.le (by omega)).mono ((Gr.refl _).alloc _), fun e => ?_, ⟨Nat.lt_succ_self _, by omega⟩, ?_⟩
    · rw [Below.heap_alloc _ _ _ (by omega), h2.2.block _ (by omega) (by omega), h1.2.block _ (by have := HW0.out.2.2.2; omega) (by omega)]
      exact HW0.out.2.2.1
    · have := (hlt _ e).2; omega
    · have := hid.out; unfold I64; omega)
  clear hk1 hk2 ho hid hl
  go_wp2_with fail
  rw [← hW, ← hB]
  clear hW hB
  refine (spec_l1Below g 8 _ HA.out.x.cur (by decide) (by decide)).mono ?_
  rintro e w3 ⟨t, rfl, ht, hk3⟩
  have HA3 := Lib.hid (HA.out.draw hk3.out)
  clear HA hk3
  by_cases t0 : t = 0
  · have e0 : (t == 0) = true := by simp [t0]
    have T := Lib.hid t0
    clear t0 ht
    have HK : Hid (Cur (w3.alloc (.cells (rpick0.map (Value.int .i64)).toArray 3)) g) := Lib.hid (HA3.out.x.cur.gr ((Gr.refl _).alloc _))
    have HV : Hid (∀ w', Dr g (w3.alloc (.cells (rpick0.map (Value.int .i64)).toArray 3)) w' → RInts w' (.slice (some ⟨w3.heap.size, 0, none⟩) 3 3) rpick0) := Lib.hid fun w' k => lit_ints HA3.out.x.cur.lt rpick0 rpick0_i64 (by decide) k
    go_wp2_with fail
    refine (spec_l1PickInt g _ rpick0 _ HK.out HV.out (by decide)).mono ?_
    rintro e w4 ⟨p, rfl, hp, hk4⟩
    have HA4 := Lib.hid ((HA3.out.gr ((Gr.refl _).alloc (.cells (rpick0.map (Value.int .i64)).toArray 3))).draw hk4.out)
    have c4 := HA4.out.x.cell (k := 0) rfl
    have f4 := (HA4.out.x.frz 0).1
    have HA5 := Lib.hid (HA4.out.set0 (rpick0_i64 _ hp.out))
    clear HK HV hk4 HA3
    have d0 := HA5.out.x.cell (k := 0) rfl
    have d1 := HA5.out.x.cell (k := 1) rfl
    have r0 := HA5.out.x.cellR (k := 0) rfl
    have r1 := HA5.out.x.cellR (k := 1) rfl
    have f0 := (HA5.out.x.frz 0).2
    have f1 := (HA5.out.x.frz 1).2
    go_wp2_with fail
    refine bodyPost_ret (v := .agg #[.int .i64 p, .slice (some ⟨gb, 0, none⟩) vs.length c]) (by simp [results, Tryz.results39, go_sem, *]) rfl ⟨_, p, vs, rfl, Lib.hid ⟨HA5.out.i64, by have := HL.out; omega⟩, Lib.hid (oints_keep HA5.out.row fun q hq _ => ?_), Lib.hid ⟨HA5.out.x.cur.keep fun q hq => ?_, ?_⟩⟩
    · exact two_other (by omega)
    · exact two_other (by have := HGW.out; omega)
    · exact (HA5.out.x.dr.setHigh (Nat.le_refl _) _).setHigh (Nat.le_refl _) _
  · have e0 : (t == 0) = false := by simp [t0]
    by_cases t1 : t = 1
    · have e1 : (t == 1) = true := by simp [t1]
      have T := Lib.hid t1
      clear t1 ht
      obtain ⟨n, hn⟩ : ∃ n, n = vs.length := ⟨_, rfl⟩
      rw [← hn] at HA3
      rw [← hn]
      obtain ⟨x, xs, hv⟩ : ∃ x xs, vs = x :: xs := by
        have := HL.out
        cases vs with
        | nil => simp at this
        | cons x xs => exact ⟨x, xs, rfl⟩
      have HN : Hid (n = (x :: xs).length ∧ (x :: xs).length = 3) := Lib.hid ⟨by rw [hn, hv], by rw [← hv]; exact HL.out⟩
      rw [hv] at HA3
      clear hn hv
      have n0 : 0 < n := by have := HN.out; omega
      have n1 : (0 : Int) < (n : Int) := by omega
      go_wp2_with fail
      obtain ⟨W3, hW3⟩ : ∃ W3, W3 = w3.drew := ⟨_, rfl⟩
      have HA4 : Hid (RA w g w.heap.size B (w.heap.size + 1) id (.slice (some ⟨gb, 0, none⟩) n c) (x :: xs) W3) := Lib.hid (by rw [hW3]; exact HA3.out.gr ((Gr.refl _).drew))
      refine wp_region_G (S := fun w' => w'.cell? ⟨B, 1, none⟩ = some (.slice (some ⟨gb, 0, none⟩) n c)) (m := 6) (by kernel_rfl) ?_
      rw [← hW3]
      clear hW3 HA3
      have hS : (fun w' : World => w'.cell? ⟨B, 1, none⟩ = some (.slice (some ⟨gb, 0, none⟩) n c)) W3 := HA4.out.x.cell (k := 1) rfl
      refine wpAnyG_take (i := 0) (v := ?v0) hS rfl (by kernel_rfl) (by kernel_rfl) (by kernel_rfl) (by kernel_rfl) (fun _ _ _ h => h) (Or.inl ⟨by rfl, ?hy0⟩) ?rest0
      case hy0 => (intro w' hw'; (try dsimp only at hw'); go_simp; try with_reducible rfl)
      try simp only [Act.put]
      refine wpAnyG_take (i := 1) (v := ?v1) hS rfl (by kernel_rfl) (by kernel_rfl) (by kernel_rfl) (by kernel_rfl) (fun _ _ _ h => h) (Or.inl ⟨by rfl, ?hy1⟩) ?rest1
      case hy1 => (intro w' hw'; (try dsimp only at hw'); go_simp; try with_reducible rfl)
      try simp only [Act.put]
      refine wpAnyG_take (i := 2) (v := ?v2) hS rfl (by kernel_rfl) (by kernel_rfl) (by kernel_rfl) (by kernel_rfl) (fun _ _ _ h => h) (Or.inl ⟨by rfl, ?hy2⟩) ?rest2
      case hy2 => (intro w' hw'; (try dsimp only at hw'); go_simp; try with_reducible rfl)
      try simp only [Act.put]
      have HA5 := Lib.hid (HA4.out.gr ((Gr.refl _).alloc (.cells (rpick1.map (Value.int .i64)).toArray 3)))
      refine wpAnyG_one (i := 3) rfl (by kernel_rfl) (fun K3 hK3 => ?_)
      go_simp
      refine hK3.out _ _ (fun _ => HA5.out.x.cell (k := 1) rfl) ?_
      clear hK3 K3
      try simp only [Act.put]
      have HV : Hid (∀ w', Dr g (W3.alloc (.cells (rpick1.map (Value.int .i64)).toArray 3)) w' → RInts w' (.slice (some ⟨W3.heap.size, 0, none⟩) 3 3) rpick1) := Lib.hid fun w' k => lit_ints HA4.out.x.cur.lt rpick1 rpick1_i64 (by decide) k
      refine wpAnyG_one (i := 4) rfl (by kernel_rfl) (fun K4 hK4 => ?_)
      go_simp
      refine (spec_l1PickInt g _ rpick1 _ HA5.out.x.cur HV.out (by decide)).mono ?_
      rintro e w4 ⟨p, rfl, hp, hk4⟩
      have HA6 := Lib.hid (HA5.out.draw hk4.out)
      go_simp
      refine hK4.out _ _ (fun _ => HA6.out.x.cell (k := 1) rfl) ?_
      clear hK4 K4
      try simp only [Act.put]
      have HA7 := Lib.hid (HA6.out.put' HN.out.1 (rpick1_i64 _ hp.out))
      have v7 := (HA6.out.first' HN.out.1).1
      have f7 := (HA6.out.first' HN.out.1).2
      have hS6 : (fun w' : World => w'.cell? ⟨B, 1, none⟩ = some (.slice (some ⟨gb, 0, none⟩) n c)) w4 := HA6.out.x.cell (k := 1) rfl
      refine wpAnyG_take (i := 5) (v := ?v5) hS6 rfl (by kernel_rfl) (by kernel_rfl) (by kernel_rfl) (by kernel_rfl) (fun _ _ _ h => h) (Or.inl ⟨by rfl, ?hy5⟩) ?rest5
      case hy5 => (intro w' hw'; (try dsimp only at hw'); go_simp; try with_reducible rfl)
      try simp only [Act.put]
      refine wpAnyG_one (i := 6) rfl (by kernel_rfl) (fun K6 hK6 => ?_)
      go_simp
      refine hK6.out _ _ (fun h => absurd rfl h) ?_
      clear hK6 K6
      try simp only [Act.put]
      refine wpAnyG_done (by kernel_rfl) ?_ _
      clear hS hS6 HV v7 f7
      have d0 := HA7.out.x.cell (k := 0) rfl
      have d1 := HA7.out.x.cell (k := 1) rfl
      have r0 := HA7.out.x.cellR (k := 0) rfl
      have r1 := HA7.out.x.cellR (k := 1) rfl
      have f0 := (HA7.out.x.frz 0).2
      have f1 := (HA7.out.x.frz 1).2
      go_wp2_with fail
      refine bodyPost_ret (v := .agg #[.int .i64 id, .slice (some ⟨gb, 0, none⟩) n c]) (by simp [results, Tryz.results39, go_sem, *]) rfl ⟨_, id, (p :: xs), rfl, Lib.hid ⟨HA7.out.i64, by have := HN.out.2; simp at this ⊢; omega⟩, Lib.hid (oints_keep HA7.out.row fun q hq _ => ?_), Lib.hid ⟨HA7.out.x.cur.keep fun q hq => ?_, ?_⟩⟩
      · exact two_other (by omega)
      · exact two_other (by have := HGW.out; omega)
      · exact (HA7.out.x.dr.setHigh (Nat.le_refl _) _).setHigh (Nat.le_refl _) _
    · have e1 : (t == 1) = false := by simp [t1]
      by_cases t2 : t = 2
      · have e2 : (t == 2) = true := by simp [t2]
        have T := Lib.hid t2
        clear t2 ht
        have d4 := HA3.out.x.cell (k := 1) rfl
        go_wp2_with (at_builtin; refine push1 (wr := w3) (base := w.heap.size + 1) 25 3 8 Tryz.underlying25 (z := .int .i64 0) (by kernel_rfl) rfl (by decide) (Value.int .i64) (fun _ => rfl) rfl _ _ rfl vs 1 rfl rfl rfl HA3.out.row.1 (by have := HL.out; omega) (by have := HA3.out.lo; have := HA3.out.x.ltB; omega) ?_; intro g7 c7 w7 hO7 hB7 hor7 hs7; have HX7 := Lib.hid (HA3.out.box hB7 hs7); have HA7 := Lib.hid (HA3.out.push hO7 hB7 hor7 hs7 (by unfold I64; decide)); have d7 := HX7.out.cell (k := 1) rfl; have f7 := (HX7.out.frz 1).1; have d0 := HA7.out.x.cell (k := 0) rfl; have d1 := HA7.out.x.cell (k := 1) rfl; have r0 := HA7.out.x.cellR (k := 0) rfl; have r1 := HA7.out.x.cellR (k := 1) rfl; have f0 := (HA7.out.x.frz 0).2; have f1 := (HA7.out.x.frz 1).2; clear hO7 hB7 hor7 hs7)
        refine bodyPost_ret (v := .agg #[.int .i64 id, .slice (some ⟨g7, 0, none⟩) (vs.length + 1) c7]) (by simp [results, Tryz.results39, go_sem, *]) rfl ⟨_, id, (vs ++ [1]), rfl, Lib.hid ⟨HA7.out.i64, by have := HL.out; simp; omega⟩, Lib.hid (oints_keep HA7.out.row fun q hq _ => ?_), Lib.hid ⟨HA7.out.x.cur.keep fun q hq => ?_, ?_⟩⟩
        · exact two_other (by omega)
        · exact two_other (by have := HGW.out; omega)
        · exact (HA7.out.x.dr.setHigh (Nat.le_refl _) _).setHigh (Nat.le_refl _) _
      · have e2 : (t == 2) = false := by simp [t2]
        clear t0 t1 t2 ht
        have d0 := HA3.out.x.cell (k := 0) rfl
        have d1 := HA3.out.x.cell (k := 1) rfl
        have r0 := HA3.out.x.cellR (k := 0) rfl
        have r1 := HA3.out.x.cellR (k := 1) rfl
        have f0 := (HA3.out.x.frz 0).2
        have f1 := (HA3.out.x.frz 1).2
        go_wp2_with fail
        refine bodyPost_ret (v := .agg #[.int .i64 id, .slice (some ⟨gb, 0, none⟩) vs.length c]) (by simp [results, Tryz.results39, go_sem, *]) rfl ⟨_, id, vs, rfl, Lib.hid ⟨HA3.out.i64, by have := HL.out; omega⟩, Lib.hid (oints_keep HA3.out.row fun q hq _ => ?_), Lib.hid ⟨HA3.out.x.cur.keep fun q hq => ?_, ?_⟩⟩
        · exact two_other (by omega)
        · exact two_other (by have := HGW.out; omega)
        · exact (HA3.out.x.dr.setHigh (Nat.le_refl _) _).setHigh (Nat.le_refl _) _
-- end drawu
end Go.Proofs.YtcdcpfcmhmhdjaaGreatDoor
