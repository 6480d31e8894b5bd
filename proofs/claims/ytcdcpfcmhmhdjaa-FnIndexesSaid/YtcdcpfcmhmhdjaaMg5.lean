/- The drawing of values: boxes that stand while the cursor moves; what outlives it. No program in sight. -/
import Derived.Test.YtcdcpfcmhmhdjaaMg2
import Derived.Test.YtcdcpfcmhmhdjaaMg4
import Derived.Test.YtcdcpfcmhmhdjaaLawD
import Derived.Test.YtcdcpfcmhmhdjaaExt
import Derived.Test.YtcdcpfcmhmhdjaaBase
import Derived.OrdersHeld
namespace Go.Proofs.Ytcdcpfcmhmhdjaa
open Go.RowKit Go.ChangeShapes Go.WideShapes Go.Deep
/-- A box stands. -/
def Std (t : TypeId) (B : Nat) (bc : Array Value) (w : World) : Prop := w.heap[B]? = some (.cells bc t)
section
variable {t : TypeId} {B g k : Nat} {bc : Array Value} {w w' : World}
theorem Std.new (w : World) : Std t w.heap.size bc (w.alloc (.cells bc t)) := heap_alloc_new _ _
theorem Std.lt (h : Std t B bc w) : B < w.heap.size := (Array.getElem?_eq_some_iff.1 h).1
theorem Std.gr (h : Std t B bc w) (k : Gr w w') : Std t B bc w' := (k.block B h.lt).trans h
theorem Std.dr (h : Std t B bc w) (hB : B ≠ g) (k : Dr g w w') : Std t B bc w' := (k.block B h.lt hB).trans h
theorem Std.set (h : Std t B bc w) {p : Addr} (hp : p.block ≠ B) (v : Value) : Std t B bc (w.setCell p v) := (Below.heap_setCell _ _ _ _ (Ne.symm hp)).trans h
theorem Std.put (h : Std t B bc w) {v : Value} {bc' : Array Value} (e : bc.setIfInBounds k v = bc') : Std t B bc' (w.setCell ⟨B, k, none⟩ v) := by
  subst e; exact heap_set h v
theorem Std.cell (h : Std t B bc w) {v : Value} (e : bc[k]? = some v) : w.cell? ⟨B, k, none⟩ = some v := by
  have h' : w.heap[B]? = some (.cells bc t) := h
  simp [World.cell?, h', e]
theorem Std.frz (h : Std t B bc w) (j : Nat) : w.frozen? ⟨B, j, none⟩ = false := by
  have h' : w.heap[B]? = some (.cells bc t) := h
  simp [World.frozen?, h']
end
theorem Chg.loc {g lo : Nat} {w w' : World} (k : Dr g w w') (hg : g < lo) : Loc lo w w' := ⟨k.size, fun b h1 h2 => k.block b h2 (by omega)⟩
section
variable {α : Type} {lo g : Nat} {R : World → Value → α → Prop} {w w' : World} {v : Value} {x : α}
theorem Fresh.dr (h : Fresh lo R w v x) (hg : g < lo) (k : Dr g w w') : Fresh lo R w' v x := h.loc (Chg.loc k hg)
theorem Fresh.set (h : Fresh lo R w v x) {p : Addr} (hp : p.block < lo) (u : Value) : Fresh lo R (w.setCell p u) v x := h.loc ((Loc.refl lo w).setCell hp u)
end
theorem OInts.fresh1 {lo : Nat} {w : World} {v : Value} {xs : List Int} (h : OInts lo w v xs) : Fresh lo RInts w v xs := fun _ k => (oints_keep h fun b h1 h2 => k.2 b h1 h2).reads
theorem PRows.fresh1 {lo hi : Nat} {w : World} {v : Value} {xs : List DRow} (h : PRows (In lo hi) w v xs) : Fresh lo RRows w v xs := OSl.fresh h fr_row fun h => rd_prows h
theorem TwoRow.fresh1 {lo : Nat} {w : World} {u x : Value} {cs : List DCond} {os : List Int} (h : TwoRow lo w u x cs os) : Fresh lo RConds w u cs ∧ Fresh lo RInts w x os := by
  constructor
  · intro w' k
    obtain ⟨F1, F2, h1, _, h3, _⟩ := h
    exact rd_pconds (h1.frame fr_cond fun b hb hl => k.2 b (h3 b hb).1.1 hl)
  · intro w' k
    obtain ⟨F1, F2, _, h2, _, h4⟩ := h
    exact rd_pints (h2.frame fr_int fun b hb hl => k.2 b (h4 b hb).1 hl)
end Go.Proofs.Ytcdcpfcmhmhdjaa

/- AreRows: the walks. -/
namespace Go.Proofs.Ytcdcpfcmhmhdjaa
open Go.RowKit
def rowOk (xs : List DRow) (j : Nat) : Bool := isRowB (xs.getD j ⟨0, []⟩)
def ordAt (xs : List DRow) (j : Nat) : Bool := decide (j = 0) || decide ((xs.getD (j - 1) ⟨0, []⟩).id < (xs.getD j ⟨0, []⟩).id)
def areRowsB (xs : List DRow) : Bool := allB xs.length (ordAt xs) && (decide (xs.length ≤ 32) && allB xs.length (rowOk xs))
theorem rowOk_eq {xs : List DRow} {k : Nat} (h : k < xs.length) : rowOk xs k = isRowB xs[k] := by unfold rowOk; rw [getD_lt h]
theorem ordAt_zero {xs : List DRow} {k : Nat} (h : k = 0) : ordAt xs k = true := by simp [ordAt, h]
theorem ordAt_yes {xs : List DRow} {k : Nat} (h : k < xs.length) (h1 : k - 1 < xs.length) (h2 : xs[k-1].id < xs[k].id) : ordAt xs k = true := by
  unfold ordAt; rw [getD_lt h, getD_lt h1]; simp [h2]
theorem ordAt_no {xs : List DRow} {k : Nat} (h : k < xs.length) (h1 : k - 1 < xs.length) (h0 : 0 < k) (h2 : xs[k].id ≤ xs[k-1].id) : ordAt xs k = false := by
  unfold ordAt; rw [getD_lt h, getD_lt h1]; simp; omega
theorem areRowsB_ord {xs : List DRow} {k : Nat} (h : k < xs.length) (h1 : ordAt xs k = false) : areRowsB xs = false := by
  unfold areRowsB; rw [allB_false k h h1]; rfl
theorem areRowsB_row {xs : List DRow} {k : Nat} (h : k < xs.length) (h1 : isRowB xs[k] = false) : areRowsB xs = false := by
  unfold areRowsB; rw [allB_false (p := rowOk xs) k h (by rw [rowOk_eq h]; exact h1)]; simp
end Go.Proofs.Ytcdcpfcmhmhdjaa

/- AreRows: the walk of the reference and of the law. -/
namespace Go.Proofs.Ytcdcpfcmhmhdjaa
open Go.RowKit
theorem areRowsB_end {xs : List DRow} (h : ∀ j, j < xs.length → (ordAt xs j = true ∧ rowOk xs j = true)) : areRowsB xs = decide (xs.length ≤ 32) := by
  unfold areRowsB; rw [allB_true (fun j hj => (h j hj).1), allB_true (fun j hj => (h j hj).2)]; simp
theorem spec_IsRow_of {x : DRow} {b : Bool} (h : isRowB x = b) (u : Value) (w : World) (hx : RInts w u x.vals) : Calls Try.prog 13 #[.agg #[.int .i64 x.id, u]] w fun e w' => e = .returned (.bool b) ∧ Gr w w' := h ▸ spec_IsRow x u w hx
-- gen FnExactAreRows AreRows RowS
-- endgen
end Go.Proofs.Ytcdcpfcmhmhdjaa

/- The drawing of values: rows. -/
namespace Go.Proofs.Ytcdcpfcmhmhdjaa
open Go.RowKit Go.ChangeShapes Go.WideShapes Go.Deep
def RsTo (rs : List DRow) (y : Int) : Prop := (∀ r ∈ rs, isRowB r = true ∧ r.id < y) ∧ rs.Pairwise (fun a b => a.id < b.id)
theorem RsTo.nil (y : Int) : RsTo [] y := ⟨by simp, List.Pairwise.nil⟩
theorem RsTo.push {rs : List DRow} {y z : Int} (h : RsTo rs y) {r : DRow} (hr : isRowB r = true) (e : r.id = y) (hz : y < z) : RsTo (rs ++ [r]) z := by
  refine ⟨fun p hp => ?_, ?_⟩
  · rcases List.mem_append.1 hp with h1 | h1
    · exact ⟨(h.1 p h1).1, by have := (h.1 p h1).2; omega⟩
    · rw [List.mem_singleton.1 h1]; exact ⟨hr, by omega⟩
  · rw [List.pairwise_append]
    exact ⟨h.2, List.pairwise_singleton _ _, fun a ha b hb => by rw [List.mem_singleton.1 hb, e]; exact (h.1 a ha).2⟩
theorem row_three {r : DRow} (h : isRowB r = true) : totRow r = 3 := by
  unfold isRowB at h
  simp only [Bool.and_eq_true, decide_eq_true_eq] at h
  exact h.2.2
set_option maxRecDepth 100000 in
set_option maxHeartbeats 2000000 in
theorem spec_l3Rows (g M : Nat) (w : World) (hc : Cur w g) (hM : M ≤ 8) : Calls Try.prog 64 #[.pointer (some ⟨g, 0, none⟩), .int .i64 M] w fun e w' => ∃ (b : Option Addr) (n c : Nat) (rs : List DRow), e = .returned (.slice b n c) ∧ Hid (n = rs.length ∧ rs.length ≤ M ∧ ∀ r ∈ rs, totRow r ≤ 4) ∧ Hid (PRows (In w.heap.size w'.heap.size) w' (.slice b n c) rs) ∧ Hid (Cur w' g ∧ Dr g w w') := by
  have HC := Lib.hid hc
  have hM' : (M : Int) ≤ 8 := by omega
  have hM0 : (0 : Int) ≤ (M : Int) := Int.natCast_nonneg _
  obtain ⟨W0, hW0⟩ : ∃ W0, W0 = w.alloc (.cells #[] 30) := ⟨_, rfl⟩
  have HW0 : Hid (Cur W0 g ∧ Dr g w W0 ∧ PRows (In w.heap.size W0.heap.size) W0 (.slice (some ⟨w.heap.size, 0, none⟩) 0 0) []) := Lib.hid (by rw [hW0]; exact ⟨hc.gr ((Gr.refl w).alloc _), (Chg.refl _ _).alloc _, OSl.made w ⟨Nat.le_refl _, by simp⟩⟩)
  have HGW : Hid (g < w.heap.size) := Lib.hid hc.lt
  clear hc
  go_enter Try.func64, Try.ntmps64
  go_wp2_with fail
  rw [← hW0]
  clear hW0
  refine (spec_l1Below g 3 _ HW0.out.1 (by decide) (by decide)).mono ?_
  rintro e w1 ⟨y, rfl, hy, hk1⟩
  have HO1 := Lib.hid (osl_dr fr_row HW0.out.2.2 HGW.out hk1.out.2)
  have HD1 := Lib.hid (HW0.out.2.1.trans hk1.out.2)
  have HY := Lib.hid hy.out
  clear hy
  go_wp2_with fail
  refine (spec_l1Below g ((M : Int) + 1) _ hk1.out.1 (by omega) (by omega)).mono ?_
  rintro e w2 ⟨n, rfl, hn, hk2⟩
  obtain ⟨N, hN⟩ := Int.eq_ofNat_of_zero_le hn.out.1
  subst hN
  have HN : Hid (N ≤ M) := Lib.hid (by have := hn.out.2; omega)
  have HO2 := Lib.hid (osl_dr fr_row HO1.out HGW.out hk2.out.2)
  have HD2 := Lib.hid (HD1.out.trans hk2.out.2)
  have HS2 : Hid (W0.heap.size ≤ w2.heap.size) := Lib.hid (Nat.le_trans hk1.out.2.size hk2.out.2.size)
  have HK2 := Lib.hid hk2.out.1
  clear hn hk1 hk2 HO1 HD1
  go_wp2_with fail
  go_loopw [5, 6, 7] (fun out vy vn wr => ∃ (k c : Nat) (b : Option Addr) (y : Int) (rs : List DRow), vn = .int .i64 k ∧ vy = .int .i64 y ∧ out = .slice b rs.length c ∧ Hid (RsTo rs y ∧ rs.length + k ≤ M ∧ 0 ≤ y ∧ y + 3 * k ≤ 30) ∧ Hid (PRows (In w.heap.size wr.heap.size) wr (.slice b rs.length c) rs) ∧ Hid (Cur wr g ∧ Dr g w wr)) (fun _ _ vn _ => (intOf vn).toNat)
  case atStart => exact ⟨N, 0, some ⟨w.heap.size, 0, none⟩, y, [], rfl, rfl, rfl, Lib.hid ⟨RsTo.nil _, by have := HN.out; simpa using this, HY.out.1, by have := HY.out.2; have := HN.out; omega⟩, Lib.hid (HO2.out.wide (Nat.le_refl _) HS2.out), Lib.hid ⟨HK2.out, HD2.out⟩⟩
  case round =>
    obtain ⟨k, c, b, y, rs, rfl, rfl, rfl, HQ, HO, HK⟩ := hrel
    have k6 : (k : Int) ≤ 8 := by have := HQ.out.2.1; omega
    have y0 := HQ.out.2.2.1
    have y13 : y ≤ 30 := by have := HQ.out.2.2.2; omega
    by_cases hk0 : 0 < k
    · have hkz : (0 : Int) < (k : Int) := by omega
      go_wp2_with fail
      refine (spec_l3Row g y _ HK.out.1).mono ?_
      rintro e w3 ⟨bv, nv, cv, vs, rfl, hl, ho, hk3⟩
      obtain rfl := hl.out.1
      have HR : Hid (isRowB ⟨y, vs⟩ = true) := Lib.hid (drawn_row (by omega) hl.out.2.2 hl.out.2.1)
      have HS3 : Hid (wr.heap.size ≤ w3.heap.size ∧ w.heap.size ≤ w3.heap.size) := Lib.hid ⟨hk3.out.2.size, Nat.le_trans HK.out.2.size hk3.out.2.size⟩
      have HO3 := Lib.hid (osl_trunc fr_row (osl_dr fr_row HO.out HGW.out hk3.out.2) HS3.out.1)
      have HT3 : Hid (w.heap.size ≤ (trunc w3 wr.heap.size).heap.size ∧ Gr (trunc w3 wr.heap.size) w3 ∧ (trunc w3 wr.heap.size).heap.size ≤ wr.heap.size) := Lib.hid ⟨by rw [trunc_size HS3.out.1]; exact HK.out.2.size, gr_trunc HS3.out.1, by rw [trunc_size HS3.out.1]; exact Nat.le_refl _⟩
      have HPQ : Hid (PRow (In wr.heap.size w3.heap.size) w3 [.int .i64 y, .slice bv vs.length cv] ⟨y, vs⟩) := Lib.hid ⟨_, rfl, by unfold I64; dsimp only; omega, ho.out.priv.wide (Nat.le_succ _) (Nat.le_refl _)⟩
      have HD3 := Lib.hid (HK.out.2.trans hk3.out.2)
      have HK3 := Lib.hid hk3.out.1
      clear hk3 ho HO HK
      go_wp2_with (at_builtin; refine push_o (w0 := trunc w3 wr.heap.size) (wr := w3) (la := wr.heap.size) (hb := w3.heap.size) (lo := w.heap.size) 46 30 2 32 Try.underlying46 (z := .agg #[.int .i64 0, .slice none 0 0]) (by kernel_rfl) rfl (by decide) (by decide) rfl _ _ rfl fr_row ⟨y, vs⟩ [.int .i64 y, .slice bv vs.length cv] rfl rfl rfl HO3.out HT3.out.1 HT3.out.2.1 HPQ.out HT3.out.2.2 (Nat.le_refl _) rfl (by simp [Value.oneCell']) (by have := HQ.out.2.1; omega) ?_; intro g4 cap4 w4 hO4 hB4; obtain ⟨X, hX⟩ : ∃ X, X = rs ++ [⟨y, vs⟩] := ⟨_, rfl⟩; rw [← hX] at hO4; rw [← hX]; have HX := Lib.hid hX; have HO4 := Lib.hid hO4; have HC4 := Lib.hid (HK3.out.below HGW.out hB4); have HD4 := Lib.hid (HD3.out.belowT hB4 (Nat.le_refl _)); clear hO4 hB4 hX)
      refine (spec_l1Below g 3 _ HC4.out (by decide) (by decide)).mono ?_
      rintro e w5 ⟨d, rfl, hd, hk5⟩
      have HO5 := Lib.hid ((osl_dr fr_row HO4.out HGW.out hk5.out.2).wide (Nat.le_refl _) hk5.out.2.size)
      have d0 := hd.out.1
      have d1 := hd.out.2
      go_wp2_with fail
      go_roundw
      case rel => exact ⟨k - 1, cap4, some ⟨g4, 0, none⟩, y + 1 + d, X, by go_num, rfl, rfl, Lib.hid ⟨by rw [HX.out]; exact HQ.out.1.push HR.out rfl (by omega), by rw [HX.out]; have := HQ.out.2.1; simp; omega, by omega, by have := HQ.out.2.2.2; omega⟩, HO5, Lib.hid ⟨hk5.out.1, HD4.out.trans hk5.out.2⟩⟩
      case measure => simp [intOf]; omega
    · have hkz : ¬ (0 : Int) < (k : Int) := by omega
      go_wp2_with fail
      go_ret
      exact ⟨_, _, _, rfl, rs, Lib.hid ⟨rfl, by have := HQ.out.2.1; omega, fun r hr => by have := row_three (HQ.out.1.1 r hr).1; omega⟩, HO, HK⟩
end Go.Proofs.Ytcdcpfcmhmhdjaa

/- A region that draws its order: loads may be taken first although its last operation, number m, for which all others come first, writes what they read: the condition S is asked behind every operation but m. After the kit's law on held regions, turned. No program in sight. -/
namespace Go.Proofs.Ytcdcpfcmhmhdjaa
open Go.ChangeShapes Go.WideShapes Go.RowKit Go.Deep
section
variable {P : Program} {ops : Array Oper} {Q : Exit → Act → World → Prop} {md : Region.Mode} {S : World → Prop} {m : Nat}
def waitsB (md : Region.Mode) (ops : Array Oper) (m i : Nat) : Bool := ((ops[m]?).map fun o => o.after.any fun e => Region.binds md e && e.on == i).getD false
theorem waitsB_spec {i : Nat} (h : waitsB md ops m i = true) : ∃ o, ops[m]? = some o ∧ ∃ e ∈ o.after, Region.binds md e = true ∧ e.on = i := by
  unfold waitsB at h
  cases ho : ops[m]? with
  | none => rw [ho] at h; cases h
  | some o =>
    rw [ho] at h
    obtain ⟨e, he, hb⟩ := Array.any_eq_true'.1 h
    simp only [Bool.and_eq_true, beq_iff_eq] at hb
    exact ⟨o, rfl, e, he, hb.1, hb.2⟩
/-- Whatever order is picked from here on, and S holds behind every operation but m. -/
def wpAnyG (P : Program) (md : Region.Mode) (ops : Array Oper) (Q : Exit → Act → World → Prop) (S : World → Prop) (m : Nat) : Nat → Array Bool → Act → World → Prop
  | 0, listed, a, w => Region.ready md ops listed = [] ∧ Q .normal a w
  | fuel + 1, listed, a, w =>
    (Region.ready md ops listed = [] → Q .normal a w) ∧
    ∀ i ∈ Region.ready md ops listed, wpOp P ops Q i (fun a' w' => (i ≠ m → S w') ∧ wpAnyG P md ops Q S m fuel (listed.setIfInBounds i true) a' w') a w
theorem wpAny_of_G : ∀ (fuel : Nat) (listed : Array Bool) (a : Act) (w : World), wpAnyG P md ops Q S m fuel listed a w → wpAny P md ops Q fuel listed a w
  | 0, _, _, _, h => h
  | fuel + 1, _, _, _, h => ⟨h.1, fun i hi => wpOp_mono (fun a' w' h' => wpAny_of_G fuel _ a' w' h'.2) (h.2 i hi)⟩
theorem wpAnyG_first {i : Nat} {oi : Oper} {v : Value} (hi : ops[i]? = some oi) (hsel : ∀ (j : Nat) (o : Oper) cs b, ops[j]? = some o → o.op ≠ .select cs b) (hwt : waitsB md ops m i = true)
    (hQ : ∀ c a w, Q (.panic c) (a.put oi.dst v) w → Q (.panic c) a w) :
    ∀ (fuel : Nat) (listed : Array Bool) (a : Act) (w : World),
      (∀ j oj, ops[j]? = some oj → j ≠ i → listed.getD j true = false → (∀ e ∈ oj.after, Region.binds md e = true → e.on ≠ i) → oi.apart ops oj = true) →
      i ∈ Region.ready md ops listed → YieldsIf P ops S oi v a → S w →
      wpAnyG P md ops Q S m fuel (listed.setIfInBounds i true) (a.put oi.dst v) w → wpAnyG P md ops Q S m (fuel + 1) listed a w := by
  intro fuel
  induction fuel with
  | zero =>
    intro listed a w _ hr hy hS H
    refine ⟨fun h => (by rw [h] at hr; cases hr), fun j hj => ?_⟩
    by_cases hji : j = i
    · subst hji; exact hy.wpOp hi hS ⟨fun _ => hS, H⟩
    · have := ready_mono hj hji
      rw [H.1] at this
      cases this
  | succ fuel ih =>
    intro listed a w hfree hr hy hS H
    refine ⟨fun h => (by rw [h] at hr; cases hr), fun j hj => ?_⟩
    by_cases hji : j = i
    · subst hji; exact hy.wpOp hi hS ⟨fun _ => hS, H⟩
    · have h1 := H.2 j (ready_mono hj hji)
      obtain ⟨hjun, oj, hoj, hall⟩ := mem_ready.1 hj
      have hnot : ∀ e ∈ oj.after, Region.binds md e = true → e.on ≠ i := fun e he hb heq => by
        have h1 := hall e he hb
        have h0 := (mem_ready.1 hr).1
        rw [heq] at h1
        rcases Nat.lt_or_ge i listed.size with h' | h'
        · simp [h'] at h0 h1; rw [h0] at h1; cases h1
        · simp [Array.getElem?_eq_none h'] at h1
      have hjm : j ≠ m := fun e => by
        subst e
        obtain ⟨o, ho, e, he, hb, hon⟩ := waitsB_spec hwt
        have : o = oj := Option.some.inj (ho.symm.trans hoj)
        subst this
        exact hnot e he hb hon
      have h2 := wpOp_putIf hoj (hfree j oj hoj hji hjun hnot) (fun cs b => hsel i oi cs b hi) (fun cs b => hsel j oj cs b hoj) hQ hy h1
      have hfree' : ∀ k ok, ops[k]? = some ok → k ≠ i → (listed.setIfInBounds j true).getD k true = false →
          (∀ e ∈ ok.after, Region.binds md e = true → e.on ≠ i) → oi.apart ops ok = true := fun k ok hk hki hun hno => by
        refine hfree k ok hk hki ?_ hno
        by_cases hjk : j = k
        · subst hjk; exact hjun
        · rw [getD_set_ne true hjk] at hun; exact hun
      refine wpOp_mono (fun a' w' h3 => ⟨fun _ => h3.2.1 hjm, ih (listed.setIfInBounds j true) a' w' hfree' (ready_mono hr (Ne.symm hji)) h3.1 (h3.2.1 hjm) ?_⟩) h2
      rw [Array.setIfInBounds_comm _ _ hji]
      exact h3.2.2
theorem wpAnyG_take {i : Nat} {oi : Oper} {v : Value} {fuel : Nat} {listed : Array Bool} {a : Act} {w : World} (hS : S w) (hi : ops[i]? = some oi)
    (hs : Region.noSelect ops = true) (hf : Region.free md ops listed i = true) (hr : (Region.ready md ops listed).contains i = true) (hw : waitsB md ops m i = true)
    (hQ : ∀ c a w, Q (.panic c) (a.put oi.dst v) w → Q (.panic c) a w) (hy : YieldsIf P ops S oi v a)
    (h : wpAnyG P md ops Q S m fuel (listed.setIfInBounds i true) (a.put oi.dst v) w) : wpAnyG P md ops Q S m (fuel + 1) listed a w :=
  wpAnyG_first hi (Region.noSelect_spec hs) hw hQ fuel listed a w (Region.free_spec hi hf) (by simpa using hr) hy hS h
/-- One operation alone may come up. -/
theorem wpAnyG_one {i : Nat} {o : Oper} {fuel : Nat} {listed : Array Bool} {a : Act} {w : World} (hi : ops[i]? = some o) (hr : Region.ready md ops listed = [i])
    (h : ∀ K : Act → World → Prop, Go.Shut (∀ a w, (i ≠ m → S w) → wpAnyG P md ops Q S m fuel (listed.setIfInBounds i true) a w → K a w) → if Region.wanted o (yielded ops a.tmps) = true then Oper.wp P o a w K Q else K (a.put o.dst undef) w) :
    wpAnyG P md ops Q S m (fuel + 1) listed a w := by
  refine ⟨fun h0 => ?_, fun j hj => ?_⟩
  · rw [hr] at h0; cases h0
  · rw [hr] at hj
    obtain rfl : j = i := by simpa using hj
    exact wpOp_step hi fun K' hK => h K' fun a w hS hW => hK a w ⟨hS, hW⟩
/-- One of two operations comes up. -/
theorem wpAnyG_two {i j : Nat} {oi oj : Oper} {fuel : Nat} {listed : Array Bool} {a : Act} {w : World} (hi : ops[i]? = some oi) (hj : ops[j]? = some oj) (hr : Region.ready md ops listed = [i, j])
    (h1 : ∀ K : Act → World → Prop, Go.Shut (∀ a w, (i ≠ m → S w) → wpAnyG P md ops Q S m fuel (listed.setIfInBounds i true) a w → K a w) → if Region.wanted oi (yielded ops a.tmps) = true then Oper.wp P oi a w K Q else K (a.put oi.dst undef) w)
    (h2 : ∀ K : Act → World → Prop, Go.Shut (∀ a w, (j ≠ m → S w) → wpAnyG P md ops Q S m fuel (listed.setIfInBounds j true) a w → K a w) → if Region.wanted oj (yielded ops a.tmps) = true then Oper.wp P oj a w K Q else K (a.put oj.dst undef) w) :
    wpAnyG P md ops Q S m (fuel + 1) listed a w := by
  refine ⟨fun h0 => ?_, fun k hk => ?_⟩
  · rw [hr] at h0; cases h0
  · rw [hr] at hk
    rcases List.mem_cons.1 hk with rfl | hk
    · exact wpOp_step hi fun K' hK => h1 K' fun a w hS hW => hK a w ⟨hS, hW⟩
    · obtain rfl : k = j := by simpa using hk
      exact wpOp_step hj fun K' hK => h2 K' fun a w hS hW => hK a w ⟨hS, hW⟩
theorem wpAnyG_done {listed : Array Bool} {a : Act} {w : World} (hr : Region.ready md ops listed = []) (h : Q .normal a w) :
    ∀ fuel, wpAnyG P md ops Q S m fuel listed a w
  | 0 => ⟨hr, h⟩
  | _ + 1 => ⟨fun _ => h, by rw [hr]; simp⟩
theorem wp_region_G {id : Nat} {a : Act} {w : World} (hm : P.follows .mixedOrders = true)
    (h : wpAnyG P .any ops Q S m ops.size (Array.replicate ops.size false) a w.drew) : (Code.region id ops true).wp P Q a w :=
  wp_region_any hm (wpAny_of_G _ _ _ _ h)
end
end Go.Proofs.Ytcdcpfcmhmhdjaa

/- The drawing of values: a row that may be spoilt. -/
namespace Go.Proofs.Ytcdcpfcmhmhdjaa
open Go.RowKit Go.ChangeShapes Go.WideShapes Go.Deep
theorem own_up {w : World} {lo t sz n : Nat} {v : Value} {cs : List Value} (h : w.ownsRow 0 t sz v n cs) (k : ∀ g, v.ownBlock = some g → lo ≤ g) : w.ownsRow lo t sz v n cs := by
  obtain ⟨h1, h2⟩ := h
  refine ⟨h1, ?_⟩
  rcases h2 with h0 | ⟨b, cap, cur, hv, _, r⟩
  · exact Or.inl h0
  · exact Or.inr ⟨b, cap, cur, hv, k b (by rw [hv]; rfl), r⟩
theorem flat_ints (xs : List Int) : flatC 1 xs.length (fun i => [Value.int .i64 (xs.getD i 0)]) = xs.map (Value.int .i64) := by
  apply List.ext_getElem?
  intro p
  rw [flatC_get, List.getElem?_map]
  by_cases hp : p < xs.length
  · simp [hp, Nat.mod_one]
  · simp [hp]
theorem OInts.set0 {w : World} {lo g c : Nat} {x y : Int} {xs : List Int} (h : OInts lo w (.slice (some ⟨g, 0, none⟩) (x :: xs).length c) (x :: xs)) (hy : I64 y) : OInts lo (w.setCell ⟨g, 0, none⟩ (.int .i64 y)) (.slice (some ⟨g, 0, none⟩) (y :: xs).length c) (y :: xs) := by
  refine ⟨?_, fun z hz => ?_⟩
  · have h0 := Joins.ownsRow_le h.1 (Nat.zero_le lo)
    rw [← flat_ints] at h0
    have h1 := row_set (u := .int .i64 y) (k := 0) (j := 0) (p := 0) h0 (by simp) (by decide) rfl rfl
    refine own_up (v := .slice (some ⟨g, 0, none⟩) (y :: xs).length c) ?_ fun q hq => (h.1.lt q hq).1
    rw [← flat_ints]
    have e : flatC 1 (x :: xs).length (updC (fun i => [Value.int .i64 ((x :: xs).getD i 0)]) 0 (([Value.int .i64 ((x :: xs).getD 0 0)]).set 0 (.int .i64 y))) = flatC 1 (y :: xs).length (fun i => [Value.int .i64 ((y :: xs).getD i 0)]) := by
      show flatC 1 (xs.length + 1) _ = flatC 1 (xs.length + 1) _
      refine flatC_congr fun i _ => ?_
      cases i with
      | zero => rw [updC_at]; rfl
      | succ i => rw [updC_ne _ _ (by omega)]; rfl
    rw [e] at h1
    exact h1
  · rcases List.mem_cons.1 hz with h1 | h1
    · rw [h1]; exact hy
    · exact h.2 z (List.mem_cons_of_mem _ h1)
/-- The row in its box B: what it owns lies elsewhere. -/
structure RA (w : World) (g R B lo : Nat) (id : Int) (u : Value) (vs : List Int) (wr : World) : Prop where
  x : BX 30 w g R B #[.int .i64 0, .slice none 0 0] #[.int .i64 id, u] wr
  row : OInts lo wr u vs
  ne : u.ownBlock ≠ some B
  lo : R < lo ∧ lo ≤ B
  i64 : I64 id
section
variable {w wr w' : World} {g R B lo : Nat} {id : Int} {u : Value} {vs : List Int}
theorem RA.draw (h : RA w g R B lo id u vs wr) (k : Cur w' g ∧ Dr g wr w') : RA w g R B lo id u vs w' :=
  ⟨h.x.draw k, oints_dr h.row (by have := h.x.lt; have := h.lo; omega) k.2, h.ne, h.lo, h.i64⟩
theorem RA.gr (h : RA w g R B lo id u vs wr) (k : Gr wr w') : RA w g R B lo id u vs w' := ⟨h.x.gr k, h.row.mono k, h.ne, h.lo, h.i64⟩
theorem RA.set0 (h : RA w g R B lo id u vs wr) {id' : Int} (hi : I64 id') : RA w g R B lo id' u vs (wr.setCell ⟨B, 0, none⟩ (.int .i64 id')) :=
  ⟨h.x.set (k := 0) _ rfl, ⟨own_keep h.row.1 fun b hb _ _ => Below.heap_setCell _ _ _ _ (fun e => h.ne (by rw [← show b = B from e]; exact hb)), h.row.2⟩, h.ne, h.lo, hi⟩
end
section
variable {w wr w' : World} {g R B lo : Nat} {id : Int} {u : Value} {vs : List Int}
theorem RA.box (h : RA w g R B lo id u vs wr) (hb : Below lo wr w') (hs : ∀ k, k < wr.heap.size → u.ownBlock ≠ some k → w'.heap[k]? = wr.heap[k]?) : BX 30 w g R B #[.int .i64 0, .slice none 0 0] #[.int .i64 id, u] w' := by
  have hl := h.x.lt
  have hlo := h.lo
  have hBl := h.x.ltB
  have k : ∀ b, b < lo → b < wr.heap.size → w'.heap[b]? = wr.heap[b]? := fun b h1 h2 => hs b h2 fun e => by have := (h.row.1.lt b e).1; omega
  exact ⟨by rw [k R hlo.1 (by omega)]; exact h.x.r, by rw [hs B hBl h.ne]; exact h.x.b, hl, h.x.cur.keep fun b hb => k b (by omega) (by omega),
    ⟨hb.os.trans h.x.dr.os, hb.tape.trans h.x.dr.tape, hb.output.trans h.x.dr.output, Nat.le_trans h.x.dr.size hb.size, fun b h1 h2 => (k b (by omega) (Nat.lt_of_lt_of_le h1 h.x.dr.size)).trans (h.x.dr.block b h1 h2)⟩⟩
theorem RA.push (h : RA w g R B lo id u vs wr) {g' c' : Nat} {y : Int} (hO : w'.ownsRow lo 3 1 (.slice (some ⟨g', 0, none⟩) (vs.length + 1) c') (vs.length + 1) ((vs ++ [y]).map (Value.int .i64))) (hb : Below lo wr w') (hor : u.ownBlock = some g' ∨ g' = wr.heap.size + 1) (hs : ∀ k, k < wr.heap.size → u.ownBlock ≠ some k → w'.heap[k]? = wr.heap[k]?) (hy : I64 y) :
    RA w g R B lo id (.slice (some ⟨g', 0, none⟩) (vs.length + 1) c') (vs ++ [y]) (w'.setCell ⟨B, 1, none⟩ (.slice (some ⟨g', 0, none⟩) (vs.length + 1) c')) := by
  have hBl := h.x.ltB
  have hgB : g' ≠ B := fun e => by
    rcases hor with h1 | h1
    · exact h.ne (e ▸ h1)
    · omega
  have hne : (Value.slice (some ⟨g', 0, none⟩) (vs.length + 1) c').ownBlock ≠ some B := fun e => hgB (Option.some.inj e)
  refine ⟨(h.box hb hs).set (k := 1) _ rfl, ⟨?_, fun x hx => ?_⟩, hne, h.lo, h.i64⟩
  · have h1 := own_keep (w' := w'.setCell ⟨B, 1, none⟩ (.slice (some ⟨g', 0, none⟩) (vs.length + 1) c')) hO fun b hb _ _ => Below.heap_setCell _ _ _ _ (fun e => hne (by rw [← show b = B from e]; exact hb))
    simpa using h1
  · rcases List.mem_append.1 hx with h1 | h1
    · exact h.row.2 x h1
    · rw [List.mem_singleton.1 h1]; exact hy
theorem RA.first {gb c : Nat} {x : Int} {xs : List Int} (h : RA w g R B lo id (.slice (some ⟨gb, 0, none⟩) (x :: xs).length c) (x :: xs) wr) : wr.cell? ⟨gb, 0, none⟩ = some (.int .i64 x) ∧ wr.frozen? ⟨gb, 0, none⟩ = false ∧ gb ≠ B ∧ R < gb := by
  obtain ⟨a', c', e', _, _, hat⟩ := h.row.reads.open
  have e1 : (some ⟨gb, 0, none⟩ : Option Addr) = a' := by simp only [Value.slice.injEq] at e'; exact e'.1
  obtain ⟨b, off, e2, hc, _⟩ := hat 0 (by simp)
  rw [← e1] at e2
  obtain ⟨rfl, rfl⟩ : gb = b ∧ 0 = off := by simpa using e2
  refine ⟨by simpa using hc, ?_, fun e => h.ne (by rw [e]; rfl), by have := (h.row.1.lt gb rfl).1; have := h.lo; omega⟩
  rcases h.row.1.2 with ⟨h0, _⟩ | ⟨b, cap, cur, hv, _, hgg, _⟩
  · simp at h0
  · simp only [Value.slice.injEq, Option.some.injEq, Addr.mk.injEq] at hv
    obtain ⟨⟨rfl, _⟩, _⟩ := hv
    simp [World.frozen?, hgg]
theorem RA.put {gb c : Nat} {x y : Int} {xs : List Int} (h : RA w g R B lo id (.slice (some ⟨gb, 0, none⟩) (x :: xs).length c) (x :: xs) wr) (hy : I64 y) : RA w g R B lo id (.slice (some ⟨gb, 0, none⟩) (y :: xs).length c) (y :: xs) (wr.setCell ⟨gb, 0, none⟩ (.int .i64 y)) := by
  obtain ⟨_, _, h3, h4⟩ := h.first
  exact ⟨h.x.other (p := ⟨gb, 0, none⟩) h4 h3 _, h.row.set0 hy, fun e => h3 (Option.some.inj e), h.lo, h.i64⟩
theorem RA.first' {gb c n : Nat} {x : Int} {xs : List Int} (hn : n = (x :: xs).length) (h : RA w g R B lo id (.slice (some ⟨gb, 0, none⟩) n c) (x :: xs) wr) : wr.cell? ⟨gb, 0, none⟩ = some (.int .i64 x) ∧ wr.frozen? ⟨gb, 0, none⟩ = false := by
  subst hn; exact ⟨h.first.1, h.first.2.1⟩
theorem RA.put' {gb c n : Nat} {x y : Int} {xs : List Int} (hn : n = (x :: xs).length) (h : RA w g R B lo id (.slice (some ⟨gb, 0, none⟩) n c) (x :: xs) wr) (hy : I64 y) : RA w g R B lo id (.slice (some ⟨gb, 0, none⟩) n c) (y :: xs) (wr.setCell ⟨gb, 0, none⟩ (.int .i64 y)) := by
  subst hn; exact h.put hy
end
-- drawu
def rpick0 : List Int := [-1, 999, 1000]
def rpick1 : List Int := [-1, 99, 100]
theorem rpick0_i64 : ∀ x ∈ rpick0, I64 x := by intro x hx; simp only [rpick0, List.mem_cons, List.not_mem_nil, or_false] at hx; unfold I64; omega
theorem rpick1_i64 : ∀ x ∈ rpick1, I64 x := by intro x hx; simp only [rpick1, List.mem_cons, List.not_mem_nil, or_false] at hx; unfold I64; omega
set_option maxRecDepth 100000 in
set_option maxHeartbeats 4000000 in
theorem spec_l3Any (g : Nat) (w : World) (hc : Cur w g) : Calls Try.prog 24 #[.pointer (some ⟨g, 0, none⟩)] w fun e w' => ∃ (u : Value) (id : Int) (vs : List Int), e = .returned (.agg #[.int .i64 id, u]) ∧ Hid (I64 id ∧ vs.length ≤ 4) ∧ Hid (OInts (w.heap.size + 1) w' u vs) ∧ Hid (Cur w' g ∧ Dr g w w') := by
  have HC := Lib.hid hc
  obtain ⟨W0, hW0⟩ : ∃ W0, W0 = w.alloc (.cells #[.int .i64 0, .slice none 0 0] 30) := ⟨_, rfl⟩
  have HW0 : Hid (Cur W0 g ∧ Dr g w W0 ∧ W0.heap[w.heap.size]? = some (.cells #[.int .i64 0, .slice none 0 0] 30) ∧ W0.heap.size = w.heap.size + 1) := Lib.hid (by rw [hW0]; exact ⟨hc.gr ((Gr.refl w).alloc _), (Chg.refl _ _).alloc _, heap_alloc_new _ _, by simp⟩)
  have HGW : Hid (g < w.heap.size) := Lib.hid hc.lt
  clear hc
  go_enter Try.func24, Try.ntmps24
  go_wp2_with fail
  rw [← hW0]
  clear hW0
  refine (spec_l1Below g 9 _ HW0.out.1 (by decide) (by decide)).mono ?_
  rintro e w1 ⟨id, rfl, hid, hk1⟩
  go_wp2_with fail
  refine (spec_l3Row g id _ hk1.out.1).mono ?_
  rintro e w2 ⟨bo, n, c, vs, rfl, hl, ho, hk2⟩
  obtain rfl := hl.out.1
  have HL : Hid (vs.length = 3) := Lib.hid hl.out.2.1
  obtain ⟨gb, rfl⟩ : ∃ gb, bo = some ⟨gb, 0, none⟩ := row_ptr (Joins.ownsRow_le ho.out.1 (Nat.zero_le _)) (by have := HL.out; omega)
  obtain ⟨B, hB⟩ : ∃ B, B = w2.heap.size := ⟨_, rfl⟩
  obtain ⟨W, hW⟩ : ∃ W, W = w2.alloc (.cells #[.int .i64 id, .slice (some ⟨gb, 0, none⟩) vs.length c] 30) := ⟨_, rfl⟩
  have HA : Hid (RA w g w.heap.size B (w.heap.size + 1) id (.slice (some ⟨gb, 0, none⟩) vs.length c) vs W) := Lib.hid (by
    have h1 := hk1.out
    have h2 := hk2.out
    have hs : w.heap.size + 1 ≤ w1.heap.size := by have := h1.2.size; have := HW0.out.2.2.2; omega
    have hs2 := h2.2.size
    have hgw := HGW.out
    have hlt := fun b hb => ho.out.1.lt b hb
    rw [hW, hB]
    refine ⟨⟨?_, heap_alloc_new _ _, ⟨hgw, Nat.le_refl _, by omega⟩, h2.1.gr ((Gr.refl _).alloc _), ((HW0.out.2.1.trans h1.2).trans h2.2).alloc _⟩, (ho.out.le (by omega)).mono ((Gr.refl _).alloc _), fun e => ?_, ⟨Nat.lt_succ_self _, by omega⟩, ?_⟩
    · rw [Below.heap_alloc _ _ _ (by omega), h2.2.block _ (by omega) (by omega), h1.2.block _ (by have := HW0.out.2.2.2; omega) (by omega)]
      exact HW0.out.2.2.1
    · have := (hlt _ e).2; omega
    · have := hid.out; unfold I64; omega)
  clear hk1 hk2 ho hid hl
  go_wp2_with fail
  rw [← hW, ← hB]
  clear hW hB
  refine (spec_l1Below g 8 _ HA.out.x.cur (by decide) (by decide)).mono ?_
  rintro e w3 ⟨t, rfl, ht, hk3⟩
  have HA3 := Lib.hid (HA.out.draw hk3.out)
  clear HA hk3
  by_cases t0 : t = 0
  · have e0 : (t == 0) = true := by simp [t0]
    have T := Lib.hid t0
    clear t0 ht
    have HK : Hid (Cur (w3.alloc (.cells (rpick0.map (Value.int .i64)).toArray 3)) g) := Lib.hid (HA3.out.x.cur.gr ((Gr.refl _).alloc _))
    have HV : Hid (∀ w', Dr g (w3.alloc (.cells (rpick0.map (Value.int .i64)).toArray 3)) w' → RInts w' (.slice (some ⟨w3.heap.size, 0, none⟩) 3 3) rpick0) := Lib.hid fun w' k => lit_ints HA3.out.x.cur.lt rpick0 rpick0_i64 (by decide) k
    go_wp2_with fail
    refine (spec_l1PickInt g _ rpick0 _ HK.out HV.out (by decide)).mono ?_
    rintro e w4 ⟨p, rfl, hp, hk4⟩
    have HA4 := Lib.hid ((HA3.out.gr ((Gr.refl _).alloc (.cells (rpick0.map (Value.int .i64)).toArray 3))).draw hk4.out)
    have c4 := HA4.out.x.cell (k := 0) rfl
    have f4 := (HA4.out.x.frz 0).1
    have HA5 := Lib.hid (HA4.out.set0 (rpick0_i64 _ hp.out))
    clear HK HV hk4 HA3
    have d0 := HA5.out.x.cell (k := 0) rfl
    have d1 := HA5.out.x.cell (k := 1) rfl
    have r0 := HA5.out.x.cellR (k := 0) rfl
    have r1 := HA5.out.x.cellR (k := 1) rfl
    have f0 := (HA5.out.x.frz 0).2
    have f1 := (HA5.out.x.frz 1).2
    go_wp2_with fail
    refine bodyPost_ret (v := .agg #[.int .i64 p, .slice (some ⟨gb, 0, none⟩) vs.length c]) (by simp [results, Try.results24, go_sem, *]) rfl ⟨_, p, vs, rfl, Lib.hid ⟨HA5.out.i64, by have := HL.out; omega⟩, Lib.hid (oints_keep HA5.out.row fun q hq _ => ?_), Lib.hid ⟨HA5.out.x.cur.keep fun q hq => ?_, ?_⟩⟩
    · exact two_other (by omega)
    · exact two_other (by have := HGW.out; omega)
    · exact (HA5.out.x.dr.setHigh (Nat.le_refl _) _).setHigh (Nat.le_refl _) _
  · have e0 : (t == 0) = false := by simp [t0]
    by_cases t1 : t = 1
    · have e1 : (t == 1) = true := by simp [t1]
      have T := Lib.hid t1
      clear t1 ht
      obtain ⟨n, hn⟩ : ∃ n, n = vs.length := ⟨_, rfl⟩
      rw [← hn] at HA3
      rw [← hn]
      obtain ⟨x, xs, hv⟩ : ∃ x xs, vs = x :: xs := by
        have := HL.out
        cases vs with
        | nil => simp at this
        | cons x xs => exact ⟨x, xs, rfl⟩
      have HN : Hid (n = (x :: xs).length ∧ (x :: xs).length = 3) := Lib.hid ⟨by rw [hn, hv], by rw [← hv]; exact HL.out⟩
      rw [hv] at HA3
      clear hn hv
      have n0 : 0 < n := by have := HN.out; omega
      have n1 : (0 : Int) < (n : Int) := by omega
      go_wp2_with fail
      obtain ⟨W3, hW3⟩ : ∃ W3, W3 = w3.drew := ⟨_, rfl⟩
      have HA4 : Hid (RA w g w.heap.size B (w.heap.size + 1) id (.slice (some ⟨gb, 0, none⟩) n c) (x :: xs) W3) := Lib.hid (by rw [hW3]; exact HA3.out.gr ((Gr.refl _).drew))
      refine wp_region_G (S := fun w' => w'.cell? ⟨B, 1, none⟩ = some (.slice (some ⟨gb, 0, none⟩) n c)) (m := 6) (by kernel_rfl) ?_
      rw [← hW3]
      clear hW3 HA3
      have hS : (fun w' : World => w'.cell? ⟨B, 1, none⟩ = some (.slice (some ⟨gb, 0, none⟩) n c)) W3 := HA4.out.x.cell (k := 1) rfl
      refine wpAnyG_take (i := 0) (v := ?v0) hS rfl (by kernel_rfl) (by kernel_rfl) (by kernel_rfl) (by kernel_rfl) (fun _ _ _ h => h) (Or.inl ⟨by rfl, ?hy0⟩) ?rest0
      case hy0 => (intro w' hw'; (try dsimp only at hw'); go_simp; try with_reducible rfl)
      try simp only [Act.put]
      refine wpAnyG_take (i := 1) (v := ?v1) hS rfl (by kernel_rfl) (by kernel_rfl) (by kernel_rfl) (by kernel_rfl) (fun _ _ _ h => h) (Or.inl ⟨by rfl, ?hy1⟩) ?rest1
      case hy1 => (intro w' hw'; (try dsimp only at hw'); go_simp; try with_reducible rfl)
      try simp only [Act.put]
      refine wpAnyG_take (i := 2) (v := ?v2) hS rfl (by kernel_rfl) (by kernel_rfl) (by kernel_rfl) (by kernel_rfl) (fun _ _ _ h => h) (Or.inl ⟨by rfl, ?hy2⟩) ?rest2
      case hy2 => (intro w' hw'; (try dsimp only at hw'); go_simp; try with_reducible rfl)
      try simp only [Act.put]
      have HA5 := Lib.hid (HA4.out.gr ((Gr.refl _).alloc (.cells (rpick1.map (Value.int .i64)).toArray 3)))
      refine wpAnyG_one (i := 3) rfl (by kernel_rfl) (fun K3 hK3 => ?_)
      go_simp
      refine hK3.out _ _ (fun _ => HA5.out.x.cell (k := 1) rfl) ?_
      clear hK3 K3
      try simp only [Act.put]
      have HV : Hid (∀ w', Dr g (W3.alloc (.cells (rpick1.map (Value.int .i64)).toArray 3)) w' → RInts w' (.slice (some ⟨W3.heap.size, 0, none⟩) 3 3) rpick1) := Lib.hid fun w' k => lit_ints HA4.out.x.cur.lt rpick1 rpick1_i64 (by decide) k
      refine wpAnyG_one (i := 4) rfl (by kernel_rfl) (fun K4 hK4 => ?_)
      go_simp
      refine (spec_l1PickInt g _ rpick1 _ HA5.out.x.cur HV.out (by decide)).mono ?_
      rintro e w4 ⟨p, rfl, hp, hk4⟩
      have HA6 := Lib.hid (HA5.out.draw hk4.out)
      go_simp
      refine hK4.out _ _ (fun _ => HA6.out.x.cell (k := 1) rfl) ?_
      clear hK4 K4
      try simp only [Act.put]
      have HA7 := Lib.hid (HA6.out.put' HN.out.1 (rpick1_i64 _ hp.out))
      have v7 := (HA6.out.first' HN.out.1).1
      have f7 := (HA6.out.first' HN.out.1).2
      have hS6 : (fun w' : World => w'.cell? ⟨B, 1, none⟩ = some (.slice (some ⟨gb, 0, none⟩) n c)) w4 := HA6.out.x.cell (k := 1) rfl
      refine wpAnyG_take (i := 5) (v := ?v5) hS6 rfl (by kernel_rfl) (by kernel_rfl) (by kernel_rfl) (by kernel_rfl) (fun _ _ _ h => h) (Or.inl ⟨by rfl, ?hy5⟩) ?rest5
      case hy5 => (intro w' hw'; (try dsimp only at hw'); go_simp; try with_reducible rfl)
      try simp only [Act.put]
      refine wpAnyG_one (i := 6) rfl (by kernel_rfl) (fun K6 hK6 => ?_)
      go_simp
      refine hK6.out _ _ (fun h => absurd rfl h) ?_
      clear hK6 K6
      try simp only [Act.put]
      refine wpAnyG_done (by kernel_rfl) ?_ _
      clear hS hS6 HV v7 f7
      have d0 := HA7.out.x.cell (k := 0) rfl
      have d1 := HA7.out.x.cell (k := 1) rfl
      have r0 := HA7.out.x.cellR (k := 0) rfl
      have r1 := HA7.out.x.cellR (k := 1) rfl
      have f0 := (HA7.out.x.frz 0).2
      have f1 := (HA7.out.x.frz 1).2
      go_wp2_with fail
      refine bodyPost_ret (v := .agg #[.int .i64 id, .slice (some ⟨gb, 0, none⟩) n c]) (by simp [results, Try.results24, go_sem, *]) rfl ⟨_, id, (p :: xs), rfl, Lib.hid ⟨HA7.out.i64, by have := HN.out.2; simp at this ⊢; omega⟩, Lib.hid (oints_keep HA7.out.row fun q hq _ => ?_), Lib.hid ⟨HA7.out.x.cur.keep fun q hq => ?_, ?_⟩⟩
      · exact two_other (by omega)
      · exact two_other (by have := HGW.out; omega)
      · exact (HA7.out.x.dr.setHigh (Nat.le_refl _) _).setHigh (Nat.le_refl _) _
    · have e1 : (t == 1) = false := by simp [t1]
      by_cases t2 : t = 2
      · have e2 : (t == 2) = true := by simp [t2]
        have T := Lib.hid t2
        clear t2 ht
        have d4 := HA3.out.x.cell (k := 1) rfl
        go_wp2_with (at_builtin; refine push1 (wr := w3) (base := w.heap.size + 1) 28 3 8 Try.underlying28 (z := .int .i64 0) (by kernel_rfl) rfl (by decide) (Value.int .i64) (fun _ => rfl) rfl _ _ rfl vs 1 rfl rfl rfl HA3.out.row.1 (by have := HL.out; omega) (by have := HA3.out.lo; have := HA3.out.x.ltB; omega) ?_; intro g7 c7 w7 hO7 hB7 hor7 hs7; have HX7 := Lib.hid (HA3.out.box hB7 hs7); have HA7 := Lib.hid (HA3.out.push hO7 hB7 hor7 hs7 (by unfold I64; decide)); have d7 := HX7.out.cell (k := 1) rfl; have f7 := (HX7.out.frz 1).1; have d0 := HA7.out.x.cell (k := 0) rfl; have d1 := HA7.out.x.cell (k := 1) rfl; have r0 := HA7.out.x.cellR (k := 0) rfl; have r1 := HA7.out.x.cellR (k := 1) rfl; have f0 := (HA7.out.x.frz 0).2; have f1 := (HA7.out.x.frz 1).2; clear hO7 hB7 hor7 hs7)
        refine bodyPost_ret (v := .agg #[.int .i64 id, .slice (some ⟨g7, 0, none⟩) (vs.length + 1) c7]) (by simp [results, Try.results24, go_sem, *]) rfl ⟨_, id, (vs ++ [1]), rfl, Lib.hid ⟨HA7.out.i64, by have := HL.out; simp; omega⟩, Lib.hid (oints_keep HA7.out.row fun q hq _ => ?_), Lib.hid ⟨HA7.out.x.cur.keep fun q hq => ?_, ?_⟩⟩
        · exact two_other (by omega)
        · exact two_other (by have := HGW.out; omega)
        · exact (HA7.out.x.dr.setHigh (Nat.le_refl _) _).setHigh (Nat.le_refl _) _
      · have e2 : (t == 2) = false := by simp [t2]
        clear t0 t1 t2 ht
        have d0 := HA3.out.x.cell (k := 0) rfl
        have d1 := HA3.out.x.cell (k := 1) rfl
        have r0 := HA3.out.x.cellR (k := 0) rfl
        have r1 := HA3.out.x.cellR (k := 1) rfl
        have f0 := (HA3.out.x.frz 0).2
        have f1 := (HA3.out.x.frz 1).2
        go_wp2_with fail
        refine bodyPost_ret (v := .agg #[.int .i64 id, .slice (some ⟨gb, 0, none⟩) vs.length c]) (by simp [results, Try.results24, go_sem, *]) rfl ⟨_, id, vs, rfl, Lib.hid ⟨HA3.out.i64, by have := HL.out; omega⟩, Lib.hid (oints_keep HA3.out.row fun q hq _ => ?_), Lib.hid ⟨HA3.out.x.cur.keep fun q hq => ?_, ?_⟩⟩
        · exact two_other (by omega)
        · exact two_other (by have := HGW.out; omega)
        · exact (HA3.out.x.dr.setHigh (Nat.le_refl _) _).setHigh (Nat.le_refl _) _
-- end drawu
end Go.Proofs.Ytcdcpfcmhmhdjaa
