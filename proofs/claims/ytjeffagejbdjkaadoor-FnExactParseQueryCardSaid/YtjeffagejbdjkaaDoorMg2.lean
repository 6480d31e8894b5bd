/- A region that draws its order: loads may be taken first although its last operation, number m, for which all others come first, writes what they read: the condition S is asked behind every operation but m. After the kit's law on held regions, turned. No program in sight. -/
import Derived.Test.YtjeffagejbdjkaaDoorBase
import Derived.OrdersHeld
import Derived.Test.YtjeffagejbdjkaaDoorPRowI
import Derived.Test.YtjeffagejbdjkaaDoorStepN
namespace Go.Proofs.YtjeffagejbdjkaaDoor
open Go.ChangeShapes Go.WideShapes Go.RowKit Go.Deep
section
variable {P : Program} {ops : Array Oper} {Q : Exit → Act → World → Prop} {md : Region.Mode} {S : World → Prop} {m : Nat}
def waitsB (md : Region.Mode) (ops : Array Oper) (m i : Nat) : Bool := ((ops[m]?).map fun o => o.after.any fun e => Region.binds md e && e.on == i).getD false
theorem waitsB_spec {i : Nat} (h : waitsB md ops m i = true) : ∃ o, ops[m]? = some o ∧ ∃ e ∈ o.after, Region.binds md e = true ∧ e.on = i := by
  unfold waitsB at h
  cases ho : ops[m]? with
  | none => rw [ho] at h; cases h
  | some o =>
    rw [ho] at h
    obtain ⟨e, he, hb⟩ := Array.any_eq_true'.1 h
    simp only [Bool.and_eq_true, beq_iff_eq] at hb
    exact ⟨o, rfl, e, he, hb.1, hb.2⟩
/-- Whatever order is picked from here on, and S holds behind every operation but m. -/
def wpAnyG (P : Program) (md : Region.Mode) (ops : Array Oper) (Q : Exit → Act → World → Prop) (S : World → Prop) (m : Nat) : Nat → Array Bool → Act → World → Prop
  | 0, listed, a, w => Region.ready md ops listed = [] ∧ Q .normal a w
  | fuel + 1, listed, a, w =>
    (Region.ready md ops listed = [] → Q .normal a w) ∧
    ∀ i ∈ Region.ready md ops listed, wpOp P ops Q i (fun a' w' => (i ≠ m → S w') ∧ wpAnyG P md ops Q S m fuel (listed.setIfInBounds i true) a' w') a w
theorem wpAny_of_G : ∀ (fuel : Nat) (listed : Array Bool) (a : Act) (w : World), wpAnyG P md ops Q S m fuel listed a w → wpAny P md ops Q fuel listed a w
  | 0, _, _, _, h => h
  | fuel + 1, _, _, _, h => ⟨h.1, fun i hi => wpOp_mono (fun a' w' h' => wpAny_of_G fuel _ a' w' h'.2) (h.2 i hi)⟩
theorem wpAnyG_first {i : Nat} {oi : Oper} {v : Value} (hi : ops[i]? = some oi) (hsel : ∀ (j : Nat) (o : Oper) cs b, ops[j]? = some o → o.op ≠ .select cs b) (hwt : waitsB md ops m i = true)
    (hQ : ∀ c a w, Q (.panic c) (a.put oi.dst v) w → Q (.panic c) a w) :
    ∀ (fuel : Nat) (listed : Array Bool) (a : Act) (w : World),
      (∀ j oj, ops[j]? = some oj → j ≠ i → listed.getD j true = false → (∀ e ∈ oj.after, Region.binds md e = true → e.on ≠ i) → oi.apart ops oj = true) →
      i ∈ Region.ready md ops listed → YieldsIf P ops S oi v a → S w →
      wpAnyG P md ops Q S m fuel (listed.setIfInBounds i true) (a.put oi.dst v) w → wpAnyG P md ops Q S m (fuel + 1) listed a w := by
  intro fuel
  induction fuel with
  | zero =>
    intro listed a w _ hr hy hS H
    refine ⟨fun h => (by rw [h] at hr; cases hr), fun j hj => ?_⟩
    by_cases hji : j = i
    · subst hji; exact hy.wpOp hi hS ⟨fun _ => hS, H⟩
    · have := ready_mono hj hji
      rw [H.1] at this
      cases this
  | succ fuel ih =>
    intro listed a w hfree hr hy hS H
    refine ⟨fun h => (by rw [h] at hr; cases hr), fun j hj => ?_⟩
    by_cases hji : j = i
    · subst hji; exact hy.wpOp hi hS ⟨fun _ => hS, H⟩
    · have h1 := H.2 j (ready_mono hj hji)
      obtain ⟨hjun, oj, hoj, hall⟩ := mem_ready.1 hj
      have hnot : ∀ e ∈ oj.after, Region.binds md e = true → e.on ≠ i := fun e he hb heq => by
        have h1 := hall e he hb
        have h0 := (mem_ready.1 hr).1
        rw [heq] at h1
        rcases Nat.lt_or_ge i listed.size with h' | h'
        · simp [h'] at h0 h1; rw [h0] at h1; cases h1
        · simp [Array.getElem?_eq_none h'] at h1
      have hjm : j ≠ m := fun e => by
        subst e
        obtain ⟨o, ho, e, he, hb, hon⟩ := waitsB_spec hwt
        have : o = oj := Option.some.inj (ho.symm.trans hoj)
        subst this
        exact hnot e he hb hon
      have h2 := wpOp_putIf hoj (hfree j oj hoj hji hjun hnot) (fun cs b => hsel i oi cs b hi) (fun cs b => hsel j oj cs b hoj) hQ hy h1
      have hfree' : ∀ k ok, ops[k]? = some ok → k ≠ i → (listed.setIfInBounds j true).getD k true = false →
          (∀ e ∈ ok.after, Region.binds md e = true → e.on ≠ i) → oi.apart ops ok = true := fun k ok hk hki hun hno => by
        refine hfree k ok hk hki ?_ hno
        by_cases hjk : j = k
        · subst hjk; exact hjun
        · rw [getD_set_ne true hjk] at hun; exact hun
      refine wpOp_mono (fun a' w' h3 => ⟨fun _ => h3.2.1 hjm, ih (listed.setIfInBounds j true) a' w' hfree' (ready_mono hr (Ne.symm hji)) h3.1 (h3.2.1 hjm) ?_⟩) h2
      rw [Array.setIfInBounds_comm _ _ hji]
      exact h3.2.2
theorem wpAnyG_take {i : Nat} {oi : Oper} {v : Value} {fuel : Nat} {listed : Array Bool} {a : Act} {w : World} (hS : S w) (hi : ops[i]? = some oi)
    (hs : Region.noSelect ops = true) (hf : Region.free md ops listed i = true) (hr : (Region.ready md ops listed).contains i = true) (hw : waitsB md ops m i = true)
    (hQ : ∀ c a w, Q (.panic c) (a.put oi.dst v) w → Q (.panic c) a w) (hy : YieldsIf P ops S oi v a)
    (h : wpAnyG P md ops Q S m fuel (listed.setIfInBounds i true) (a.put oi.dst v) w) : wpAnyG P md ops Q S m (fuel + 1) listed a w :=
  wpAnyG_first hi (Region.noSelect_spec hs) hw hQ fuel listed a w (Region.free_spec hi hf) (by simpa using hr) hy hS h
/-- One operation alone may come up. -/
theorem wpAnyG_one {i : Nat} {o : Oper} {fuel : Nat} {listed : Array Bool} {a : Act} {w : World} (hi : ops[i]? = some o) (hr : Region.ready md ops listed = [i])
    (h : ∀ K : Act → World → Prop, Go.Shut (∀ a w, (i ≠ m → S w) → wpAnyG P md ops Q S m fuel (listed.setIfInBounds i true) a w → K a w) → if Region.wanted o (yielded ops a.tmps) = true then Oper.wp P o a w K Q else K (a.put o.dst undef) w) :
    wpAnyG P md ops Q S m (fuel + 1) listed a w := by
  refine ⟨fun h0 => ?_, fun j hj => ?_⟩
  · rw [hr] at h0; cases h0
  · rw [hr] at hj
    obtain rfl : j = i := by simpa using hj
    exact wpOp_step hi fun K' hK => h K' fun a w hS hW => hK a w ⟨hS, hW⟩
/-- One of two operations comes up. -/
theorem wpAnyG_two {i j : Nat} {oi oj : Oper} {fuel : Nat} {listed : Array Bool} {a : Act} {w : World} (hi : ops[i]? = some oi) (hj : ops[j]? = some oj) (hr : Region.ready md ops listed = [i, j])
    (h1 : ∀ K : Act → World → Prop, Go.Shut (∀ a w, (i ≠ m → S w) → wpAnyG P md ops Q S m fuel (listed.setIfInBounds i true) a w → K a w) → if Region.wanted oi (yielded ops a.tmps) = true then Oper.wp P oi a w K Q else K (a.put oi.dst undef) w)
    (h2 : ∀ K : Act → World → Prop, Go.Shut (∀ a w, (j ≠ m → S w) → wpAnyG P md ops Q S m fuel (listed.setIfInBounds j true) a w → K a w) → if Region.wanted oj (yielded ops a.tmps) = true then Oper.wp P oj a w K Q else K (a.put oj.dst undef) w) :
    wpAnyG P md ops Q S m (fuel + 1) listed a w := by
  refine ⟨fun h0 => ?_, fun k hk => ?_⟩
  · rw [hr] at h0; cases h0
  · rw [hr] at hk
    rcases List.mem_cons.1 hk with rfl | hk
    · exact wpOp_step hi fun K' hK => h1 K' fun a w hS hW => hK a w ⟨hS, hW⟩
    · obtain rfl : k = j := by simpa using hk
      exact wpOp_step hj fun K' hK => h2 K' fun a w hS hW => hK a w ⟨hS, hW⟩
theorem wpAnyG_done {listed : Array Bool} {a : Act} {w : World} (hr : Region.ready md ops listed = []) (h : Q .normal a w) :
    ∀ fuel, wpAnyG P md ops Q S m fuel listed a w
  | 0 => ⟨hr, h⟩
  | _ + 1 => ⟨fun _ => h, by rw [hr]; simp⟩
theorem wp_region_G {id : Nat} {a : Act} {w : World} (hm : P.follows .mixedOrders = true)
    (h : wpAnyG P .any ops Q S m ops.size (Array.replicate ops.size false) a w.drew) : (Code.region id ops true).wp P Q a w :=
  wp_region_any hm (wpAny_of_G _ _ _ _ h)
end
end Go.Proofs.YtjeffagejbdjkaaDoor

/- ParseRow: the reference's walk. Written by gen_prow.py. -/
namespace Go.Proofs.YtjeffagejbdjkaaDoor
open Go.ChangeShapes Go.WideShapes Go.RowKit Go.Deep
theorem specRow_nil {l : List UInt8} (h : l = []) : specRow l = none := by unfold specRow; exact if_neg (fun k => k.1 h)
theorem specRow_no {l : List UInt8} (h : rowText ⟨rowId l, rowVals l⟩ ≠ l) : specRow l = none := by unfold specRow; exact if_neg (fun k => h k.2)
theorem specRow_yes {l : List UInt8} (h : l ≠ []) (h2 : rowText ⟨rowId l, rowVals l⟩ = l) : specRow l = some ⟨rowId l, rowVals l⟩ := by unfold specRow; exact if_pos ⟨h, h2⟩
theorem numV_i64 (p : List UInt8) : I64 (numV p) := by have := numV_bound p; unfold I64; omega
theorem cut_second {l p r : List UInt8} (h : cutL 58 l = [p, r]) : r.length + 1 ≤ l.length := by
  rcases cut_cut 58 l with ⟨h5, _⟩ | ⟨x, y, h5, h6, h7, h8⟩
  · rw [h] at h5; simp at h5
  · rw [h] at h7
    have e3 := (List.cons.inj h7).2
    rcases cut_cut 58 y with ⟨k5, _⟩ | ⟨x2, y2, k5, k6, k7, k8⟩
    · rw [k5] at e3
      have e4 := (List.cons.inj e3).1
      rw [e4, h5]; simp
    · rw [k7] at e3
      have e4 := (List.cons.inj e3).2
      exact absurd e4.symm (cutL_ne 58 y2)
theorem rowVals_small {l : List UInt8} (h : l.length ≤ 1048576) : totRow ⟨rowId l, rowVals l⟩ ≤ 1048576 := by
  have e : (rowVals l).length ≤ 1048576 := by
    unfold rowVals
    split
    · rename_i h2
      match hc : cutL 58 l, h2 with
      | [p, r], _ =>
        have := cut_second hc
        have := cutL_count 44 r
        simp; omega
    · simp
  unfold totRow
  first | exact e | (simp; omega)
theorem rowVals_two {l p r : List UInt8} (h : cutL 58 l = [p, r]) : rowVals l = (cutL 44 r).map numV := by unfold rowVals; rw [h]; rfl
theorem rowVals_not {l : List UInt8} (h : (cutL 58 l).length ≠ 2) : rowVals l = [] := by unfold rowVals; exact if_neg h
theorem take_numV {P : List (List UInt8)} {k : Nat} (h : k < P.length) : (P.take (k + 1)).map numV = (P.take k).map numV ++ [numV P[k]] := by rw [List.take_succ_eq_append_getElem h, List.map_append]; rfl
theorem strsAt_below {B g : Nat} {w w' : World} {P : List (List UInt8)} (h : StrsAt w g P) (hb : Below B w w') (hg : g < B) : StrsAt w' g P := fun j hj => (hb.cell (p := ⟨g, j, none⟩) hg).trans (h j hj)
theorem strsAt_set {g : Nat} {w : World} {P : List (List UInt8)} {q : Addr} (h : StrsAt w g P) (hq : q.block ≠ g) (v : Value) : StrsAt (w.setCell q v) g P := fun j hj => (World.cell?_setCell_far w q ⟨g, j, none⟩ v hq).trans (h j hj)
theorem spec_l2CutN (l : List UInt8) (c : UInt8) (P : List (List UInt8)) (N : Nat) (hP : cutL c l = P) (hN : P.length = N) (hl : l.length ≤ 1048576) (w : World) : Calls Tryd.prog 66 #[.string ⟨l.toArray⟩, .int .u8 c.toNat] w fun e w' => ∃ g n, e = .returned (.slice (some ⟨g, 0, none⟩) N n) ∧ Gr w w' ∧ Hid (StrsAt w' g P ∧ w.heap.size ≤ g) := hN ▸ hP ▸ spec_l2Cut l c hl w
set_option maxRecDepth 100000 in
set_option maxHeartbeats 4000000 in
theorem spec_ParseRow (l : List UInt8) (w : World) (hl : l.length ≤ 1048576) : Calls Tryd.prog 35 #[.string ⟨l.toArray⟩] w fun e w' => ∃ v, e = .returned (.tuple #[.agg #[.int .i64 (rowOr (specRow l)).id, v], .bool (specRow l).isSome]) ∧ RInts w' v (rowOr (specRow l)).vals ∧ Gr w w' := by
  have HL := Lib.hid hl
  have g0 : Gr w (w.alloc (.cells #[.int .i64 0, .slice none 0 0] 33)) := (Gr.refl w).alloc _
  have hlt : w.heap.size < (w.alloc (.cells #[.int .i64 0, .slice none 0 0] 33)).heap.size := by simp
  clear hl
  obtain ⟨P, HPP⟩ : ∃ P, Hid (cutL 58 l = P) := ⟨_, Lib.hid rfl⟩
  obtain ⟨p0, ps, rfl⟩ : ∃ p0 ps, P = p0 :: ps := by
    cases P with
    | nil => exact absurd HPP.out (cutL_ne 58 l)
    | cons a b => exact ⟨a, b, rfl⟩
  have HP0 : Hid (p0.length ≤ 1048576) := Lib.hid (by have := cutL_len 58 l p0 (by rw [HPP.out]; simp); have := HL.out; omega)
  have HID : Hid (numV p0 = rowId l) := Lib.hid (by unfold rowId; rw [HPP.out]; rfl)
  by_cases hN : ∃ p1, ps = [p1]
  · obtain ⟨p1, rfl⟩ := hN
    have HP1 : Hid (p1.length ≤ 1048576) := Lib.hid (by have := cutL_len 58 l p1 (by rw [HPP.out]; simp); have := HL.out; omega)
    obtain ⟨Q, HQ⟩ : ∃ Q, Hid (cutL 44 p1 = Q) := ⟨_, Lib.hid rfl⟩
    have HVQ : Hid (rowVals l = Q.map numV) := Lib.hid (by rw [rowVals_two HPP.out, HQ.out])
    have HQL : Hid (0 < Q.length ∧ Q.length ≤ 1048577) := Lib.hid (by rw [← HQ.out]; exact ⟨List.length_pos_iff.2 (cutL_ne 44 p1), by have := cutL_count 44 p1; have := HP1.out; omega⟩)
    have HQP : Hid (∀ p ∈ Q, p.length ≤ 1048576) := Lib.hid (fun p h => by have := cutL_len 44 p1 p (by rw [HQ.out]; exact h); have := HP1.out; omega)
    go_enter Tryd.func35, Tryd.ntmps35
    go_wp2_with fail
    refine (spec_l2CutN l 58 [p0, p1] 2 HPP.out rfl HL.out _).mono ?_
    rintro e w1 ⟨g, n, rfl, g1, HSt⟩
    have k0 : w1.cell? ⟨w.heap.size, 0, none⟩ = some (.int .i64 0) := g1.cellv (by simp [go_sem])
    have k1 : w1.cell? ⟨w.heap.size, 1, none⟩ = some (.slice none 0 0) := g1.cellv (by simp [go_sem])
    have f0 : w1.frozen? ⟨w.heap.size, 0, none⟩ = false := by rw [g1.frozen hlt]; simp [go_sem]
    have f1 : w1.frozen? ⟨w.heap.size, 1, none⟩ = false := by rw [g1.frozen hlt]; simp [go_sem]
    have c0 : w1.cell? ⟨g, 0, none⟩ = some (.string ⟨p0.toArray⟩) := HSt.out.1 0 (by simp)
    have HC1 : Hid (w1.cell? ⟨g, 1, none⟩ = some (.string ⟨p1.toArray⟩)) := Lib.hid (HSt.out.1 1 (by simp))
    have G1 := Lib.hid (g0.trans g1)
    have hl1 : w.heap.size < w1.heap.size := Nat.lt_of_lt_of_le hlt g1.size
    clear g0 g1 hlt
    go_wp2_with fail
    refine (calls_n (spec_l2Num p0 HP0.out _) HID.out).mono ?_
    rintro e w2 ⟨rfl, g2⟩
    replace k0 := g2.cellv k0
    replace k1 := g2.cellv k1
    replace f0 := (g2.frozen (p := ⟨w.heap.size, 0, none⟩) hl1).trans f0
    replace f1 := (g2.frozen (p := ⟨w.heap.size, 1, none⟩) hl1).trans f1
    have c1 := g2.cellv HC1.out
    have hl2 : w.heap.size < w2.heap.size := Nat.lt_of_lt_of_le hl1 g2.size
    have G2 := Lib.hid (G1.out.trans g2)
    have gb : Gr w2 (w2.alloc (.cells #[.int .i64 (rowId l), .slice none 0 0] 33)) := (Gr.refl w2).alloc _
    have hltb : w2.heap.size < (w2.alloc (.cells #[.int .i64 (rowId l), .slice none 0 0] 33)).heap.size := by simp
    replace c1 := gb.cellv c1
    clear g2 hl1 c0 HC1
    go_wp2_with fail
    refine (spec_l2CutN p1 44 Q Q.length HQ.out rfl HP1.out _).mono ?_
    rintro e w3 ⟨h, n2, rfl, g3, HS2⟩
    have b0 : w3.cell? ⟨w2.heap.size, 0, none⟩ = some (.int .i64 (rowId l)) := g3.cellv (by simp [go_sem])
    have b1 : w3.cell? ⟨w2.heap.size, 1, none⟩ = some (.slice none 0 0) := g3.cellv (by simp [go_sem])
    have bf : w3.frozen? ⟨w2.heap.size, 1, none⟩ = false := by rw [g3.frozen hltb]; simp [go_sem]
    have G23 : Gr w2 w3 := gb.trans g3
    have HB3 : Hid (w2.heap.size < w3.heap.size) := Lib.hid (Nat.lt_of_lt_of_le hltb g3.size)
    have HH : Hid (w2.heap.size ≠ h ∧ h < w3.heap.size) := Lib.hid ⟨by have := HS2.out.2; omega, World.block_lt_of_cell? w3 _ (HS2.out.1 0 HQL.out.1)⟩
    have HO0 : OwnI w3 w3.heap.size (.slice none 0 0) [] := World.ownsRow_nil _ _ _ _
    clear g3 gb hltb c1
    go_wp2_with fail
    go_loopw [7] (fun iv wr => ∃ (k : Nat) (ns : List Int) (bo : Option Addr) (co : Nat), k ≤ Q.length ∧ iv = .int .i64 k ∧ wr.cell? ⟨w2.heap.size, 0, none⟩ = some (.int .i64 (rowId l)) ∧ wr.cell? ⟨w2.heap.size, 1, none⟩ = some (.slice bo ns.length co) ∧ wr.frozen? ⟨w2.heap.size, 1, none⟩ = false ∧ Hid (OwnI wr w3.heap.size (.slice bo ns.length co) ns) ∧ Hid (ns = (Q.take k).map numV ∧ ns.length = k) ∧ Hid (StrsAt wr h Q) ∧ Gr w2 wr ∧ Hid (w3.heap.size ≤ wr.heap.size)) (fun i _ => Q.length - (intOf i).toNat)
    case atStart => exact ⟨0, [], _, _, Nat.zero_le _, rfl, b0, b1, bf, Lib.hid HO0, Lib.hid ⟨by simp, rfl⟩, Lib.hid HS2.out.1, G23, Lib.hid (Nat.le_refl _)⟩
    case round =>
      obtain ⟨k, ns, bo, co, hk, rfl, s0, s1, sf, HO, HNS, HST, hgr, HBW⟩ := hrel
      by_cases hlt3 : k < Q.length
      · have HLT := Lib.hid hlt3
        have HTK : Hid (ns ++ [numV Q[k]] = (Q.take (k + 1)).map numV) := Lib.hid ((congrArg (· ++ [numV Q[k]]) HNS.out.1).trans (take_numV hlt3).symm)
        have HPL : Hid (Q[k].length ≤ 1048576) := Lib.hid (HQP.out _ (List.getElem_mem hlt3))
        have s2 : wr.cell? ⟨h, k, none⟩ = some (.string ⟨Q[k].toArray⟩) := HST.out k hlt3
        generalize Q[k] = p at HTK HPL s2
        have i0 : (0 : Int) ≤ (k : Int) := Int.natCast_nonneg _
        have i1 : (k : Int) < (Q.length : Int) := by omega
        have i2 : (Q.length : Int) ≤ 1048577 := by have := HQL.out; omega
        have HB : Hid ((ns.length + 1) * 8 ≤ 140737488355328) := Lib.hid (by have := HNS.out.2; omega)
        clear hk
        go_wp2_with fail
        refine wp_region_G (S := fun w' => w'.cell? ⟨w2.heap.size, 1, none⟩ = some (.slice bo ns.length co) ∧ w'.cell? ⟨h, k, none⟩ = some (.string ⟨p.toArray⟩)) (m := 10) (by kernel_rfl) ?_
        have hS : wr.drew.cell? ⟨w2.heap.size, 1, none⟩ = some (.slice bo ns.length co) ∧ wr.drew.cell? ⟨h, k, none⟩ = some (.string ⟨p.toArray⟩) := ⟨((Gr.refl wr).drew).cellv s1, ((Gr.refl wr).drew).cellv s2⟩
        refine wpAnyG_take (i := 0) (v := ?v0) hS rfl (by kernel_rfl) (by kernel_rfl) (by kernel_rfl) (by kernel_rfl) (fun _ _ _ h => h) (Or.inl ⟨by rfl, ?hy0⟩) ?rest0
        case hy0 => (intro w' hw'; (try dsimp only at hw'); (try obtain ⟨hw1, hw2⟩ := hw'); go_simp; try with_reducible rfl)
        try simp only [Act.put]
        refine wpAnyG_take (i := 1) (v := ?v1) hS rfl (by kernel_rfl) (by kernel_rfl) (by kernel_rfl) (by kernel_rfl) (fun _ _ _ h => h) (Or.inl ⟨by rfl, ?hy1⟩) ?rest1
        case hy1 => (intro w' hw'; (try dsimp only at hw'); (try obtain ⟨hw1, hw2⟩ := hw'); go_simp; try with_reducible rfl)
        try simp only [Act.put]
        refine wpAnyG_take (i := 2) (v := ?v2) hS rfl (by kernel_rfl) (by kernel_rfl) (by kernel_rfl) (by kernel_rfl) (fun _ _ _ h => h) (Or.inl ⟨by rfl, ?hy2⟩) ?rest2
        case hy2 => (intro w' hw'; (try dsimp only at hw'); (try obtain ⟨hw1, hw2⟩ := hw'); go_simp; try with_reducible rfl)
        try simp only [Act.put]
        refine wpAnyG_take (i := 3) (v := ?v3) hS rfl (by kernel_rfl) (by kernel_rfl) (by kernel_rfl) (by kernel_rfl) (fun _ _ _ h => h) (Or.inl ⟨by rfl, ?hy3⟩) ?rest3
        case hy3 => (intro w' hw'; (try dsimp only at hw'); (try obtain ⟨hw1, hw2⟩ := hw'); go_simp; try with_reducible rfl)
        try simp only [Act.put]
        refine wpAnyG_take (i := 4) (v := ?v4) hS rfl (by kernel_rfl) (by kernel_rfl) (by kernel_rfl) (by kernel_rfl) (fun _ _ _ h => h) (Or.inl ⟨by rfl, ?hy4⟩) ?rest4
        case hy4 => (intro w' hw'; (try dsimp only at hw'); (try obtain ⟨hw1, hw2⟩ := hw'); go_simp; try with_reducible rfl)
        try simp only [Act.put]
        refine wpAnyG_take (i := 5) (v := ?v5) hS rfl (by kernel_rfl) (by kernel_rfl) (by kernel_rfl) (by kernel_rfl) (fun _ _ _ h => h) (Or.inl ⟨by rfl, ?hy5⟩) ?rest5
        case hy5 => (intro w' hw'; (try dsimp only at hw'); (try obtain ⟨hw1, hw2⟩ := hw'); go_simp; try with_reducible rfl)
        try simp only [Act.put]
        refine wpAnyG_one (i := 6) rfl (by kernel_rfl) (fun K6 hK6 => ?_)
        go_simp
        refine (spec_l2Num p HPL.out _).mono ?_
        rintro e w4 ⟨rfl, g4⟩
        have gw4 : Gr wr w4 := (Gr.refl wr).drew.trans g4
        go_wp2_with fail
        have hS4 : w4.cell? ⟨w2.heap.size, 1, none⟩ = some (.slice bo ns.length co) ∧ w4.cell? ⟨h, k, none⟩ = some (.string ⟨p.toArray⟩) := ⟨gw4.cellv s1, gw4.cellv s2⟩
        refine hK6.out _ _ (fun _ => hS4) ?_
        clear hK6 K6 hS
        try simp only [Act.put]
        refine wpAnyG_one (i := 7) rfl (by kernel_rfl) (fun K7 hK7 => ?_)
        go_simp
        refine hK7.out _ _ (fun _ => ⟨((Gr.refl w4).alloc _).cellv hS4.1, ((Gr.refl w4).alloc _).cellv hS4.2⟩) ?_
        clear hK7 K7
        try simp only [Act.put]
        refine wpAnyG_one (i := 8) rfl (by kernel_rfl) (fun K8 hK8 => ?_)
        refine step_push_n (wr := w4) 24 3 1 8 Tryd.underlying24 (z := .int .i64 0) (by kernel_rfl) rfl (by decide) (by decide) rfl _ _ rfl 1 (by decide) [.int .i64 (numV p)] rfl rfl rfl (ownsRow_gr HO.out gw4) rfl (by simp [Value.oneCell']) HB.out (Nat.le_trans HBW.out gw4.size) ?_
        intro g5 cap5 w5 hown5 hb5 _ _
        have z0 := (hb5.cell (p := ⟨w2.heap.size, 0, none⟩) HB3.out).trans (gw4.cellv s0)
        have z1 := (hb5.cell (p := ⟨w2.heap.size, 1, none⟩) HB3.out).trans hS4.1
        have z2 := (hb5.cell (p := ⟨h, k, none⟩) HH.out.2).trans hS4.2
        have zf := (hb5.frozen (p := ⟨w2.heap.size, 1, none⟩) HB3.out).trans ((gw4.frozen (p := ⟨w2.heap.size, 1, none⟩) (Nat.lt_of_lt_of_le HB3.out HBW.out)).trans sf)
        refine hK8.out _ _ (fun _ => ⟨z1, z2⟩) ?_
        clear hK8 K8
        try simp only [Act.put]
        have hS := And.intro z1 z2
        refine wpAnyG_take (i := 9) (v := ?v9) hS rfl (by kernel_rfl) (by kernel_rfl) (by kernel_rfl) (by kernel_rfl) (fun _ _ _ h => h) (Or.inl ⟨by rfl, ?hy9⟩) ?rest9
        case hy9 => (intro w' hw'; (try dsimp only at hw'); (try obtain ⟨hw1, hw2⟩ := hw'); go_simp; try with_reducible rfl)
        try simp only [Act.put]
        refine wpAnyG_one (i := 10) rfl (by kernel_rfl) (fun K10 hK10 => ?_)
        go_simp
        refine hK10.out _ _ (fun h => absurd rfl h) ?_
        clear hK10 K10
        try simp only [Act.put]
        refine wpAnyG_done (by kernel_rfl) ?_ _
        have HOW := Lib.hid hown5
        have HG5 : Hid (Gr w2 w5) := Lib.hid (hgr.trans' ((gw4.mono (by have := HBW.out; have := HB3.out; omega) : Below w2.heap.size wr w4).trans (hb5.mono (by have := HB3.out; omega))))
        have HST5 : Hid (StrsAt w5 h Q) := Lib.hid (strsAt_below (HST.out.gr gw4) hb5 HH.out.2)
        have HBW5 : Hid (w3.heap.size ≤ w5.heap.size) := Lib.hid (Nat.le_trans HBW.out (Nat.le_trans gw4.size hb5.size))
        clear hown5 hb5 g4 gw4 hS hS4
        go_wp2_with fail
        go_roundw
        case rel => exact ⟨k + 1, ns ++ [numV p], some ⟨g5, 0, none⟩, cap5, by have := HLT.out; omega, by go_num, by simp [go_sem, z0], by simp [go_sem, z1], by simp [go_sem, zf], Lib.hid (by
          have h := ownsRow_setCell_below HOW.out (a := ⟨w2.heap.size, 1, none⟩) HB3.out (.slice (some ⟨g5, 0, none⟩) (ns.length + 1) cap5)
          unfold OwnI; rw [List.length_append, List.length_singleton, List.map_append]; exact h), Lib.hid ⟨HTK.out, by rw [List.length_append, HNS.out.2]; rfl⟩, Lib.hid (strsAt_set HST5.out HH.out.1 _), HG5.out.setCell (Nat.le_refl _) _, Lib.hid (by simp [World.setCell]; exact HBW5.out)⟩
        case measure => have := HLT.out; simp only [intOf]; omega
      · obtain rfl : k = Q.length := by omega
        have HNV : Hid (ns = rowVals l) := Lib.hid (by rw [HNS.out.1, List.take_length, HVQ.out])
        have HP : Hid (PInts (In w3.heap.size wr.heap.size) wr (.slice bo ns.length co) (rowVals l)) := Lib.hid (by
          rw [← HNV.out]
          exact own_priv HO.out (fun x hx => by rw [HNS.out.1] at hx; obtain ⟨y, _, rfl⟩ := List.mem_map.1 hx; exact numV_i64 y))
        replace k0 := hgr.cellv k0
        replace k1 := hgr.cellv k1
        replace f0 := (hgr.frozen (p := ⟨w.heap.size, 0, none⟩) hl2).trans f0
        replace f1 := (hgr.frozen (p := ⟨w.heap.size, 1, none⟩) hl2).trans f1
        have hltz : w.heap.size < wr.heap.size := Nat.lt_of_lt_of_le hl2 hgr.size
        have GZ := Lib.hid (G2.out.trans hgr)
        obtain ⟨HI, rfl⟩ : ∃ HI, HI = wr.heap.size := ⟨_, rfl⟩
        replace HP := Lib.hid (HP.out.wide (lo' := w.heap.size + 1) (hi' := wr.heap.size) (by have := HB3.out; omega) (Nat.le_refl _))
        obtain ⟨va, vn, vc, hvv⟩ : ∃ va vn vc, Value.slice bo ns.length co = .slice va vn vc := ⟨_, _, _, rfl⟩
        rw [hvv] at HP s1
        have d0 := s0
        have d1 := s1
        have HV := Lib.hid (rd_pints HP.out)
        obtain ⟨HI, HHI⟩ : ∃ HI, Hid (HI = wr.heap.size) := ⟨_, Lib.hid rfl⟩
        rw [← HHI.out] at HP
        clear s0 s1 sf hvv hk hlt3 hl2 b0 b1 bf hgr G23 HO0
        cases hle : (l == []) with
        | true =>
          have HB := Lib.hid (specRow_nil (eq_of_beq hle))
          go_wp2_with fail
          refine bodyPost_ret (v := .tuple #[.agg #[.int .i64 0, .slice none 0 0], .bool false]) (by simp [results, Tryd.results35, go_sem, *]) rfl ⟨_, by rw [HB.out]; rfl, by rw [HB.out]; exact rd_pints (OSl.nil (F := fun _ => True) _), (GZ.out.setCell (Nat.le_refl _) _).setCell (Nat.le_refl _) _⟩
        | false =>
          obtain ⟨T, HTT⟩ : ∃ T, Hid (T = rowText ⟨rowId l, rowVals l⟩) := ⟨_, Lib.hid rfl⟩
          cases ht : (T == l) with
          | false =>
            have HB := Lib.hid (specRow_no (l := l) (by rw [← HTT.out]; intro e; rw [e] at ht; simp at ht))
            go_wp2_with fail
            refine (Calls.mono (spec_FormatRow ⟨rowId l, rowVals l⟩ _ _ HV.out (rowVals_small HL.out) (numV_i64 _)) fun e w' h => by rw [← HTT.out] at h; exact h).mono ?_
            rintro e w6 ⟨rfl, g6⟩
            replace k0 := g6.cellv k0
            replace k1 := g6.cellv k1
            replace f0 := (g6.frozen (p := ⟨w.heap.size, 0, none⟩) hltz).trans f0
            replace f1 := (g6.frozen (p := ⟨w.heap.size, 1, none⟩) hltz).trans f1
            have hlt6 : w.heap.size < w6.heap.size := Nat.lt_of_lt_of_le hltz g6.size
            have GY := Lib.hid (GZ.out.trans g6)
            clear hltz g6 d0 d1
            go_wp2_with fail
            refine bodyPost_ret (v := .tuple #[.agg #[.int .i64 0, .slice none 0 0], .bool false]) (by simp [results, Tryd.results35, go_sem, *]) rfl ⟨_, by rw [HB.out]; rfl, by rw [HB.out]; exact rd_pints (OSl.nil (F := fun _ => True) _), (GY.out.setCell (Nat.le_refl _) _).setCell (Nat.le_refl _) _⟩
          | true =>
            have HB := Lib.hid (specRow_yes (l := l) (by rintro rfl; simp at hle) (by rw [← HTT.out]; exact eq_of_beq ht))
            go_wp2_with fail
            refine (Calls.mono (spec_FormatRow ⟨rowId l, rowVals l⟩ _ _ HV.out (rowVals_small HL.out) (numV_i64 _)) fun e w' h => by rw [← HTT.out] at h; exact h).mono ?_
            rintro e w6 ⟨rfl, g6⟩
            replace k0 := g6.cellv k0
            replace k1 := g6.cellv k1
            replace f0 := (g6.frozen (p := ⟨w.heap.size, 0, none⟩) hltz).trans f0
            replace f1 := (g6.frozen (p := ⟨w.heap.size, 1, none⟩) hltz).trans f1
            replace d0 := g6.cellv d0
            replace d1 := g6.cellv d1
            have hlt6 : w.heap.size < w6.heap.size := Nat.lt_of_lt_of_le hltz g6.size
            have GY := Lib.hid (GZ.out.trans g6)
            have HV6 := Lib.hid (HP.out.gr fr_int g6)
            clear hltz g6
            go_wp2_with fail
            have hv7 : PInts (In (w.heap.size + 1) HI) ((w6.setCell ⟨w.heap.size, 0, none⟩ (.int .i64 (rowId l))).setCell ⟨w.heap.size, 1, none⟩ (.slice va vn vc)) (.slice va vn vc) (rowVals l) := HV6.out.frame fr_int (((Agree.refl _ w6).setCell (p := ⟨w.heap.size, 0, none⟩) (fun b hb e => by have := hb.1; dsimp only at e; omega) (.int .i64 (rowId l))).setCell (p := ⟨w.heap.size, 1, none⟩) (fun b hb e => by have := hb.1; dsimp only at e; omega) (.slice va vn vc))
            refine bodyPost_ret (v := .tuple #[.agg #[.int .i64 (rowId l), .slice va vn vc], .bool true]) (by simp [results, Tryd.results35, go_sem, *]) rfl ⟨_, by rw [HB.out]; rfl, by rw [HB.out]; exact rd_pints hv7, (GY.out.setCell (Nat.le_refl _) _).setCell (Nat.le_refl _) _⟩
  · obtain ⟨N, HN⟩ : ∃ N, Hid ((p0 :: ps).length = N) := ⟨_, Lib.hid rfl⟩
    have hN1 : N ≠ 2 := fun e => hN (by
      have h := HN.out
      match ps, h with
      | [], h => simp at h; omega
      | [p1], _ => exact ⟨p1, rfl⟩
      | _ :: _ :: r, h => simp at h; omega)
    have hN2 : ¬ ((N : Int) = 2) := by omega
    have i1 : (0 : Int) < (N : Int) := by have := HN.out; simp at this; omega
    have HVN : Hid (rowVals l = []) := Lib.hid (rowVals_not (by rw [HPP.out, HN.out]; exact hN1))
    clear hN hN1
    go_enter Tryd.func35, Tryd.ntmps35
    go_wp2_with fail
    refine (spec_l2CutN l 58 (p0 :: ps) N HPP.out HN.out HL.out _).mono ?_
    rintro e w1 ⟨g, n, rfl, g1, HSt⟩
    have k0 : w1.cell? ⟨w.heap.size, 0, none⟩ = some (.int .i64 0) := g1.cellv (by simp [go_sem])
    have k1 : w1.cell? ⟨w.heap.size, 1, none⟩ = some (.slice none 0 0) := g1.cellv (by simp [go_sem])
    have f0 : w1.frozen? ⟨w.heap.size, 0, none⟩ = false := by rw [g1.frozen hlt]; simp [go_sem]
    have f1 : w1.frozen? ⟨w.heap.size, 1, none⟩ = false := by rw [g1.frozen hlt]; simp [go_sem]
    have c0 : w1.cell? ⟨g, 0, none⟩ = some (.string ⟨p0.toArray⟩) := HSt.out.1 0 (by simp)
    have G1 := Lib.hid (g0.trans g1)
    have hl1 : w.heap.size < w1.heap.size := Nat.lt_of_lt_of_le hlt g1.size
    clear g0 g1 hlt
    go_wp2_with fail
    refine (calls_n (spec_l2Num p0 HP0.out _) HID.out).mono ?_
    rintro e w2 ⟨rfl, g2⟩
    have hl2 : w.heap.size < w2.heap.size := Nat.lt_of_lt_of_le hl1 g2.size
    obtain ⟨wz, hwz⟩ : ∃ wz, wz = w2.alloc (.cells #[.int .i64 (rowId l), .slice none 0 0] 33) := ⟨_, rfl⟩
    have gb : Gr w2 wz := by rw [hwz]; exact (Gr.refl w2).alloc _
    have d0 : wz.cell? ⟨w2.heap.size, 0, none⟩ = some (.int .i64 (rowId l)) := by rw [hwz]; simp [go_sem]
    have d1 : wz.cell? ⟨w2.heap.size, 1, none⟩ = some (.slice none 0 0) := by rw [hwz]; simp [go_sem]
    have g12 := g2.trans gb
    replace k0 := g12.cellv k0
    replace k1 := g12.cellv k1
    replace f0 := (g12.frozen (p := ⟨w.heap.size, 0, none⟩) hl1).trans f0
    replace f1 := (g12.frozen (p := ⟨w.heap.size, 1, none⟩) hl1).trans f1
    have hltz : w.heap.size < wz.heap.size := Nat.lt_of_lt_of_le hl2 gb.size
    have GZ := Lib.hid (G1.out.trans g12)
    obtain ⟨va, vn, vc, hvv⟩ : ∃ va vn vc, Value.slice none 0 0 = .slice va vn vc := ⟨_, _, _, rfl⟩
    obtain ⟨HI, HHI⟩ : ∃ HI, Hid (HI = wz.heap.size) := ⟨_, Lib.hid rfl⟩
    have HP : Hid (PInts (In (w.heap.size + 1) HI) wz (.slice va vn vc) (rowVals l)) := Lib.hid (by rw [HVN.out, ← hvv]; exact OSl.nil _)
    have HV := Lib.hid (rd_pints HP.out)
    rw [hvv] at d1
    clear g12 gb g2 hl1 hl2 c0 hvv
    subst hwz
    cases hle : (l == []) with
    | true =>
      have HB := Lib.hid (specRow_nil (eq_of_beq hle))
      go_wp2_with fail
      refine bodyPost_ret (v := .tuple #[.agg #[.int .i64 0, .slice none 0 0], .bool false]) (by simp [results, Tryd.results35, go_sem, *]) rfl ⟨_, by rw [HB.out]; rfl, by rw [HB.out]; exact rd_pints (OSl.nil (F := fun _ => True) _), (GZ.out.setCell (Nat.le_refl _) _).setCell (Nat.le_refl _) _⟩
    | false =>
      obtain ⟨T, HTT⟩ : ∃ T, Hid (T = rowText ⟨rowId l, rowVals l⟩) := ⟨_, Lib.hid rfl⟩
      cases ht : (T == l) with
      | false =>
        have HB := Lib.hid (specRow_no (l := l) (by rw [← HTT.out]; intro e; rw [e] at ht; simp at ht))
        go_wp2_with fail
        refine (Calls.mono (spec_FormatRow ⟨rowId l, rowVals l⟩ _ _ HV.out (rowVals_small HL.out) (numV_i64 _)) fun e w' h => by rw [← HTT.out] at h; exact h).mono ?_
        rintro e w6 ⟨rfl, g6⟩
        replace k0 := g6.cellv k0
        replace k1 := g6.cellv k1
        replace f0 := (g6.frozen (p := ⟨w.heap.size, 0, none⟩) hltz).trans f0
        replace f1 := (g6.frozen (p := ⟨w.heap.size, 1, none⟩) hltz).trans f1
        have hlt6 : w.heap.size < w6.heap.size := Nat.lt_of_lt_of_le hltz g6.size
        have GY := Lib.hid (GZ.out.trans g6)
        clear hltz g6 d0 d1
        go_wp2_with fail
        refine bodyPost_ret (v := .tuple #[.agg #[.int .i64 0, .slice none 0 0], .bool false]) (by simp [results, Tryd.results35, go_sem, *]) rfl ⟨_, by rw [HB.out]; rfl, by rw [HB.out]; exact rd_pints (OSl.nil (F := fun _ => True) _), (GY.out.setCell (Nat.le_refl _) _).setCell (Nat.le_refl _) _⟩
      | true =>
        have HB := Lib.hid (specRow_yes (l := l) (by rintro rfl; simp at hle) (by rw [← HTT.out]; exact eq_of_beq ht))
        go_wp2_with fail
        refine (Calls.mono (spec_FormatRow ⟨rowId l, rowVals l⟩ _ _ HV.out (rowVals_small HL.out) (numV_i64 _)) fun e w' h => by rw [← HTT.out] at h; exact h).mono ?_
        rintro e w6 ⟨rfl, g6⟩
        replace k0 := g6.cellv k0
        replace k1 := g6.cellv k1
        replace f0 := (g6.frozen (p := ⟨w.heap.size, 0, none⟩) hltz).trans f0
        replace f1 := (g6.frozen (p := ⟨w.heap.size, 1, none⟩) hltz).trans f1
        replace d0 := g6.cellv d0
        replace d1 := g6.cellv d1
        have hlt6 : w.heap.size < w6.heap.size := Nat.lt_of_lt_of_le hltz g6.size
        have GY := Lib.hid (GZ.out.trans g6)
        have HV6 := Lib.hid (HP.out.gr fr_int g6)
        clear hltz g6
        go_wp2_with fail
        have hv7 : PInts (In (w.heap.size + 1) HI) ((w6.setCell ⟨w.heap.size, 0, none⟩ (.int .i64 (rowId l))).setCell ⟨w.heap.size, 1, none⟩ (.slice va vn vc)) (.slice va vn vc) (rowVals l) := HV6.out.frame fr_int (((Agree.refl _ w6).setCell (p := ⟨w.heap.size, 0, none⟩) (fun b hb e => by have := hb.1; dsimp only at e; omega) (.int .i64 (rowId l))).setCell (p := ⟨w.heap.size, 1, none⟩) (fun b hb e => by have := hb.1; dsimp only at e; omega) (.slice va vn vc))
        refine bodyPost_ret (v := .tuple #[.agg #[.int .i64 (rowId l), .slice va vn vc], .bool true]) (by simp [results, Tryd.results35, go_sem, *]) rfl ⟨_, by rw [HB.out]; rfl, by rw [HB.out]; exact rd_pints hv7, (GY.out.setCell (Nat.le_refl _) _).setCell (Nat.le_refl _) _⟩
end Go.Proofs.YtjeffagejbdjkaaDoor
