/- The drawing of values: queries. -/
import Derived.Test.YtcdcpfcmhmhdjaaMg3
import Derived.Test.YtcdcpfcmhmhdjaaOwnPush
import Derived.Test.YtcdcpfcmhmhdjaaLawK
import Derived.Test.YtcdcpfcmhmhdjaaMg2
import Derived.Test.YtcdcpfcmhmhdjaaLawD
namespace Go.Proofs.Ytcdcpfcmhmhdjaa
open Go.RowKit Go.ChangeShapes Go.WideShapes Go.Deep
/-- A world without its blocks from m on. -/
def trunc (w : World) (m : Nat) : World := { w with heap := w.heap.extract 0 m }
theorem trunc_size {w : World} {m : Nat} (h : m ≤ w.heap.size) : (trunc w m).heap.size = m := by simp [trunc]; omega
theorem trunc_get {w : World} {m b : Nat} (h : b < m) (hm : m ≤ w.heap.size) : (trunc w m).heap[b]? = w.heap[b]? := by
  simp only [trunc]
  rw [Array.getElem?_extract]
  simp; omega
theorem gr_trunc {w : World} {m : Nat} (h : m ≤ w.heap.size) : Gr (trunc w m) w := ⟨rfl, rfl, rfl, by rw [trunc_size h]; exact h, fun b hb => by rw [trunc_size h] at hb; exact (trunc_get hb h).symm⟩
theorem osl_trunc {α : Type} {O : (Nat → Prop) → World → List Value → α → Prop} (hO : FramedE O) {t sz lo m : Nat} {w : World} {v : Value} {xs : List α} (h : OSl t sz O (In lo m) w v xs) (hm : m ≤ w.heap.size) : OSl t sz O (In lo (trunc w m).heap.size) (trunc w m) v xs := by
  rw [trunc_size hm]; exact h.frame hO fun b hb _ => trunc_get hb.2 hm
theorem osl_dr {α : Type} {O : (Nat → Prop) → World → List Value → α → Prop} (hO : FramedE O) {t sz lo hi g : Nat} {w w' : World} {v : Value} {xs : List α} (h : OSl t sz O (In lo hi) w v xs) (hg : g < lo) (k : Dr g w w') : OSl t sz O (In lo hi) w' v xs :=
  h.frame hO (k.agree fun b hb => by have := hb.1; omega)
theorem TwoRow.form {lo : Nat} {w : World} {u x : Value} {cs : List DCond} {os : List Int} (h : TwoRow lo w u x cs os) : ∃ a c a' c', u = .slice a cs.length c ∧ x = .slice a' os.length c' := by
  obtain ⟨F1, F2, h1, h2, _⟩ := h
  obtain ⟨a, c, e⟩ := h1.form
  obtain ⟨a', c', e'⟩ := h2.form
  exact ⟨a, c, a', c', e, e'⟩
theorem TwoRow.query {lo : Nat} {w : World} {u x : Value} {q : DQuery} (h : TwoRow lo w u x q.conds q.out) (h1 : I64 q.id) (h2 : I64 q.tenant) : PQuery (In lo w.heap.size) w [.int .i64 q.id, .int .i64 q.tenant, u, x] q := by
  obtain ⟨F1, F2, k1, k2, k3, k4⟩ := h
  exact ⟨u, x, F1, F2, rfl, h1, h2, k1, k2, k3, k4⟩
def QsTo (qs : List DQuery) (y : Int) : Prop := (∀ q ∈ qs, isQueryB q = true ∧ q.id < y) ∧ qs.Pairwise (fun a b => a.id < b.id)
theorem QsTo.nil (y : Int) : QsTo [] y := ⟨by simp, List.Pairwise.nil⟩
theorem QsTo.push {qs : List DQuery} {y z : Int} (h : QsTo qs y) {q : DQuery} (hq : isQueryB q = true) (e : q.id = y) (hz : y < z) : QsTo (qs ++ [q]) z := by
  refine ⟨fun p hp => ?_, ?_⟩
  · rcases List.mem_append.1 hp with h1 | h1
    · exact ⟨(h.1 p h1).1, by have := (h.1 p h1).2; omega⟩
    · rw [List.mem_singleton.1 h1]; exact ⟨hq, by omega⟩
  · rw [List.pairwise_append]
    exact ⟨h.2, List.pairwise_singleton _ _, fun a ha b hb => by rw [List.mem_singleton.1 hb, e]; exact (h.1 a ha).2⟩
theorem QsTo.are {qs : List DQuery} {y : Int} (h : QsTo qs y) (hl : qs.length ≤ 24) : areQueriesB qs = true := by
  unfold areQueriesB
  rw [decide_eq_true hl, allB_true, allB_true]
  · rfl
  · intro j hj
    unfold qOk
    rw [getD_lt hj]; exact (h.1 _ (List.getElem_mem hj)).1
  · intro j hj
    unfold qOrdAt
    by_cases e : j = 0
    · rw [decide_eq_true e]; rfl
    · rw [getD_lt hj, getD_lt (show j - 1 < qs.length by omega), decide_eq_true (List.pairwise_iff_getElem.1 h.2 (j - 1) j (by omega) hj (by omega)), Bool.or_true]
theorem query_ids {q : DQuery} (h : isQueryB q = true) : 0 ≤ q.tenant ∧ q.tenant ≤ 3 ∧ q.conds.length ≤ 3 ∧ q.out.length ≤ 3 := by
  unfold isQueryB fieldsB at h
  simp only [Bool.and_eq_true, decide_eq_true_eq] at h
  obtain ⟨_, _, h2, h3, _, h5⟩ := h
  have a := inB_true h2
  have b := inB_true h5
  exact ⟨a.1, a.2, h3, by omega⟩
set_option maxRecDepth 100000 in
set_option maxHeartbeats 2000000 in
theorem spec_l4Queries (g M : Nat) (w : World) (hc : Cur w g) (hM : M ≤ 6) : Calls Try.prog 42 #[.pointer (some ⟨g, 0, none⟩), .int .i64 M] w fun e w' => ∃ (b : Option Addr) (n c : Nat) (qs : List DQuery), e = .returned (.slice b n c) ∧ Hid (n = qs.length ∧ qs.length ≤ M ∧ areQueriesB qs = true) ∧ Hid (PQueries (In w.heap.size w'.heap.size) w' (.slice b n c) qs) ∧ Hid (Cur w' g ∧ Dr g w w') := by
  have HC := Lib.hid hc
  have hM' : (M : Int) ≤ 6 := by omega
  have hM0 : (0 : Int) ≤ (M : Int) := Int.natCast_nonneg _
  obtain ⟨W0, hW0⟩ : ∃ W0, W0 = w.alloc (.cells #[] 44) := ⟨_, rfl⟩
  have HW0 : Hid (Cur W0 g ∧ Dr g w W0 ∧ PQueries (In w.heap.size W0.heap.size) W0 (.slice (some ⟨w.heap.size, 0, none⟩) 0 0) []) := Lib.hid (by rw [hW0]; exact ⟨hc.gr ((Gr.refl w).alloc _), (Chg.refl _ _).alloc _, OSl.made w ⟨Nat.le_refl _, by simp⟩⟩)
  have HGW : Hid (g < w.heap.size) := Lib.hid hc.lt
  clear hc
  go_enter Try.func42, Try.ntmps42
  go_wp2_with fail
  rw [← hW0]
  clear hW0
  refine (spec_l1Below g 2 _ HW0.out.1 (by decide) (by decide)).mono ?_
  rintro e w1 ⟨y, rfl, hy, hk1⟩
  have HO1 := Lib.hid (osl_dr fr_query HW0.out.2.2 HGW.out hk1.out.2)
  have HD1 := Lib.hid (HW0.out.2.1.trans hk1.out.2)
  have HY := Lib.hid hy.out
  clear hy
  go_wp2_with fail
  refine (spec_l1Below g ((M : Int) + 1) _ hk1.out.1 (by omega) (by omega)).mono ?_
  rintro e w2 ⟨n, rfl, hn, hk2⟩
  obtain ⟨N, hN⟩ := Int.eq_ofNat_of_zero_le hn.out.1
  subst hN
  have HN : Hid (N ≤ M) := Lib.hid (by have := hn.out.2; omega)
  have HO2 := Lib.hid (osl_dr fr_query HO1.out HGW.out hk2.out.2)
  have HD2 := Lib.hid (HD1.out.trans hk2.out.2)
  have HS2 : Hid (W0.heap.size ≤ w2.heap.size) := Lib.hid (Nat.le_trans hk1.out.2.size hk2.out.2.size)
  have HK2 := Lib.hid hk2.out.1
  clear hn hk1 hk2 HO1 HD1
  go_wp2_with fail
  go_loopw [5, 6, 7] (fun out vy vn wr => ∃ (k c : Nat) (b : Option Addr) (y : Int) (qs : List DQuery), vn = .int .i64 k ∧ vy = .int .i64 y ∧ out = .slice b qs.length c ∧ Hid (QsTo qs y ∧ qs.length + k ≤ M ∧ 0 ≤ y ∧ y + 2 * k ≤ 13) ∧ Hid (PQueries (In w.heap.size wr.heap.size) wr (.slice b qs.length c) qs) ∧ Hid (Cur wr g ∧ Dr g w wr)) (fun _ _ vn _ => (intOf vn).toNat)
  case atStart => exact ⟨N, 0, some ⟨w.heap.size, 0, none⟩, y, [], rfl, rfl, rfl, Lib.hid ⟨QsTo.nil _, by have := HN.out; simpa using this, HY.out.1, by have := HY.out.2; have := HN.out; omega⟩, Lib.hid (HO2.out.wide (Nat.le_refl _) HS2.out), Lib.hid ⟨HK2.out, HD2.out⟩⟩
  case round =>
    obtain ⟨k, c, b, y, qs, rfl, rfl, rfl, HQ, HO, HK⟩ := hrel
    have k6 : (k : Int) ≤ 6 := by have := HQ.out.2.1; omega
    have y0 := HQ.out.2.2.1
    have y13 : y ≤ 13 := by have := HQ.out.2.2.2; omega
    by_cases hk0 : 0 < k
    · have hkz : (0 : Int) < (k : Int) := by omega
      go_wp2_with fail
      refine (spec_l4Query g y _ HK.out.1 (by omega)).mono ?_
      rintro e w3 ⟨u, x, ten, cs, os, rfl, hq, htw, hk3⟩
      obtain ⟨ua, uc, xa, xc, rfl, rfl⟩ := htw.out.form
      have HS3 : Hid (wr.heap.size ≤ w3.heap.size ∧ w.heap.size ≤ w3.heap.size) := Lib.hid ⟨hk3.out.2.size, Nat.le_trans HK.out.2.size hk3.out.2.size⟩
      have HO3 := Lib.hid (osl_trunc fr_query (osl_dr fr_query HO.out HGW.out hk3.out.2) HS3.out.1)
      have HT3 : Hid (w.heap.size ≤ (trunc w3 wr.heap.size).heap.size ∧ Gr (trunc w3 wr.heap.size) w3 ∧ (trunc w3 wr.heap.size).heap.size ≤ wr.heap.size) := Lib.hid ⟨by rw [trunc_size HS3.out.1]; exact HK.out.2.size, gr_trunc HS3.out.1, by rw [trunc_size HS3.out.1]; exact Nat.le_refl _⟩
      have HPQ : Hid (PQuery (In wr.heap.size w3.heap.size) w3 [.int .i64 y, .int .i64 ten, .slice ua cs.length uc, .slice xa os.length xc] ⟨y, ten, cs, os⟩) := Lib.hid (htw.out.query (q := ⟨y, ten, cs, os⟩) (by unfold I64; dsimp only; omega) (by have := query_ids hq.out; unfold I64; dsimp only at *; omega))
      have HD3 := Lib.hid (HK.out.2.trans hk3.out.2)
      have HK3 := Lib.hid hk3.out.1
      clear hk3 htw HO HK
      go_wp2_with (at_builtin; refine push_o (w0 := trunc w3 wr.heap.size) (wr := w3) (la := wr.heap.size) (hb := w3.heap.size) (lo := w.heap.size) 24 44 4 64 Try.underlying24 (z := .agg #[.int .i64 0, .int .i64 0, .slice none 0 0, .slice none 0 0]) (by kernel_rfl) rfl (by decide) (by decide) rfl _ _ rfl fr_query ⟨y, ten, cs, os⟩ [.int .i64 y, .int .i64 ten, .slice ua cs.length uc, .slice xa os.length xc] rfl rfl rfl HO3.out HT3.out.1 HT3.out.2.1 HPQ.out HT3.out.2.2 (Nat.le_refl _) rfl (by simp [Value.oneCell']) (by have := HQ.out.2.1; omega) ?_; intro g4 cap4 w4 hO4 hB4; obtain ⟨X, hX⟩ : ∃ X, X = qs ++ [⟨y, ten, cs, os⟩] := ⟨_, rfl⟩; rw [← hX] at hO4; rw [← hX]; have HX := Lib.hid hX; have HO4 := Lib.hid hO4; have HC4 := Lib.hid (HK3.out.below HGW.out hB4); have HD4 := Lib.hid (HD3.out.belowT hB4 (Nat.le_refl _)); clear hO4 hB4 hX)
      refine (spec_l1Below g 2 _ HC4.out (by decide) (by decide)).mono ?_
      rintro e w5 ⟨d, rfl, hd, hk5⟩
      have HO5 := Lib.hid ((osl_dr fr_query HO4.out HGW.out hk5.out.2).wide (Nat.le_refl _) hk5.out.2.size)
      have d0 := hd.out.1
      have d1 := hd.out.2
      go_wp2_with fail
      go_roundw
      case rel => exact ⟨k - 1, cap4, some ⟨g4, 0, none⟩, y + 1 + d, X, by go_num, rfl, rfl, Lib.hid ⟨by rw [HX.out]; exact HQ.out.1.push hq.out rfl (by omega), by rw [HX.out]; have := HQ.out.2.1; simp; omega, by omega, by have := HQ.out.2.2.2; omega⟩, HO5, Lib.hid ⟨hk5.out.1, HD4.out.trans hk5.out.2⟩⟩
      case measure => simp [intOf]; omega
    · have hkz : ¬ (0 : Int) < (k : Int) := by omega
      go_wp2_with fail
      go_ret
      exact ⟨_, _, _, rfl, qs, Lib.hid ⟨rfl, by have := HQ.out.2.1; omega, HQ.out.1.are (by have := HQ.out.2.1; omega)⟩, HO, HK⟩
end Go.Proofs.Ytcdcpfcmhmhdjaa

/- The drawing of values: a row. -/
namespace Go.Proofs.Ytcdcpfcmhmhdjaa
open Go.RowKit Go.ChangeShapes Go.WideShapes Go.Deep
theorem drawn_row {id : Int} {vs : List Int} (hi : 0 ≤ id ∧ id ≤ 999) (hv : ∀ x ∈ vs, 0 ≤ x ∧ x ≤ 99) (hl : vs.length = 3) : isRowB ⟨id, vs⟩ = true := by
  unfold isRowB
  dsimp only
  rw [inB_mk hi.1 hi.2, decide_eq_true hl, allB_true]
  · rfl
  · intro j hj
    unfold valAt
    rw [getD_lt hj]
    have := hv _ (List.getElem_mem hj)
    exact inB_mk this.1 this.2
theorem oints_keep {w w' : World} {lo : Nat} {v : Value} {xs : List Int} (h : OInts lo w v xs) (k : ∀ b, lo ≤ b → b < w.heap.size → w'.heap[b]? = w.heap[b]?) : OInts lo w' v xs := by
  refine ⟨⟨h.1.1, ?_⟩, h.2⟩
  rcases h.1.2 with h0 | ⟨b, cap, cur, hv, hb, hgg, r⟩
  · exact Or.inl h0
  · exact Or.inr ⟨b, cap, cur, hv, hb, by rw [k b hb (Array.getElem?_eq_some_iff.1 hgg).1]; exact hgg, r⟩
set_option maxRecDepth 100000 in
set_option maxHeartbeats 4000000 in
theorem spec_l3Row (g : Nat) (id : Int) (w : World) (hc : Cur w g) : Calls Try.prog 45 #[.pointer (some ⟨g, 0, none⟩), .int .i64 id] w fun e w' => ∃ (b : Option Addr) (n c : Nat) (vs : List Int), e = .returned (.agg #[.int .i64 id, .slice b n c]) ∧ Hid (n = vs.length ∧ vs.length = 3 ∧ ∀ x ∈ vs, 0 ≤ x ∧ x ≤ 99) ∧ Hid (OInts (w.heap.size + 1) w' (.slice b n c) vs) ∧ Hid (Cur w' g ∧ Dr g w w') := by
  have HGW : Hid (g < w.heap.size) := Lib.hid hc.lt
  obtain ⟨W1, hW1⟩ : ∃ W1, W1 = (w.alloc (.cells #[.int .i64 0, .slice none 0 0] 30)).alloc (.cells #[.int .i64 id, .slice none 0 0] 30) := ⟨_, rfl⟩
  obtain ⟨B, hB⟩ : ∃ B, B = w.heap.size + 1 := ⟨_, rfl⟩
  have HB1 : Hid (BX 30 w g w.heap.size B #[.int .i64 0, .slice none 0 0] #[.int .i64 id, .slice none 0 0] W1) := Lib.hid (by
    rw [hW1, hB]
    have e : (w.alloc (.cells #[.int .i64 0, .slice none 0 0] 30)).heap.size = w.heap.size + 1 := by simp
    refine ⟨by rw [Below.heap_alloc _ _ _ (by omega)]; exact heap_alloc_new _ _, by rw [← e]; exact heap_alloc_new _ _, ⟨HGW.out, Nat.le_refl _, Nat.lt_succ_self _⟩, hc.gr (((Gr.refl w).alloc _).alloc _), ((Chg.refl _ _).alloc _).alloc _⟩)
  have HZ1 : Hid (W1.heap.size = B + 1) := Lib.hid (by rw [hW1, hB]; simp)
  have HK1 : Hid (Cur (W1.alloc (.cells (wides.map (Value.int .i64)).toArray 3)) g) := Lib.hid (HB1.out.cur.gr ((Gr.refl _).alloc _))
  have HV1 : Hid (∀ w', Dr g (W1.alloc (.cells (wides.map (Value.int .i64)).toArray 3)) w' → RInts w' (.slice (some ⟨B + 1, 0, none⟩) 3 3) wides) := Lib.hid fun w' k => by
    rw [← HZ1.out]
    exact lit_ints HB1.out.cur.lt wides wides_i64 (by decide) k
  have HBW : Hid (w.heap.size + 1 = B) := Lib.hid hB.symm
  clear hc
  go_enter Try.func45, Try.ntmps45
  go_wp2_with fail
  rw [← hW1, ← hB]
  clear hW1 hB
  refine (spec_l1PickInt g _ wides _ HK1.out HV1.out (by decide)).mono ?_
  rintro e w2 ⟨wd, rfl, hwd, hk2⟩
  have HB2 := Lib.hid ((HB1.out.gr ((Gr.refl _).alloc (.cells (wides.map (Value.int .i64)).toArray 3))).draw hk2.out)
  have HWD := Lib.hid (wides_in hwd.out)
  have wd0 := HWD.out.1
  have wd1 := HWD.out.2
  clear hk2 hwd HV1 HK1 HB1
  go_wp2_with fail
  go_loopw [7] (fun vf wr => ∃ (k : Nat) (b : Option Addr) (c : Nat) (vs : List Int), vf = .int .i64 k ∧ k ≤ 3 ∧ Hid (vs.length = k ∧ ∀ x ∈ vs, 0 ≤ x ∧ x ≤ 99) ∧ Hid (BX 30 w g w.heap.size B #[.int .i64 0, .slice none 0 0] #[.int .i64 id, .slice b vs.length c] wr) ∧ Hid (OInts (B + 1) wr (.slice b vs.length c) vs)) (fun vf _ => 3 - (intOf vf).toNat)
  case atStart => exact ⟨0, none, 0, [], rfl, by omega, Lib.hid ⟨rfl, by simp⟩, HB2, Lib.hid ⟨⟨by simp, Or.inl ⟨rfl, rfl⟩⟩, by simp⟩⟩
  case round =>
    obtain ⟨k, b, c, vs, rfl, hk, HN, HX, HO⟩ := hrel
    by_cases hlt : k < 3
    · have hlz : (k : Int) < 3 := by omega
      go_wp2_with fail
      refine (spec_l1Below g wd _ HX.out.cur (by omega) (by omega)).mono ?_
      rintro e w4 ⟨f, rfl, hf, hk4⟩
      have HX4 := Lib.hid (HX.out.draw hk4.out)
      have HO4 := Lib.hid (oints_dr HO.out (show g < B + 1 by have := HX.out.lt; omega) hk4.out.2)
      have HS4 : Hid (B + 1 ≤ w4.heap.size) := Lib.hid HX4.out.ltB
      have d3 : w4.cell? ⟨B, 1, none⟩ = some (.slice b vs.length c) := HX4.out.cell rfl
      have hf0 := hf.out.1
      have hf1 : f ≤ 99 := by have := hf.out.2; omega
      clear HX HO hk4
      go_wp2_with (at_builtin; refine push_i rfl _ _ rfl vs f rfl rfl rfl HO4.out.1 (by have := HN.out.1; omega) HS4.out ?_; intro g7 c7 w7 hO7 hB7; have HO7 := Lib.hid hO7; have HX7 := Lib.hid (HX4.out.below (Nat.lt_succ_self _) hB7); have f7 := (HX7.out.frz 1).1; have d7 : w7.cell? ⟨B, 1, none⟩ = some (.slice b vs.length c) := HX7.out.cell rfl; clear hO7 hB7)
      go_roundw
      case rel => exact ⟨k + 1, some ⟨g7, 0, none⟩, c7, vs ++ [f], by go_num, by omega, Lib.hid ⟨by have := HN.out.1; simp; omega, fun x hx => by
        rcases List.mem_append.1 hx with h | h
        · exact HN.out.2 x h
        · rw [List.mem_singleton.1 h]; omega⟩, Lib.hid (by simpa using HX7.out.set (k := 1) (.slice (some ⟨g7, 0, none⟩) (vs.length + 1) c7) rfl), Lib.hid (oints_keep (w := w7) ⟨by simpa using HO7.out, fun x hx => by
        rcases List.mem_append.1 hx with h | h
        · exact HO4.out.2 x h
        · rw [List.mem_singleton.1 h]; unfold I64; omega⟩ fun q hq _ => Below.heap_setCell _ _ _ _ (by dsimp only; omega))⟩
      case measure => simp [intOf]; omega
    · obtain rfl : k = 3 := by omega
      have d0 : wr.cell? ⟨B, 0, none⟩ = some (.int .i64 id) := HX.out.cell rfl
      have d1 : wr.cell? ⟨B, 1, none⟩ = some (.slice b vs.length c) := HX.out.cell rfl
      have r0 : wr.cell? ⟨w.heap.size, 0, none⟩ = some (.int .i64 0) := HX.out.cellR rfl
      have r1 : wr.cell? ⟨w.heap.size, 1, none⟩ = some (.slice none 0 0) := HX.out.cellR rfl
      have f0 := (HX.out.frz 0).2
      have f1 := (HX.out.frz 1).2
      go_wp2_with fail
      refine bodyPost_ret (v := .agg #[.int .i64 id, .slice b vs.length c]) (by simp [results, Try.results45, go_sem, *]) rfl ⟨_, _, _, vs, rfl, Lib.hid ⟨rfl, HN.out⟩, Lib.hid ((oints_keep HO.out fun q hq _ => ?_).le (by have := HBW.out; omega)), Lib.hid ⟨HX.out.cur.keep fun q hq => ?_, ?_⟩⟩
      · exact two_other (by have := HBW.out; omega)
      · exact two_other (by have := HGW.out; omega)
      · exact (HX.out.dr.setHigh (Nat.le_refl _) _).setHigh (Nat.le_refl _) _
end Go.Proofs.Ytcdcpfcmhmhdjaa
