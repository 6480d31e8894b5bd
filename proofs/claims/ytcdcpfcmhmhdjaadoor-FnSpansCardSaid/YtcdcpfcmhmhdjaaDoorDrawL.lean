/- The drawing of values: queries. -/
import Derived.Test.YtcdcpfcmhmhdjaaDoorDrawQ
import Derived.Test.YtcdcpfcmhmhdjaaDoorOwnPush
import Derived.Test.YtcdcpfcmhmhdjaaDoorLawK
namespace Go.Proofs.YtcdcpfcmhmhdjaaDoor
open Go.RowKit Go.ChangeShapes Go.WideShapes Go.Deep
/-- A world without its blocks from m on. -/
def trunc (w : World) (m : Nat) : World := { w with heap := w.heap.extract 0 m }
theorem trunc_size {w : World} {m : Nat} (h : m ≤ w.heap.size) : (trunc w m).heap.size = m := by simp [trunc]; omega
theorem trunc_get {w : World} {m b : Nat} (h : b < m) (hm : m ≤ w.heap.size) : (trunc w m).heap[b]? = w.heap[b]? := by
  simp only [trunc]
  rw [Array.getElem?_extract]
  simp; omega
theorem gr_trunc {w : World} {m : Nat} (h : m ≤ w.heap.size) : Gr (trunc w m) w := ⟨rfl, rfl, rfl, by rw [trunc_size h]; exact h, fun b hb => by rw [trunc_size h] at hb; exact (trunc_get hb h).symm⟩
theorem osl_trunc {α : Type} {O : (Nat → Prop) → World → List Value → α → Prop} (hO : FramedE O) {t sz lo m : Nat} {w : World} {v : Value} {xs : List α} (h : OSl t sz O (In lo m) w v xs) (hm : m ≤ w.heap.size) : OSl t sz O (In lo (trunc w m).heap.size) (trunc w m) v xs := by
  rw [trunc_size hm]; exact h.frame hO fun b hb _ => trunc_get hb.2 hm
theorem osl_dr {α : Type} {O : (Nat → Prop) → World → List Value → α → Prop} (hO : FramedE O) {t sz lo hi g : Nat} {w w' : World} {v : Value} {xs : List α} (h : OSl t sz O (In lo hi) w v xs) (hg : g < lo) (k : Dr g w w') : OSl t sz O (In lo hi) w' v xs :=
  h.frame hO (k.agree fun b hb => by have := hb.1; omega)
theorem TwoRow.form {lo : Nat} {w : World} {u x : Value} {cs : List DCond} {os : List Int} (h : TwoRow lo w u x cs os) : ∃ a c a' c', u = .slice a cs.length c ∧ x = .slice a' os.length c' := by
  obtain ⟨F1, F2, h1, h2, _⟩ := h
  obtain ⟨a, c, e⟩ := h1.form
  obtain ⟨a', c', e'⟩ := h2.form
  exact ⟨a, c, a', c', e, e'⟩
theorem TwoRow.query {lo : Nat} {w : World} {u x : Value} {q : DQuery} (h : TwoRow lo w u x q.conds q.out) (h1 : I64 q.id) (h2 : I64 q.tenant) : PQuery (In lo w.heap.size) w [.int .i64 q.id, .int .i64 q.tenant, u, x] q := by
  obtain ⟨F1, F2, k1, k2, k3, k4⟩ := h
  exact ⟨u, x, F1, F2, rfl, h1, h2, k1, k2, k3, k4⟩
def QsTo (qs : List DQuery) (y : Int) : Prop := (∀ q ∈ qs, isQueryB q = true ∧ q.id < y) ∧ qs.Pairwise (fun a b => a.id < b.id)
theorem QsTo.nil (y : Int) : QsTo [] y := ⟨by simp, List.Pairwise.nil⟩
theorem QsTo.push {qs : List DQuery} {y z : Int} (h : QsTo qs y) {q : DQuery} (hq : isQueryB q = true) (e : q.id = y) (hz : y < z) : QsTo (qs ++ [q]) z := by
  refine ⟨fun p hp => ?_, ?_⟩
  · rcases List.mem_append.1 hp with h1 | h1
    · exact ⟨(h.1 p h1).1, by have := (h.1 p h1).2; omega⟩
    · rw [List.mem_singleton.1 h1]; exact ⟨hq, by omega⟩
  · rw [List.pairwise_append]
    exact ⟨h.2, List.pairwise_singleton _ _, fun a ha b hb => by rw [List.mem_singleton.1 hb, e]; exact (h.1 a ha).2⟩
theorem QsTo.are {qs : List DQuery} {y : Int} (h : QsTo qs y) (hl : qs.length ≤ 24) : areQueriesB qs = true := by
  unfold areQueriesB
  rw [decide_eq_true hl, allB_true, allB_true]
  · rfl
  · intro j hj
    unfold qOk
    rw [getD_lt hj]; exact (h.1 _ (List.getElem_mem hj)).1
  · intro j hj
    unfold qOrdAt
    by_cases e : j = 0
    · rw [decide_eq_true e]; rfl
    · rw [getD_lt hj, getD_lt (show j - 1 < qs.length by omega), decide_eq_true (List.pairwise_iff_getElem.1 h.2 (j - 1) j (by omega) hj (by omega)), Bool.or_true]
theorem query_ids {q : DQuery} (h : isQueryB q = true) : 0 ≤ q.tenant ∧ q.tenant ≤ 3 ∧ q.conds.length ≤ 3 ∧ q.out.length ≤ 3 := by
  unfold isQueryB fieldsB at h
  simp only [Bool.and_eq_true, decide_eq_true_eq] at h
  obtain ⟨_, _, h2, h3, _, h5⟩ := h
  have a := inB_true h2
  have b := inB_true h5
  exact ⟨a.1, a.2, h3, by omega⟩
set_option maxRecDepth 100000 in
set_option maxHeartbeats 2000000 in
theorem spec_l4Queries (g M : Nat) (w : World) (hc : Cur w g) (hM : M ≤ 6) : Calls Tryd.prog 107 #[.pointer (some ⟨g, 0, none⟩), .int .i64 M] w fun e w' => ∃ (b : Option Addr) (n c : Nat) (qs : List DQuery), e = .returned (.slice b n c) ∧ Hid (n = qs.length ∧ qs.length ≤ M ∧ areQueriesB qs = true) ∧ Hid (PQueries (In w.heap.size w'.heap.size) w' (.slice b n c) qs) ∧ Hid (Cur w' g ∧ Dr g w w') := by
  have HC := Lib.hid hc
  have hM' : (M : Int) ≤ 6 := by omega
  have hM0 : (0 : Int) ≤ (M : Int) := Int.natCast_nonneg _
  obtain ⟨W0, hW0⟩ : ∃ W0, W0 = w.alloc (.cells #[] 83) := ⟨_, rfl⟩
  have HW0 : Hid (Cur W0 g ∧ Dr g w W0 ∧ PQueries (In w.heap.size W0.heap.size) W0 (.slice (some ⟨w.heap.size, 0, none⟩) 0 0) []) := Lib.hid (by rw [hW0]; exact ⟨hc.gr ((Gr.refl w).alloc _), (Chg.refl _ _).alloc _, OSl.made w ⟨Nat.le_refl _, by simp⟩⟩)
  have HGW : Hid (g < w.heap.size) := Lib.hid hc.lt
  clear hc
  go_enter Tryd.func107, Tryd.ntmps107
  go_wp2_with fail
  rw [← hW0]
  clear hW0
  refine (spec_l1Below g 2 _ HW0.out.1 (by decide) (by decide)).mono ?_
  rintro e w1 ⟨y, rfl, hy, hk1⟩
  have HO1 := Lib.hid (osl_dr fr_query HW0.out.2.2 HGW.out hk1.out.2)
  have HD1 := Lib.hid (HW0.out.2.1.trans hk1.out.2)
  have HY := Lib.hid hy.out
  clear hy
  go_wp2_with fail
  refine (spec_l1Below g ((M : Int) + 1) _ hk1.out.1 (by omega) (by omega)).mono ?_
  rintro e w2 ⟨n, rfl, hn, hk2⟩
  obtain ⟨N, hN⟩ := Int.eq_ofNat_of_zero_le hn.out.1
  subst hN
  have HN : Hid (N ≤ M) := Lib.hid (by have := hn.out.2; omega)
  have HO2 := Lib.hid (osl_dr fr_query HO1.out HGW.out hk2.out.2)
  have HD2 := Lib.hid (HD1.out.trans hk2.out.2)
  have HS2 : Hid (W0.heap.size ≤ w2.heap.size) := Lib.hid (Nat.le_trans hk1.out.2.size hk2.out.2.size)
  have HK2 := Lib.hid hk2.out.1
  clear hn hk1 hk2 HO1 HD1
  go_wp2_with fail
  go_loopw [5, 6, 7] (fun out vy vn wr => ∃ (k c : Nat) (b : Option Addr) (y : Int) (qs : List DQuery), vn = .int .i64 k ∧ vy = .int .i64 y ∧ out = .slice b qs.length c ∧ Hid (QsTo qs y ∧ qs.length + k ≤ M ∧ 0 ≤ y ∧ y + 2 * k ≤ 13) ∧ Hid (PQueries (In w.heap.size wr.heap.size) wr (.slice b qs.length c) qs) ∧ Hid (Cur wr g ∧ Dr g w wr)) (fun _ _ vn _ => (intOf vn).toNat)
  case atStart => exact ⟨N, 0, some ⟨w.heap.size, 0, none⟩, y, [], rfl, rfl, rfl, Lib.hid ⟨QsTo.nil _, by have := HN.out; simpa using this, HY.out.1, by have := HY.out.2; have := HN.out; omega⟩, Lib.hid (HO2.out.wide (Nat.le_refl _) HS2.out), Lib.hid ⟨HK2.out, HD2.out⟩⟩
  case round =>
    obtain ⟨k, c, b, y, qs, rfl, rfl, rfl, HQ, HO, HK⟩ := hrel
    have k6 : (k : Int) ≤ 6 := by have := HQ.out.2.1; omega
    have y0 := HQ.out.2.2.1
    have y13 : y ≤ 13 := by have := HQ.out.2.2.2; omega
    by_cases hk0 : 0 < k
    · have hkz : (0 : Int) < (k : Int) := by omega
      go_wp2_with fail
      refine (spec_l4Query g y _ HK.out.1 (by omega)).mono ?_
      rintro e w3 ⟨u, x, ten, cs, os, rfl, hq, htw, hk3⟩
      obtain ⟨ua, uc, xa, xc, rfl, rfl⟩ := htw.out.form
      have HS3 : Hid (wr.heap.size ≤ w3.heap.size ∧ w.heap.size ≤ w3.heap.size) := Lib.hid ⟨hk3.out.2.size, Nat.le_trans HK.out.2.size hk3.out.2.size⟩
      have HO3 := Lib.hid (osl_trunc fr_query (osl_dr fr_query HO.out HGW.out hk3.out.2) HS3.out.1)
      have HT3 : Hid (w.heap.size ≤ (trunc w3 wr.heap.size).heap.size ∧ Gr (trunc w3 wr.heap.size) w3 ∧ (trunc w3 wr.heap.size).heap.size ≤ wr.heap.size) := Lib.hid ⟨by rw [trunc_size HS3.out.1]; exact HK.out.2.size, gr_trunc HS3.out.1, by rw [trunc_size HS3.out.1]; exact Nat.le_refl _⟩
      have HPQ : Hid (PQuery (In wr.heap.size w3.heap.size) w3 [.int .i64 y, .int .i64 ten, .slice ua cs.length uc, .slice xa os.length xc] ⟨y, ten, cs, os⟩) := Lib.hid (htw.out.query (q := ⟨y, ten, cs, os⟩) (by unfold I64; dsimp only; omega) (by have := query_ids hq.out; unfold I64; dsimp only at *; omega))
      have HD3 := Lib.hid (HK.out.2.trans hk3.out.2)
      have HK3 := Lib.hid hk3.out.1
      clear hk3 htw HO HK
      go_wp2_with (at_builtin; refine push_o (w0 := trunc w3 wr.heap.size) (wr := w3) (la := wr.heap.size) (hb := w3.heap.size) (lo := w.heap.size) 47 83 4 64 Tryd.underlying47 (z := .agg #[.int .i64 0, .int .i64 0, .slice none 0 0, .slice none 0 0]) (by kernel_rfl) rfl (by decide) (by decide) rfl _ _ rfl fr_query ⟨y, ten, cs, os⟩ [.int .i64 y, .int .i64 ten, .slice ua cs.length uc, .slice xa os.length xc] rfl rfl rfl HO3.out HT3.out.1 HT3.out.2.1 HPQ.out HT3.out.2.2 (Nat.le_refl _) rfl (by simp [Value.oneCell']) (by have := HQ.out.2.1; omega) ?_; intro g4 cap4 w4 hO4 hB4; obtain ⟨X, hX⟩ : ∃ X, X = qs ++ [⟨y, ten, cs, os⟩] := ⟨_, rfl⟩; rw [← hX] at hO4; rw [← hX]; have HX := Lib.hid hX; have HO4 := Lib.hid hO4; have HC4 := Lib.hid (HK3.out.below HGW.out hB4); have HD4 := Lib.hid (HD3.out.belowT hB4 (Nat.le_refl _)); clear hO4 hB4 hX)
      refine (spec_l1Below g 2 _ HC4.out (by decide) (by decide)).mono ?_
      rintro e w5 ⟨d, rfl, hd, hk5⟩
      have HO5 := Lib.hid ((osl_dr fr_query HO4.out HGW.out hk5.out.2).wide (Nat.le_refl _) hk5.out.2.size)
      have d0 := hd.out.1
      have d1 := hd.out.2
      go_wp2_with fail
      go_roundw
      case rel => exact ⟨k - 1, cap4, some ⟨g4, 0, none⟩, y + 1 + d, X, by go_num, rfl, rfl, Lib.hid ⟨by rw [HX.out]; exact HQ.out.1.push hq.out rfl (by omega), by rw [HX.out]; have := HQ.out.2.1; simp; omega, by omega, by have := HQ.out.2.2.2; omega⟩, HO5, Lib.hid ⟨hk5.out.1, HD4.out.trans hk5.out.2⟩⟩
      case measure => simp [intOf]; omega
    · have hkz : ¬ (0 : Int) < (k : Int) := by omega
      go_wp2_with fail
      go_ret
      exact ⟨_, _, _, rfl, qs, Lib.hid ⟨rfl, by have := HQ.out.2.1; omega, HQ.out.1.are (by have := HQ.out.2.1; omega)⟩, HO, HK⟩
end Go.Proofs.YtcdcpfcmhmhdjaaDoor
