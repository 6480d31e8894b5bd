/- The drawing of values: lists of queries, a field. -/
import Derived.Test.YtcdcpfcmhmhdjaaDoorDrawA
namespace Go.Proofs.YtcdcpfcmhmhdjaaDoor
open Go.RowKit Go.ChangeShapes Go.WideShapes Go.Deep
theorem tot_query_le {q : DQuery} (h : isQueryB q = true) : totQuery q ≤ 8 := by have := query_ids h; unfold totQuery; omega
theorem are_tot {qs : List DQuery} (h : areQueriesB qs = true) : ∀ q ∈ qs, totQuery q ≤ 8 := by
  intro q hq
  unfold areQueriesB at h
  simp only [Bool.and_eq_true] at h
  obtain ⟨i, hi, rfl⟩ := List.getElem_of_mem hq
  have := allB_iff.1 h.2.2 i hi
  unfold qOk at this
  rw [getD_lt hi] at this
  exact tot_query_le this
set_option maxRecDepth 100000 in
set_option maxHeartbeats 2000000 in
theorem spec_l4AnyQueries (g : Nat) (w : World) (hc : Cur w g) : Calls Tryd.prog 87 #[.pointer (some ⟨g, 0, none⟩)] w fun e w' => ∃ (b : Option Addr) (n c : Nat) (qs : List DQuery), e = .returned (.slice b n c) ∧ Hid (n = qs.length ∧ qs.length ≤ 6 ∧ ∀ q ∈ qs, totQuery q ≤ 8) ∧ Hid (PQueries (In w.heap.size w'.heap.size) w' (.slice b n c) qs) ∧ Hid (Cur w' g ∧ Dr g w w') := by
  have HC := Lib.hid hc
  have HGW : Hid (g < w.heap.size) := Lib.hid hc.lt
  clear hc
  go_enter Tryd.func87, Tryd.ntmps87
  go_wp2_with fail
  refine (spec_l4Queries g 5 _ HC.out (by decide)).mono ?_
  rintro e w1 ⟨b, n, c, qs, rfl, hl, ho, hk1⟩
  obtain rfl := hl.out.1
  have HL : Hid (qs.length ≤ 5 ∧ ∀ q ∈ qs, totQuery q ≤ 8) := Lib.hid ⟨hl.out.2.1, are_tot hl.out.2.2⟩
  clear hl
  go_wp2_with fail
  refine (spec_l1Once g 8 _ hk1.out.1 (by decide) (by decide)).mono ?_
  rintro e w2 ⟨t, rfl, hk2⟩
  have HO2 := Lib.hid ((osl_dr fr_query ho.out HGW.out hk2.out.2).wide (Nat.le_refl _) hk2.out.2.size)
  have HD2 := Lib.hid (hk1.out.2.trans hk2.out.2)
  have HK2 := Lib.hid hk2.out.1
  clear ho hk1 hk2
  cases t with
  | false =>
    go_wp2_with fail
    go_ret
    exact ⟨_, _, _, qs, rfl, Lib.hid ⟨rfl, by have := HL.out.1; omega, HL.out.2⟩, HO2, Lib.hid ⟨HK2.out, HD2.out⟩⟩
  | true =>
    go_wp2_with fail
    refine (spec_l4Any g _ HK2.out).mono ?_
    rintro e w3 ⟨u, x, id, ten, cs, os, rfl, hi, htw, hk3⟩
    obtain ⟨ua, uc, xa, xc, rfl, rfl⟩ := htw.out.form
    have HS3 : Hid (w2.heap.size ≤ w3.heap.size ∧ w.heap.size ≤ w3.heap.size) := Lib.hid ⟨hk3.out.2.size, Nat.le_trans HD2.out.size hk3.out.2.size⟩
    have HO3 := Lib.hid (osl_trunc fr_query (osl_dr fr_query HO2.out HGW.out hk3.out.2) HS3.out.1)
    have HT3 : Hid (w.heap.size ≤ (trunc w3 w2.heap.size).heap.size ∧ Gr (trunc w3 w2.heap.size) w3 ∧ (trunc w3 w2.heap.size).heap.size ≤ w2.heap.size) := Lib.hid ⟨by rw [trunc_size HS3.out.1]; exact HD2.out.size, gr_trunc HS3.out.1, by rw [trunc_size HS3.out.1]; exact Nat.le_refl _⟩
    have HPQ : Hid (PQuery (In w2.heap.size w3.heap.size) w3 [.int .i64 id, .int .i64 ten, .slice ua cs.length uc, .slice xa os.length xc] ⟨id, ten, cs, os⟩) := Lib.hid (htw.out.query (q := ⟨id, ten, cs, os⟩) hi.out.1 hi.out.2.1)
    have HD3 := Lib.hid (HD2.out.trans hk3.out.2)
    have HK3 := Lib.hid hk3.out.1
    clear hk3 htw HO2
    go_wp2_with (at_builtin; refine push_o (w0 := trunc w3 w2.heap.size) (wr := w3) (la := w2.heap.size) (hb := w3.heap.size) (lo := w.heap.size) 47 83 4 64 Tryd.underlying47 (z := .agg #[.int .i64 0, .int .i64 0, .slice none 0 0, .slice none 0 0]) (by kernel_rfl) rfl (by decide) (by decide) rfl _ _ rfl fr_query ⟨id, ten, cs, os⟩ [.int .i64 id, .int .i64 ten, .slice ua cs.length uc, .slice xa os.length xc] rfl rfl rfl HO3.out HT3.out.1 HT3.out.2.1 HPQ.out HT3.out.2.2 (Nat.le_refl _) rfl (by simp [Value.oneCell']) (by have := HL.out.1; omega) ?_; intro g4 cap4 w4 hO4 hB4; obtain ⟨X, hX⟩ : ∃ X, X = qs ++ [⟨id, ten, cs, os⟩] := ⟨_, rfl⟩; rw [← hX] at hO4; rw [← hX]; have HX := Lib.hid hX; have HO4 := Lib.hid hO4; have HC4 := Lib.hid (HK3.out.below HGW.out hB4); have HD4 := Lib.hid (HD3.out.belowT hB4 (Nat.le_refl _)); clear hO4 hB4 hX)
    go_ret
    exact ⟨_, _, _, X, rfl, Lib.hid ⟨rfl, by rw [HX.out]; have := HL.out.1; simp; omega, fun q hq => by
      rw [HX.out] at hq
      rcases List.mem_append.1 hq with h | h
      · exact HL.out.2 q h
      · rw [List.mem_singleton.1 h]; have := hi.out.2.2; unfold totQuery; dsimp only; omega⟩, HO4, Lib.hid ⟨HC4.out, HD4.out⟩⟩
def fieldPicks : List Int := [-1, 3]
theorem fieldPicks_i64 : ∀ x ∈ fieldPicks, I64 x := by intro x hx; simp only [fieldPicks, List.mem_cons, List.not_mem_nil, or_false] at hx; unfold I64; omega
set_option maxRecDepth 100000 in
set_option maxHeartbeats 2000000 in
theorem spec_l5Draw (v : Value) (bs : List Int) (w : World) (hv : RBytes w v bs) : Calls Tryd.prog 65 #[v] w fun e w' => ∃ (g : Nat) (b : Option Addr) (n c : Nat) (qs : List DQuery) (f : Int), e = .returned (.tuple #[.pointer (some ⟨g, 0, none⟩), .slice b n c, .int .i64 f]) ∧ Hid (n = qs.length ∧ qs.length ≤ 6 ∧ (∀ q ∈ qs, totQuery q ≤ 8) ∧ -1 ≤ f ∧ f ≤ 3) ∧ Hid (RQueries w' (.slice b n c) qs) ∧ Hid (Gr w w') := by
  have HV := Lib.hid hv
  clear hv
  go_enter Tryd.func65, Tryd.ntmps65
  go_wp2_with fail
  refine (spec_l1New v bs _ HV.out).mono ?_
  rintro e w1 ⟨g, rfl, hg⟩
  go_wp2_with fail
  refine (spec_l4AnyQueries g _ hg.out.2.1).mono ?_
  rintro e w2 ⟨b, n, c, qs, rfl, hl, ho, hk2⟩
  go_wp2_with fail
  refine (spec_l1Below g 3 _ hk2.out.1 (by decide) (by decide)).mono ?_
  rintro e w3 ⟨f, rfl, hf, hk3⟩
  have HO3 := Lib.hid (osl_dr fr_query ho.out hg.out.2.1.lt hk3.out.2)
  go_wp2_with fail
  refine (spec_l1Once g 10 _ hk3.out.1 (by decide) (by decide)).mono ?_
  rintro e w4 ⟨t, rfl, hk4⟩
  have HO4 := Lib.hid (osl_dr fr_query HO3.out hg.out.2.1.lt hk4.out.2)
  have HD4 := Lib.hid ((hk2.out.2.trans hk3.out.2).trans hk4.out.2)
  have HGG : Hid (∀ wx, Dr g w1 wx → Gr w wx) := Lib.hid fun wx k => hg.out.2.2.trans' (k.below (fun b hb => by rw [hb]; exact hg.out.1) hg.out.2.2.size)
  cases t with
  | false =>
    go_wp2_with fail
    refine bodyPost_ret (v := .tuple #[.pointer (some ⟨g, 0, none⟩), .slice b n c, .int .i64 f]) (by simp [results, Tryd.results65, go_sem, *]) rfl ⟨_, _, _, _, qs, f, rfl, Lib.hid ⟨hl.out.1, hl.out.2.1, hl.out.2.2, by have := hf.out; omega, by have := hf.out; omega⟩, Lib.hid (rd_pqueries HO4.out), Lib.hid (HGG.out _ HD4.out)⟩
  | true =>
    have HK : Hid (Cur (w4.alloc (.cells (fieldPicks.map (Value.int .i64)).toArray 3)) g) := Lib.hid (hk4.out.1.gr ((Gr.refl _).alloc _))
    have HVV : Hid (∀ w', Dr g (w4.alloc (.cells (fieldPicks.map (Value.int .i64)).toArray 3)) w' → RInts w' (.slice (some ⟨w4.heap.size, 0, none⟩) 2 2) fieldPicks) := Lib.hid fun w' k => lit_ints hk4.out.1.lt fieldPicks fieldPicks_i64 (by decide) k
    go_wp2_with fail
    refine (spec_l1PickInt g _ fieldPicks _ HK.out HVV.out (by decide)).mono ?_
    rintro e w5 ⟨p, rfl, hp, hk5⟩
    have HO5 := Lib.hid (osl_dr fr_query (HO4.out.gr fr_query ((Gr.refl _).alloc (.cells (fieldPicks.map (Value.int .i64)).toArray 3))) hg.out.2.1.lt hk5.out.2)
    have HP : Hid (-1 ≤ p ∧ p ≤ 3) := Lib.hid (by have h := hp.out; simp only [fieldPicks, List.mem_cons, List.not_mem_nil, or_false] at h; omega)
    go_wp2_with fail
    refine bodyPost_ret (v := .tuple #[.pointer (some ⟨g, 0, none⟩), .slice b n c, .int .i64 p]) (by simp [results, Tryd.results65, go_sem, *]) rfl ⟨_, _, _, _, qs, p, rfl, Lib.hid ⟨hl.out.1, hl.out.2.1, hl.out.2.2, HP.out⟩, Lib.hid (rd_pqueries HO5.out), Lib.hid (HGG.out _ ((HD4.out.alloc (.cells (fieldPicks.map (Value.int .i64)).toArray 3)).trans hk5.out.2))⟩
set_option maxRecDepth 100000 in
theorem spec_DrawStabIndex (v : Value) (bs : List Int) (w : World) (hv : RBytes w v bs) : Calls Tryd.prog 35 #[v] w fun e w' => ∃ (b : Option Addr) (n c : Nat) (qs : List DQuery) (f : Int), e = .returned (.tuple #[.slice b n c, .int .i64 f]) ∧ Hid (n = qs.length ∧ qs.length ≤ 6 ∧ (∀ q ∈ qs, totQuery q ≤ 8) ∧ -1 ≤ f ∧ f ≤ 3) ∧ Hid (RQueries w' (.slice b n c) qs) ∧ Hid (Gr w w') := by
  have HV := Lib.hid hv
  clear hv
  go_enter Tryd.func35, Tryd.ntmps35
  go_wp2_with fail
  refine (spec_l5Draw v bs _ HV.out).mono ?_
  rintro e w1 ⟨g, b, n, c, qs, f, rfl, h1, h2, h3⟩
  go_wp2_with fail
  go_ret2
  exact ⟨_, _, _, qs, f, rfl, h1, h2, h3⟩
end Go.Proofs.YtcdcpfcmhmhdjaaDoor
