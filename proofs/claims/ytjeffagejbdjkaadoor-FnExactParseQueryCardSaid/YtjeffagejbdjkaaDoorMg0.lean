/- FormatSpans: the program's walk. -/
import Derived.Test.YtjeffagejbdjkaaDoorSpanF
import Derived.Test.YtjeffagejbdjkaaDoorExt
import Derived.Test.YtjeffagejbdjkaaDoorSc
import Derived.Test.YtjeffagejbdjkaaDoorGenSpan
import Derived.Test.YtjeffagejbdjkaaDoorLawJ
import Derived.Test.YtjeffagejbdjkaaDoorQryP
namespace Go.Proofs.YtjeffagejbdjkaaDoor
open Go.RowKit
theorem cell_kept {w w' : World} {o : Option Nat} {X i : Nat} {val : Value} (hk : ∀ k, k < w.heap.size → o ≠ some k → w'.heap[k]? = w.heap[k]?) (hne : o ≠ some X) (hc : w.cell? ⟨X, i, none⟩ = some val) : w'.cell? ⟨X, i, none⟩ = some val := by
  rw [World.cell?_of_block (w := w) (hk X (World.block_lt_of_cell? w _ hc) hne)]; exact hc
set_option maxRecDepth 100000 in
set_option maxHeartbeats 2000000 in
theorem impl_FormatSpans (v : Value) (xs : List DSpan) (w : World) (hv : RSpans w v xs) (hb : totL totSpan xs ≤ 1048576) (hT : Tens Tryd.prog w) :
    Calls Tryd.prog 26 #[v] w fun e w' => e = .returned (.string ⟨(spansText xs).toArray⟩) ∧ Gr w w' := by
  obtain ⟨a, cap, rfl, hl, hm, hx⟩ := hv
  have HB : Hid (∀ k (h : k < xs.length), xs[k].set.length ≤ 1048576) := Lib.hid fun k h => by
    have := sumT_mem totSpan xs k h; unfold totL at hb; have e : totSpan xs[k] = xs[k].set.length := rfl; omega
  have HBL : Hid (xs.length ≤ 1048576) := Lib.hid (by unfold totL at hb; omega)
  have HTen := Lib.hid hT
  have HX := Lib.hid hx
  clear hx hb hT
  have hown0 := own_empty w 9 1 w.heap.size (Nat.le_refl _)
  have g0 : Gr w (w.alloc (.cells #[] 9)) := (Gr.refl w).alloc _
  go_enter Tryd.func26, Tryd.ntmps26
  go_wp2_with fail
  go_loopw [3, 9] (fun sv iv wr => ∃ (k : Nat) (sa : Option Addr) (sc : Nat), k ≤ xs.length ∧ iv = .int .i64 k ∧ sv = .slice sa k sc ∧ wr.ownsRow w.heap.size 9 1 sv (((xs.take k).map spanWord).map bsOf).length ((((xs.take k).map spanWord).map bsOf).map Value.string) ∧ Hid (∃ S, PSt xs k S) ∧ Gr w wr) (fun _ i _ => xs.length - (intOf i).toNat)
  case atStart => exact ⟨0, _, _, Nat.zero_le _, rfl, rfl, by simpa using hown0, Lib.hid ⟨_, PSt.zero xs⟩, g0⟩
  case round =>
    obtain ⟨k, sa, sc, hk, rfl, rfl, hown, hst, hgr⟩ := hrel
    by_cases hlt : k < xs.length
    · have hx := HX.out
      obtain ⟨b, off, cs, rfl, hlen, ⟨u_set, rfl, i_lo, i_hi, h_set⟩, hc⟩ := hx k hlt
      have c0 := hgr.cellv (hc 0 (by simp))
      have c1 := hgr.cellv (hc 1 (by simp))
      have c2 := hgr.cellv (hc 2 (by simp))
      simp only [Nat.add_zero, List.getElem_cons_zero, List.getElem_cons_succ] at c0 c1 c2
      clear hc hlen
      clear hx
      obtain ⟨ua, un, uc, rfl⟩ := RSlice.isSl h_set
      obtain ⟨s, hs⟩ : ∃ s, s = xs[k] := ⟨_, rfl⟩
      rw [← hs] at c0 c1 i_lo i_hi h_set
      have HSL : Hid (s.set.length ≤ 1048576) := Lib.hid (by rw [hs]; exact HB.out k hlt)
      have HS := Lib.hid hs
      have HL := Lib.hid hlt
      have ILO := Lib.hid i_lo
      have IHI := Lib.hid i_hi
      have HSET0 := Lib.hid h_set
      have gb : Gr w (wr.alloc (.cells #[.int .i64 s.lo, .int .i64 s.hi, .slice ua un uc] 74)) := hgr.alloc _
      have p0 : (0 : Int) ≤ (k : Int) := Int.natCast_nonneg _
      have p1 : (k : Int) < (xs.length : Int) := by omega
      clear hs h_set i_lo i_hi hk
      cases hset : isSetB s.set with
      | false =>
        have HF := Lib.hid (spansText_bad HL.out (HS.out ▸ spanOk_no1 hset))
        have HC := Lib.hid hset
        clear hset
        go_wp2_with fail
        refine (impl_IsSet_of HC.out _ _ (RSlice.mono keeps_int gb HSET0.out)).mono ?_
        rintro e w1 ⟨rfl, g1⟩
        go_wp2_with fail
        go_ret
        exact ⟨ret_str (by rw [HF.out]), gb.trans g1⟩
      | true =>
        have HC := Lib.hid hset
        by_cases h1 : s.lo < 0
        · have HF := Lib.hid (spansText_bad HL.out (HS.out ▸ spanOk_no2 (inB_no (by omega))))
          clear hset
          go_wp2_with fail
          refine (impl_IsSet_of HC.out _ _ (RSlice.mono keeps_int gb HSET0.out)).mono ?_
          rintro e w1 ⟨rfl, g1⟩
          have b0 : w1.cell? ⟨wr.heap.size, 0, none⟩ = some (.int .i64 s.lo) := g1.cellv (by simp [go_sem])
          go_wp2_with fail
          go_ret
          exact ⟨ret_str (by rw [HF.out]), gb.trans g1⟩
        · by_cases h2 : s.hi < s.lo
          · have HF := Lib.hid (spansText_bad HL.out (HS.out ▸ spanOk_no2 (inB_no (by omega))))
            clear hset
            go_wp2_with fail
            refine (impl_IsSet_of HC.out _ _ (RSlice.mono keeps_int gb HSET0.out)).mono ?_
            rintro e w1 ⟨rfl, g1⟩
            have b0 : w1.cell? ⟨wr.heap.size, 0, none⟩ = some (.int .i64 s.lo) := g1.cellv (by simp [go_sem])
            have b1 : w1.cell? ⟨wr.heap.size, 1, none⟩ = some (.int .i64 s.hi) := g1.cellv (by simp [go_sem])
            go_wp2_with fail
            go_ret
            exact ⟨ret_str (by rw [HF.out]), gb.trans g1⟩
          · have hin : inB s.lo 0 s.hi = true := inB_mk (by omega) (by omega)
            by_cases h99 : s.hi ≤ 99
            · have HK := Lib.hid (HS.out ▸ spanOk_yes hset hin h99 : spanOk xs[k] = true)
              have hn99 : ¬ 99 < s.hi := by omega
              obtain ⟨T, HT, hTl⟩ : ∃ T : List UInt8, Hid (setText s.set = T) ∧ Hid (T.length ≤ 1204) := ⟨setText s.set, Lib.hid rfl, Lib.hid setText_len⟩
              have n1 := itoa_len ILO.out
              have n2 := itoa_len IHI.out
              have n4 := hTl.out
              have m2 : ¬ 9223372036854775807 < (Lib.itoa s.lo).length + 2 := by omega
              have m3 : ¬ 9223372036854775807 < (Lib.itoa s.lo).length + 2 + (Lib.itoa s.hi).length := by omega
              have m4 : ¬ 9223372036854775807 < (Lib.itoa s.lo).length + 2 + (Lib.itoa s.hi).length + 1 := by omega
              have m5 : ¬ 9223372036854775807 < (Lib.itoa s.lo).length + 2 + (Lib.itoa s.hi).length + 1 + T.length := by omega
              have HW : Hid (spanWord s = Lib.itoa s.lo ++ [46, 46] ++ Lib.itoa s.hi ++ [32] ++ T) := Lib.hid (by unfold spanWord; rw [HT.out])
              obtain ⟨bs, HBS⟩ : ∃ bs, Hid (bs = ((xs.take k).map spanWord).map bsOf) := ⟨_, Lib.hid rfl⟩
              have hbl : bs.length = k := by rw [HBS.out]; simp; omega
              rw [← HBS.out] at hown
              have HN : Hid (bs.length + 1 ≤ 8796093022208) := Lib.hid (by rw [hbl]; have := HBL.out; omega)
              have HBN := Lib.hid hbl
              have HNE : Hid ((Value.slice sa k sc).ownBlock ≠ some wr.heap.size) := Lib.hid fun e => by have := (hown.lt _ e).2; omega
              have HO := Lib.hid hown
              have hE : Hid ((((xs.take (k + 1)).map spanWord).map bsOf) = bs ++ [bsOf (Lib.itoa s.lo ++ [46, 46] ++ Lib.itoa s.hi ++ [32] ++ T)]) := Lib.hid (by
                rw [List.take_succ_eq_append_getElem HL.out, List.map_append, List.map_append, HBS.out, ← HW.out, HS.out]; rfl)
              have hst2 : Hid (∃ S, PSt xs (k + 1) S) := Lib.hid (by
                obtain ⟨S, hS⟩ := hst.out
                by_cases h0 : k = 0
                · subst h0; exact ⟨_, hS.first HL.out HK.out (HS.out ▸ ILO.out) (HS.out ▸ IHI.out)⟩
                · exact ⟨_, hS.next HL.out h0 HK.out (HS.out ▸ ILO.out) (HS.out ▸ IHI.out)⟩)
              clear n1 n2 n4 hset hin h99 hbl hown
              go_wp2_with fail
              refine (impl_IsSet_of HC.out _ _ (RSlice.mono keeps_int gb HSET0.out)).mono ?_
              rintro e w1 ⟨rfl, g1⟩
              have b0 : w1.cell? ⟨wr.heap.size, 0, none⟩ = some (.int .i64 s.lo) := g1.cellv (by simp [go_sem])
              have b1 : w1.cell? ⟨wr.heap.size, 1, none⟩ = some (.int .i64 s.hi) := g1.cellv (by simp [go_sem])
              have b2 : w1.cell? ⟨wr.heap.size, 2, none⟩ = some (.slice ua un uc) := g1.cellv (by simp [go_sem])
              have G1 : Gr w w1 := gb.trans g1
              have HO1 := Lib.hid (ownsRow_gr HO.out ((Gr.refl wr).alloc (.cells #[.int .i64 s.lo, .int .i64 s.hi, .slice ua un uc] 74) |>.trans g1))
              clear gb g1 c0 c1 c2 hgr
              go_wp2
              (go_region_held3 (fun w' => w'.cell? ⟨wr.heap.size, 0, none⟩ = some (.int .i64 s.lo) ∧ w'.cell? ⟨wr.heap.size, 1, none⟩ = some (.int .i64 s.hi) ∧ w'.cell? ⟨wr.heap.size, 2, none⟩ = some (.slice ua un uc) ∧ Gr w w')
                (first | exact ⟨b0, b1, b2, G1⟩ | exact ⟨b0, b1, b2, G1.drew⟩ | (go_split_ands; exact ⟨Gr.cellv gc (by assumption), Gr.cellv gc (by assumption), Gr.cellv gc (by assumption), Gr.trans (by assumption) gc⟩) | (go_split_ands; exact ⟨Gr.cellv gb (by assumption), Gr.cellv gb (by assumption), Gr.cellv gb (by assumption), Gr.trans (by assumption) gb⟩) | (go_split_ands; exact ⟨Gr.cellv ga (by assumption), Gr.cellv ga (by assumption), Gr.cellv ga (by assumption), Gr.trans (by assumption) ga⟩) | (go_split_ands; exact ⟨cell_kept hk4 HNE.out (Gr.cellv ((Gr.refl w1).drew.trans (ga.trans (gb.trans gc))) b0), cell_kept hk4 HNE.out (Gr.cellv ((Gr.refl w1).drew.trans (ga.trans (gb.trans gc))) b1), cell_kept hk4 HNE.out (Gr.cellv ((Gr.refl w1).drew.trans (ga.trans (gb.trans gc))) b2), (G1.trans ((Gr.refl w1).drew.trans (ga.trans (gb.trans gc)))).trans' hb4⟩) | (go_split_ands; exact ⟨Gr.cellv (Gr.alloc (Gr.refl _) _) (by assumption), Gr.cellv (Gr.alloc (Gr.refl _) _) (by assumption), Gr.cellv (Gr.alloc (Gr.refl _) _) (by assumption), Gr.alloc (by assumption) _⟩) | (go_split_ands; exact ⟨Gr.cellv (Gr.alloc (Gr.refl _) _).drew (by assumption), Gr.cellv (Gr.alloc (Gr.refl _) _).drew (by assumption), Gr.cellv (Gr.alloc (Gr.refl _) _).drew (by assumption), (Gr.alloc (by assumption) _).drew⟩))
                (first | (go_at_call 13; go_split_ands; with_reducible refine (impl_FormatInt s.lo _ ILO.out (tab_gr HTen.out (by assumption))).mono ?_; rintro e wa ⟨rfl, ga⟩) | (go_at_call 13; go_split_ands; with_reducible refine (impl_FormatInt s.hi _ IHI.out (tab_gr HTen.out (by assumption))).mono ?_; rintro e wb ⟨rfl, gb⟩) | (go_at_call 16; go_split_ands; refine (calls_str (impl_FormatSet _ s.set _ (tab_gr HTen.out (by assumption)) (RSlice.mono keeps_int (by assumption) HSET0.out) HSL.out) HT.out).mono ?_; rintro e wc ⟨rfl, gc⟩) | (refine step_push_s (wr := wc) rfl _ _ rfl bs [_] (by simp) rfl rfl (by first | exact Or.inl rfl | exact Or.inr rfl) (ownsRow_gr HO1.out ((Gr.refl w1).drew.trans (ga.trans (gb.trans gc)))) HN.out (G1.trans ((Gr.refl w1).drew.trans (ga.trans (gb.trans gc)))).size ?_; intro g4 cap4 w4 hown4 hb4 hk4)))
              have h5 := hown4
              rw [cat5 (Lib.itoa s.lo) [46, 46] (Lib.itoa s.hi) [32] T] at h5
              have HG := Lib.hid ((G1.trans ((Gr.refl w1).drew.trans (ga.trans (gb.trans gc)))).trans' hb4)
              clear hown4 hk4 hb4 ga gb gc b0 b1 b2
              go_wp2
              go_roundw
              case rel => exact ⟨k + 1, some ⟨g4, 0, none⟩, cap4, HL.out, rfl, by rw [HBN.out], by rw [hE.out]; exact own_len h5, hst2, HG.out⟩
              case measure => have := HL.out; simp only [intOf]; omega
            · have HF := Lib.hid (spansText_bad HL.out (HS.out ▸ spanOk_no3 h99))
              have h98 : 99 < s.hi := by omega
              clear hset hin h99
              go_wp2_with fail
              refine (impl_IsSet_of HC.out _ _ (RSlice.mono keeps_int gb HSET0.out)).mono ?_
              rintro e w1 ⟨rfl, g1⟩
              have b0 : w1.cell? ⟨wr.heap.size, 0, none⟩ = some (.int .i64 s.lo) := g1.cellv (by simp [go_sem])
              have b1 : w1.cell? ⟨wr.heap.size, 1, none⟩ = some (.int .i64 s.hi) := g1.cellv (by simp [go_sem])
              go_wp2_with fail
              go_ret
              exact ⟨ret_str (by rw [HF.out]), gb.trans g1⟩
    · obtain rfl : k = xs.length := by omega
      by_cases hn : xs = []
      · subst hn
        go_wp2_with fail
        go_ret
        exact ⟨ret_str rfl, hgr⟩
      · have hlen : xs.length ≠ 0 := fun e => hn (List.eq_nil_of_length_eq_zero e)
        have hb0 : ((xs.length : Int) == 0) = false := by simp; exact hn
        obtain ⟨S, hS⟩ := hst.out
        have HE := Lib.hid (hS.all hn)
        rw [List.take_length] at hown
        have HO := Lib.hid hown
        have HJ : Hid ((Lib.join (xs.map spanWord) [59, 32]).length ≤ 140737488355328) := Lib.hid (by
          have h1 := hS.1; have h2 := hS.2.1
          rw [List.take_length] at h1
          rw [← h1]; have := HBL.out; omega)
        have HE2 : Hid (Lib.join (xs.map spanWord) [59, 32] = spansText xs) := Lib.hid (by
          have h1 := hS.1
          rw [List.take_length] at h1
          rw [← h1]; exact HE.out)
        clear hn hlt hk hown hlen
        go_wp2_with fail
        refine (join_any (ws := xs.map spanWord) HO.out [59, 32] (by have := HBL.out; simp; omega) HJ.out).mono ?_
        rintro e w2 ⟨rfl, g2⟩
        go_wp2_with fail
        go_ret
        exact ⟨ret_str (by rw [HE2.out]), hgr.trans g2⟩
end Go.Proofs.YtjeffagejbdjkaaDoor

/- AreQueries: the walks. -/
namespace Go.Proofs.YtjeffagejbdjkaaDoor
open Go.RowKit
def qOk (xs : List DQuery) (j : Nat) : Bool := isQueryB (xs.getD j ⟨0, 0, [], []⟩)
def qOrdAt (xs : List DQuery) (j : Nat) : Bool := decide (j = 0) || decide ((xs.getD (j - 1) ⟨0, 0, [], []⟩).id < (xs.getD j ⟨0, 0, [], []⟩).id)
def areQueriesB (xs : List DQuery) : Bool := allB xs.length (qOrdAt xs) && (decide (xs.length ≤ 24) && allB xs.length (qOk xs))
theorem qOk_eq {xs : List DQuery} {k : Nat} (h : k < xs.length) : qOk xs k = isQueryB xs[k] := by unfold qOk; rw [getD_lt h]
theorem qOrd_zero {xs : List DQuery} {k : Nat} (h : k = 0) : qOrdAt xs k = true := by simp [qOrdAt, h]
theorem qOrd_yes {xs : List DQuery} {k : Nat} (h : k < xs.length) (h1 : k - 1 < xs.length) (h2 : xs[k-1].id < xs[k].id) : qOrdAt xs k = true := by
  unfold qOrdAt; rw [getD_lt h, getD_lt h1]; simp [h2]
theorem qOrd_no {xs : List DQuery} {k : Nat} (h : k < xs.length) (h1 : k - 1 < xs.length) (h0 : 0 < k) (h2 : xs[k].id ≤ xs[k-1].id) : qOrdAt xs k = false := by
  unfold qOrdAt; rw [getD_lt h, getD_lt h1]; simp; omega
theorem areQueriesB_ord {xs : List DQuery} {k : Nat} (h : k < xs.length) (h1 : qOrdAt xs k = false) : areQueriesB xs = false := by
  unfold areQueriesB; rw [allB_false k h h1]; rfl
theorem areQueriesB_row {xs : List DQuery} {k : Nat} (h : k < xs.length) (h1 : isQueryB xs[k] = false) : areQueriesB xs = false := by
  unfold areQueriesB; rw [allB_false (p := qOk xs) k h (by rw [qOk_eq h]; exact h1)]; simp
theorem areQueriesB_end {xs : List DQuery} (h : ∀ j, j < xs.length → (qOrdAt xs j = true ∧ qOk xs j = true)) : areQueriesB xs = decide (xs.length ≤ 24) := by
  unfold areQueriesB; rw [allB_true (fun j hj => (h j hj).1), allB_true (fun j hj => (h j hj).2)]; simp
theorem spec_IsQuery_of {x : DQuery} {b : Bool} (h : isQueryB x = b) (u u' : Value) (w : World) (hu : RConds w u x.conds) (hu' : RInts w u' x.out) : Calls Tryd.prog 61 #[.agg #[.int .i64 x.id, .int .i64 x.tenant, u, u']] w fun e w' => e = .returned (.bool b) ∧ Gr w w' := h ▸ spec_IsQuery x u u' w hu hu'
theorem impl_IsQuery_of {x : DQuery} {b : Bool} (h : isQueryB x = b) (u u' : Value) (w : World) (hu : RConds w u x.conds) (hu' : RInts w u' x.out) : Calls Tryd.prog 63 #[.agg #[.int .i64 x.id, .int .i64 x.tenant, u, u']] w fun e w' => e = .returned (.bool b) ∧ Gr w w' := h ▸ impl_IsQuery x u u' w hu hu'
-- gen FnExactAreQueries AreQueries QueryS
-- endgen
end Go.Proofs.YtjeffagejbdjkaaDoor

/- FormatQuery: the walks. -/
namespace Go.Proofs.YtjeffagejbdjkaaDoor
open Go.RowKit
set_option maxRecDepth 100000 in
set_option maxHeartbeats 2000000 in
theorem spec_FormatQuery (x : DQuery) (u u' : Value) (w : World) (hu : RConds w u x.conds) (hu' : RInts w u' x.out) (hb : totQuery x ≤ 1048576) (hi : I64 x.id ∧ I64 x.tenant) :
    Calls Tryd.prog 29 #[.agg #[.int .i64 x.id, .int .i64 x.tenant, u, u']] w fun e w' => e = .returned (.string ⟨(queryText x).toArray⟩) ∧ Gr w w' := by
  have HU := Lib.hid hu
  have HO := Lib.hid hu'
  have HI := Lib.hid hi.1
  have HT := Lib.hid hi.2
  have HBO : Hid (x.out.length ≤ 1048576) := Lib.hid (by unfold totQuery at hb; omega)
  have HBC : Hid (x.conds.length ≤ 1048576) := Lib.hid (by unfold totQuery at hb; omega)
  have HN : Hid ((numsText x.out).length ≤ 22 * x.out.length) := Lib.hid (numsText_len (fun i h => by obtain ⟨a, c, _, _, _, hx⟩ := hu'.open; obtain ⟨_, _, _, _, h⟩ := hx i h; exact h))
  have HC64 : Hid (∀ i (h : i < x.conds.length), I64 x.conds[i].field ∧ I64 x.conds[i].low ∧ I64 x.conds[i].high) := Lib.hid (fun i h => by
    obtain ⟨_, _, _, _, _, hx⟩ := hu
    obtain ⟨_, _, _, _, _, ⟨_, h1, h2, h3⟩, _⟩ := hx i h
    exact ⟨h1, h2, h3⟩)
  obtain ⟨ua, uc, rfl, hl, hm, hx⟩ := hu
  obtain ⟨oa, on, oc, rfl⟩ := hu'.isSl
  have g0 : Gr w (w.alloc (.cells #[.int .i64 x.id, .int .i64 x.tenant, .slice ua x.conds.length uc, .slice oa on oc] 51)) := (Gr.refl w).alloc _
  have HX := Lib.hid hx
  clear hi hb hu' hx
  cases h1 : isQueryB x with
  | false =>
    have H1 := Lib.hid h1
    have HR := Lib.hid (queryText_no h1)
    clear h1
    go_enter Tryd.func29, Tryd.ntmps29
    go_wp2_with fail
    refine (spec_IsQuery_of H1.out _ _ _ (RSlice.mono keeps_cond g0 HU.out) (RSlice.mono keeps_int g0 HO.out)).mono ?_
    rintro e w1 ⟨rfl, g1⟩
    go_wp2_with fail
    go_ret
    exact ⟨ret_str (by rw [HR.out]), g0.trans g1⟩
  | true =>
    have H1 := Lib.hid h1
    have HR := Lib.hid (queryText_yes h1)
    clear h1
    go_enter Tryd.func29, Tryd.ntmps29
    go_wp2_with fail
    refine (spec_IsQuery_of H1.out _ _ _ (RSlice.mono keeps_cond g0 HU.out) (RSlice.mono keeps_int g0 HO.out)).mono ?_
    rintro e w1 ⟨rfl, g1⟩
    have b0 : w1.cell? ⟨w.heap.size, 0, none⟩ = some (.int .i64 x.id) := g1.cellv (by simp [go_sem])
    have b1 : w1.cell? ⟨w.heap.size, 1, none⟩ = some (.int .i64 x.tenant) := g1.cellv (by simp [go_sem])
    have b2 : w1.cell? ⟨w.heap.size, 2, none⟩ = some (.slice ua x.conds.length uc) := g1.cellv (by simp [go_sem])
    have b3 : w1.cell? ⟨w.heap.size, 3, none⟩ = some (.slice oa on oc) := g1.cellv (by simp [go_sem])
    have n1 := itoa_len HI.out
    have n2 := itoa_len HT.out
    have l1 : ¬ 9223372036854775807 < 1 + (Lib.itoa x.id).length := by omega
    have l2 : ¬ 9223372036854775807 < 1 + (Lib.itoa x.id).length + 2 := by omega
    have l3 : ¬ 9223372036854775807 < 1 + (Lib.itoa x.id).length + 2 + (Lib.itoa x.tenant).length := by omega
    have HHL : Hid ((headText x).length ≤ 45) := Lib.hid (by unfold headText; simp only [List.length_append, List.length_cons, List.length_nil]; omega)
    clear n1 n2
    have G1 := Lib.hid (g0.trans g1)
    clear g0 g1
    go_wp2_with fail
    have q0 := fun q : Ext w1 => Ext.cell b0 q
    have q1 := fun q : Ext w1 => Ext.cell b1 q
    refine wp_region_ext (by kernel_rfl) (by kernel_rfl) ?_
    repeat (go_big_quiet_step ((go_at_call 12; first | with_reducible exact quiet_ext (spec_FormatInt x.id _ HI.out) | with_reducible exact quiet_ext (spec_FormatInt x.tenant _ HT.out))))
    refine wpQuiet_nil ?_
    intro w2 hw2
    have g2 := Ext.out hw2
    clear hw2 q0 q1 l1 l2 l3
    have d2 := g2.cellv b2
    have d3 := g2.cellv b3
    have G2 := Lib.hid (G1.out.trans g2)
    clear b0 b1 b2 b3 g2
    go_wp2_with fail
    go_loopw [3, 4] (fun sv iv wr => ∃ (k : Nat) (S : List UInt8), k ≤ x.conds.length ∧ iv = .int .i64 k ∧ sv = .string ⟨S.toArray⟩ ∧ Hid (S = headText x ++ condsText (x.conds.take k)) ∧ Gr w2 wr) (fun _ i _ => x.conds.length - (intOf i).toNat)
    case atStart => exact ⟨0, _, Nat.zero_le _, rfl, congrArg Value.string (cat4 [113] _ [32, 116] _), Lib.hid (by unfold headText condsText; simp), Gr.refl _⟩
    case round =>
      obtain ⟨k, S, hk, rfl, rfl, hst, hg⟩ := hrel
      have hgr := Lib.hid (G2.out.trans hg)
      have e2 := hg.cellv d2
      have e3 := hg.cellv d3
      have n5 : S.length ≤ 45 + 68 * k := by
        have h1 := condsText_len HC64.out k hk
        have h2 := HHL.out
        rw [hst.out, List.length_append]; omega
      by_cases hlt : k < x.conds.length
      · obtain ⟨b, off, cs, rfl, hlen, ⟨rfl, i_field, i_low, i_high⟩, hc⟩ := HX.out k hlt
        have c0 := hgr.out.cellv (hc 0 (by simp))
        have c1 := hgr.out.cellv (hc 1 (by simp))
        have c2 := hgr.out.cellv (hc 2 (by simp))
        simp only [Nat.add_zero, List.getElem_cons_zero, List.getElem_cons_succ] at c0 c1 c2
        obtain ⟨s, hs⟩ : ∃ s, s = x.conds[k] := ⟨_, rfl⟩
        rw [← hs] at c0 c1 c2 i_field i_low i_high
        have I1 := Lib.hid i_field
        have I2 := Lib.hid i_low
        have I3 := Lib.hid i_high
        have HS := Lib.hid hs
        have HL := Lib.hid hlt
        have n1 := itoa_len I1.out
        have n2 := itoa_len I2.out
        have n3 := itoa_len I3.out
        have n6 : S.length ≤ 71303213 := by have := HBC.out; omega
        have m1 : ¬ 9223372036854775807 < S.length + 2 := by omega
        have m2 : ¬ 9223372036854775807 < S.length + 2 + (Lib.itoa s.field).length := by omega
        have m3 : ¬ 9223372036854775807 < S.length + 2 + (Lib.itoa s.field).length + 1 := by omega
        have m4 : ¬ 9223372036854775807 < S.length + 2 + (Lib.itoa s.field).length + 1 + (Lib.itoa s.low).length := by omega
        have m5 : ¬ 9223372036854775807 < S.length + 2 + (Lib.itoa s.field).length + 1 + (Lib.itoa s.low).length + 2 := by omega
        have m6 : ¬ 9223372036854775807 < S.length + 2 + (Lib.itoa s.field).length + 1 + (Lib.itoa s.low).length + 2 + (Lib.itoa s.high).length := by omega
        have p0 : (0 : Int) ≤ (k : Int) := Int.natCast_nonneg _
        have p1 : (k : Int) < (x.conds.length : Int) := by omega
        have hnx : Hid (S ++ ([32, 102] ++ Lib.itoa s.field ++ [32] ++ Lib.itoa s.low ++ [46, 46] ++ Lib.itoa s.high) = headText x ++ condsText (x.conds.take (k + 1))) := Lib.hid (by
          rw [condsText_snoc hlt, hst.out, hs]; unfold condWord; simp)
        clear hs i_field i_low i_high n1 n2 n3 n5 n6 hc hlen hk
        go_wp2_with fail
        have q2 := fun q : Ext wr => Ext.cell e2 q
        have r0 := fun q : Ext wr => Ext.cell c0 q
        have r1 := fun q : Ext wr => Ext.cell c1 q
        have r2 := fun q : Ext wr => Ext.cell c2 q
        refine wp_region_ext (by kernel_rfl) (by kernel_rfl) ?_
        repeat (go_big_quiet_step ((go_at_call 12; first | with_reducible exact quiet_ext (spec_FormatInt s.field _ I1.out) | with_reducible exact quiet_ext (spec_FormatInt s.low _ I2.out) | with_reducible exact quiet_ext (spec_FormatInt s.high _ I3.out))))
        refine wpQuiet_nil ?_
        intro w3 hw3
        have g3 := Ext.out hw3
        clear hw3 q2 r0 r1 r2
        go_wp2_with fail
        go_roundw
        case rel => exact ⟨k + 1, _, HL.out, rfl, congrArg Value.string (cat7 S [32, 102] _ [32] _ [46, 46] _), Lib.hid (by have h := hnx.out; simpa using h), hg.trans g3⟩
        case measure => have := HL.out; simp only [intOf]; omega
      · obtain rfl : k = x.conds.length := by omega
        have n6 : S.length ≤ 71303213 := by have := HBC.out; omega
        have n7 : (numsText x.out).length ≤ 23068672 := by have := HN.out; have := HBO.out; omega
        have m1 : ¬ 9223372036854775807 < S.length + 5 := by omega
        have m2 : ¬ 9223372036854775807 < S.length + 5 + (numsText x.out).length := by omega
        have HE : Hid (queryText x = S ++ [32, 111, 117, 116, 32] ++ numsText x.out) := Lib.hid (by rw [HR.out, hst.out, List.take_length])
        clear n5 n6 n7 hlt hk
        go_wp2_with fail
        refine (spec_l3List _ x.out _ (RSlice.mono keeps_int hgr.out HO.out) HBO.out).mono ?_
        rintro e w3 ⟨rfl, g3⟩
        go_wp2_with fail
        go_ret
        exact ⟨ret_str (by rw [HE.out]; exact cat3 S [32, 111, 117, 116, 32] _), hgr.out.trans g3⟩
end Go.Proofs.YtjeffagejbdjkaaDoor

/- FormatQuery: the program's walk. -/
namespace Go.Proofs.YtjeffagejbdjkaaDoor
open Go.RowKit
theorem own_len2 {lo t : Nat} {v : Value} {w : World} {bs : List ByteArray} {a b : ByteArray} (h : w.ownsRow lo t 1 v (bs.length + 2) ((bs ++ [a, b]).map Value.string)) : w.ownsRow lo t 1 v (bs ++ [a, b]).length ((bs ++ [a, b]).map Value.string) := by
  rw [List.length_append]; exact h
set_option maxRecDepth 100000 in
set_option maxHeartbeats 3000000 in
theorem impl_FormatQuery (x : DQuery) (u u' : Value) (w : World) (hu : RConds w u x.conds) (hu' : RInts w u' x.out) (hb : totQuery x ≤ 1048576) (hi : I64 x.id ∧ I64 x.tenant) (hT : Tens Tryd.prog w) :
    Calls Tryd.prog 31 #[.agg #[.int .i64 x.id, .int .i64 x.tenant, u, u']] w fun e w' => e = .returned (.string ⟨(queryText x).toArray⟩) ∧ Gr w w' := by
  have HTen := Lib.hid hT
  have HU := Lib.hid hu
  have HO := Lib.hid hu'
  have HI := Lib.hid hi.1
  have HT := Lib.hid hi.2
  have HBO : Hid (x.out.length ≤ 1048576) := Lib.hid (by unfold totQuery at hb; omega)
  have HBC : Hid (x.conds.length ≤ 1048576) := Lib.hid (by unfold totQuery at hb; omega)
  have HN : Hid ((numsText x.out).length ≤ 22 * x.out.length) := Lib.hid (numsText_len (fun i h => by obtain ⟨a, c, _, _, _, hx⟩ := hu'.open; obtain ⟨_, _, _, _, h⟩ := hx i h; exact h))
  have HC64 : Hid (∀ i (h : i < x.conds.length), I64 x.conds[i].field ∧ I64 x.conds[i].low ∧ I64 x.conds[i].high) := Lib.hid (fun i h => by
    obtain ⟨_, _, _, _, _, hx⟩ := hu
    obtain ⟨_, _, _, _, _, ⟨_, h1, h2, h3⟩, _⟩ := hx i h
    exact ⟨h1, h2, h3⟩)
  obtain ⟨ua, uc, rfl, hl, hm, hx⟩ := hu
  obtain ⟨oa, on, oc, rfl⟩ := hu'.isSl
  have g0 : Gr w (w.alloc (.cells #[.int .i64 x.id, .int .i64 x.tenant, .slice ua x.conds.length uc, .slice oa on oc] 51)) := (Gr.refl w).alloc _
  have HX := Lib.hid hx
  clear hi hb hu' hx hT
  cases h1 : isQueryB x with
  | false =>
    have H1 := Lib.hid h1
    have HR := Lib.hid (queryText_no h1)
    clear h1
    go_enter Tryd.func31, Tryd.ntmps31
    go_wp2_with fail
    refine (impl_IsQuery_of H1.out _ _ _ (RSlice.mono keeps_cond g0 HU.out) (RSlice.mono keeps_int g0 HO.out)).mono ?_
    rintro e w1 ⟨rfl, g1⟩
    go_wp2_with fail
    go_ret
    exact ⟨ret_str (by rw [HR.out]), g0.trans g1⟩
  | true =>
    have H1 := Lib.hid h1
    have HR := Lib.hid ((queryText_yes h1).trans (queryWords_join x).symm)
    clear h1
    go_enter Tryd.func31, Tryd.ntmps31
    go_wp2_with fail
    refine (impl_IsQuery_of H1.out _ _ _ (RSlice.mono keeps_cond g0 HU.out) (RSlice.mono keeps_int g0 HO.out)).mono ?_
    rintro e w1 ⟨rfl, g1⟩
    have b0 : w1.cell? ⟨w.heap.size, 0, none⟩ = some (.int .i64 x.id) := g1.cellv (by simp [go_sem])
    have b1 : w1.cell? ⟨w.heap.size, 1, none⟩ = some (.int .i64 x.tenant) := g1.cellv (by simp [go_sem])
    have b2 : w1.cell? ⟨w.heap.size, 2, none⟩ = some (.slice ua x.conds.length uc) := g1.cellv (by simp [go_sem])
    have b3 : w1.cell? ⟨w.heap.size, 3, none⟩ = some (.slice oa on oc) := g1.cellv (by simp [go_sem])
    have hB1 : w.heap.size + 1 ≤ w1.heap.size := by have := g1.size; simpa using this
    have n1 := itoa_len HI.out
    have n2 := itoa_len HT.out
    have l1 : ¬ 9223372036854775807 < 1 + (Lib.itoa x.id).length := by omega
    have l3 : ¬ 9223372036854775807 < 1 + (Lib.itoa x.tenant).length := by omega
    have HHL : Hid ((headText x).length ≤ 45) := Lib.hid (by unfold headText; simp only [List.length_append, List.length_cons, List.length_nil]; omega)
    clear n1 n2
    have G1 : Gr w w1 := g0.trans g1
    clear g0 g1
    go_wp2
    (go_region_held3 (fun w' => w'.cell? ⟨w.heap.size, 0, none⟩ = some (.int .i64 x.id) ∧ w'.cell? ⟨w.heap.size, 1, none⟩ = some (.int .i64 x.tenant) ∧ Gr w w')
      (first | exact ⟨b0, b1, G1⟩ | exact ⟨b0, b1, G1.drew⟩ | (go_split_ands; exact ⟨Gr.cellv gb (by assumption), Gr.cellv gb (by assumption), Gr.trans (by assumption) gb⟩) | (go_split_ands; exact ⟨Gr.cellv ga (by assumption), Gr.cellv ga (by assumption), Gr.trans (by assumption) ga⟩) | (go_split_ands; exact ⟨Gr.cellv (Gr.alloc (Gr.refl _) _) (by assumption), Gr.cellv (Gr.alloc (Gr.refl _) _) (by assumption), Gr.alloc (by assumption) _⟩) | (go_split_ands; exact ⟨Gr.cellv (Gr.alloc (Gr.refl _) _).drew (by assumption), Gr.cellv (Gr.alloc (Gr.refl _) _).drew (by assumption), (Gr.alloc (by assumption) _).drew⟩))
      (first | (go_at_call 13; go_split_ands; with_reducible refine (impl_FormatInt x.id _ HI.out (tab_gr HTen.out (by assumption))).mono ?_; rintro e wa ⟨rfl, ga⟩) | (go_at_call 13; go_split_ands; with_reducible refine (impl_FormatInt x.tenant _ HT.out (tab_gr HTen.out (by assumption))).mono ?_; rintro e wb ⟨rfl, gb⟩)))
    generalize hA : (⟨#[113]⟩ ++ ⟨(Lib.itoa x.id).toArray⟩ : ByteArray) = A
    generalize hB : (⟨#[116]⟩ ++ ⟨(Lib.itoa x.tenant).toArray⟩ : ByteArray) = B
    have hown0 : (wb.alloc (.cells #[.string A, .string B] 9)).ownsRow (w.heap.size + 1) 9 1 (.slice (some ⟨wb.heap.size, 0, none⟩) 2 2) 2 ([A, B].map Value.string) := own_made wb [A, B] (w.heap.size + 1) (Nat.le_trans hB1 (((Gr.refl w1).drew.trans (ga.trans gb)).size)) (by simp)
    have G2 : Gr w (wb.alloc (.cells #[.string A, .string B] 9)) := (G1.trans ((Gr.refl w1).drew.trans (ga.trans gb))).alloc _
    have d2 : (wb.alloc (.cells #[.string A, .string B] 9)).cell? ⟨w.heap.size, 2, none⟩ = some (.slice ua x.conds.length uc) := (((Gr.refl w1).drew.trans (ga.trans gb)).alloc _).cellv b2
    have d3 : (wb.alloc (.cells #[.string A, .string B] 9)).cell? ⟨w.heap.size, 3, none⟩ = some (.slice oa on oc) := (((Gr.refl w1).drew.trans (ga.trans gb)).alloc _).cellv b3
    generalize hW2 : wb.alloc (.cells #[.string A, .string B] 9) = W2 at hown0 G2 d2 d3 ⊢
    have HWB := Lib.hid hB1
    obtain ⟨WB, HWBe⟩ : ∃ n, Hid (n = wb.heap.size) := ⟨_, Lib.hid rfl⟩
    rw [← HWBe.out] at hown0 ⊢
    have HOW0 : Hid (W2.ownsRow (w.heap.size + 1) 9 1 (.slice (some ⟨WB, 0, none⟩) 2 2) (([[113] ++ Lib.itoa x.id, [116] ++ Lib.itoa x.tenant] ++ condWords (x.conds.take 0)).map bsOf).length ((([[113] ++ Lib.itoa x.id, [116] ++ Lib.itoa x.tenant] ++ condWords (x.conds.take 0)).map bsOf).map Value.string)) := Lib.hid (by
      rw [← hA, ← hB, cat2 [113] (Lib.itoa x.id), cat2 [116] (Lib.itoa x.tenant)] at hown0
      exact hown0)
    clear hA hB
    clear hown0 hW2 ga gb b0 b1 b2 b3 G1 l1 l3
    go_wp2_with fail
    go_loopw [3, 21] (fun sv iv wr => ∃ (k : Nat) (sa : Option Addr) (sc : Nat), k ≤ x.conds.length ∧ iv = .int .i64 k ∧ sv = .slice sa (2 + 2 * k) sc ∧ Hid (wr.ownsRow (w.heap.size + 1) 9 1 sv (([[113] ++ Lib.itoa x.id, [116] ++ Lib.itoa x.tenant] ++ condWords (x.conds.take k)).map bsOf).length ((([[113] ++ Lib.itoa x.id, [116] ++ Lib.itoa x.tenant] ++ condWords (x.conds.take k)).map bsOf).map Value.string)) ∧ wr.cell? ⟨w.heap.size, 2, none⟩ = some (.slice ua x.conds.length uc) ∧ wr.cell? ⟨w.heap.size, 3, none⟩ = some (.slice oa on oc) ∧ Gr w wr) (fun _ i _ => x.conds.length - (intOf i).toNat)
    case atStart => exact ⟨0, _, _, Nat.zero_le _, rfl, rfl, HOW0, d2, d3, G2⟩
    case round =>
      obtain ⟨k, sa, sc, hk, rfl, rfl, hown, e2, e3, hgr⟩ := hrel
      by_cases hlt : k < x.conds.length
      · obtain ⟨b, off, cs, rfl, hlen, ⟨rfl, i_field, i_low, i_high⟩, hc⟩ := HX.out k hlt
        have c0 := hgr.cellv (hc 0 (by simp))
        have c1 := hgr.cellv (hc 1 (by simp))
        have c2 := hgr.cellv (hc 2 (by simp))
        simp only [Nat.add_zero, List.getElem_cons_zero, List.getElem_cons_succ] at c0 c1 c2
        obtain ⟨s, hs⟩ : ∃ s, s = x.conds[k] := ⟨_, rfl⟩
        rw [← hs] at c0 c1 c2 i_field i_low i_high
        have I1 := Lib.hid i_field
        have I2 := Lib.hid i_low
        have I3 := Lib.hid i_high
        have HS := Lib.hid hs
        have HL := Lib.hid hlt
        have n1 := itoa_len I1.out
        have n2 := itoa_len I2.out
        have n3 := itoa_len I3.out
        have m1 : ¬ 9223372036854775807 < 1 + (Lib.itoa s.field).length := by omega
        have m2 : ¬ 9223372036854775807 < (Lib.itoa s.low).length + 2 := by omega
        have m3 : ¬ 9223372036854775807 < (Lib.itoa s.low).length + 2 + (Lib.itoa s.high).length := by omega
        have p0 : (0 : Int) ≤ (k : Int) := Int.natCast_nonneg _
        have p1 : (k : Int) < (x.conds.length : Int) := by omega
        obtain ⟨bs, HBS⟩ : ∃ bs, Hid (bs = (([[113] ++ Lib.itoa x.id, [116] ++ Lib.itoa x.tenant] ++ condWords (x.conds.take k)).map bsOf)) := ⟨_, Lib.hid rfl⟩
        have HBL : Hid (bs.length = 2 + 2 * k) := Lib.hid (by rw [HBS.out, List.length_map, List.length_append, condWords_len, List.length_take, Nat.min_eq_left hk]; rfl)
        have HOW : Hid (wr.ownsRow (w.heap.size + 1) 9 1 (.slice sa (2 + 2 * k) sc) bs.length (bs.map Value.string)) := Lib.hid (by rw [HBS.out]; exact hown.out)
        have HNN : Hid (bs.length + 2 ≤ 8796093022208) := Lib.hid (by rw [HBL.out]; have := HBC.out; omega)
        have HNE : Hid ((Value.slice sa (2 + 2 * k) sc).ownBlock ≠ some wr.heap.size) := Lib.hid fun e => by have := (hown.out.lt _ e).2; omega
        have hE : Hid ((([[113] ++ Lib.itoa x.id, [116] ++ Lib.itoa x.tenant] ++ condWords (x.conds.take (k + 1))).map bsOf) = bs ++ [bsOf ([102] ++ Lib.itoa s.field), bsOf (Lib.itoa s.low ++ [46, 46] ++ Lib.itoa s.high)]) := Lib.hid (by
          rw [condWords_snoc hlt, ← hs, HBS.out, ← List.append_assoc, List.map_append]; rfl)
        have HB1 : Hid (w.heap.size + 1 ≤ wr.heap.size) := Lib.hid (World.block_lt_of_cell? wr _ e2)
        have gbx : Gr wr (wr.alloc (.cells #[.int .i64 s.field, .int .i64 s.low, .int .i64 s.high] 81)) := (Gr.refl wr).alloc _
        clear hs i_field i_low i_high n1 n2 n3 hc hlen hk hown
        go_wp2
        have b0 : (wr.alloc (.cells #[.int .i64 s.field, .int .i64 s.low, .int .i64 s.high] 81)).cell? ⟨wr.heap.size, 0, none⟩ = some (.int .i64 s.field) := by simp [go_sem]
        have b1 : (wr.alloc (.cells #[.int .i64 s.field, .int .i64 s.low, .int .i64 s.high] 81)).cell? ⟨wr.heap.size, 1, none⟩ = some (.int .i64 s.low) := by simp [go_sem]
        have b2 : (wr.alloc (.cells #[.int .i64 s.field, .int .i64 s.low, .int .i64 s.high] 81)).cell? ⟨wr.heap.size, 2, none⟩ = some (.int .i64 s.high) := by simp [go_sem]
        have G1 : Gr w (wr.alloc (.cells #[.int .i64 s.field, .int .i64 s.low, .int .i64 s.high] 81)) := hgr.alloc _
        have HO1 := Lib.hid (ownsRow_gr HOW.out gbx)
        have f2 := gbx.cellv e2
        have f3 := gbx.cellv e3
        generalize hW1 : wr.alloc (.cells #[.int .i64 s.field, .int .i64 s.low, .int .i64 s.high] 81) = W1 at b0 b1 b2 G1 HO1 f2 f3 gbx ⊢
        have HB2 : Hid (w.heap.size + 1 ≤ W1.heap.size) := Lib.hid (Nat.le_trans HB1.out gbx.size)
        (go_region_held3 (fun w' => w'.cell? ⟨wr.heap.size, 0, none⟩ = some (.int .i64 s.field) ∧ w'.cell? ⟨wr.heap.size, 1, none⟩ = some (.int .i64 s.low) ∧ w'.cell? ⟨wr.heap.size, 2, none⟩ = some (.int .i64 s.high) ∧ Gr w w')
          (first | exact ⟨b0, b1, b2, G1⟩ | exact ⟨b0, b1, b2, G1.drew⟩ | (go_split_ands; exact ⟨Gr.cellv gc (by assumption), Gr.cellv gc (by assumption), Gr.cellv gc (by assumption), Gr.trans (by assumption) gc⟩) | (go_split_ands; exact ⟨Gr.cellv gb (by assumption), Gr.cellv gb (by assumption), Gr.cellv gb (by assumption), Gr.trans (by assumption) gb⟩) | (go_split_ands; exact ⟨Gr.cellv ga (by assumption), Gr.cellv ga (by assumption), Gr.cellv ga (by assumption), Gr.trans (by assumption) ga⟩) | (go_split_ands; exact ⟨cell_kept hk4 HNE.out (Gr.cellv ((Gr.refl W1).drew.trans (ga.trans (gb.trans gc))) b0), cell_kept hk4 HNE.out (Gr.cellv ((Gr.refl W1).drew.trans (ga.trans (gb.trans gc))) b1), cell_kept hk4 HNE.out (Gr.cellv ((Gr.refl W1).drew.trans (ga.trans (gb.trans gc))) b2), (G1.trans ((Gr.refl W1).drew.trans (ga.trans (gb.trans gc)))).trans' (Below.mono hb4 (Nat.le_succ _))⟩) | (go_split_ands; exact ⟨Gr.cellv (Gr.alloc (Gr.refl _) _) (by assumption), Gr.cellv (Gr.alloc (Gr.refl _) _) (by assumption), Gr.cellv (Gr.alloc (Gr.refl _) _) (by assumption), Gr.alloc (by assumption) _⟩) | (go_split_ands; exact ⟨Gr.cellv (Gr.alloc (Gr.refl _) _).drew (by assumption), Gr.cellv (Gr.alloc (Gr.refl _) _).drew (by assumption), Gr.cellv (Gr.alloc (Gr.refl _) _).drew (by assumption), (Gr.alloc (by assumption) _).drew⟩))
          (first | (go_at_call 13; go_split_ands; with_reducible refine (impl_FormatInt s.field _ I1.out (tab_gr HTen.out (by assumption))).mono ?_; rintro e wa ⟨rfl, ga⟩) | (go_at_call 13; go_split_ands; with_reducible refine (impl_FormatInt s.low _ I2.out (tab_gr HTen.out (by assumption))).mono ?_; rintro e wb ⟨rfl, gb⟩) | (go_at_call 13; go_split_ands; with_reducible refine (impl_FormatInt s.high _ I3.out (tab_gr HTen.out (by assumption))).mono ?_; rintro e wc ⟨rfl, gc⟩) | (refine step_push_s (wr := wc) rfl _ _ rfl bs [_, _] (by simp) rfl rfl (by first | exact Or.inl rfl | exact Or.inr rfl) (ownsRow_gr HO1.out ((Gr.refl W1).drew.trans (ga.trans (gb.trans gc)))) HNN.out (Nat.le_trans HB2.out ((Gr.refl W1).drew.trans (ga.trans (gb.trans gc))).size) ?_; intro g4 cap4 w4 hown4 hb4 hk4)))
        have h5 := hown4
        rw [cat2 [102] (Lib.itoa s.field), cat3 (Lib.itoa s.low) [46, 46] (Lib.itoa s.high)] at h5
        have HGW := Lib.hid ((G1.trans ((Gr.refl W1).drew.trans (ga.trans (gb.trans gc)))).trans' (Below.mono hb4 (Nat.le_succ _)))
        have k2 : w4.cell? ⟨w.heap.size, 2, none⟩ = some (.slice (some ⟨b, off, none⟩) x.conds.length uc) := (Below.cell hb4 (Nat.lt_succ_self _)).trans (Gr.cellv ((Gr.refl W1).drew.trans (ga.trans (gb.trans gc))) f2)
        have k3 : w4.cell? ⟨w.heap.size, 3, none⟩ = some (.slice oa on oc) := (Below.cell hb4 (Nat.lt_succ_self _)).trans (Gr.cellv ((Gr.refl W1).drew.trans (ga.trans (gb.trans gc))) f3)
        clear hown4 hk4 hb4 ga gb gc b0 b1 b2 f2 f3 hW1
        go_wp2
        go_roundw
        case rel => exact ⟨k + 1, some ⟨g4, 0, none⟩, cap4, HL.out, rfl, by rw [show bs.length + 2 = 2 + 2 * (k + 1) from by have := HBL.out; omega], Lib.hid (by rw [hE.out]; exact own_len2 h5), k2, k3, HGW.out⟩
        case measure => have := HL.out; simp only [intOf]; omega
      · obtain rfl : k = x.conds.length := by omega
        obtain ⟨bs, HBS⟩ : ∃ bs, Hid (bs = (([[113] ++ Lib.itoa x.id, [116] ++ Lib.itoa x.tenant] ++ condWords x.conds).map bsOf)) := ⟨_, Lib.hid rfl⟩
        have HBL : Hid (bs.length = 2 + 2 * x.conds.length) := Lib.hid (by rw [HBS.out, List.length_map, List.length_append, condWords_len]; rfl)
        have HOW : Hid (wr.ownsRow (w.heap.size + 1) 9 1 (.slice sa (2 + 2 * x.conds.length) sc) bs.length (bs.map Value.string)) := Lib.hid (by have h := hown.out; rw [List.take_length] at h; rw [HBS.out]; exact h)
        have HNN : Hid (bs.length + 2 ≤ 8796093022208) := Lib.hid (by rw [HBL.out]; have := HBC.out; omega)
        have HB1 : Hid (w.heap.size + 1 ≤ wr.heap.size) := Lib.hid (World.block_lt_of_cell? wr _ e2)
        have HE : Hid ((queryWords x).map bsOf = bs ++ [bsOf [111, 117, 116], bsOf (numsText x.out)]) := Lib.hid (by unfold queryWords; rw [HBS.out, List.map_append]; rfl)
        have HQL : Hid ((queryWords x).length ≤ 140737488355328) := Lib.hid (by have h := congrArg List.length HE.out; rw [List.length_map, List.length_append, HBL.out] at h; have := HBC.out; simp at h; omega)
        have HJ : Hid ((Lib.join (queryWords x) [32]).length ≤ 140737488355328) := Lib.hid (by
          rw [queryWords_join]
          have h1 := condsText_len HC64.out x.conds.length (Nat.le_refl _)
          rw [List.take_length] at h1
          have h2 := HHL.out; have h3 := HN.out; have h4 := HBO.out; have h5 := HBC.out
          simp only [List.length_append, List.length_cons, List.length_nil]
          omega)
        clear hown hlt hk
        go_wp2_with fail
        refine (impl_numbersText _ x.out _ (tab_gr HTen.out hgr) (RSlice.mono keeps_int hgr HO.out) HBO.out).mono ?_
        rintro e w3 ⟨rfl, g3⟩
        have HO3 := Lib.hid (ownsRow_gr HOW.out g3)
        go_wp2_with (at_builtin; refine push_s2 rfl _ _ rfl bs [_, _] (by simp) rfl rfl rfl HO3.out HNN.out (Nat.le_trans HB1.out g3.size) ?_; intro g4 cap4 w4 hown4 hb4)
        have HGW := Lib.hid ((hgr.trans g3).trans' (Below.mono hb4 (Nat.le_succ _)))
        have h6 : w4.ownsRow (w.heap.size + 1) 9 1 (.slice (some ⟨g4, 0, none⟩) (bs.length + 2) cap4) ((queryWords x).map bsOf).length (((queryWords x).map bsOf).map Value.string) := by rw [HE.out]; exact own_len2 hown4
        refine (join_any (ws := queryWords x) h6 [32] HQL.out HJ.out).mono ?_
        rintro e w5 ⟨rfl, g5⟩
        go_wp2_with fail
        go_ret
        exact ⟨ret_str (by rw [HR.out]), HGW.out.trans g5⟩
end Go.Proofs.YtjeffagejbdjkaaDoor
