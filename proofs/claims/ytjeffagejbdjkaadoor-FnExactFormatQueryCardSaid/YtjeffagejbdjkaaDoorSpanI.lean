/- FormatSpans: the program's walk. -/
import Derived.Test.YtjeffagejbdjkaaDoorSpanF
import Derived.Test.YtjeffagejbdjkaaDoorExt
import Derived.Test.YtjeffagejbdjkaaDoorSc
import Derived.Test.YtjeffagejbdjkaaDoorGenSpan
namespace Go.Proofs.YtjeffagejbdjkaaDoor
open Go.RowKit
theorem cell_kept {w w' : World} {o : Option Nat} {X i : Nat} {val : Value} (hk : ∀ k, k < w.heap.size → o ≠ some k → w'.heap[k]? = w.heap[k]?) (hne : o ≠ some X) (hc : w.cell? ⟨X, i, none⟩ = some val) : w'.cell? ⟨X, i, none⟩ = some val := by
  rw [World.cell?_of_block (w := w) (hk X (World.block_lt_of_cell? w _ hc) hne)]; exact hc
set_option maxRecDepth 100000 in
set_option maxHeartbeats 2000000 in
theorem impl_FormatSpans (v : Value) (xs : List DSpan) (w : World) (hv : RSpans w v xs) (hb : totL totSpan xs ≤ 1048576) (hT : Tens Tryd.prog w) :
    Calls Tryd.prog 26 #[v] w fun e w' => e = .returned (.string ⟨(spansText xs).toArray⟩) ∧ Gr w w' := by
  obtain ⟨a, cap, rfl, hl, hm, hx⟩ := hv
  have HB : Hid (∀ k (h : k < xs.length), xs[k].set.length ≤ 1048576) := Lib.hid fun k h => by
    have := sumT_mem totSpan xs k h; unfold totL at hb; have e : totSpan xs[k] = xs[k].set.length := rfl; omega
  have HBL : Hid (xs.length ≤ 1048576) := Lib.hid (by unfold totL at hb; omega)
  have HTen := Lib.hid hT
  have HX := Lib.hid hx
  clear hx hb hT
  have hown0 := own_empty w 9 1 w.heap.size (Nat.le_refl _)
  have g0 : Gr w (w.alloc (.cells #[] 9)) := (Gr.refl w).alloc _
  go_enter Tryd.func26, Tryd.ntmps26
  go_wp2_with fail
  go_loopw [3, 9] (fun sv iv wr => ∃ (k : Nat) (sa : Option Addr) (sc : Nat), k ≤ xs.length ∧ iv = .int .i64 k ∧ sv = .slice sa k sc ∧ wr.ownsRow w.heap.size 9 1 sv (((xs.take k).map spanWord).map bsOf).length ((((xs.take k).map spanWord).map bsOf).map Value.string) ∧ Hid (∃ S, PSt xs k S) ∧ Gr w wr) (fun _ i _ => xs.length - (intOf i).toNat)
  case atStart => exact ⟨0, _, _, Nat.zero_le _, rfl, rfl, by simpa using hown0, Lib.hid ⟨_, PSt.zero xs⟩, g0⟩
  case round =>
    obtain ⟨k, sa, sc, hk, rfl, rfl, hown, hst, hgr⟩ := hrel
    by_cases hlt : k < xs.length
    · have hx := HX.out
      obtain ⟨b, off, cs, rfl, hlen, ⟨u_set, rfl, i_lo, i_hi, h_set⟩, hc⟩ := hx k hlt
      have c0 := hgr.cellv (hc 0 (by simp))
      have c1 := hgr.cellv (hc 1 (by simp))
      have c2 := hgr.cellv (hc 2 (by simp))
      simp only [Nat.add_zero, List.getElem_cons_zero, List.getElem_cons_succ] at c0 c1 c2
      clear hc hlen
      clear hx
      obtain ⟨ua, un, uc, rfl⟩ := RSlice.isSl h_set
      obtain ⟨s, hs⟩ : ∃ s, s = xs[k] := ⟨_, rfl⟩
      rw [← hs] at c0 c1 i_lo i_hi h_set
      have HSL : Hid (s.set.length ≤ 1048576) := Lib.hid (by rw [hs]; exact HB.out k hlt)
      have HS := Lib.hid hs
      have HL := Lib.hid hlt
      have ILO := Lib.hid i_lo
      have IHI := Lib.hid i_hi
      have HSET0 := Lib.hid h_set
      have gb : Gr w (wr.alloc (.cells #[.int .i64 s.lo, .int .i64 s.hi, .slice ua un uc] 74)) := hgr.alloc _
      have p0 : (0 : Int) ≤ (k : Int) := Int.natCast_nonneg _
      have p1 : (k : Int) < (xs.length : Int) := by omega
      clear hs h_set i_lo i_hi hk
      cases hset : isSetB s.set with
      | false =>
        have HF := Lib.hid (spansText_bad HL.out (HS.out ▸ spanOk_no1 hset))
        have HC := Lib.hid hset
        clear hset
        go_wp2_with fail
        refine (impl_IsSet_of HC.out _ _ (RSlice.mono keeps_int gb HSET0.out)).mono ?_
        rintro e w1 ⟨rfl, g1⟩
        go_wp2_with fail
        go_ret
        exact ⟨ret_str (by rw [HF.out]), gb.trans g1⟩
      | true =>
        have HC := Lib.hid hset
        by_cases h1 : s.lo < 0
        · have HF := Lib.hid (spansText_bad HL.out (HS.out ▸ spanOk_no2 (inB_no (by omega))))
          clear hset
          go_wp2_with fail
          refine (impl_IsSet_of HC.out _ _ (RSlice.mono keeps_int gb HSET0.out)).mono ?_
          rintro e w1 ⟨rfl, g1⟩
          have b0 : w1.cell? ⟨wr.heap.size, 0, none⟩ = some (.int .i64 s.lo) := g1.cellv (by simp [go_sem])
          go_wp2_with fail
          go_ret
          exact ⟨ret_str (by rw [HF.out]), gb.trans g1⟩
        · by_cases h2 : s.hi < s.lo
          · have HF := Lib.hid (spansText_bad HL.out (HS.out ▸ spanOk_no2 (inB_no (by omega))))
            clear hset
            go_wp2_with fail
            refine (impl_IsSet_of HC.out _ _ (RSlice.mono keeps_int gb HSET0.out)).mono ?_
            rintro e w1 ⟨rfl, g1⟩
            have b0 : w1.cell? ⟨wr.heap.size, 0, none⟩ = some (.int .i64 s.lo) := g1.cellv (by simp [go_sem])
            have b1 : w1.cell? ⟨wr.heap.size, 1, none⟩ = some (.int .i64 s.hi) := g1.cellv (by simp [go_sem])
            go_wp2_with fail
            go_ret
            exact ⟨ret_str (by rw [HF.out]), gb.trans g1⟩
          · have hin : inB s.lo 0 s.hi = true := inB_mk (by omega) (by omega)
            by_cases h99 : s.hi ≤ 99
            · have HK := Lib.hid (HS.out ▸ spanOk_yes hset hin h99 : spanOk xs[k] = true)
              have hn99 : ¬ 99 < s.hi := by omega
              obtain ⟨T, HT, hTl⟩ : ∃ T : List UInt8, Hid (setText s.set = T) ∧ Hid (T.length ≤ 1204) := ⟨setText s.set, Lib.hid rfl, Lib.hid setText_len⟩
              have n1 := itoa_len ILO.out
              have n2 := itoa_len IHI.out
              have n4 := hTl.out
              have m2 : ¬ 9223372036854775807 < (Lib.itoa s.lo).length + 2 := by omega
              have m3 : ¬ 9223372036854775807 < (Lib.itoa s.lo).length + 2 + (Lib.itoa s.hi).length := by omega
              have m4 : ¬ 9223372036854775807 < (Lib.itoa s.lo).length + 2 + (Lib.itoa s.hi).length + 1 := by omega
              have m5 : ¬ 9223372036854775807 < (Lib.itoa s.lo).length + 2 + (Lib.itoa s.hi).length + 1 + T.length := by omega
              have HW : Hid (spanWord s = Lib.itoa s.lo ++ [46, 46] ++ Lib.itoa s.hi ++ [32] ++ T) := Lib.hid (by unfold spanWord; rw [HT.out])
              obtain ⟨bs, HBS⟩ : ∃ bs, Hid (bs = ((xs.take k).map spanWord).map bsOf) := ⟨_, Lib.hid rfl⟩
              have hbl : bs.length = k := by rw [HBS.out]; simp; omega
              rw [← HBS.out] at hown
              have HN : Hid (bs.length + 1 ≤ 8796093022208) := Lib.hid (by rw [hbl]; have := HBL.out; omega)
              have HBN := Lib.hid hbl
              have HNE : Hid ((Value.slice sa k sc).ownBlock ≠ some wr.heap.size) := Lib.hid fun e => by have := (hown.lt _ e).2; omega
              have HO := Lib.hid hown
              have hE : Hid ((((xs.take (k + 1)).map spanWord).map bsOf) = bs ++ [bsOf (Lib.itoa s.lo ++ [46, 46] ++ Lib.itoa s.hi ++ [32] ++ T)]) := Lib.hid (by
                rw [List.take_succ_eq_append_getElem HL.out, List.map_append, List.map_append, HBS.out, ← HW.out, HS.out]; rfl)
              have hst2 : Hid (∃ S, PSt xs (k + 1) S) := Lib.hid (by
                obtain ⟨S, hS⟩ := hst.out
                by_cases h0 : k = 0
                · subst h0; exact ⟨_, hS.first HL.out HK.out (HS.out ▸ ILO.out) (HS.out ▸ IHI.out)⟩
                · exact ⟨_, hS.next HL.out h0 HK.out (HS.out ▸ ILO.out) (HS.out ▸ IHI.out)⟩)
              clear n1 n2 n4 hset hin h99 hbl hown
              go_wp2_with fail
              refine (impl_IsSet_of HC.out _ _ (RSlice.mono keeps_int gb HSET0.out)).mono ?_
              rintro e w1 ⟨rfl, g1⟩
              have b0 : w1.cell? ⟨wr.heap.size, 0, none⟩ = some (.int .i64 s.lo) := g1.cellv (by simp [go_sem])
              have b1 : w1.cell? ⟨wr.heap.size, 1, none⟩ = some (.int .i64 s.hi) := g1.cellv (by simp [go_sem])
              have b2 : w1.cell? ⟨wr.heap.size, 2, none⟩ = some (.slice ua un uc) := g1.cellv (by simp [go_sem])
              have G1 : Gr w w1 := gb.trans g1
              have HO1 := Lib.hid (ownsRow_gr HO.out ((Gr.refl wr).alloc (.cells #[.int .i64 s.lo, .int .i64 s.hi, .slice ua un uc] 74) |>.trans g1))
              clear gb g1 c0 c1 c2 hgr
              go_wp2
              (go_region_held3 (fun w' => w'.cell? ⟨wr.heap.size, 0, none⟩ = some (.int .i64 s.lo) ∧ w'.cell? ⟨wr.heap.size, 1, none⟩ = some (.int .i64 s.hi) ∧ w'.cell? ⟨wr.heap.size, 2, none⟩ = some (.slice ua un uc) ∧ Gr w w')
                (first | exact ⟨b0, b1, b2, G1⟩ | exact ⟨b0, b1, b2, G1.drew⟩ | (go_split_ands; exact ⟨Gr.cellv gc (by assumption), Gr.cellv gc (by assumption), Gr.cellv gc (by assumption), Gr.trans (by assumption) gc⟩) | (go_split_ands; exact ⟨Gr.cellv gb (by assumption), Gr.cellv gb (by assumption), Gr.cellv gb (by assumption), Gr.trans (by assumption) gb⟩) | (go_split_ands; exact ⟨Gr.cellv ga (by assumption), Gr.cellv ga (by assumption), Gr.cellv ga (by assumption), Gr.trans (by assumption) ga⟩) | (go_split_ands; exact ⟨cell_kept hk4 HNE.out (Gr.cellv ((Gr.refl w1).drew.trans (ga.trans (gb.trans gc))) b0), cell_kept hk4 HNE.out (Gr.cellv ((Gr.refl w1).drew.trans (ga.trans (gb.trans gc))) b1), cell_kept hk4 HNE.out (Gr.cellv ((Gr.refl w1).drew.trans (ga.trans (gb.trans gc))) b2), (G1.trans ((Gr.refl w1).drew.trans (ga.trans (gb.trans gc)))).trans' hb4⟩) | (go_split_ands; exact ⟨Gr.cellv (Gr.alloc (Gr.refl _) _) (by assumption), Gr.cellv (Gr.alloc (Gr.refl _) _) (by assumption), Gr.cellv (Gr.alloc (Gr.refl _) _) (by assumption), Gr.alloc (by assumption) _⟩) | (go_split_ands; exact ⟨Gr.cellv (Gr.alloc (Gr.refl _) _).drew (by assumption), Gr.cellv (Gr.alloc (Gr.refl _) _).drew (by assumption), Gr.cellv (Gr.alloc (Gr.refl _) _).drew (by assumption), (Gr.alloc (by assumption) _).drew⟩))
                (first | (go_at_call 13; go_split_ands; with_reducible refine (impl_FormatInt s.lo _ ILO.out (tab_gr HTen.out (by assumption))).mono ?_; rintro e wa ⟨rfl, ga⟩) | (go_at_call 13; go_split_ands; with_reducible refine (impl_FormatInt s.hi _ IHI.out (tab_gr HTen.out (by assumption))).mono ?_; rintro e wb ⟨rfl, gb⟩) | (go_at_call 16; go_split_ands; refine (calls_str (impl_FormatSet _ s.set _ (tab_gr HTen.out (by assumption)) (RSlice.mono keeps_int (by assumption) HSET0.out) HSL.out) HT.out).mono ?_; rintro e wc ⟨rfl, gc⟩) | (refine step_push_s (wr := wc) rfl _ _ rfl bs [_] (by simp) rfl rfl (by first | exact Or.inl rfl | exact Or.inr rfl) (ownsRow_gr HO1.out ((Gr.refl w1).drew.trans (ga.trans (gb.trans gc)))) HN.out (G1.trans ((Gr.refl w1).drew.trans (ga.trans (gb.trans gc)))).size ?_; intro g4 cap4 w4 hown4 hb4 hk4)))
              have h5 := hown4
              rw [cat5 (Lib.itoa s.lo) [46, 46] (Lib.itoa s.hi) [32] T] at h5
              have HG := Lib.hid ((G1.trans ((Gr.refl w1).drew.trans (ga.trans (gb.trans gc)))).trans' hb4)
              clear hown4 hk4 hb4 ga gb gc b0 b1 b2
              go_wp2
              go_roundw
              case rel => exact ⟨k + 1, some ⟨g4, 0, none⟩, cap4, HL.out, rfl, by rw [HBN.out], by rw [hE.out]; exact own_len h5, hst2, HG.out⟩
              case measure => have := HL.out; simp only [intOf]; omega
            · have HF := Lib.hid (spansText_bad HL.out (HS.out ▸ spanOk_no3 h99))
              have h98 : 99 < s.hi := by omega
              clear hset hin h99
              go_wp2_with fail
              refine (impl_IsSet_of HC.out _ _ (RSlice.mono keeps_int gb HSET0.out)).mono ?_
              rintro e w1 ⟨rfl, g1⟩
              have b0 : w1.cell? ⟨wr.heap.size, 0, none⟩ = some (.int .i64 s.lo) := g1.cellv (by simp [go_sem])
              have b1 : w1.cell? ⟨wr.heap.size, 1, none⟩ = some (.int .i64 s.hi) := g1.cellv (by simp [go_sem])
              go_wp2_with fail
              go_ret
              exact ⟨ret_str (by rw [HF.out]), gb.trans g1⟩
    · obtain rfl : k = xs.length := by omega
      by_cases hn : xs = []
      · subst hn
        go_wp2_with fail
        go_ret
        exact ⟨ret_str rfl, hgr⟩
      · have hlen : xs.length ≠ 0 := fun e => hn (List.eq_nil_of_length_eq_zero e)
        have hb0 : ((xs.length : Int) == 0) = false := by simp; exact hn
        obtain ⟨S, hS⟩ := hst.out
        have HE := Lib.hid (hS.all hn)
        rw [List.take_length] at hown
        have HO := Lib.hid hown
        have HJ : Hid ((Lib.join (xs.map spanWord) [59, 32]).length ≤ 140737488355328) := Lib.hid (by
          have h1 := hS.1; have h2 := hS.2.1
          rw [List.take_length] at h1
          rw [← h1]; have := HBL.out; omega)
        have HE2 : Hid (Lib.join (xs.map spanWord) [59, 32] = spansText xs) := Lib.hid (by
          have h1 := hS.1
          rw [List.take_length] at h1
          rw [← h1]; exact HE.out)
        clear hn hlt hk hown hlen
        go_wp2_with fail
        refine (join_any (ws := xs.map spanWord) HO.out [59, 32] (by have := HBL.out; simp; omega) HJ.out).mono ?_
        rintro e w2 ⟨rfl, g2⟩
        go_wp2_with fail
        go_ret
        exact ⟨ret_str (by rw [HE2.out]), hgr.trans g2⟩
end Go.Proofs.YtjeffagejbdjkaaDoor
