/- FormatQuery: the program's walk. -/
import Derived.Test.YtjeffagejbdjkaaDoorQryF
import Derived.Test.YtjeffagejbdjkaaDoorSpanI
import Derived.Test.YtjeffagejbdjkaaDoorLawK
import Derived.Test.YtjeffagejbdjkaaDoorExt
namespace Go.Proofs.YtjeffagejbdjkaaDoor
open Go.RowKit
theorem own_len2 {lo t : Nat} {v : Value} {w : World} {bs : List ByteArray} {a b : ByteArray} (h : w.ownsRow lo t 1 v (bs.length + 2) ((bs ++ [a, b]).map Value.string)) : w.ownsRow lo t 1 v (bs ++ [a, b]).length ((bs ++ [a, b]).map Value.string) := by
  rw [List.length_append]; exact h
set_option maxRecDepth 100000 in
set_option maxHeartbeats 3000000 in
theorem impl_FormatQuery (x : DQuery) (u u' : Value) (w : World) (hu : RConds w u x.conds) (hu' : RInts w u' x.out) (hb : totQuery x ≤ 1048576) (hi : I64 x.id ∧ I64 x.tenant) (hT : Tens Tryd.prog w) :
    Calls Tryd.prog 31 #[.agg #[.int .i64 x.id, .int .i64 x.tenant, u, u']] w fun e w' => e = .returned (.string ⟨(queryText x).toArray⟩) ∧ Gr w w' := by
  have HTen := Lib.hid hT
  have HU := Lib.hid hu
  have HO := Lib.hid hu'
  have HI := Lib.hid hi.1
  have HT := Lib.hid hi.2
  have HBO : Hid (x.out.length ≤ 1048576) := Lib.hid (by unfold totQuery at hb; omega)
  have HBC : Hid (x.conds.length ≤ 1048576) := Lib.hid (by unfold totQuery at hb; omega)
  have HN : Hid ((numsText x.out).length ≤ 22 * x.out.length) := Lib.hid (numsText_len (fun i h => by obtain ⟨a, c, _, _, _, hx⟩ := hu'.open; obtain ⟨_, _, _, _, h⟩ := hx i h; exact h))
  have HC64 : Hid (∀ i (h : i < x.conds.length), I64 x.conds[i].field ∧ I64 x.conds[i].low ∧ I64 x.conds[i].high) := Lib.hid (fun i h => by
    obtain ⟨_, _, _, _, _, hx⟩ := hu
    obtain ⟨_, _, _, _, _, ⟨_, h1, h2, h3⟩, _⟩ := hx i h
    exact ⟨h1, h2, h3⟩)
  obtain ⟨ua, uc, rfl, hl, hm, hx⟩ := hu
  obtain ⟨oa, on, oc, rfl⟩ := hu'.isSl
  have g0 : Gr w (w.alloc (.cells #[.int .i64 x.id, .int .i64 x.tenant, .slice ua x.conds.length uc, .slice oa on oc] 51)) := (Gr.refl w).alloc _
  have HX := Lib.hid hx
  clear hi hb hu' hx hT
  cases h1 : isQueryB x with
  | false =>
    have H1 := Lib.hid h1
    have HR := Lib.hid (queryText_no h1)
    clear h1
    go_enter Tryd.func31, Tryd.ntmps31
    go_wp2_with fail
    refine (impl_IsQuery_of H1.out _ _ _ (RSlice.mono keeps_cond g0 HU.out) (RSlice.mono keeps_int g0 HO.out)).mono ?_
    rintro e w1 ⟨rfl, g1⟩
    go_wp2_with fail
    go_ret
    exact ⟨ret_str (by rw [HR.out]), g0.trans g1⟩
  | true =>
    have H1 := Lib.hid h1
    have HR := Lib.hid ((queryText_yes h1).trans (queryWords_join x).symm)
    clear h1
    go_enter Tryd.func31, Tryd.ntmps31
    go_wp2_with fail
    refine (impl_IsQuery_of H1.out _ _ _ (RSlice.mono keeps_cond g0 HU.out) (RSlice.mono keeps_int g0 HO.out)).mono ?_
    rintro e w1 ⟨rfl, g1⟩
    have b0 : w1.cell? ⟨w.heap.size, 0, none⟩ = some (.int .i64 x.id) := g1.cellv (by simp [go_sem])
    have b1 : w1.cell? ⟨w.heap.size, 1, none⟩ = some (.int .i64 x.tenant) := g1.cellv (by simp [go_sem])
    have b2 : w1.cell? ⟨w.heap.size, 2, none⟩ = some (.slice ua x.conds.length uc) := g1.cellv (by simp [go_sem])
    have b3 : w1.cell? ⟨w.heap.size, 3, none⟩ = some (.slice oa on oc) := g1.cellv (by simp [go_sem])
    have hB1 : w.heap.size + 1 ≤ w1.heap.size := by have := g1.size; simpa using this
    have n1 := itoa_len HI.out
    have n2 := itoa_len HT.out
    have l1 : ¬ 9223372036854775807 < 1 + (Lib.itoa x.id).length := by omega
    have l3 : ¬ 9223372036854775807 < 1 + (Lib.itoa x.tenant).length := by omega
    have HHL : Hid ((headText x).length ≤ 45) := Lib.hid (by unfold headText; simp only [List.length_append, List.length_cons, List.length_nil]; omega)
    clear n1 n2
    have G1 : Gr w w1 := g0.trans g1
    clear g0 g1
    go_wp2
    (go_region_held3 (fun w' => w'.cell? ⟨w.heap.size, 0, none⟩ = some (.int .i64 x.id) ∧ w'.cell? ⟨w.heap.size, 1, none⟩ = some (.int .i64 x.tenant) ∧ Gr w w')
      (first | exact ⟨b0, b1, G1⟩ | exact ⟨b0, b1, G1.drew⟩ | (go_split_ands; exact ⟨Gr.cellv gb (by assumption), Gr.cellv gb (by assumption), Gr.trans (by assumption) gb⟩) | (go_split_ands; exact ⟨Gr.cellv ga (by assumption), Gr.cellv ga (by assumption), Gr.trans (by assumption) ga⟩) | (go_split_ands; exact ⟨Gr.cellv (Gr.alloc (Gr.refl _) _) (by assumption), Gr.cellv (Gr.alloc (Gr.refl _) _) (by assumption), Gr.alloc (by assumption) _⟩) | (go_split_ands; exact ⟨Gr.cellv (Gr.alloc (Gr.refl _) _).drew (by assumption), Gr.cellv (Gr.alloc (Gr.refl _) _).drew (by assumption), (Gr.alloc (by assumption) _).drew⟩))
      (first | (go_at_call 13; go_split_ands; with_reducible refine (impl_FormatInt x.id _ HI.out (tab_gr HTen.out (by assumption))).mono ?_; rintro e wa ⟨rfl, ga⟩) | (go_at_call 13; go_split_ands; with_reducible refine (impl_FormatInt x.tenant _ HT.out (tab_gr HTen.out (by assumption))).mono ?_; rintro e wb ⟨rfl, gb⟩)))
    generalize hA : (⟨#[113]⟩ ++ ⟨(Lib.itoa x.id).toArray⟩ : ByteArray) = A
    generalize hB : (⟨#[116]⟩ ++ ⟨(Lib.itoa x.tenant).toArray⟩ : ByteArray) = B
    have hown0 : (wb.alloc (.cells #[.string A, .string B] 9)).ownsRow (w.heap.size + 1) 9 1 (.slice (some ⟨wb.heap.size, 0, none⟩) 2 2) 2 ([A, B].map Value.string) := own_made wb [A, B] (w.heap.size + 1) (Nat.le_trans hB1 (((Gr.refl w1).drew.trans (ga.trans gb)).size)) (by simp)
    have G2 : Gr w (wb.alloc (.cells #[.string A, .string B] 9)) := (G1.trans ((Gr.refl w1).drew.trans (ga.trans gb))).alloc _
    have d2 : (wb.alloc (.cells #[.string A, .string B] 9)).cell? ⟨w.heap.size, 2, none⟩ = some (.slice ua x.conds.length uc) := (((Gr.refl w1).drew.trans (ga.trans gb)).alloc _).cellv b2
    have d3 : (wb.alloc (.cells #[.string A, .string B] 9)).cell? ⟨w.heap.size, 3, none⟩ = some (.slice oa on oc) := (((Gr.refl w1).drew.trans (ga.trans gb)).alloc _).cellv b3
    generalize hW2 : wb.alloc (.cells #[.string A, .string B] 9) = W2 at hown0 G2 d2 d3 ⊢
    have HWB := Lib.hid hB1
    obtain ⟨WB, HWBe⟩ : ∃ n, Hid (n = wb.heap.size) := ⟨_, Lib.hid rfl⟩
    rw [← HWBe.out] at hown0 ⊢
    have HOW0 : Hid (W2.ownsRow (w.heap.size + 1) 9 1 (.slice (some ⟨WB, 0, none⟩) 2 2) (([[113] ++ Lib.itoa x.id, [116] ++ Lib.itoa x.tenant] ++ condWords (x.conds.take 0)).map bsOf).length ((([[113] ++ Lib.itoa x.id, [116] ++ Lib.itoa x.tenant] ++ condWords (x.conds.take 0)).map bsOf).map Value.string)) := Lib.hid (by
      rw [← hA, ← hB, cat2 [113] (Lib.itoa x.id), cat2 [116] (Lib.itoa x.tenant)] at hown0
      exact hown0)
    clear hA hB
    clear hown0 hW2 ga gb b0 b1 b2 b3 G1 l1 l3
    go_wp2_with fail
    go_loopw [3, 21] (fun sv iv wr => ∃ (k : Nat) (sa : Option Addr) (sc : Nat), k ≤ x.conds.length ∧ iv = .int .i64 k ∧ sv = .slice sa (2 + 2 * k) sc ∧ Hid (wr.ownsRow (w.heap.size + 1) 9 1 sv (([[113] ++ Lib.itoa x.id, [116] ++ Lib.itoa x.tenant] ++ condWords (x.conds.take k)).map bsOf).length ((([[113] ++ Lib.itoa x.id, [116] ++ Lib.itoa x.tenant] ++ condWords (x.conds.take k)).map bsOf).map Value.string)) ∧ wr.cell? ⟨w.heap.size, 2, none⟩ = some (.slice ua x.conds.length uc) ∧ wr.cell? ⟨w.heap.size, 3, none⟩ = some (.slice oa on oc) ∧ Gr w wr) (fun _ i _ => x.conds.length - (intOf i).toNat)
    case atStart => exact ⟨0, _, _, Nat.zero_le _, rfl, rfl, HOW0, d2, d3, G2⟩
    case round =>
      obtain ⟨k, sa, sc, hk, rfl, rfl, hown, e2, e3, hgr⟩ := hrel
      by_cases hlt : k < x.conds.length
      · obtain ⟨b, off, cs, rfl, hlen, ⟨rfl, i_field, i_low, i_high⟩, hc⟩ := HX.out k hlt
        have c0 := hgr.cellv (hc 0 (by simp))
        have c1 := hgr.cellv (hc 1 (by simp))
        have c2 := hgr.cellv (hc 2 (by simp))
        simp only [Nat.add_zero, List.getElem_cons_zero, List.getElem_cons_succ] at c0 c1 c2
        obtain ⟨s, hs⟩ : ∃ s, s = x.conds[k] := ⟨_, rfl⟩
        rw [← hs] at c0 c1 c2 i_field i_low i_high
        have I1 := Lib.hid i_field
        have I2 := Lib.hid i_low
        have I3 := Lib.hid i_high
        have HS := Lib.hid hs
        have HL := Lib.hid hlt
        have n1 := itoa_len I1.out
        have n2 := itoa_len I2.out
        have n3 := itoa_len I3.out
        have m1 : ¬ 9223372036854775807 < 1 + (Lib.itoa s.field).length := by omega
        have m2 : ¬ 9223372036854775807 < (Lib.itoa s.low).length + 2 := by omega
        have m3 : ¬ 9223372036854775807 < (Lib.itoa s.low).length + 2 + (Lib.itoa s.high).length := by omega
        have p0 : (0 : Int) ≤ (k : Int) := Int.natCast_nonneg _
        have p1 : (k : Int) < (x.conds.length : Int) := by omega
        obtain ⟨bs, HBS⟩ : ∃ bs, Hid (bs = (([[113] ++ Lib.itoa x.id, [116] ++ Lib.itoa x.tenant] ++ condWords (x.conds.take k)).map bsOf)) := ⟨_, Lib.hid rfl⟩
        have HBL : Hid (bs.length = 2 + 2 * k) := Lib.hid (by rw [HBS.out, List.length_map, List.length_append, condWords_len, List.length_take, Nat.min_eq_left hk]; rfl)
        have HOW : Hid (wr.ownsRow (w.heap.size + 1) 9 1 (.slice sa (2 + 2 * k) sc) bs.length (bs.map Value.string)) := Lib.hid (by rw [HBS.out]; exact hown.out)
        have HNN : Hid (bs.length + 2 ≤ 8796093022208) := Lib.hid (by rw [HBL.out]; have := HBC.out; omega)
        have HNE : Hid ((Value.slice sa (2 + 2 * k) sc).ownBlock ≠ some wr.heap.size) := Lib.hid fun e => by have := (hown.out.lt _ e).2; omega
        have hE : Hid ((([[113] ++ Lib.itoa x.id, [116] ++ Lib.itoa x.tenant] ++ condWords (x.conds.take (k + 1))).map bsOf) = bs ++ [bsOf ([102] ++ Lib.itoa s.field), bsOf (Lib.itoa s.low ++ [46, 46] ++ Lib.itoa s.high)]) := Lib.hid (by
          rw [condWords_snoc hlt, ← hs, HBS.out, ← List.append_assoc, List.map_append]; rfl)
        have HB1 : Hid (w.heap.size + 1 ≤ wr.heap.size) := Lib.hid (World.block_lt_of_cell? wr _ e2)
        have gbx : Gr wr (wr.alloc (.cells #[.int .i64 s.field, .int .i64 s.low, .int .i64 s.high] 81)) := (Gr.refl wr).alloc _
        clear hs i_field i_low i_high n1 n2 n3 hc hlen hk hown
        go_wp2
        have b0 : (wr.alloc (.cells #[.int .i64 s.field, .int .i64 s.low, .int .i64 s.high] 81)).cell? ⟨wr.heap.size, 0, none⟩ = some (.int .i64 s.field) := by simp [go_sem]
        have b1 : (wr.alloc (.cells #[.int .i64 s.field, .int .i64 s.low, .int .i64 s.high] 81)).cell? ⟨wr.heap.size, 1, none⟩ = some (.int .i64 s.low) := by simp [go_sem]
        have b2 : (wr.alloc (.cells #[.int .i64 s.field, .int .i64 s.low, .int .i64 s.high] 81)).cell? ⟨wr.heap.size, 2, none⟩ = some (.int .i64 s.high) := by simp [go_sem]
        have G1 : Gr w (wr.alloc (.cells #[.int .i64 s.field, .int .i64 s.low, .int .i64 s.high] 81)) := hgr.alloc _
        have HO1 := Lib.hid (ownsRow_gr HOW.out gbx)
        have f2 := gbx.cellv e2
        have f3 := gbx.cellv e3
        generalize hW1 : wr.alloc (.cells #[.int .i64 s.field, .int .i64 s.low, .int .i64 s.high] 81) = W1 at b0 b1 b2 G1 HO1 f2 f3 gbx ⊢
        have HB2 : Hid (w.heap.size + 1 ≤ W1.heap.size) := Lib.hid (Nat.le_trans HB1.out gbx.size)
        (go_region_held3 (fun w' => w'.cell? ⟨wr.heap.size, 0, none⟩ = some (.int .i64 s.field) ∧ w'.cell? ⟨wr.heap.size, 1, none⟩ = some (.int .i64 s.low) ∧ w'.cell? ⟨wr.heap.size, 2, none⟩ = some (.int .i64 s.high) ∧ Gr w w')
          (first | exact ⟨b0, b1, b2, G1⟩ | exact ⟨b0, b1, b2, G1.drew⟩ | (go_split_ands; exact ⟨Gr.cellv gc (by assumption), Gr.cellv gc (by assumption), Gr.cellv gc (by assumption), Gr.trans (by assumption) gc⟩) | (go_split_ands; exact ⟨Gr.cellv gb (by assumption), Gr.cellv gb (by assumption), Gr.cellv gb (by assumption), Gr.trans (by assumption) gb⟩) | (go_split_ands; exact ⟨Gr.cellv ga (by assumption), Gr.cellv ga (by assumption), Gr.cellv ga (by assumption), Gr.trans (by assumption) ga⟩) | (go_split_ands; exact ⟨cell_kept hk4 HNE.out (Gr.cellv ((Gr.refl W1).drew.trans (ga.trans (gb.trans gc))) b0), cell_kept hk4 HNE.out (Gr.cellv ((Gr.refl W1).drew.trans (ga.trans (gb.trans gc))) b1), cell_kept hk4 HNE.out (Gr.cellv ((Gr.refl W1).drew.trans (ga.trans (gb.trans gc))) b2), (G1.trans ((Gr.refl W1).drew.trans (ga.trans (gb.trans gc)))).trans' (Below.mono hb4 (Nat.le_succ _))⟩) | (go_split_ands; exact ⟨Gr.cellv (Gr.alloc (Gr.refl _) _) (by assumption), Gr.cellv (Gr.alloc (Gr.refl _) _) (by assumption), Gr.cellv (Gr.alloc (Gr.refl _) _) (by assumption), Gr.alloc (by assumption) _⟩) | (go_split_ands; exact ⟨Gr.cellv (Gr.alloc (Gr.refl _) _).drew (by assumption), Gr.cellv (Gr.alloc (Gr.refl _) _).drew (by assumption), Gr.cellv (Gr.alloc (Gr.refl _) _).drew (by assumption), (Gr.alloc (by assumption) _).drew⟩))
          (first | (go_at_call 13; go_split_ands; with_reducible refine (impl_FormatInt s.field _ I1.out (tab_gr HTen.out (by assumption))).mono ?_; rintro e wa ⟨rfl, ga⟩) | (go_at_call 13; go_split_ands; with_reducible refine (impl_FormatInt s.low _ I2.out (tab_gr HTen.out (by assumption))).mono ?_; rintro e wb ⟨rfl, gb⟩) | (go_at_call 13; go_split_ands; with_reducible refine (impl_FormatInt s.high _ I3.out (tab_gr HTen.out (by assumption))).mono ?_; rintro e wc ⟨rfl, gc⟩) | (refine step_push_s (wr := wc) rfl _ _ rfl bs [_, _] (by simp) rfl rfl (by first | exact Or.inl rfl | exact Or.inr rfl) (ownsRow_gr HO1.out ((Gr.refl W1).drew.trans (ga.trans (gb.trans gc)))) HNN.out (Nat.le_trans HB2.out ((Gr.refl W1).drew.trans (ga.trans (gb.trans gc))).size) ?_; intro g4 cap4 w4 hown4 hb4 hk4)))
        have h5 := hown4
        rw [cat2 [102] (Lib.itoa s.field), cat3 (Lib.itoa s.low) [46, 46] (Lib.itoa s.high)] at h5
        have HGW := Lib.hid ((G1.trans ((Gr.refl W1).drew.trans (ga.trans (gb.trans gc)))).trans' (Below.mono hb4 (Nat.le_succ _)))
        have k2 : w4.cell? ⟨w.heap.size, 2, none⟩ = some (.slice (some ⟨b, off, none⟩) x.conds.length uc) := (Below.cell hb4 (Nat.lt_succ_self _)).trans (Gr.cellv ((Gr.refl W1).drew.trans (ga.trans (gb.trans gc))) f2)
        have k3 : w4.cell? ⟨w.heap.size, 3, none⟩ = some (.slice oa on oc) := (Below.cell hb4 (Nat.lt_succ_self _)).trans (Gr.cellv ((Gr.refl W1).drew.trans (ga.trans (gb.trans gc))) f3)
        clear hown4 hk4 hb4 ga gb gc b0 b1 b2 f2 f3 hW1
        go_wp2
        go_roundw
        case rel => exact ⟨k + 1, some ⟨g4, 0, none⟩, cap4, HL.out, rfl, by rw [show bs.length + 2 = 2 + 2 * (k + 1) from by have := HBL.out; omega], Lib.hid (by rw [hE.out]; exact own_len2 h5), k2, k3, HGW.out⟩
        case measure => have := HL.out; simp only [intOf]; omega
      · obtain rfl : k = x.conds.length := by omega
        obtain ⟨bs, HBS⟩ : ∃ bs, Hid (bs = (([[113] ++ Lib.itoa x.id, [116] ++ Lib.itoa x.tenant] ++ condWords x.conds).map bsOf)) := ⟨_, Lib.hid rfl⟩
        have HBL : Hid (bs.length = 2 + 2 * x.conds.length) := Lib.hid (by rw [HBS.out, List.length_map, List.length_append, condWords_len]; rfl)
        have HOW : Hid (wr.ownsRow (w.heap.size + 1) 9 1 (.slice sa (2 + 2 * x.conds.length) sc) bs.length (bs.map Value.string)) := Lib.hid (by have h := hown.out; rw [List.take_length] at h; rw [HBS.out]; exact h)
        have HNN : Hid (bs.length + 2 ≤ 8796093022208) := Lib.hid (by rw [HBL.out]; have := HBC.out; omega)
        have HB1 : Hid (w.heap.size + 1 ≤ wr.heap.size) := Lib.hid (World.block_lt_of_cell? wr _ e2)
        have HE : Hid ((queryWords x).map bsOf = bs ++ [bsOf [111, 117, 116], bsOf (numsText x.out)]) := Lib.hid (by unfold queryWords; rw [HBS.out, List.map_append]; rfl)
        have HQL : Hid ((queryWords x).length ≤ 140737488355328) := Lib.hid (by have h := congrArg List.length HE.out; rw [List.length_map, List.length_append, HBL.out] at h; have := HBC.out; simp at h; omega)
        have HJ : Hid ((Lib.join (queryWords x) [32]).length ≤ 140737488355328) := Lib.hid (by
          rw [queryWords_join]
          have h1 := condsText_len HC64.out x.conds.length (Nat.le_refl _)
          rw [List.take_length] at h1
          have h2 := HHL.out; have h3 := HN.out; have h4 := HBO.out; have h5 := HBC.out
          simp only [List.length_append, List.length_cons, List.length_nil]
          omega)
        clear hown hlt hk
        go_wp2_with fail
        refine (impl_numbersText _ x.out _ (tab_gr HTen.out hgr) (RSlice.mono keeps_int hgr HO.out) HBO.out).mono ?_
        rintro e w3 ⟨rfl, g3⟩
        have HO3 := Lib.hid (ownsRow_gr HOW.out g3)
        go_wp2_with (at_builtin; refine push_s2 rfl _ _ rfl bs [_, _] (by simp) rfl rfl rfl HO3.out HNN.out (Nat.le_trans HB1.out g3.size) ?_; intro g4 cap4 w4 hown4 hb4)
        have HGW := Lib.hid ((hgr.trans g3).trans' (Below.mono hb4 (Nat.le_succ _)))
        have h6 : w4.ownsRow (w.heap.size + 1) 9 1 (.slice (some ⟨g4, 0, none⟩) (bs.length + 2) cap4) ((queryWords x).map bsOf).length (((queryWords x).map bsOf).map Value.string) := by rw [HE.out]; exact own_len2 hown4
        refine (join_any (ws := queryWords x) h6 [32] HQL.out HJ.out).mono ?_
        rintro e w5 ⟨rfl, g5⟩
        go_wp2_with fail
        go_ret
        exact ⟨ret_str (by rw [HR.out]), HGW.out.trans g5⟩
end Go.Proofs.YtjeffagejbdjkaaDoor
