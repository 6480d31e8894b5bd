/- FormatQuery: the program's walk. -/
import Derived.Test.YtcdcpfcmhmhdjaaGreatDoorMg8
import Derived.Test.YtcdcpfcmhmhdjaaGreatDoorLawK
import Derived.Test.YtcdcpfcmhmhdjaaGreatDoorExt
import Derived.Test.YtcdcpfcmhmhdjaaGreatDoorMg7
import Derived.Lib.AtoiErrMem
import Derived.Test.YtcdcpfcmhmhdjaaGreatDoorSc
import Derived.Test.YtcdcpfcmhmhdjaaGreatDoorGenInt
namespace Go.Proofs.YtcdcpfcmhmhdjaaGreatDoor
open Go.RowKit
theorem own_len2 {lo t : Nat} {v : Value} {w : World} {bs : List ByteArray} {a b : ByteArray} (h : w.ownsRow lo t 1 v (bs.length + 2) ((bs ++ [a, b]).map Value.string)) : w.ownsRow lo t 1 v (bs ++ [a, b]).length ((bs ++ [a, b]).map Value.string) := by
  rw [List.length_append]; exact h
set_option maxRecDepth 100000 in
set_option maxHeartbeats 3000000 in
theorem impl_FormatQuery (x : DQuery) (u u' : Value) (w : World) (hu : RConds w u x.conds) (hu' : RInts w u' x.out) (hb : totQuery x ≤ 1048576) (hi : I64 x.id ∧ I64 x.tenant) (hT : Tens Tryz.prog w) :
    Calls Tryz.prog 11 #[.agg #[.int .i64 x.id, .int .i64 x.tenant, u, u']] w fun e w' => e = .returned (.string ⟨(queryText x).toArray⟩) ∧ Gr w w' := by
  have HTen := Lib.hid hT
  have HU := Lib.hid hu
  have HO := Lib.hid hu'
  have HI := Lib.hid hi.1
  have HT := Lib.hid hi.2
  have HBO : Hid (x.out.length ≤ 1048576) := Lib.hid (by unfold totQuery at hb; omega)
  have HBC : Hid (x.conds.length ≤ 1048576) := Lib.hid (by unfold totQuery at hb; omega)
  have HN : Hid ((numsText x.out).length ≤ 22 * x.out.length) := Lib.hid (numsText_len (fun i h => by obtain ⟨a, c, _, _, _, hx⟩ := hu'.open; obtain ⟨_, _, _, _, h⟩ := hx i h; exact h))
  have HC64 : Hid (∀ i (h : i < x.conds.length), I64 x.conds[i].field ∧ I64 x.conds[i].low ∧ I64 x.conds[i].high) := Lib.hid (fun i h => by
    obtain ⟨_, _, _, _, _, hx⟩ := hu
    obtain ⟨_, _, _, _, _, ⟨_, h1, h2, h3⟩, _⟩ := hx i h
    exact ⟨h1, h2, h3⟩)
  obtain ⟨ua, uc, rfl, hl, hm, hx⟩ := hu
  obtain ⟨oa, on, oc, rfl⟩ := hu'.isSl
  have g0 : Gr w (w.alloc (.cells #[.int .i64 x.id, .int .i64 x.tenant, .slice ua x.conds.length uc, .slice oa on oc] 27)) := (Gr.refl w).alloc _
  have HX := Lib.hid hx
  clear hi hb hu' hx hT
  cases h1 : isQueryB x with
  | false =>
    have H1 := Lib.hid h1
    have HR := Lib.hid (queryText_no h1)
    clear h1
    go_enter Tryz.func11, Tryz.ntmps11
    go_wp2_with fail
    refine (impl_IsQuery_of H1.out _ _ _ (RSlice.mono keeps_cond g0 HU.out) (RSlice.mono keeps_int g0 HO.out)).mono ?_
    rintro e w1 ⟨rfl, g1⟩
    go_wp2_with fail
    go_ret
    exact ⟨ret_str (by rw [HR.out]), g0.trans g1⟩
  | true =>
    have H1 := Lib.hid h1
    have HR := Lib.hid ((queryText_yes h1).trans (queryWords_join x).symm)
    clear h1
    go_enter Tryz.func11, Tryz.ntmps11
    go_wp2_with fail
    refine (impl_IsQuery_of H1.out _ _ _ (RSlice.mono keeps_cond g0 HU.out) (RSlice.mono keeps_int g0 HO.out)).mono ?_
    rintro e w1 ⟨rfl, g1⟩
    have b0 : w1.cell? ⟨w.heap.size, 0, none⟩ = some (.int .i64 x.id) := g1.cellv (by simp [go_sem])
    have b1 : w1.cell? ⟨w.heap.size, 1, none⟩ = some (.int .i64 x.tenant) := g1.cellv (by simp [go_sem])
    have b2 : w1.cell? ⟨w.heap.size, 2, none⟩ = some (.slice ua x.conds.length uc) := g1.cellv (by simp [go_sem])
    have b3 : w1.cell? ⟨w.heap.size, 3, none⟩ = some (.slice oa on oc) := g1.cellv (by simp [go_sem])
    have hB1 : w.heap.size + 1 ≤ w1.heap.size := by have := g1.size; simpa using this
    have n1 := itoa_len HI.out
    have n2 := itoa_len HT.out
    have l1 : ¬ 9223372036854775807 < 1 + (Lib.itoa x.id).length := by omega
    have l3 : ¬ 9223372036854775807 < 1 + (Lib.itoa x.tenant).length := by omega
    have HHL : Hid ((headText x).length ≤ 45) := Lib.hid (by unfold headText; simp only [List.length_append, List.length_cons, List.length_nil]; omega)
    clear n1 n2
    have G1 : Gr w w1 := g0.trans g1
    clear g0 g1
    go_wp2
    (go_region_held3 (fun w' => w'.cell? ⟨w.heap.size, 0, none⟩ = some (.int .i64 x.id) ∧ w'.cell? ⟨w.heap.size, 1, none⟩ = some (.int .i64 x.tenant) ∧ Gr w w')
      (first | exact ⟨b0, b1, G1⟩ | exact ⟨b0, b1, G1.drew⟩ | (go_split_ands; exact ⟨Gr.cellv gb (by assumption), Gr.cellv gb (by assumption), Gr.trans (by assumption) gb⟩) | (go_split_ands; exact ⟨Gr.cellv ga (by assumption), Gr.cellv ga (by assumption), Gr.trans (by assumption) ga⟩) | (go_split_ands; exact ⟨Gr.cellv (Gr.alloc (Gr.refl _) _) (by assumption), Gr.cellv (Gr.alloc (Gr.refl _) _) (by assumption), Gr.alloc (by assumption) _⟩) | (go_split_ands; exact ⟨Gr.cellv (Gr.alloc (Gr.refl _) _).drew (by assumption), Gr.cellv (Gr.alloc (Gr.refl _) _).drew (by assumption), (Gr.alloc (by assumption) _).drew⟩))
      (first | (go_at_call 31; go_split_ands; with_reducible refine (impl_FormatInt x.id _ HI.out (tab_gr HTen.out (by assumption))).mono ?_; rintro e wa ⟨rfl, ga⟩) | (go_at_call 31; go_split_ands; with_reducible refine (impl_FormatInt x.tenant _ HT.out (tab_gr HTen.out (by assumption))).mono ?_; rintro e wb ⟨rfl, gb⟩)))
    generalize hA : (⟨#[113]⟩ ++ ⟨(Lib.itoa x.id).toArray⟩ : ByteArray) = A
    generalize hB : (⟨#[116]⟩ ++ ⟨(Lib.itoa x.tenant).toArray⟩ : ByteArray) = B
    have hown0 : (wb.alloc (.cells #[.string A, .string B] 9)).ownsRow (w.heap.size + 1) 9 1 (.slice (some ⟨wb.heap.size, 0, none⟩) 2 2) 2 ([A, B].map Value.string) := own_made wb [A, B] (w.heap.size + 1) (Nat.le_trans hB1 (((Gr.refl w1).drew.trans (ga.trans gb)).size)) (by simp)
    have G2 : Gr w (wb.alloc (.cells #[.string A, .string B] 9)) := (G1.trans ((Gr.refl w1).drew.trans (ga.trans gb))).alloc _
    have d2 : (wb.alloc (.cells #[.string A, .string B] 9)).cell? ⟨w.heap.size, 2, none⟩ = some (.slice ua x.conds.length uc) := (((Gr.refl w1).drew.trans (ga.trans gb)).alloc _).cellv b2
    have d3 : (wb.alloc (.cells #[.string A, .string B] 9)).cell? ⟨w.heap.size, 3, none⟩ = some (.slice oa on oc) := (((Gr.refl w1).drew.trans (ga.trans gb)).alloc _).cellv b3
    generalize hW2 : wb.alloc (.cells #[.string A, .string B] 9) = W2 at hown0 G2 d2 d3 ⊢
    have HWB := Lib.hid hB1
    obtain ⟨WB, HWBe⟩ : ∃ n, Hid (n = wb.heap.size) := ⟨_, Lib.hid rfl⟩
    rw [← HWBe.out] at hown0 ⊢
    have HOW0 : Hid (W2.ownsRow (w.heap.size + 1) 9 1 (.slice (some ⟨WB, 0, none⟩) 2 2) (([[113] ++ Lib.itoa x.id, [116] ++ Lib.itoa x.tenant] ++ condWords (x.conds.take 0)).map bsOf).length ((([[113] ++ Lib.itoa x.id, [116] ++ Lib.itoa x.tenant] ++ condWords (x.conds.take 0)).map bsOf).map Value.string)) := Lib.hid (by
      rw [← hA, ← hB, cat2 [113] (Lib.itoa x.id), cat2 [116] (Lib.itoa x.tenant)] at hown0
      exact hown0)
    clear hA hB
    clear hown0 hW2 ga gb b0 b1 b2 b3 G1 l1 l3
    go_wp2_with fail
    go_loopw [3, 21] (fun sv iv wr => ∃ (k : Nat) (sa : Option Addr) (sc : Nat), k ≤ x.conds.length ∧ iv = .int .i64 k ∧ sv = .slice sa (2 + 2 * k) sc ∧ Hid (wr.ownsRow (w.heap.size + 1) 9 1 sv (([[113] ++ Lib.itoa x.id, [116] ++ Lib.itoa x.tenant] ++ condWords (x.conds.take k)).map bsOf).length ((([[113] ++ Lib.itoa x.id, [116] ++ Lib.itoa x.tenant] ++ condWords (x.conds.take k)).map bsOf).map Value.string)) ∧ wr.cell? ⟨w.heap.size, 2, none⟩ = some (.slice ua x.conds.length uc) ∧ wr.cell? ⟨w.heap.size, 3, none⟩ = some (.slice oa on oc) ∧ Gr w wr) (fun _ i _ => x.conds.length - (intOf i).toNat)
    case atStart => exact ⟨0, _, _, Nat.zero_le _, rfl, rfl, HOW0, d2, d3, G2⟩
    case round =>
      obtain ⟨k, sa, sc, hk, rfl, rfl, hown, e2, e3, hgr⟩ := hrel
      by_cases hlt : k < x.conds.length
      · obtain ⟨b, off, cs, rfl, hlen, ⟨rfl, i_field, i_low, i_high⟩, hc⟩ := HX.out k hlt
        have c0 := hgr.cellv (hc 0 (by simp))
        have c1 := hgr.cellv (hc 1 (by simp))
        have c2 := hgr.cellv (hc 2 (by simp))
        simp only [Nat.add_zero, List.getElem_cons_zero, List.getElem_cons_succ] at c0 c1 c2
        obtain ⟨s, hs⟩ : ∃ s, s = x.conds[k] := ⟨_, rfl⟩
        rw [← hs] at c0 c1 c2 i_field i_low i_high
        have I1 := Lib.hid i_field
        have I2 := Lib.hid i_low
        have I3 := Lib.hid i_high
        have HS := Lib.hid hs
        have HL := Lib.hid hlt
        have n1 := itoa_len I1.out
        have n2 := itoa_len I2.out
        have n3 := itoa_len I3.out
        have m1 : ¬ 9223372036854775807 < 1 + (Lib.itoa s.field).length := by omega
        have m2 : ¬ 9223372036854775807 < (Lib.itoa s.low).length + 2 := by omega
        have m3 : ¬ 9223372036854775807 < (Lib.itoa s.low).length + 2 + (Lib.itoa s.high).length := by omega
        have p0 : (0 : Int) ≤ (k : Int) := Int.natCast_nonneg _
        have p1 : (k : Int) < (x.conds.length : Int) := by omega
        obtain ⟨bs, HBS⟩ : ∃ bs, Hid (bs = (([[113] ++ Lib.itoa x.id, [116] ++ Lib.itoa x.tenant] ++ condWords (x.conds.take k)).map bsOf)) := ⟨_, Lib.hid rfl⟩
        have HBL : Hid (bs.length = 2 + 2 * k) := Lib.hid (by rw [HBS.out, List.length_map, List.length_append, condWords_len, List.length_take, Nat.min_eq_left hk]; rfl)
        have HOW : Hid (wr.ownsRow (w.heap.size + 1) 9 1 (.slice sa (2 + 2 * k) sc) bs.length (bs.map Value.string)) := Lib.hid (by rw [HBS.out]; exact hown.out)
        have HNN : Hid (bs.length + 2 ≤ 8796093022208) := Lib.hid (by rw [HBL.out]; have := HBC.out; omega)
        have HNE : Hid ((Value.slice sa (2 + 2 * k) sc).ownBlock ≠ some wr.heap.size) := Lib.hid fun e => by have := (hown.out.lt _ e).2; omega
        have hE : Hid ((([[113] ++ Lib.itoa x.id, [116] ++ Lib.itoa x.tenant] ++ condWords (x.conds.take (k + 1))).map bsOf) = bs ++ [bsOf ([102] ++ Lib.itoa s.field), bsOf (Lib.itoa s.low ++ [46, 46] ++ Lib.itoa s.high)]) := Lib.hid (by
          rw [condWords_snoc hlt, ← hs, HBS.out, ← List.append_assoc, List.map_append]; rfl)
        have HB1 : Hid (w.heap.size + 1 ≤ wr.heap.size) := Lib.hid (World.block_lt_of_cell? wr _ e2)
        have gbx : Gr wr (wr.alloc (.cells #[.int .i64 s.field, .int .i64 s.low, .int .i64 s.high] 57)) := (Gr.refl wr).alloc _
        clear hs i_field i_low i_high n1 n2 n3 hc hlen hk hown
        go_wp2
        have b0 : (wr.alloc (.cells #[.int .i64 s.field, .int .i64 s.low, .int .i64 s.high] 57)).cell? ⟨wr.heap.size, 0, none⟩ = some (.int .i64 s.field) := by simp [go_sem]
        have b1 : (wr.alloc (.cells #[.int .i64 s.field, .int .i64 s.low, .int .i64 s.high] 57)).cell? ⟨wr.heap.size, 1, none⟩ = some (.int .i64 s.low) := by simp [go_sem]
        have b2 : (wr.alloc (.cells #[.int .i64 s.field, .int .i64 s.low, .int .i64 s.high] 57)).cell? ⟨wr.heap.size, 2, none⟩ = some (.int .i64 s.high) := by simp [go_sem]
        have G1 : Gr w (wr.alloc (.cells #[.int .i64 s.field, .int .i64 s.low, .int .i64 s.high] 57)) := hgr.alloc _
        have HO1 := Lib.hid (ownsRow_gr HOW.out gbx)
        have f2 := gbx.cellv e2
        have f3 := gbx.cellv e3
        generalize hW1 : wr.alloc (.cells #[.int .i64 s.field, .int .i64 s.low, .int .i64 s.high] 57) = W1 at b0 b1 b2 G1 HO1 f2 f3 gbx ⊢
        have HB2 : Hid (w.heap.size + 1 ≤ W1.heap.size) := Lib.hid (Nat.le_trans HB1.out gbx.size)
        (go_region_held3 (fun w' => w'.cell? ⟨wr.heap.size, 0, none⟩ = some (.int .i64 s.field) ∧ w'.cell? ⟨wr.heap.size, 1, none⟩ = some (.int .i64 s.low) ∧ w'.cell? ⟨wr.heap.size, 2, none⟩ = some (.int .i64 s.high) ∧ Gr w w')
          (first | exact ⟨b0, b1, b2, G1⟩ | exact ⟨b0, b1, b2, G1.drew⟩ | (go_split_ands; exact ⟨Gr.cellv gc (by assumption), Gr.cellv gc (by assumption), Gr.cellv gc (by assumption), Gr.trans (by assumption) gc⟩) | (go_split_ands; exact ⟨Gr.cellv gb (by assumption), Gr.cellv gb (by assumption), Gr.cellv gb (by assumption), Gr.trans (by assumption) gb⟩) | (go_split_ands; exact ⟨Gr.cellv ga (by assumption), Gr.cellv ga (by assumption), Gr.cellv ga (by assumption), Gr.trans (by assumption) ga⟩) | (go_split_ands; exact ⟨cell_kept hk4 HNE.out (Gr.cellv ((Gr.refl W1).drew.trans (ga.trans (gb.trans gc))) b0), cell_kept hk4 HNE.out (Gr.cellv ((Gr.refl W1).drew.trans (ga.trans (gb.trans gc))) b1), cell_kept hk4 HNE.out (Gr.cellv ((Gr.refl W1).drew.trans (ga.trans (gb.trans gc))) b2), (G1.trans ((Gr.refl W1).drew.trans (ga.trans (gb.trans gc)))).trans' (Below.mono hb4 (Nat.le_succ _))⟩) | (go_split_ands; exact ⟨Gr.cellv (Gr.alloc (Gr.refl _) _) (by assumption), Gr.cellv (Gr.alloc (Gr.refl _) _) (by assumption), Gr.cellv (Gr.alloc (Gr.refl _) _) (by assumption), Gr.alloc (by assumption) _⟩) | (go_split_ands; exact ⟨Gr.cellv (Gr.alloc (Gr.refl _) _).drew (by assumption), Gr.cellv (Gr.alloc (Gr.refl _) _).drew (by assumption), Gr.cellv (Gr.alloc (Gr.refl _) _).drew (by assumption), (Gr.alloc (by assumption) _).drew⟩))
          (first | (go_at_call 31; go_split_ands; with_reducible refine (impl_FormatInt s.field _ I1.out (tab_gr HTen.out (by assumption))).mono ?_; rintro e wa ⟨rfl, ga⟩) | (go_at_call 31; go_split_ands; with_reducible refine (impl_FormatInt s.low _ I2.out (tab_gr HTen.out (by assumption))).mono ?_; rintro e wb ⟨rfl, gb⟩) | (go_at_call 31; go_split_ands; with_reducible refine (impl_FormatInt s.high _ I3.out (tab_gr HTen.out (by assumption))).mono ?_; rintro e wc ⟨rfl, gc⟩) | (refine step_push_s (wr := wc) rfl _ _ rfl bs [_, _] (by simp) rfl rfl (by first | exact Or.inl rfl | exact Or.inr rfl) (ownsRow_gr HO1.out ((Gr.refl W1).drew.trans (ga.trans (gb.trans gc)))) HNN.out (Nat.le_trans HB2.out ((Gr.refl W1).drew.trans (ga.trans (gb.trans gc))).size) ?_; intro g4 cap4 w4 hown4 hb4 hk4)))
        have h5 := hown4
        rw [cat2 [102] (Lib.itoa s.field), cat3 (Lib.itoa s.low) [46, 46] (Lib.itoa s.high)] at h5
        have HGW := Lib.hid ((G1.trans ((Gr.refl W1).drew.trans (ga.trans (gb.trans gc)))).trans' (Below.mono hb4 (Nat.le_succ _)))
        have k2 : w4.cell? ⟨w.heap.size, 2, none⟩ = some (.slice (some ⟨b, off, none⟩) x.conds.length uc) := (Below.cell hb4 (Nat.lt_succ_self _)).trans (Gr.cellv ((Gr.refl W1).drew.trans (ga.trans (gb.trans gc))) f2)
        have k3 : w4.cell? ⟨w.heap.size, 3, none⟩ = some (.slice oa on oc) := (Below.cell hb4 (Nat.lt_succ_self _)).trans (Gr.cellv ((Gr.refl W1).drew.trans (ga.trans (gb.trans gc))) f3)
        clear hown4 hk4 hb4 ga gb gc b0 b1 b2 f2 f3 hW1
        go_wp2
        go_roundw
        case rel => exact ⟨k + 1, some ⟨g4, 0, none⟩, cap4, HL.out, rfl, by rw [show bs.length + 2 = 2 + 2 * (k + 1) from by have := HBL.out; omega], Lib.hid (by rw [hE.out]; exact own_len2 h5), k2, k3, HGW.out⟩
        case measure => have := HL.out; simp only [intOf]; omega
      · obtain rfl : k = x.conds.length := by omega
        obtain ⟨bs, HBS⟩ : ∃ bs, Hid (bs = (([[113] ++ Lib.itoa x.id, [116] ++ Lib.itoa x.tenant] ++ condWords x.conds).map bsOf)) := ⟨_, Lib.hid rfl⟩
        have HBL : Hid (bs.length = 2 + 2 * x.conds.length) := Lib.hid (by rw [HBS.out, List.length_map, List.length_append, condWords_len]; rfl)
        have HOW : Hid (wr.ownsRow (w.heap.size + 1) 9 1 (.slice sa (2 + 2 * x.conds.length) sc) bs.length (bs.map Value.string)) := Lib.hid (by have h := hown.out; rw [List.take_length] at h; rw [HBS.out]; exact h)
        have HNN : Hid (bs.length + 2 ≤ 8796093022208) := Lib.hid (by rw [HBL.out]; have := HBC.out; omega)
        have HB1 : Hid (w.heap.size + 1 ≤ wr.heap.size) := Lib.hid (World.block_lt_of_cell? wr _ e2)
        have HE : Hid ((queryWords x).map bsOf = bs ++ [bsOf [111, 117, 116], bsOf (numsText x.out)]) := Lib.hid (by unfold queryWords; rw [HBS.out, List.map_append]; rfl)
        have HQL : Hid ((queryWords x).length ≤ 140737488355328) := Lib.hid (by have h := congrArg List.length HE.out; rw [List.length_map, List.length_append, HBL.out] at h; have := HBC.out; simp at h; omega)
        have HJ : Hid ((Lib.join (queryWords x) [32]).length ≤ 140737488355328) := Lib.hid (by
          rw [queryWords_join]
          have h1 := condsText_len HC64.out x.conds.length (Nat.le_refl _)
          rw [List.take_length] at h1
          have h2 := HHL.out; have h3 := HN.out; have h4 := HBO.out; have h5 := HBC.out
          simp only [List.length_append, List.length_cons, List.length_nil]
          omega)
        clear hown hlt hk
        go_wp2_with fail
        refine (impl_numbersText _ x.out _ (tab_gr HTen.out hgr) (RSlice.mono keeps_int hgr HO.out) HBO.out).mono ?_
        rintro e w3 ⟨rfl, g3⟩
        have HO3 := Lib.hid (ownsRow_gr HOW.out g3)
        go_wp2_with (at_builtin; refine push_s2 rfl _ _ rfl bs [_, _] (by simp) rfl rfl rfl HO3.out HNN.out (Nat.le_trans HB1.out g3.size) ?_; intro g4 cap4 w4 hown4 hb4)
        have HGW := Lib.hid ((hgr.trans g3).trans' (Below.mono hb4 (Nat.le_succ _)))
        have h6 : w4.ownsRow (w.heap.size + 1) 9 1 (.slice (some ⟨g4, 0, none⟩) (bs.length + 2) cap4) ((queryWords x).map bsOf).length (((queryWords x).map bsOf).map Value.string) := by rw [HE.out]; exact own_len2 hown4
        refine (join_any (ws := queryWords x) h6 [32] HQL.out HJ.out).mono ?_
        rintro e w5 ⟨rfl, g5⟩
        go_wp2_with fail
        go_ret
        exact ⟨ret_str (by rw [HR.out]), HGW.out.trans g5⟩
end Go.Proofs.YtcdcpfcmhmhdjaaGreatDoor

/- ParseInt: both walks and the law. -/
namespace Go.Proofs.YtcdcpfcmhmhdjaaGreatDoor
open Go.RowKit
/-- What ParseInt hands back. -/
def pairI (o : Option Int) : Value := match o with
  | some n => .tuple #[.int .i64 n, .bool true]
  | none => .tuple #[.int .i64 0, .bool false]
/-- The library's two errors lie in their variables. -/
abbrev ErrS (P : Program) (w : World) : Prop := ∃ tp p, w.var? P "strconv.ErrSyntax" = some #[.iface tp p]
abbrev ErrR (P : Program) (w : World) : Prop := ∃ tp p, w.var? P "strconv.ErrRange" = some #[.iface tp p]
theorem errS_gr {P : Program} {w w' : World} (h : ErrS P w) (g : Gr w w') : ErrS P w' := by obtain ⟨a, b, h⟩ := h; exact ⟨a, b, var_gr h g⟩
theorem errR_gr {P : Program} {w w' : World} (h : ErrR P w) (g : Gr w w') : ErrR P w' := by obtain ⟨a, b, h⟩ := h; exact ⟨a, b, var_gr h g⟩
theorem bytesW_gr (w : World) (e : TypeId) (t : ByteArray) : Gr w (Lib.bytesWorld w e t) := Lib.bytesWorld_below w e t
theorem ba_list (s : ByteArray) : s = ⟨s.data.toList.toArray⟩ := by cases s; simp
/-- How Atoi ends, in two. -/
theorem atoi_ok {l : List UInt8} {v : Int} (h : Lib.atoiAll l = .ok v) (hs : l.length ≤ 1048576) (w : World) : Calls Tryz.prog 69 #[.string ⟨l.toArray⟩] w fun e w' => e = .returned (.tuple #[.int .i64 v, .nilIface]) ∧ Gr w w' := by
  have hsz : (⟨l.toArray⟩ : ByteArray).size ≤ 9223372036854775806 := by simp only [ByteArray.size, List.size_toArray]; omega
  refine (Tryz.strconv_Atoi_ok ⟨l.toArray⟩ hsz v (by simpa using h) w).mono ?_
  rintro e w' ⟨rfl, h | ⟨t, h⟩⟩
  · subst h; exact ⟨rfl, Gr.refl _⟩
  · subst h; exact ⟨rfl, bytesW_gr _ _ _⟩
theorem atoi_no {l : List UInt8} (h : ∀ v, Lib.atoiAll l ≠ .ok v) (hs : l.length ≤ 1048576) (w : World) (hS : ErrS Tryz.prog w) (hR : ErrR Tryz.prog w) : Calls Tryz.prog 69 #[.string ⟨l.toArray⟩] w fun e w' => ∃ n N, e = .returned (.tuple #[.int .i64 n, .iface 121 (.pointer (some ⟨N, 0, none⟩))]) ∧ Gr w w' := by
  obtain ⟨a, b, hS⟩ := hS
  obtain ⟨a', b', hR⟩ := hR
  have hsz : (⟨l.toArray⟩ : ByteArray).size ≤ 281474976710656 := by simp only [ByteArray.size, List.size_toArray]; omega
  cases h0 : Lib.atoiAll l with
  | ok v => exact absurd h0 (h v)
  | range =>
    refine (Tryz.strconv_Atoi_range_var ⟨l.toArray⟩ hsz (by simpa using h0) a' b' w hR).mono ?_
    rintro e w' ⟨N, rfl, _, _, g⟩
    exact ⟨_, N, rfl, g⟩
  | _ =>
    refine (Any.strconv_Atoi_syntax_var Tryz.laysC172 ⟨l.toArray⟩ hsz (by simpa using h0) a b w hS).mono ?_
    rintro e w' ⟨N, rfl, _, _, g⟩
    exact ⟨_, N, rfl, g⟩
theorem parseI_ok {l : List UInt8} {v : Int} (h : Lib.atoiAll l = .ok v) (h1 : Lib.itoa v = l) (h2 : -999999999 ≤ v) (h3 : v ≤ 999999999) : parseI l = some v := by unfold parseI; rw [h]; exact if_pos ⟨h1, h2, h3⟩
theorem parseI_bad {l : List UInt8} {v : Int} (h : Lib.atoiAll l = .ok v) (h1 : ¬ (Lib.itoa v = l ∧ -999999999 ≤ v ∧ v ≤ 999999999)) : parseI l = none := by unfold parseI; rw [h]; exact if_neg h1
theorem parseI_fail {l : List UInt8} (h : ∀ v, Lib.atoiAll l ≠ .ok v) : parseI l = none := by
  unfold parseI
  split
  · rename_i n hn; exact absurd hn (h n)
  · rfl
set_option maxRecDepth 100000 in
theorem impl_ParseInt (l : List UInt8) (hs : l.length ≤ 1048576) (w : World) (hT : Tens Tryz.prog w) (hS : ErrS Tryz.prog w) (hR : ErrR Tryz.prog w) : Calls Tryz.prog 38 #[.string ⟨l.toArray⟩] w fun e w' => e = .returned (pairI (parseI l)) ∧ Gr w w' := by
  have HS := Lib.hid hs
  have HT := Lib.hid hT
  have HE := Lib.hid hS
  have HR := Lib.hid hR
  clear hs hT hS hR
  by_cases hok : ∃ v, Lib.atoiAll l = .ok v
  · obtain ⟨v, hv⟩ := hok
    have hb := Lib.atoiAll_bounds hv
    have HV := Lib.hid hv
    have HB := Lib.hid (show I64 v from hb)
    by_cases h1 : Lib.itoa v = l
    · subst h1
      by_cases h2 : -999999999 ≤ v ∧ v ≤ 999999999
      · have HF := Lib.hid (parseI_ok hv rfl h2.1 h2.2)
        obtain ⟨h2, h3⟩ := h2
        clear hv hb
        go_enter Tryz.func38, Tryz.ntmps38
        go_wp2_with fail
        refine (atoi_ok HV.out HS.out w).mono ?_
        rintro e w1 ⟨rfl, g1⟩
        go_wp2_with fail
        refine (impl_FormatInt v _ HB.out (tab_gr HT.out g1)).mono ?_
        rintro e w2 ⟨rfl, g2⟩
        go_wp2_with fail
        go_ret2
        exact ⟨by rw [HF.out]; rfl, g1.trans g2⟩
      · have HF := Lib.hid (parseI_bad hv (fun h => h2 h.2))
        have h4 : v < -999999999 ∨ 999999999 < v := by omega
        clear hv hb h2
        rcases h4 with h4 | h4
        · go_enter Tryz.func38, Tryz.ntmps38
          go_wp2_with fail
          refine (atoi_ok HV.out HS.out w).mono ?_
          rintro e w1 ⟨rfl, g1⟩
          go_wp2_with fail
          refine (impl_FormatInt v _ HB.out (tab_gr HT.out g1)).mono ?_
          rintro e w2 ⟨rfl, g2⟩
          go_wp2_with fail
          go_ret2
          exact ⟨by rw [HF.out]; rfl, g1.trans g2⟩
        · have h5 : ¬ v < -999999999 := by omega
          go_enter Tryz.func38, Tryz.ntmps38
          go_wp2_with fail
          refine (atoi_ok HV.out HS.out w).mono ?_
          rintro e w1 ⟨rfl, g1⟩
          go_wp2_with fail
          refine (impl_FormatInt v _ HB.out (tab_gr HT.out g1)).mono ?_
          rintro e w2 ⟨rfl, g2⟩
          go_wp2_with fail
          go_ret2
          exact ⟨by rw [HF.out]; rfl, g1.trans g2⟩
    · have HF := Lib.hid (parseI_bad hv (fun h => h1 h.1))
      have h4 : (Lib.itoa v == l) = false := by simpa using h1
      clear hv hb h1
      go_enter Tryz.func38, Tryz.ntmps38
      go_wp2_with fail
      refine (atoi_ok HV.out HS.out w).mono ?_
      rintro e w1 ⟨rfl, g1⟩
      go_wp2_with fail
      refine (impl_FormatInt v _ HB.out (tab_gr HT.out g1)).mono ?_
      rintro e w2 ⟨rfl, g2⟩
      go_wp2_with fail
      go_ret2
      exact ⟨by rw [HF.out]; rfl, g1.trans g2⟩
  · have HN : Hid (∀ v, Lib.atoiAll l ≠ .ok v) := Lib.hid fun v hv => hok ⟨v, hv⟩
    clear hok
    have HF := Lib.hid (parseI_fail HN.out)
    go_enter Tryz.func38, Tryz.ntmps38
    go_wp2_with fail
    refine (atoi_no HN.out HS.out w HE.out HR.out).mono ?_
    rintro e w1 ⟨n, N, rfl, g1⟩
    go_wp2_with fail
    go_ret2
    exact ⟨by rw [HF.out]; rfl, g1⟩
theorem outS {l : List UInt8} {X : Int} {C : Nat} (hX : scanI l = X) (hC : C = scanK (l.take 11)) :
    (Hid (parseI l = none) ∧ (9 : Int) < (C : Int)) ∨ (Hid (parseI l = none) ∧ ¬ (9 : Int) < (C : Int) ∧ (10 : Int) < (l.length : Int)) ∨
    (Hid (parseI l = none) ∧ ¬ (9 : Int) < (C : Int) ∧ ¬ (10 : Int) < (l.length : Int) ∧ (Lib.itoa X == l) = false) ∨ (Hid (parseI l = some X) ∧ ¬ (9 : Int) < (C : Int) ∧ ¬ (10 : Int) < (l.length : Int) ∧ (Lib.itoa X == l) = true) := by
  rw [← parseS_eq]
  unfold parseS
  rw [hX, ← hC]
  by_cases h1 : 9 < C
  · exact Or.inl ⟨Lib.hid (if_pos (Or.inl h1)), by omega⟩
  · by_cases h2 : 10 < l.length
    · exact Or.inr (Or.inl ⟨Lib.hid (if_pos (Or.inr (Or.inl h2))), by omega, by omega⟩)
    · by_cases h3 : Lib.itoa X = l
      · refine Or.inr (Or.inr (Or.inr ⟨Lib.hid (if_neg ?_), by omega, by omega, by simpa using h3⟩))
        rintro (h | h | h)
        · exact h1 h
        · exact h2 h
        · exact h h3
      · exact Or.inr (Or.inr (Or.inl ⟨Lib.hid (if_pos (Or.inr (Or.inr h3))), by omega, by omega, by simpa using h3⟩))
end Go.Proofs.YtcdcpfcmhmhdjaaGreatDoor

/- A text cut at a byte: the reference's walk, the library's contracts. -/
namespace Go.Proofs.YtcdcpfcmhmhdjaaGreatDoor
open Go.RowKit
/-- A row of strings in block g. -/
def StrsAt (w : World) (g : Nat) (ps : List (List UInt8)) : Prop := ∀ j (h : j < ps.length), w.cell? ⟨g, j, none⟩ = some (.string ⟨ps[j].toArray⟩)
theorem StrsAt.gr {w w' : World} {g : Nat} {ps : List (List UInt8)} (h : StrsAt w g ps) (k : Gr w w') : StrsAt w' g ps := fun j hj => k.cellv (h j hj)
theorem strs_of_own {w : World} {lo g n cap : Nat} {ws : List (List UInt8)} (h : w.ownsRow lo 9 1 (.slice (some ⟨g, 0, none⟩) n cap) (ws.map bsOf).length ((ws.map bsOf).map Value.string)) : StrsAt w g ws := fun j hj => by
  rcases h.2 with ⟨h0, _⟩ | ⟨b, cp, cur, hv, _, hg, hnc, hm, hcs, ht⟩
  · cases h0
  · cases hv
    have h4 : (cur.toList.take ((ws.map bsOf).length * 1))[j]? = ((ws.map bsOf).map Value.string)[j]? := by rw [ht]
    have hj' : j < (ws.map bsOf).length := by simpa using hj
    rw [List.getElem?_take, if_pos (by omega)] at h4
    have h5 : cur[j]? = some (.string ⟨ws[j].toArray⟩) := by simpa [hj] using h4
    simp [World.cell?, hg, h5]
/-- The library's bound lies in its variable. -/
abbrev MaxL (w : World) : Prop := ∃ m, w.cell? ⟨0, 0, none⟩ = some (.int .i64 m)
theorem maxL_gr {w w' : World} (h : MaxL w) (g : Gr w w') : MaxL w' := by obtain ⟨m, h⟩ := h; exact ⟨m, g.cellv h⟩
theorem impl_split (l : List UInt8) (c : UInt8) (w : World) (hM : MaxL w) (hl : l.length ≤ 1048576) : Calls Tryz.prog 34 #[.string ⟨l.toArray⟩, .string ⟨#[c]⟩] w fun e w' => ∃ g n, e = .returned (.slice (some ⟨g, 0, none⟩) (cutL c l).length n) ∧ Gr w w' ∧ Hid (StrsAt w' g (cutL c l) ∧ w.heap.size ≤ g) := by
  obtain ⟨m, hm⟩ := hM
  have hsz : (⟨l.toArray⟩ : ByteArray).size < 4294967281 := by simp only [ByteArray.size, List.size_toArray]; omega
  have hb : (Lib.splitB ⟨#[c]⟩ 0 (Lib.countB ⟨l.toArray⟩ ⟨#[c]⟩) ⟨l.toArray⟩) = (cutL c l).map bsOf := by
    have h1 := Lib.splitB_data ⟨#[c]⟩ 0 (Lib.countB ⟨l.toArray⟩ ⟨#[c]⟩) ⟨l.toArray⟩
    have h2 : Lib.splitK [c] 0 (Lib.countB ⟨l.toArray⟩ ⟨#[c]⟩) l = cutL c l := split_cut c l
    have h3 : (Lib.splitB ⟨#[c]⟩ 0 (Lib.countB ⟨l.toArray⟩ ⟨#[c]⟩) ⟨l.toArray⟩).map (·.data.toList) = cutL c l := h1.trans h2
    rw [← h3, List.map_map]
    conv => lhs; rw [← List.map_id (Lib.splitB ⟨#[c]⟩ 0 (Lib.countB ⟨l.toArray⟩ ⟨#[c]⟩) ⟨l.toArray⟩)]
    exact List.map_congr_left fun x _ => ba_list x
  have hn : Lib.countB ⟨l.toArray⟩ ⟨#[c]⟩ + 1 = (cutL c l).length := by
    have h1 := Lib.splitB_all ⟨#[c]⟩ (Nat.le_refl 1) 0 (Lib.countB ⟨l.toArray⟩ ⟨#[c]⟩) ⟨l.toArray⟩ rfl
    rw [hb, List.length_map] at h1
    exact h1.symm
  refine (Tryz.strings_Split ⟨l.toArray⟩ ⟨#[c]⟩ m w hsz hm (Nat.le_refl 1)).mono ?_
  rintro e w' ⟨rfl, rfl⟩
  rw [hn, hb]
  refine ⟨_, _, rfl, (Gr.refl w).alloc _, Lib.hid ⟨fun j hj => ?_, Nat.le_refl _⟩⟩
  have := heap_alloc_new w (.cells ((((cutL c l).map bsOf).map Value.string).toArray) 9)
  simp only [World.cell?, this]
  simp [hj]
theorem impl_cut (l : List UInt8) (c : UInt8) (w : World) (hM : MaxL w) (hl : l.length ≤ 1048576) : Calls Tryz.prog 37 #[.string ⟨l.toArray⟩, .string ⟨#[c]⟩] w fun e w' => e = .returned (.tuple #[.string ⟨(Lib.cut l [c]).1.toArray⟩, .string ⟨(Lib.cut l [c]).2.1.toArray⟩, .bool (Lib.cut l [c]).2.2]) ∧ Gr w w' := by
  obtain ⟨m, hm⟩ := hM
  have hsz : (⟨l.toArray⟩ : ByteArray).size < 4294967281 := by simp only [ByteArray.size, List.size_toArray]; omega
  refine (Tryz.strings_Cut ⟨l.toArray⟩ ⟨#[c]⟩ m w hsz hm).mono ?_
  rintro e w' ⟨rfl, n, rfl⟩
  exact ⟨rfl, (Gr.refl w).drewN n⟩
/-- append(out, n), integers: what else stands. -/
theorem push_ik {ops : Array Oper} {rest : List Oper} {o : Oper} {a : Act} {Q : Exit → Act → World → Prop} {w wr : World} (hgd : o.guard = none) (s x : Operand)
    (ho : o.op = .call { callee := .builtin .append, args := #[s, x], argTypes := #[25, 25] }) {base : Nat} {v : Value} (ns : List Int) (y : Int)
    (hs : a.eval s = v) (hx : a.eval x = .slice (some ⟨wr.heap.size, 0, none⟩) 1 1) (hw : w = wr.alloc (.cells #[.int .i64 y] 3)) (hown : wr.ownsRow base 3 1 v ns.length (ns.map (Value.int .i64)))
    (hn : ns.length + 1 ≤ 17592186044416) (hbase : base ≤ wr.heap.size)
    (h : ∀ g cap w', w'.ownsRow base 3 1 (.slice (some ⟨g, 0, none⟩) (ns.length + 1) cap) (ns.length + 1) ((ns ++ [y]).map (Value.int .i64)) → Below base wr w' → (v.ownBlock = some g ∨ g = wr.heap.size + 1) → (∀ k, k < wr.heap.size → v.ownBlock ≠ some k → w'.heap[k]? = wr.heap[k]?) → wpList Tryz.prog ops Q rest (a.put o.dst (.slice (some ⟨g, 0, none⟩) (ns.length + 1) cap)) w') :
    wpList Tryz.prog ops Q (o :: rest) a w :=
  push1 25 3 8 Tryz.underlying25 (z := .int .i64 0) (by kernel_rfl) rfl (by decide) (Value.int .i64) (fun _ => rfl) hgd s x ho ns y hs hx hw hown (by omega) hbase fun g cap w' h1 h2 h3 h4 => h g cap w' h1 h2 h3 h4
end Go.Proofs.YtcdcpfcmhmhdjaaGreatDoor

/- ParseSet: the walks. -/
namespace Go.Proofs.YtcdcpfcmhmhdjaaGreatDoor
open Go.RowKit
theorem calls_n {P : Program} {f : FuncId} {args : Array Value} {w : World} {c b : Int} {R : World → Prop} (h : Calls P f args w fun e w' => e = .returned (.int .i64 c) ∧ R w') (hb : c = b) :
    Calls P f args w fun e w' => e = .returned (.int .i64 b) ∧ R w' := hb ▸ h
theorem calls_q {P : Program} {f : FuncId} {args : Array Value} {w : World} {c b : Bool} {R : World → Prop} (h : Calls P f args w fun e w' => e = .returned (.bool c) ∧ R w') (hb : c = b) :
    Calls P f args w fun e w' => e = .returned (.bool b) ∧ R w' := hb ▸ h
theorem inB_of {x lo hi : Int} (h : inB x lo hi = true) : lo ≤ x ∧ x ≤ hi := by simpa [inB] using h
theorem cutL_len (c : UInt8) : ∀ (l : List UInt8), ∀ p ∈ cutL c l, p.length ≤ l.length
  | [], p, h => by simp [cutL] at h; subst h; exact Nat.le_refl _
  | b :: r, p, h => by
    unfold cutL at h
    split at h
    · rcases List.mem_cons.1 h with rfl | h
      · simp
      · have := cutL_len c r p h; simp; omega
    · have ih := cutL_len c r
      split at h
      · rename_i q qs hq
        rw [hq] at ih
        rcases List.mem_cons.1 h with rfl | h
        · have := ih q (by simp); simp; omega
        · have := ih p (by simp [h]); simp; omega
      · simp at h; subst h; simp
theorem cutL_count (c : UInt8) (l : List UInt8) : (cutL c l).length ≤ l.length + 1 := by
  induction l with
  | nil => simp [cutL]
  | cons b r ih =>
    by_cases h : b = c
    · subst h; rw [cutL_hit]; simp; omega
    · rw [cutL_other h]
      cases hq : cutL c r with
      | nil => exact absurd hq (cutL_ne c r)
      | cons q qs => rw [hq] at ih; simp [glue] at *; omega
theorem numV_bound (p : List UInt8) : -999999999 ≤ numV p ∧ numV p ≤ 999999999 := by
  unfold numV
  cases h : parseI p with
  | none => simp
  | some n => have := parseI_some h; exact ⟨this.2.1, this.2.2⟩
theorem specSet_none {l : List UInt8} (h : l = noneT) : specSet l = some [] := by unfold specSet; rw [if_pos h]
theorem specSet_bad {l : List UInt8} (h : l ≠ noneT) (h2 : specAll (cutL 32 l) [] = none) : specSet l = none := by unfold specSet; rw [if_neg h, h2]; rfl
theorem specSet_no {l : List UInt8} {out : List Int} (h : l ≠ noneT) (h2 : specAll (cutL 32 l) [] = some out) (h3 : setText out ≠ l) : specSet l = none := by unfold specSet; rw [if_neg h, h2]; exact if_neg h3
theorem specSet_yes {l : List UInt8} {out : List Int} (h : l ≠ noneT) (h2 : specAll (cutL 32 l) [] = some out) (h3 : setText out = l) : specSet l = some out := by unfold specSet; rw [if_neg h, h2]; exact if_pos h3
theorem implSet_none {l : List UInt8} (h : l = noneT) : implSet l = some [] := by unfold implSet; rw [if_pos h]
theorem implSet_bad {l : List UInt8} (h : l ≠ noneT) (h2 : implAll (cutL 32 l) [] = none) : implSet l = none := by unfold implSet; rw [if_neg h, h2]; rfl
theorem implSet_no {l : List UInt8} {out : List Int} (h : l ≠ noneT) (h2 : implAll (cutL 32 l) [] = some out) (h3 : setText out ≠ l) : implSet l = none := by unfold implSet; rw [if_neg h, h2]; exact if_neg h3
theorem implSet_yes {l : List UInt8} {out : List Int} (h : l ≠ noneT) (h2 : implAll (cutL 32 l) [] = some out) (h3 : setText out = l) : implSet l = some out := by unfold implSet; rw [if_neg h, h2]; exact if_pos h3
theorem specAll_go {ps : List (List UInt8)} {k : Nat} {acc : List Int} (h : k < ps.length) (hw : wOk ps[k] = true) : specAll (ps.drop k) acc = specAll (ps.drop (k + 1)) (acc ++ rng (wA ps[k]) (wB ps[k])) := by rw [List.drop_eq_getElem_cons h, specAll, if_pos hw]
theorem specAll_stop {ps : List (List UInt8)} {k : Nat} {acc : List Int} (h : k < ps.length) (hw : wOk ps[k] = false) : specAll (ps.drop k) acc = none := by rw [List.drop_eq_getElem_cons h, specAll, if_neg (by rw [hw]; simp)]
theorem rngK_zero (acc : List Int) (a : Int) : acc ++ rngK a 0 = acc := by simp [rngK]
theorem rngK_next (acc : List Int) (a : Int) (j : Nat) : acc ++ rngK a (j + 1) = (acc ++ rngK a j) ++ [a + (j : Int)] := by rw [rngK_snoc, List.append_assoc]
theorem rngK_len (a : Int) (j : Nat) : (rngK a j).length = j := by simp [rngK]
/-- The pieces in block g stand, and the row at hand is another. -/
def Pcs (w : World) (g : Nat) (P : List (List UInt8)) (v : Value) : Prop := StrsAt w g P ∧ v.ownBlock ≠ some g
theorem Pcs.gr {w w' : World} {g : Nat} {P : List (List UInt8)} {v : Value} (h : Pcs w g P v) (k : Gr w w') : Pcs w' g P v := ⟨h.1.gr k, h.2⟩
theorem Pcs.push {w w' : World} {g g' n cap : Nat} {P : List (List UInt8)} {v : Value} (h : Pcs w g P v) (hP : 0 < P.length) (h3 : v.ownBlock = some g' ∨ g' = w.heap.size + 1) (h4 : ∀ k, k < w.heap.size → v.ownBlock ≠ some k → w'.heap[k]? = w.heap[k]?) : Pcs w' g P (.slice (some ⟨g', 0, none⟩) n cap) := by
  have hlt := World.block_lt_of_cell? w _ (h.1 0 hP)
  refine ⟨fun j hj => ?_, ?_⟩
  · have hc := h.1 j hj
    rw [World.cell?_of_block (w := w) (h4 g hlt h.2)]; exact hc
  · intro e
    have e2 : g' = g := Option.some.inj e
    rcases h3 with h3 | h3
    · exact h.2 (e2 ▸ h3)
    · have : g < w.heap.size := hlt
      omega
/-- A row of one's own of numbers. -/
abbrev OwnI (w : World) (lo : Nat) (v : Value) (ns : List Int) : Prop := w.ownsRow lo 3 1 v ns.length (ns.map (Value.int .i64))
theorem own_len_i {lo : Nat} {v : Value} {w : World} {ns : List Int} {y : Int} (h : w.ownsRow lo 3 1 v (ns.length + 1) ((ns ++ [y]).map (Value.int .i64))) : OwnI w lo v (ns ++ [y]) := by
  unfold OwnI; rw [List.length_append]; exact h
theorem own_priv {w : World} {lo : Nat} {v : Value} {ns : List Int} (h : OwnI w lo v ns) (hi : ∀ x ∈ ns, I64 x) : PInts (In lo w.heap.size) w v ns := pints_of rfl ⟨h.1, h.2.imp id (fun ⟨g, cap, cur, a, _, r⟩ => ⟨g, cap, cur, a, Nat.zero_le _, r⟩)⟩ hi (fun k hk => h.lt k hk)
theorem rngK_i64 {acc : List Int} {a : Int} {j : Nat} (h : ∀ x ∈ acc, I64 x) (ha : 0 ≤ a) (h1 : a + (j : Int) ≤ 100) : ∀ x ∈ acc ++ rngK a j, I64 x := by
  intro x hx
  rcases List.mem_append.1 hx with h2 | h2
  · exact h x h2
  · obtain ⟨k, hk, rfl⟩ := List.mem_map.1 h2
    have := List.mem_range.1 hk
    unfold I64; omega
end Go.Proofs.YtcdcpfcmhmhdjaaGreatDoor

/- ParseSet: the program's walk. -/
namespace Go.Proofs.YtcdcpfcmhmhdjaaGreatDoor
open Go.RowKit
theorem iw_none {p F R : List UInt8} {IS : Bool} (h : Lib.cut p [45] = (F, R, IS)) (hf : parseI F = none) : implWord p = none := by unfold implWord; rw [h]; simp only [hf]
theorem iw_lone {p F R : List UInt8} {a : Int} (h : Lib.cut p [45] = (F, R, false)) (hf : parseI F = some a) : implWord p = some (a, a) := by unfold implWord; rw [h]; simp only [hf]; rfl
theorem iw_bad {p F R : List UInt8} {a : Int} (h : Lib.cut p [45] = (F, R, true)) (hf : parseI F = some a) (hr : parseI R = none) : implWord p = none := by unfold implWord; rw [h]; simp only [hf, hr]; rfl
theorem iw_two {p F R : List UInt8} {a b : Int} (h : Lib.cut p [45] = (F, R, true)) (hf : parseI F = some a) (hr : parseI R = some b) : implWord p = some (a, b) := by unfold implWord; rw [h]; simp only [hf, hr]; rfl
theorem implAll_go {ps : List (List UInt8)} {k : Nat} {acc : List Int} {a b : Int} (h : k < ps.length) (hw : implWord ps[k] = some (a, b)) (hc : 0 ≤ a ∧ b < 24 ∧ acc.length ≤ 24) : implAll (ps.drop k) acc = implAll (ps.drop (k + 1)) (acc ++ rng a b) := by rw [List.drop_eq_getElem_cons h, implAll, hw]; exact if_pos hc
theorem implAll_no {ps : List (List UInt8)} {k : Nat} {acc : List Int} {a b : Int} (h : k < ps.length) (hw : implWord ps[k] = some (a, b)) (hc : ¬ (0 ≤ a ∧ b < 24 ∧ acc.length ≤ 24)) : implAll (ps.drop k) acc = none := by rw [List.drop_eq_getElem_cons h, implAll, hw]; exact if_neg hc
theorem implAll_bad {ps : List (List UInt8)} {k : Nat} {acc : List Int} (h : k < ps.length) (hw : implWord ps[k] = none) : implAll (ps.drop k) acc = none := by rw [List.drop_eq_getElem_cons h, implAll, hw]
theorem cut_len (p : List UInt8) (c : UInt8) : (Lib.cut p [c]).1.length ≤ p.length ∧ (Lib.cut p [c]).2.1.length ≤ p.length := by
  rcases cut_cut c p with ⟨_, h⟩ | ⟨a, r, h, _, _, h2⟩
  · rw [h]; simp
  · rw [h2, h]; simp; omega
theorem impl_split_of (l : List UInt8) (c : UInt8) (P : List (List UInt8)) (hP : cutL c l = P) (w : World) (hM : MaxL w) (hl : l.length ≤ 1048576) : Calls Tryz.prog 34 #[.string ⟨l.toArray⟩, .string ⟨#[c]⟩] w fun e w' => ∃ g n, e = .returned (.slice (some ⟨g, 0, none⟩) P.length n) ∧ Gr w w' ∧ Hid (StrsAt w' g P ∧ w.heap.size ≤ g) := hP ▸ impl_split l c w hM hl
theorem impl_cut_of (l : List UInt8) (c : UInt8) {F R : List UInt8} {IS : Bool} (h : Lib.cut l [c] = (F, R, IS)) (w : World) (hM : MaxL w) (hl : l.length ≤ 1048576) : Calls Tryz.prog 37 #[.string ⟨l.toArray⟩, .string ⟨#[c]⟩] w fun e w' => e = .returned (.tuple #[.string ⟨F.toArray⟩, .string ⟨R.toArray⟩, .bool IS]) ∧ Gr w w' := by
  have := impl_cut l c w hM hl
  rw [h] at this; exact this
theorem impl_ParseInt_no {l : List UInt8} (h : parseI l = none) (hs : l.length ≤ 1048576) (w : World) (hT : Tens Tryz.prog w) (hS : ErrS Tryz.prog w) (hR : ErrR Tryz.prog w) : Calls Tryz.prog 38 #[.string ⟨l.toArray⟩] w fun e w' => e = .returned (.tuple #[.int .i64 0, .bool false]) ∧ Gr w w' := by
  have := impl_ParseInt l hs w hT hS hR
  rw [h] at this; exact this
theorem impl_ParseInt_yes {l : List UInt8} {n : Int} (h : parseI l = some n) (hs : l.length ≤ 1048576) (w : World) (hT : Tens Tryz.prog w) (hS : ErrS Tryz.prog w) (hR : ErrR Tryz.prog w) : Calls Tryz.prog 38 #[.string ⟨l.toArray⟩] w fun e w' => e = .returned (.tuple #[.int .i64 n, .bool true]) ∧ Gr w w' := by
  have := impl_ParseInt l hs w hT hS hR
  rw [h] at this; exact this
end Go.Proofs.YtcdcpfcmhmhdjaaGreatDoor

/- ParseRow: the program's walk. -/
namespace Go.Proofs.YtcdcpfcmhmhdjaaGreatDoor
open Go.RowKit
theorem parseAll_go {ps : List (List UInt8)} {k : Nat} {n : Int} (h : k < ps.length) (hn : parseI ps[k] = some n) : parseAll (ps.drop k) = (parseAll (ps.drop (k + 1))).map (n :: ·) := by
  rw [List.drop_eq_getElem_cons h, parseAll, hn]
  cases parseAll (ps.drop (k + 1)) <;> rfl
theorem parseAll_stop {ps : List (List UInt8)} {k : Nat} (h : k < ps.length) (hn : parseI ps[k] = none) : parseAll (ps.drop k) = none := by rw [List.drop_eq_getElem_cons h, parseAll, hn]
theorem implRow_id {l F R : List UInt8} {IS : Bool} (h : Lib.cut l [58] = (F, R, IS)) (hf : parseI F = none) : implRow l = none := by unfold implRow; rw [h]; simp only [hf]
theorem implRow_vals {l F R : List UInt8} {IS : Bool} (h : Lib.cut l [58] = (F, R, IS)) (hr : parseAll (cutL 44 R) = none) : implRow l = none := by
  unfold implRow; rw [h]; simp only [hr]
  cases parseI F <;> rfl
theorem implRow_no {l F R : List UInt8} {IS : Bool} {i : Int} {vs : List Int} (h : Lib.cut l [58] = (F, R, IS)) (hf : parseI F = some i) (hr : parseAll (cutL 44 R) = some vs) (hc : ¬ (isRowB ⟨i, vs⟩ = true ∧ rowText ⟨i, vs⟩ = l)) : implRow l = none := by
  unfold implRow; rw [h]; simp only [hf, hr]; exact if_neg hc
theorem implRow_yes {l F R : List UInt8} {IS : Bool} {i : Int} {vs : List Int} (h : Lib.cut l [58] = (F, R, IS)) (hf : parseI F = some i) (hr : parseAll (cutL 44 R) = some vs) (hc : isRowB ⟨i, vs⟩ = true ∧ rowText ⟨i, vs⟩ = l) : implRow l = some ⟨i, vs⟩ := by
  unfold implRow; rw [h]; simp only [hf, hr]; exact if_pos hc
theorem opt_map_map {acc : List Int} {n : Int} (o : Option (List Int)) : (o.map (n :: ·)).map (acc ++ ·) = o.map ((acc ++ [n]) ++ ·) := by cases o <;> simp
set_option maxRecDepth 100000 in
set_option maxHeartbeats 3000000 in
theorem impl_parseNumbers (l : List UInt8) (w : World) (hl : l.length ≤ 1048576) (hT : Tens Tryz.prog w) (hS : ErrS Tryz.prog w) (hR : ErrR Tryz.prog w) (hM : MaxL w) : Calls Tryz.prog 36 #[.string ⟨l.toArray⟩] w fun e w' => ∃ r, e = .returned (.tuple #[r, .bool (parseAll (cutL 44 l)).isSome]) ∧ Gr w w' ∧ PInts (In w.heap.size w'.heap.size) w' r ((parseAll (cutL 44 l)).getD []) := by
  have HL := Lib.hid hl
  have HT := Lib.hid hT
  have HES := Lib.hid hS
  have HER := Lib.hid hR
  have HM := Lib.hid hM
  have hown0 := own_empty w 3 1 w.heap.size (Nat.le_refl _)
  have g0 : Gr w (w.alloc (.cells #[] 3)) := (Gr.refl w).alloc _
  clear hl hT hS hR hM
  obtain ⟨P, HP⟩ : ∃ P, Hid (P = cutL 44 l) := ⟨_, Lib.hid rfl⟩
  go_enter Tryz.func36, Tryz.ntmps36
  go_wp2_with fail
  refine (impl_split_of l 44 P HP.out.symm _ (maxL_gr HM.out g0) HL.out).mono ?_
  rintro e w1 ⟨g, n, rfl, g1, HSt⟩
  have G1 : Gr w w1 := g0.trans g1
  have hown1 := ownsRow_gr hown0 g1
  have HPL : Hid (P.length ≤ 1048577) := Lib.hid (by rw [HP.out]; have := cutL_count 44 l; have := HL.out; omega)
  have HPC0 : Hid (Pcs w1 g P (.slice (some ⟨w.heap.size, 0, none⟩) 0 0)) := Lib.hid ⟨HSt.out.1, fun e => by have h1 := HSt.out.2; have h2 : w.heap.size = g := Option.some.inj e; simp at h1; omega⟩
  have HP0 : Hid (0 < P.length) := Lib.hid (by rw [HP.out]; exact List.length_pos_iff.2 (cutL_ne 44 l))
  clear hown0 g0
  go_wp2_with fail
  go_loopw [4, 13] (fun ov iv wr => ∃ (k : Nat) (acc : List Int) (sa : Option Addr) (sc : Nat), k ≤ P.length ∧ iv = .int .i64 k ∧ ov = .slice sa acc.length sc ∧ OwnI wr w.heap.size ov acc ∧ Hid (parseAll P = (parseAll (P.drop k)).map (acc ++ ·) ∧ acc.length ≤ k ∧ ∀ x ∈ acc, I64 x) ∧ Hid (Pcs wr g P ov) ∧ Gr w wr) (fun _ i _ => P.length - (intOf i).toNat)
  case atStart => exact ⟨0, [], _, _, Nat.zero_le _, rfl, rfl, hown1, Lib.hid ⟨by rw [List.drop_zero]; cases parseAll P <;> simp, by simp, by simp⟩, HPC0, G1⟩
  case round =>
    obtain ⟨k, acc, sa, sc, hk, rfl, rfl, hown, hst, hpc, hg⟩ := hrel
    by_cases hlt : k < P.length
    · have HLT := Lib.hid hlt
      have HGO : Hid (∀ n, parseI P[k] = some n → parseAll (P.drop k) = (parseAll (P.drop (k + 1))).map (n :: ·)) := Lib.hid (fun n h => parseAll_go hlt h)
      have HBAD : Hid (parseI P[k] = none → parseAll (P.drop k) = none) := Lib.hid (fun h => parseAll_stop hlt h)
      have c0 : wr.cell? ⟨g, k, none⟩ = some (.string ⟨P[k].toArray⟩) := hpc.out.1 k hlt
      have HpM : Hid (P[k] ∈ P) := Lib.hid (List.getElem_mem hlt)
      generalize P[k] = p at HGO HBAD c0 HpM
      have HpL : Hid (p.length ≤ 1048576) := Lib.hid (by
        have h2 : p ∈ cutL 44 l := by rw [← HP.out]; exact HpM.out
        have := cutL_len 44 l p h2; have := HL.out; omega)
      have i0 : (0 : Int) ≤ (k : Int) := Int.natCast_nonneg _
      have i1 : (k : Int) < (P.length : Int) := by omega
      have i2 : (P.length : Int) ≤ 1048577 := by have := HPL.out; omega
      have HOW := Lib.hid hown
      clear hk hown
      cases hp : parseI p with
      | none =>
        have HF := Lib.hid hp
        have HB : Hid (parseAll (cutL 44 l) = none) := Lib.hid (by rw [← HP.out, hst.out.1, HBAD.out hp]; rfl)
        clear hp
        go_wp2_with fail
        refine (impl_ParseInt_no HF.out HpL.out _ (tab_gr HT.out hg) (errS_gr HES.out hg) (errR_gr HER.out hg)).mono ?_
        rintro e w3 ⟨rfl, gr3⟩
        go_wp2_with fail
        go_ret2
        exact ⟨_, by rw [HB.out]; rfl, hg.trans gr3, by rw [HB.out]; exact OSl.nil _⟩
      | some y =>
        have HF := Lib.hid hp
        have HY : Hid (I64 y) := Lib.hid (by have := parseI_some hp; unfold I64; omega)
        have HN2 : Hid (acc.length + 1 ≤ 17592186044416) := Lib.hid (by have := hst.out.2.1; have := HPL.out; omega)
        have hst2 : Hid (parseAll P = (parseAll (P.drop (k + 1))).map ((acc ++ [y]) ++ ·) ∧ (acc ++ [y]).length ≤ k + 1 ∧ ∀ x ∈ acc ++ [y], I64 x) := Lib.hid ⟨by rw [hst.out.1, HGO.out y hp, opt_map_map], by have := hst.out.2.1; simp; omega, fun x hx => by
          rcases List.mem_append.1 hx with h | h
          · exact hst.out.2.2 x h
          · rw [List.mem_singleton.1 h]; exact HY.out⟩
        clear hp
        go_wp2_with fail
        refine (impl_ParseInt_yes HF.out HpL.out _ (tab_gr HT.out hg) (errS_gr HES.out hg) (errR_gr HER.out hg)).mono ?_
        rintro e w3 ⟨rfl, gr3⟩
        have HG3 := Lib.hid (hg.trans gr3)
        have HO3 := Lib.hid (ownsRow_gr HOW.out gr3)
        have HPC3 := Lib.hid (hpc.out.gr gr3)
        go_wp2_with (at_builtin; refine push_ik rfl _ _ rfl acc y rfl rfl rfl HO3.out HN2.out HG3.out.size ?_; intro g6 cap6 w6 hown6 hb6 hc6 hd6)
        have HPC6 : Hid (Pcs w6 g P (.slice (some ⟨g6, 0, none⟩) (acc.length + 1) cap6)) := Lib.hid (HPC3.out.push HP0.out hc6 hd6)
        clear hc6 hd6
        go_roundw
        case rel => exact ⟨k + 1, acc ++ [y], some ⟨g6, 0, none⟩, cap6, HLT.out, by go_num, by simp, own_len_i hown6, hst2, HPC6, HG3.out.trans' hb6⟩
        case measure => have := HLT.out; simp only [intOf]; omega
    · obtain rfl : k = P.length := by omega
      have HE : Hid (parseAll (cutL 44 l) = some acc) := Lib.hid (by rw [← HP.out, hst.out.1, List.drop_length]; simp [parseAll])
      have HR := Lib.hid (own_priv hown hst.out.2.2)
      clear hlt hk hown
      go_wp2_with fail
      go_ret2
      exact ⟨_, by rw [HE.out]; rfl, hg, by rw [HE.out]; exact HR.out⟩
end Go.Proofs.YtcdcpfcmhmhdjaaGreatDoor

/- ParseQuery: small contracts. -/
namespace Go.Proofs.YtcdcpfcmhmhdjaaGreatDoor
open Go.RowKit
theorem aftS_no {c : UInt8} {p : List UInt8} (h : p.length < 2 ∨ p.head? ≠ some c) : aftS c p = -100000 := by unfold aftS; exact if_pos h
theorem aftS_yes {c : UInt8} {p : List UInt8} (h : ¬ (p.length < 2 ∨ p.head? ≠ some c)) : aftS c p = numV (p.drop 1) := by unfold aftS; exact if_neg h
theorem ext_tail (p : List UInt8) (i : Nat) : ({ data := p.toArray } : ByteArray).extract i p.length = ⟨(p.drop i).toArray⟩ := by
  rw [ba_list (({ data := p.toArray } : ByteArray).extract i p.length), Lib.extract_data]
  congr 2
  exact List.take_of_length_le (by simp)
theorem ext_head (p : List UInt8) (i : Nat) : ({ data := p.toArray } : ByteArray).extract 0 i = ⟨(p.take i).toArray⟩ := by
  rw [ba_list (({ data := p.toArray } : ByteArray).extract 0 i), Lib.extract_data]
  simp
theorem ext_two (p : List UInt8) (i : Nat) : ({ data := p.toArray } : ByteArray).extract i (i + 2) = ⟨((p.drop i).take 2).toArray⟩ := by
  rw [ba_list (({ data := p.toArray } : ByteArray).extract i (i + 2)), Lib.extract_data]
  simp [show i + 2 - i = 2 from by omega]
def noDots (p : List UInt8) (i : Nat) : Prop := ∀ j, j < i → Lib.occAt p [46, 46] j = false
theorem rngS_hit {p : List UInt8} {i : Nat} (hi : i + 1 < p.length) (h : (p.drop i).take 2 = [46, 46]) (hn : noDots p i) : rngS p = (numV (p.take i), numV (p.drop (i + 2))) := by
  have ho : Lib.occAt p [46, 46] i = true := by rw [Lib.occAt_iff_take p [46, 46] i (by simp; omega)]; simp [h]
  have hx := Lib.index_first (by omega) ho hn
  have hc : Lib.cut p [46, 46] = (p.take i, p.drop (i + 2), true) := by
    unfold Lib.cut; rw [hx, if_pos (Int.natCast_nonneg _)]; simp
  unfold rngS; rw [hc]; rfl
theorem rngS_none {p : List UInt8} {i : Nat} (hi : ¬ i + 1 < p.length) (hn : noDots p i) : rngS p = (-100000, -100000) := by
  have hx : Lib.index p [46, 46] = -1 := Lib.index_none (fun j hj => by
    by_cases h : j < i
    · exact hn j h
    · cases ho : Lib.occAt p [46, 46] j with
      | false => rfl
      | true =>
        rcases Lib.occAt_room ho with h2 | h2
        · simp at h2; omega
        · simp at h2)
  have hc : Lib.cut p [46, 46] = (p, [], false) := by unfold Lib.cut; rw [hx]; rfl
  unfold rngS; rw [hc]; rfl
theorem noDots_next {p : List UInt8} {i : Nat} (hi : i + 1 < p.length) (h : (p.drop i).take 2 ≠ [46, 46]) (hn : noDots p i) : noDots p (i + 1) := fun j hj => by
  by_cases h1 : j < i
  · exact hn j h1
  · obtain rfl : j = i := by omega
    rw [Lib.occAt_iff_take p [46, 46] j (by simp; omega)]
    simpa using h
set_option maxRecDepth 100000 in
theorem impl_parseAfter (p : List UInt8) (c : UInt8) (hp : p.length ≤ 1048576) (w : World) (hT : Tens Tryz.prog w) (hS : ErrS Tryz.prog w) (hR : ErrR Tryz.prog w) : Calls Tryz.prog 35 #[.string ⟨p.toArray⟩, .string ⟨#[c]⟩] w fun e w' => e = .returned (.tuple #[.int .i64 (aV c p), .bool (aB c p)]) ∧ Gr w w' := by
  have HL := Lib.hid hp
  have HT := Lib.hid hT
  have HES := Lib.hid hS
  have HER := Lib.hid hR
  clear hp hT hS hR
  obtain ⟨r, HRr⟩ : ∃ r, Hid (Lib.trimPrefix p [c] = r) := ⟨_, Lib.hid rfl⟩
  have HLr : Hid (r.length ≤ 1048576) := Lib.hid (by rw [← HRr.out]; unfold Lib.trimPrefix; split; (rw [List.length_drop]; have := HL.out; omega); exact HL.out)
  have hcp : Calls Tryz.prog 67 #[.string ⟨p.toArray⟩, .string ⟨#[c]⟩] w fun e w' => e = .returned (.tuple #[.string ⟨r.toArray⟩, .bool (Lib.hasPrefix p [c])]) ∧ w' = w := by
    rw [← HRr.out]; exact Tryz.strings_CutPrefix ⟨p.toArray⟩ ⟨#[c]⟩ w
  have HCP := Lib.hid hcp
  clear hcp
  cases hpre : Lib.hasPrefix p [c] with
  | false =>
    have HPR := Lib.hid hpre
    clear hpre
    cases hq : parseI r with
    | none =>
      have HQ := Lib.hid hq
      have HV : Hid (aV c p = 0 ∧ aB c p = false) := Lib.hid (by unfold aV aB pV pB; rw [HRr.out, hq, HPR.out]; exact ⟨rfl, rfl⟩)
      clear hq
      go_enter Tryz.func35, Tryz.ntmps35
      go_wp2_with fail
      refine (Calls.mono HCP.out fun e w' h => by rw [HPR.out] at h; exact h).mono ?_
      rintro e w1 ⟨rfl, rfl⟩
      go_wp2_with fail
      refine (impl_ParseInt_no HQ.out HLr.out _ HT.out HES.out HER.out).mono ?_
      rintro e w2 ⟨rfl, g2⟩
      go_wp2_with fail
      go_ret2
      exact ⟨by rw [HV.out.1, HV.out.2]; rfl, g2⟩
    | some n =>
      have HQ := Lib.hid hq
      have HV : Hid (aV c p = n ∧ aB c p = false) := Lib.hid (by unfold aV aB pV pB; rw [HRr.out, hq, HPR.out]; exact ⟨rfl, rfl⟩)
      clear hq
      go_enter Tryz.func35, Tryz.ntmps35
      go_wp2_with fail
      refine (Calls.mono HCP.out fun e w' h => by rw [HPR.out] at h; exact h).mono ?_
      rintro e w1 ⟨rfl, rfl⟩
      go_wp2_with fail
      refine (impl_ParseInt_yes HQ.out HLr.out _ HT.out HES.out HER.out).mono ?_
      rintro e w2 ⟨rfl, g2⟩
      go_wp2_with fail
      go_ret2
      exact ⟨by rw [HV.out.1, HV.out.2]; rfl, g2⟩
  | true =>
    have HPR := Lib.hid hpre
    clear hpre
    cases hq : parseI r with
    | none =>
      have HQ := Lib.hid hq
      have HV : Hid (aV c p = 0 ∧ aB c p = false) := Lib.hid (by unfold aV aB pV pB; rw [HRr.out, hq, HPR.out]; exact ⟨rfl, rfl⟩)
      clear hq
      go_enter Tryz.func35, Tryz.ntmps35
      go_wp2_with fail
      refine (Calls.mono HCP.out fun e w' h => by rw [HPR.out] at h; exact h).mono ?_
      rintro e w1 ⟨rfl, rfl⟩
      go_wp2_with fail
      refine (impl_ParseInt_no HQ.out HLr.out _ HT.out HES.out HER.out).mono ?_
      rintro e w2 ⟨rfl, g2⟩
      go_wp2_with fail
      go_ret2
      exact ⟨by rw [HV.out.1, HV.out.2]; rfl, g2⟩
    | some n =>
      have HQ := Lib.hid hq
      have HV : Hid (aV c p = n ∧ aB c p = true) := Lib.hid (by unfold aV aB pV pB; rw [HRr.out, hq, HPR.out]; exact ⟨rfl, rfl⟩)
      clear hq
      go_enter Tryz.func35, Tryz.ntmps35
      go_wp2_with fail
      refine (Calls.mono HCP.out fun e w' h => by rw [HPR.out] at h; exact h).mono ?_
      rintro e w1 ⟨rfl, rfl⟩
      go_wp2_with fail
      refine (impl_ParseInt_yes HQ.out HLr.out _ HT.out HES.out HER.out).mono ?_
      rintro e w2 ⟨rfl, g2⟩
      go_wp2_with fail
      go_ret2
      exact ⟨by rw [HV.out.1, HV.out.2]; rfl, g2⟩
theorem impl_pInt (l : List UInt8) (hs : l.length ≤ 1048576) (w : World) (hT : Tens Tryz.prog w) (hS : ErrS Tryz.prog w) (hR : ErrR Tryz.prog w) : Calls Tryz.prog 38 #[.string ⟨l.toArray⟩] w fun e w' => e = .returned (.tuple #[.int .i64 (pV l), .bool (pB l)]) ∧ Gr w w' := by
  unfold pV pB
  cases h : parseI l with
  | none => exact impl_ParseInt_no h hs w hT hS hR
  | some n => exact impl_ParseInt_yes h hs w hT hS hR
theorem impl_dots (l : List UInt8) (w : World) (hM : MaxL w) (hl : l.length ≤ 1048576) : Calls Tryz.prog 37 #[.string ⟨l.toArray⟩, .string ⟨#[46, 46]⟩] w fun e w' => e = .returned (.tuple #[.string ⟨(Lib.cut l [46, 46]).1.toArray⟩, .string ⟨(Lib.cut l [46, 46]).2.1.toArray⟩, .bool (Lib.cut l [46, 46]).2.2]) ∧ Gr w w' := by
  obtain ⟨m, hm⟩ := hM
  have hsz : (⟨l.toArray⟩ : ByteArray).size < 4294967281 := by simp only [ByteArray.size, List.size_toArray]; omega
  refine (Tryz.strings_Cut ⟨l.toArray⟩ ⟨#[46, 46]⟩ m w hsz hm).mono ?_
  rintro e w' ⟨rfl, n, rfl⟩
  exact ⟨rfl, (Gr.refl w).drewN n⟩
end Go.Proofs.YtcdcpfcmhmhdjaaGreatDoor
