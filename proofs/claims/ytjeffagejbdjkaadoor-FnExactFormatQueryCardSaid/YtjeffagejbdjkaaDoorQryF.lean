/- FormatQuery: the walks. -/
import Derived.Test.YtjeffagejbdjkaaDoorQryP
import Derived.Test.YtjeffagejbdjkaaDoorSpanI
import Derived.Test.YtjeffagejbdjkaaDoorLawK
import Derived.Test.YtjeffagejbdjkaaDoorExt
namespace Go.Proofs.YtjeffagejbdjkaaDoor
open Go.RowKit
set_option maxRecDepth 100000 in
set_option maxHeartbeats 2000000 in
theorem spec_FormatQuery (x : DQuery) (u u' : Value) (w : World) (hu : RConds w u x.conds) (hu' : RInts w u' x.out) (hb : totQuery x ≤ 1048576) (hi : I64 x.id ∧ I64 x.tenant) :
    Calls Tryd.prog 29 #[.agg #[.int .i64 x.id, .int .i64 x.tenant, u, u']] w fun e w' => e = .returned (.string ⟨(queryText x).toArray⟩) ∧ Gr w w' := by
  have HU := Lib.hid hu
  have HO := Lib.hid hu'
  have HI := Lib.hid hi.1
  have HT := Lib.hid hi.2
  have HBO : Hid (x.out.length ≤ 1048576) := Lib.hid (by unfold totQuery at hb; omega)
  have HBC : Hid (x.conds.length ≤ 1048576) := Lib.hid (by unfold totQuery at hb; omega)
  have HN : Hid ((numsText x.out).length ≤ 22 * x.out.length) := Lib.hid (numsText_len (fun i h => by obtain ⟨a, c, _, _, _, hx⟩ := hu'.open; obtain ⟨_, _, _, _, h⟩ := hx i h; exact h))
  have HC64 : Hid (∀ i (h : i < x.conds.length), I64 x.conds[i].field ∧ I64 x.conds[i].low ∧ I64 x.conds[i].high) := Lib.hid (fun i h => by
    obtain ⟨_, _, _, _, _, hx⟩ := hu
    obtain ⟨_, _, _, _, _, ⟨_, h1, h2, h3⟩, _⟩ := hx i h
    exact ⟨h1, h2, h3⟩)
  obtain ⟨ua, uc, rfl, hl, hm, hx⟩ := hu
  obtain ⟨oa, on, oc, rfl⟩ := hu'.isSl
  have g0 : Gr w (w.alloc (.cells #[.int .i64 x.id, .int .i64 x.tenant, .slice ua x.conds.length uc, .slice oa on oc] 51)) := (Gr.refl w).alloc _
  have HX := Lib.hid hx
  clear hi hb hu' hx
  cases h1 : isQueryB x with
  | false =>
    have H1 := Lib.hid h1
    have HR := Lib.hid (queryText_no h1)
    clear h1
    go_enter Tryd.func29, Tryd.ntmps29
    go_wp2_with fail
    refine (spec_IsQuery_of H1.out _ _ _ (RSlice.mono keeps_cond g0 HU.out) (RSlice.mono keeps_int g0 HO.out)).mono ?_
    rintro e w1 ⟨rfl, g1⟩
    go_wp2_with fail
    go_ret
    exact ⟨ret_str (by rw [HR.out]), g0.trans g1⟩
  | true =>
    have H1 := Lib.hid h1
    have HR := Lib.hid (queryText_yes h1)
    clear h1
    go_enter Tryd.func29, Tryd.ntmps29
    go_wp2_with fail
    refine (spec_IsQuery_of H1.out _ _ _ (RSlice.mono keeps_cond g0 HU.out) (RSlice.mono keeps_int g0 HO.out)).mono ?_
    rintro e w1 ⟨rfl, g1⟩
    have b0 : w1.cell? ⟨w.heap.size, 0, none⟩ = some (.int .i64 x.id) := g1.cellv (by simp [go_sem])
    have b1 : w1.cell? ⟨w.heap.size, 1, none⟩ = some (.int .i64 x.tenant) := g1.cellv (by simp [go_sem])
    have b2 : w1.cell? ⟨w.heap.size, 2, none⟩ = some (.slice ua x.conds.length uc) := g1.cellv (by simp [go_sem])
    have b3 : w1.cell? ⟨w.heap.size, 3, none⟩ = some (.slice oa on oc) := g1.cellv (by simp [go_sem])
    have n1 := itoa_len HI.out
    have n2 := itoa_len HT.out
    have l1 : ¬ 9223372036854775807 < 1 + (Lib.itoa x.id).length := by omega
    have l2 : ¬ 9223372036854775807 < 1 + (Lib.itoa x.id).length + 2 := by omega
    have l3 : ¬ 9223372036854775807 < 1 + (Lib.itoa x.id).length + 2 + (Lib.itoa x.tenant).length := by omega
    have HHL : Hid ((headText x).length ≤ 45) := Lib.hid (by unfold headText; simp only [List.length_append, List.length_cons, List.length_nil]; omega)
    clear n1 n2
    have G1 := Lib.hid (g0.trans g1)
    clear g0 g1
    go_wp2_with fail
    have q0 := fun q : Ext w1 => Ext.cell b0 q
    have q1 := fun q : Ext w1 => Ext.cell b1 q
    refine wp_region_ext (by kernel_rfl) (by kernel_rfl) ?_
    repeat (go_big_quiet_step ((go_at_call 12; first | with_reducible exact quiet_ext (spec_FormatInt x.id _ HI.out) | with_reducible exact quiet_ext (spec_FormatInt x.tenant _ HT.out))))
    refine wpQuiet_nil ?_
    intro w2 hw2
    have g2 := Ext.out hw2
    clear hw2 q0 q1 l1 l2 l3
    have d2 := g2.cellv b2
    have d3 := g2.cellv b3
    have G2 := Lib.hid (G1.out.trans g2)
    clear b0 b1 b2 b3 g2
    go_wp2_with fail
    go_loopw [3, 4] (fun sv iv wr => ∃ (k : Nat) (S : List UInt8), k ≤ x.conds.length ∧ iv = .int .i64 k ∧ sv = .string ⟨S.toArray⟩ ∧ Hid (S = headText x ++ condsText (x.conds.take k)) ∧ Gr w2 wr) (fun _ i _ => x.conds.length - (intOf i).toNat)
    case atStart => exact ⟨0, _, Nat.zero_le _, rfl, congrArg Value.string (cat4 [113] _ [32, 116] _), Lib.hid (by unfold headText condsText; simp), Gr.refl _⟩
    case round =>
      obtain ⟨k, S, hk, rfl, rfl, hst, hg⟩ := hrel
      have hgr := Lib.hid (G2.out.trans hg)
      have e2 := hg.cellv d2
      have e3 := hg.cellv d3
      have n5 : S.length ≤ 45 + 68 * k := by
        have h1 := condsText_len HC64.out k hk
        have h2 := HHL.out
        rw [hst.out, List.length_append]; omega
      by_cases hlt : k < x.conds.length
      · obtain ⟨b, off, cs, rfl, hlen, ⟨rfl, i_field, i_low, i_high⟩, hc⟩ := HX.out k hlt
        have c0 := hgr.out.cellv (hc 0 (by simp))
        have c1 := hgr.out.cellv (hc 1 (by simp))
        have c2 := hgr.out.cellv (hc 2 (by simp))
        simp only [Nat.add_zero, List.getElem_cons_zero, List.getElem_cons_succ] at c0 c1 c2
        obtain ⟨s, hs⟩ : ∃ s, s = x.conds[k] := ⟨_, rfl⟩
        rw [← hs] at c0 c1 c2 i_field i_low i_high
        have I1 := Lib.hid i_field
        have I2 := Lib.hid i_low
        have I3 := Lib.hid i_high
        have HS := Lib.hid hs
        have HL := Lib.hid hlt
        have n1 := itoa_len I1.out
        have n2 := itoa_len I2.out
        have n3 := itoa_len I3.out
        have n6 : S.length ≤ 71303213 := by have := HBC.out; omega
        have m1 : ¬ 9223372036854775807 < S.length + 2 := by omega
        have m2 : ¬ 9223372036854775807 < S.length + 2 + (Lib.itoa s.field).length := by omega
        have m3 : ¬ 9223372036854775807 < S.length + 2 + (Lib.itoa s.field).length + 1 := by omega
        have m4 : ¬ 9223372036854775807 < S.length + 2 + (Lib.itoa s.field).length + 1 + (Lib.itoa s.low).length := by omega
        have m5 : ¬ 9223372036854775807 < S.length + 2 + (Lib.itoa s.field).length + 1 + (Lib.itoa s.low).length + 2 := by omega
        have m6 : ¬ 9223372036854775807 < S.length + 2 + (Lib.itoa s.field).length + 1 + (Lib.itoa s.low).length + 2 + (Lib.itoa s.high).length := by omega
        have p0 : (0 : Int) ≤ (k : Int) := Int.natCast_nonneg _
        have p1 : (k : Int) < (x.conds.length : Int) := by omega
        have hnx : Hid (S ++ ([32, 102] ++ Lib.itoa s.field ++ [32] ++ Lib.itoa s.low ++ [46, 46] ++ Lib.itoa s.high) = headText x ++ condsText (x.conds.take (k + 1))) := Lib.hid (by
          rw [condsText_snoc hlt, hst.out, hs]; unfold condWord; simp)
        clear hs i_field i_low i_high n1 n2 n3 n5 n6 hc hlen hk
        go_wp2_with fail
        have q2 := fun q : Ext wr => Ext.cell e2 q
        have r0 := fun q : Ext wr => Ext.cell c0 q
        have r1 := fun q : Ext wr => Ext.cell c1 q
        have r2 := fun q : Ext wr => Ext.cell c2 q
        refine wp_region_ext (by kernel_rfl) (by kernel_rfl) ?_
        repeat (go_big_quiet_step ((go_at_call 12; first | with_reducible exact quiet_ext (spec_FormatInt s.field _ I1.out) | with_reducible exact quiet_ext (spec_FormatInt s.low _ I2.out) | with_reducible exact quiet_ext (spec_FormatInt s.high _ I3.out))))
        refine wpQuiet_nil ?_
        intro w3 hw3
        have g3 := Ext.out hw3
        clear hw3 q2 r0 r1 r2
        go_wp2_with fail
        go_roundw
        case rel => exact ⟨k + 1, _, HL.out, rfl, congrArg Value.string (cat7 S [32, 102] _ [32] _ [46, 46] _), Lib.hid (by have h := hnx.out; simpa using h), hg.trans g3⟩
        case measure => have := HL.out; simp only [intOf]; omega
      · obtain rfl : k = x.conds.length := by omega
        have n6 : S.length ≤ 71303213 := by have := HBC.out; omega
        have n7 : (numsText x.out).length ≤ 23068672 := by have := HN.out; have := HBO.out; omega
        have m1 : ¬ 9223372036854775807 < S.length + 5 := by omega
        have m2 : ¬ 9223372036854775807 < S.length + 5 + (numsText x.out).length := by omega
        have HE : Hid (queryText x = S ++ [32, 111, 117, 116, 32] ++ numsText x.out) := Lib.hid (by rw [HR.out, hst.out, List.take_length])
        clear n5 n6 n7 hlt hk
        go_wp2_with fail
        refine (spec_l3List _ x.out _ (RSlice.mono keeps_int hgr.out HO.out) HBO.out).mono ?_
        rintro e w3 ⟨rfl, g3⟩
        go_wp2_with fail
        go_ret
        exact ⟨ret_str (by rw [HE.out]; exact cat3 S [32, 111, 117, 116, 32] _), hgr.out.trans g3⟩
end Go.Proofs.YtjeffagejbdjkaaDoor
