/- FormatSpans: the walks. -/
import Derived.Test.YtcdcpfcmhmhdjaaDoorSpanP
import Derived.Test.YtcdcpfcmhmhdjaaDoorExt
import Derived.Test.YtcdcpfcmhmhdjaaDoorSc
import Derived.Test.YtcdcpfcmhmhdjaaDoorGenSpan
namespace Go.Proofs.YtcdcpfcmhmhdjaaDoor
open Go.RowKit
theorem calls_str {P : Program} {f : FuncId} {args : Array Value} {w : World} {c b : List UInt8} {R : World → Prop} (h : Calls P f args w fun e w' => e = .returned (.string ⟨c.toArray⟩) ∧ R w') (hb : c = b) :
    Calls P f args w fun e w' => e = .returned (.string ⟨b.toArray⟩) ∧ R w' := hb ▸ h
theorem cat6 (a b c d e f : List UInt8) : (⟨a.toArray⟩ : ByteArray) ++ ⟨b.toArray⟩ ++ ⟨c.toArray⟩ ++ ⟨d.toArray⟩ ++ ⟨e.toArray⟩ ++ ⟨f.toArray⟩ = ⟨(a ++ b ++ c ++ d ++ e ++ f).toArray⟩ := by rw [cat5, ba_append]
theorem cat7 (a b c d e f g : List UInt8) : (⟨a.toArray⟩ : ByteArray) ++ ⟨b.toArray⟩ ++ ⟨c.toArray⟩ ++ ⟨d.toArray⟩ ++ ⟨e.toArray⟩ ++ ⟨f.toArray⟩ ++ ⟨g.toArray⟩ = ⟨(a ++ b ++ c ++ d ++ e ++ f ++ g).toArray⟩ := by rw [cat6, ba_append]
set_option maxRecDepth 100000 in
set_option maxHeartbeats 2000000 in
theorem spec_FormatSpans (v : Value) (xs : List DSpan) (w : World) (hv : RSpans w v xs) (hb : totL totSpan xs ≤ 1048576) :
    Calls Tryd.prog 41 #[v] w fun e w' => e = .returned (.string ⟨(spansText xs).toArray⟩) ∧ Gr w w' := by
  obtain ⟨a, cap, rfl, hl, hm, hx⟩ := hv
  have HB : Hid (∀ k (h : k < xs.length), xs[k].set.length ≤ 1048576) := Lib.hid fun k h => by
    have := sumT_mem totSpan xs k h; unfold totL at hb; have e : totSpan xs[k] = xs[k].set.length := rfl; omega
  have HBL : Hid (xs.length ≤ 1048576) := Lib.hid (by unfold totL at hb; omega)
  have HX := Lib.hid hx
  clear hx hb
  go_enter Tryd.func41, Tryd.ntmps41
  go_wp2_with fail
  go_loopw [3, 4] (fun sv iv wr => ∃ (k : Nat) (S : List UInt8), k ≤ xs.length ∧ iv = .int .i64 k ∧ sv = .string ⟨S.toArray⟩ ∧ Hid (PSt xs k S) ∧ Gr w wr) (fun _ i _ => xs.length - (intOf i).toNat)
  case atStart => exact ⟨0, [], Nat.zero_le _, rfl, rfl, Lib.hid (PSt.zero xs), Gr.refl _⟩
  case round =>
    obtain ⟨k, S, hk, rfl, rfl, hst, hgr⟩ := hrel
    by_cases hlt : k < xs.length
    · have hx := HX.out
      obtain ⟨b, off, cs, rfl, hlen, ⟨u_set, rfl, i_lo, i_hi, h_set⟩, hc⟩ := hx k hlt
      have c0 := hgr.cellv (hc 0 (by simp))
      have c1 := hgr.cellv (hc 1 (by simp))
      have c2 := hgr.cellv (hc 2 (by simp))
      simp only [Nat.add_zero, List.getElem_cons_zero, List.getElem_cons_succ] at c0 c1 c2
      clear hc hlen
      clear hx
      obtain ⟨ua, un, uc, rfl⟩ := RSlice.isSl h_set
      obtain ⟨s, hs⟩ : ∃ s, s = xs[k] := ⟨_, rfl⟩
      rw [← hs] at c0 c1 i_lo i_hi h_set
      have HSL : Hid (s.set.length ≤ 1048576) := Lib.hid (by rw [hs]; exact HB.out k hlt)
      have HS := Lib.hid hs
      have HL := Lib.hid hlt
      have ILO := Lib.hid i_lo
      have IHI := Lib.hid i_hi
      have HSET := Lib.hid (RSlice.mono keeps_int hgr h_set)
      have p0 : (0 : Int) ≤ (k : Int) := Int.natCast_nonneg _
      have p1 : (k : Int) < (xs.length : Int) := by omega
      clear hs h_set i_lo i_hi hk
      cases hset : isSetB s.set with
      | false =>
        have HF := Lib.hid (spansText_bad HL.out (HS.out ▸ spanOk_no1 hset))
        have HT := Lib.hid (setText_no hset)
        clear hset
        go_wp2_with fail
        refine (calls_str (spec_FormatSet _ s.set _ HSET.out HSL.out) HT.out).mono ?_
        rintro e w1 ⟨rfl, g1⟩
        go_wp2_with fail
        go_quiet (fail)
        go_wp2_with fail
        go_ret
        exact ⟨ret_str (by rw [HF.out]), (hgr.trans g1).drewN _⟩
      | true =>
        obtain ⟨T, hTe, HT, hTl⟩ : ∃ T : List UInt8, T.isEmpty = false ∧ Hid (setText s.set = T) ∧ Hid (T.length ≤ 1204) := ⟨setText s.set, by
          have := setText_ne hset
          cases h : setText s.set with
          | nil => exact absurd h this
          | cons _ _ => rfl, Lib.hid rfl, Lib.hid setText_len⟩
        cases hin : inB s.lo 0 s.hi with
        | false =>
          have HF := Lib.hid (spansText_bad HL.out (HS.out ▸ spanOk_no2 hin))
          have HI := Lib.hid hin
          clear hset hin
          go_wp2_with fail
          refine (calls_str (spec_FormatSet _ s.set _ HSET.out HSL.out) HT.out).mono ?_
          rintro e w1 ⟨rfl, g1⟩
          have d0 := g1.cellv c0
          have d1 := g1.cellv c1
          have hin := HI.out
          go_wp2_with fail
          go_quiet ((go_at_call 53; exact Calls.quiet_of_same ((spec_l1In _ _ _ _).mono (fun e w' h => ⟨h.1, h.2.symm⟩))))
          go_wp2_with fail
          go_ret
          exact ⟨ret_str (by rw [HF.out]), (hgr.trans g1).drewN _⟩
        | true =>
          by_cases h99 : s.hi ≤ 99
          · have HK := Lib.hid (HS.out ▸ spanOk_yes hset hin h99 : spanOk xs[k] = true)
            have HI := Lib.hid hin
            have hn99 : ¬ 99 < s.hi := by omega
            have n1 := itoa_len ILO.out
            have n2 := itoa_len IHI.out
            have n3 : S.length ≤ 1363148800 := by have := hst.out.2.1; have := HL.out; have := HBL.out; omega
            have n4 := hTl.out
            have l0 : ¬ 9223372036854775807 < S.length + 2 := by omega
            have l1 : ¬ 9223372036854775807 < S.length + 2 + (Lib.itoa s.lo).length := by omega
            have l2 : ¬ 9223372036854775807 < S.length + 2 + (Lib.itoa s.lo).length + 2 := by omega
            have l3 : ¬ 9223372036854775807 < S.length + 2 + (Lib.itoa s.lo).length + 2 + (Lib.itoa s.hi).length := by omega
            have l4 : ¬ 9223372036854775807 < S.length + 2 + (Lib.itoa s.lo).length + 2 + (Lib.itoa s.hi).length + 1 := by omega
            have l5 : ¬ 9223372036854775807 < S.length + 2 + (Lib.itoa s.lo).length + 2 + (Lib.itoa s.hi).length + 1 + T.length := by omega
            have m1 : ¬ 9223372036854775807 < (Lib.itoa s.lo).length := by omega
            have m2 : ¬ 9223372036854775807 < (Lib.itoa s.lo).length + 2 := by omega
            have m3 : ¬ 9223372036854775807 < (Lib.itoa s.lo).length + 2 + (Lib.itoa s.hi).length := by omega
            have m4 : ¬ 9223372036854775807 < (Lib.itoa s.lo).length + 2 + (Lib.itoa s.hi).length + 1 := by omega
            have m5 : ¬ 9223372036854775807 < (Lib.itoa s.lo).length + 2 + (Lib.itoa s.hi).length + 1 + T.length := by omega
            have HW : Hid (spanWord s = Lib.itoa s.lo ++ [46, 46] ++ Lib.itoa s.hi ++ [32] ++ T) := Lib.hid (by unfold spanWord; rw [HT.out])
            clear n1 n2 n3 n4 hset hin h99
            by_cases h0 : k = 0
            · obtain rfl : S = [] := (hst.out.empty (Nat.le_of_lt HL.out)).2 h0
              have hnx : Hid (PSt xs (k + 1) (Lib.itoa s.lo ++ [46, 46] ++ Lib.itoa s.hi ++ [32] ++ T)) := Lib.hid (by
                rw [← HW.out, HS.out]; subst h0; exact hst.out.first HL.out HK.out (HS.out ▸ ILO.out) (HS.out ▸ IHI.out))
              have hz : ¬ (0 : Int) < (k : Int) := by omega
              clear h0
              go_wp2_with fail
              refine (calls_str (spec_FormatSet _ s.set _ HSET.out HSL.out) HT.out).mono ?_
              rintro e w1 ⟨rfl, g1⟩
              have d0 := g1.cellv c0
              have d1 := g1.cellv c1
              have hin := HI.out
              go_wp2_with fail
              go_quiet ((go_at_call 53; exact Calls.quiet_of_same ((spec_l1In _ _ _ _).mono (fun e w' h => ⟨h.1, h.2.symm⟩))))
              go_wp2_with fail
              have q0 := fun q : Ext (w1.drewN nq) => Ext.cell (w := w1.drewN nq) d0 q
              have q1 := fun q : Ext (w1.drewN nq) => Ext.cell (w := w1.drewN nq) d1 q
              refine wp_region_ext (by kernel_rfl) (by kernel_rfl) ?_
              repeat (go_big_quiet_step ((go_at_call 34; first | with_reducible exact quiet_ext (spec_FormatInt s.lo _ ILO.out) | with_reducible exact quiet_ext (spec_FormatInt s.hi _ IHI.out))))
              refine wpQuiet_nil ?_
              intro w2 hw2
              have g2 := Ext.out hw2
              clear hw2 q0 q1
              go_wp2_with fail
              go_roundw
              case rel => exact ⟨k + 1, _, HL.out, rfl, congrArg Value.string (cat6 [] _ [46, 46] _ [32] _), Lib.hid (by have h := hnx.out; simpa using h), (hgr.trans (g1.drewN _)).trans g2⟩
              case measure => have := HL.out; simp only [intOf]; omega
            · have hnx : Hid (PSt xs (k + 1) (S ++ [59, 32] ++ (Lib.itoa s.lo ++ [46, 46] ++ Lib.itoa s.hi ++ [32] ++ T))) := Lib.hid (by
                rw [← HW.out, HS.out]; exact hst.out.next HL.out h0 HK.out (HS.out ▸ ILO.out) (HS.out ▸ IHI.out))
              have hz : (0 : Int) < (k : Int) := by omega
              clear h0
              go_wp2_with fail
              refine (calls_str (spec_FormatSet _ s.set _ HSET.out HSL.out) HT.out).mono ?_
              rintro e w1 ⟨rfl, g1⟩
              have d0 := g1.cellv c0
              have d1 := g1.cellv c1
              have hin := HI.out
              go_wp2_with fail
              go_quiet ((go_at_call 53; exact Calls.quiet_of_same ((spec_l1In _ _ _ _).mono (fun e w' h => ⟨h.1, h.2.symm⟩))))
              go_wp2_with fail
              have q0 := fun q : Ext (w1.drewN nq) => Ext.cell (w := w1.drewN nq) d0 q
              have q1 := fun q : Ext (w1.drewN nq) => Ext.cell (w := w1.drewN nq) d1 q
              refine wp_region_ext (by kernel_rfl) (by kernel_rfl) ?_
              repeat (go_big_quiet_step ((go_at_call 34; first | with_reducible exact quiet_ext (spec_FormatInt s.lo _ ILO.out) | with_reducible exact quiet_ext (spec_FormatInt s.hi _ IHI.out))))
              refine wpQuiet_nil ?_
              intro w2 hw2
              have g2 := Ext.out hw2
              clear hw2 q0 q1
              go_wp2_with fail
              go_roundw
              case rel => exact ⟨k + 1, _, HL.out, rfl, congrArg Value.string (cat7 S [59, 32] _ [46, 46] _ [32] _), Lib.hid (by have h := hnx.out; simpa using h), (hgr.trans (g1.drewN _)).trans g2⟩
              case measure => have := HL.out; simp only [intOf]; omega
          · have HF := Lib.hid (spansText_bad HL.out (HS.out ▸ spanOk_no3 h99))
            have HI := Lib.hid hin
            have hn99 : 99 < s.hi := by omega
            clear hset hin h99
            go_wp2_with fail
            refine (calls_str (spec_FormatSet _ s.set _ HSET.out HSL.out) HT.out).mono ?_
            rintro e w1 ⟨rfl, g1⟩
            have d0 := g1.cellv c0
            have d1 := g1.cellv c1
            have hin := HI.out
            go_wp2_with fail
            go_quiet ((go_at_call 53; exact Calls.quiet_of_same ((spec_l1In _ _ _ _).mono (fun e w' h => ⟨h.1, h.2.symm⟩))))
            go_wp2_with fail
            go_ret
            exact ⟨ret_str (by rw [HF.out]), (hgr.trans g1).drewN _⟩
    · obtain rfl : k = xs.length := by omega
      by_cases hn : xs = []
      · subst hn
        obtain rfl : S = [] := (hst.out.empty (Nat.le_refl _)).2 rfl
        go_wp2_with fail
        go_ret
        exact ⟨ret_str rfl, hgr⟩
      · have hne : S.isEmpty = false := by
          cases S with
          | nil => exact absurd ((hst.out.empty (Nat.le_refl _)).1 rfl) (fun e => hn (List.eq_nil_of_length_eq_zero e))
          | cons _ _ => rfl
        have HE := Lib.hid (hst.out.all hn)
        clear hn hlt hk
        go_wp2_with fail
        go_ret
        exact ⟨ret_str (by rw [HE.out]), hgr⟩
end Go.Proofs.YtcdcpfcmhmhdjaaDoor
