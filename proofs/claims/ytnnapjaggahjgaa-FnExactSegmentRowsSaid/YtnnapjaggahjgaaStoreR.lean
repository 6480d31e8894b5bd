/- IsStore: the reference's walk. -/
import Derived.Test.YtnnapjaggahjgaaStoreI
import Derived.Test.YtnnapjaggahjgaaExt
namespace Go.Proofs.Ytnnapjaggahjgaa
open Go.RowKit
theorem isStoreB_ver' {s : DStore} {l : List DVersion} (hl : l = s.segs.flatten) {i : Nat} (hi : i < l.length) (h : verAtB l s.now i = false) : isStoreB s = false := by subst hl; exact isStoreB_ver hi h
theorem isStoreB_yes' {s : DStore} {l : List DVersion} (hl : l = s.segs.flatten) (h1 : inB s.segs.length 1 8 = true) (h2 : inB s.now 0 100000 = true) (h3 : ∀ j (h : j < s.segs.length), s.segs[j].length ≤ 4) (h4 : ∀ j, j < l.length → verAtB l s.now j = true) : isStoreB s = true := by subst hl; exact isStoreB_yes h1 h2 h3 h4
set_option maxRecDepth 100000 in
set_option maxHeartbeats 4000000 in
theorem spec_IsStore (s : DStore) (u : Value) (w : World) (hu : RVersionss w u s.segs) (hb : totStore s ≤ 4294967296) :
    Calls Try.prog 16 #[.agg #[u, .int .i64 s.now]] w fun e w' => e = .returned (.bool (isStoreB s)) ∧ Gr w w' := by
  have HBT := Lib.hid hb
  have HUU := Lib.hid hu
  obtain ⟨xs, now⟩ := s
  obtain ⟨a, cap, rfl, hl, hm, hx⟩ := hu
  dsimp only at *
  have g0 : Gr w (w.alloc (.cells #[.slice a xs.length cap, .int .i64 now] 29)) := (Gr.refl w).alloc _
  have p0 : (w.alloc (.cells #[.slice a xs.length cap, .int .i64 now] 29)).cell? ⟨w.heap.size, 0, none⟩ = some (.slice a xs.length cap) := by simp [go_sem]
  have p1 : (w.alloc (.cells #[.slice a xs.length cap, .int .i64 now] 29)).cell? ⟨w.heap.size, 1, none⟩ = some (.int .i64 now) := by simp [go_sem]
  cases h1 : inB (xs.length : Int) 1 8 with
  | false =>
    have HE : Hid (isStoreB ⟨xs, now⟩ = false) := Lib.hid (isStoreB_1 h1)
    have H1 := Lib.hid h1
    clear h1
    go_enter Try.func16, Try.ntmps16
    go_wp2_with fail
    refine (calls_b (R := fun w' => _ = w') (spec_l1In _ _ _ _) H1.out).mono ?_
    rintro e w1 ⟨rfl, rfl⟩
    go_wp2_with fail
    go_ret
    exact ⟨ret_bool HE.out.symm, g0⟩
  | true =>
    cases h2 : inB now 0 100000 with
    | false =>
      have HE : Hid (isStoreB ⟨xs, now⟩ = false) := Lib.hid (isStoreB_2 h2)
      have H1 := Lib.hid h1
      have H2 := Lib.hid h2
      clear h1 h2
      go_enter Try.func16, Try.ntmps16
      go_wp2_with fail
      refine (calls_b (R := fun w' => _ = w') (spec_l1In _ _ _ _) H1.out).mono ?_
      rintro e w1 ⟨rfl, rfl⟩
      go_wp2_with fail
      refine (calls_b (R := fun w' => _ = w') (spec_l1In _ _ _ _) H2.out).mono ?_
      rintro e w1 ⟨rfl, rfl⟩
      go_wp2_with fail
      go_ret
      exact ⟨ret_bool HE.out.symm, g0⟩
    | true =>
      have hnow1 := (inB_true h2).2
      have H1 := Lib.hid h1
      have H2 := Lib.hid h2
      clear h1 h2
      go_enter Try.func16, Try.ntmps16
      go_wp2_with fail
      refine (calls_b (R := fun w' => _ = w') (spec_l1In _ _ _ _) H1.out).mono ?_
      rintro e w1 ⟨rfl, rfl⟩
      go_wp2_with fail
      refine (calls_b (R := fun w' => _ = w') (spec_l1In _ _ _ _) H2.out).mono ?_
      rintro e w1 ⟨rfl, rfl⟩
      go_wp2_with fail
      go_loopw [3] (fun i wr => ∃ (k : Nat), k ≤ xs.length ∧ i = .int .i64 k ∧ Gr (w.alloc (.cells #[.slice a xs.length cap, .int .i64 now] 29)) wr ∧ Hid (∀ j (h : j < xs.length), j < k → xs[j].length ≤ 4)) (fun i _ => xs.length - (intOf i).toNat)
      case atStart => exact ⟨0, Nat.zero_le _, rfl, Gr.refl _, Lib.hid fun _ _ h => absurd h (Nat.not_lt_zero _)⟩
      case round =>
        obtain ⟨k, hk, rfl, hgW, hsg⟩ := hrel
        have hgr := g0.trans hgW
        have d0 := hgW.cellv p0
        have d1 := hgW.cellv p1
        by_cases hlt : k < xs.length
        · obtain ⟨b, off, cs, rfl, hlen, ⟨u, rfl, hu⟩, hc⟩ := hx k hlt
          have c0 := hgr.cellv (hc 0 (by simp))
          simp only [Nat.add_zero, Nat.mul_one, List.getElem_cons_zero] at c0
          clear hc hlen
          obtain ⟨ea, ec, rfl⟩ := hu.form
          have i0 : (0 : Int) ≤ (k : Int) := Int.natCast_nonneg _
          have i1 : (k : Int) < (xs.length : Int) := by omega
          by_cases h4 : xs[k].length ≤ 4
          · have H4 := Lib.hid h4
            have hd4 : decide ((xs[k].length : Int) > 4) = false := by simp; omega
            clear h4 hu
            go_wp2_with fail
            go_roundw
            case rel => exact ⟨k + 1, by omega, by go_num, hgW, Lib.hid (below_suc (p := fun g => g.length ≤ 4) hsg.out hlt H4.out)⟩
            case measure => simp [intOf]; omega
          · have hd4 : decide ((xs[k].length : Int) > 4) = true := by simp; omega
            have HE : Hid (isStoreB ⟨xs, now⟩ = false) := Lib.hid (isStoreB_seg (s := ⟨xs, now⟩) hlt h4)
            clear h4 hu
            go_wp2_with fail
            go_ret
            exact ⟨ret_bool HE.out.symm, hgr⟩
        · obtain rfl : k = xs.length := by omega
          go_wp2_with fail
          refine (spec_l7All ⟨xs, now⟩ _ _ (RSlice.mono (keeps_of keeps_version) hgr HUU.out) HBT.out).mono ?_
          rintro e w1 ⟨v, rfl, hv, g1⟩
          rw [allV_eq] at hv
          obtain ⟨l, hfl⟩ : ∃ l, l = xs.flatten := ⟨_, rfl⟩
          rw [← hfl] at hv
          have HFL := Lib.hid hfl
          clear hfl
          have gw1 := hgr.trans g1
          have e1 := g1.cellv d1
          obtain ⟨sa, sc, rfl, sl, sm, hx7⟩ := hv
          go_wp2_with fail
          go_loopw [5] (fun i wr => ∃ (m : Nat), m ≤ l.length ∧ i = .int .i64 m ∧ Gr w1 wr ∧ Hid (∀ j, j < m → verAtB l now j = true)) (fun i _ => l.length - (intOf i).toNat)
          case atStart => exact ⟨0, Nat.zero_le _, rfl, Gr.refl _, Lib.hid fun _ h => absurd h (Nat.not_lt_zero _)⟩
          case round =>
            obtain ⟨m, hm7, rfl, hg1, hvr⟩ := hrel
            by_cases hmt : m < l.length
            · obtain ⟨b7, off7, cs7, rfl, hlen7, ⟨u_vals7, rfl, i_id7, h_vals7, i_born7, i_died7⟩, hc7⟩ := hx7 m hmt
              have d0 := hg1.cellv (hc7 0 (by simp))
              have d1 := hg1.cellv (hc7 1 (by simp))
              have d2 := hg1.cellv (hc7 2 (by simp))
              have d3 := hg1.cellv (hc7 3 (by simp))
              simp only [Nat.add_zero, List.getElem_cons_zero, List.getElem_cons_succ] at d0 d1 d2 d3
              clear hc7 hlen7
              have f1 := hg1.cellv e1
              have i0 : (0 : Int) ≤ (m : Int) := Int.natCast_nonneg _
              have i1 : (m : Int) < (l.length : Int) := by omega
              have r0 := h_vals7.mono hg1
              have gwr := gw1.trans hg1
              cases hok : versOk now l[m] with
              | false =>
                have HE : Hid (isStoreB ⟨xs, now⟩ = false) := Lib.hid (isStoreB_ver' (s := ⟨xs, now⟩) HFL.out hmt (verAt_1 hmt hok))
                have HK := Lib.hid hok
                clear hok
                go_wp2
                have q0 := fun q : Ext wr => Ext.cell d0 q
                have q1 := fun q : Ext wr => Ext.cell d1 q
                have q2 := fun q : Ext wr => Ext.cell d2 q
                have q3 := fun q : Ext wr => Ext.cell d3 q
                have q4 := fun q : Ext wr => Ext.cell f1 q
                refine wp_region_ext (by kernel_rfl) (by kernel_rfl) ?_
                repeat (go_big_quiet_step ((go_at_call 76; exact quiet_ext (calls_b (spec_l7Version l[m] _ now _ (RSlice.mono keeps_int (Ext.gr _) r0) hnow1) HK.out))))
                refine wpQuiet_nil ?_
                intro w2 hw2
                have g2 := Ext.out hw2
                clear hw2 q0 q1 q2 q3 q4
                go_wp2
                go_ret
                exact ⟨ret_bool HE.out.symm, gwr.trans g2⟩
              | true =>
                have HK := Lib.hid hok
                clear hok
                go_wp2
                have q0 := fun q : Ext wr => Ext.cell d0 q
                have q1 := fun q : Ext wr => Ext.cell d1 q
                have q2 := fun q : Ext wr => Ext.cell d2 q
                have q3 := fun q : Ext wr => Ext.cell d3 q
                have q4 := fun q : Ext wr => Ext.cell f1 q
                refine wp_region_ext (by kernel_rfl) (by kernel_rfl) ?_
                repeat (go_big_quiet_step ((go_at_call 76; exact quiet_ext (calls_b (spec_l7Version l[m] _ now _ (RSlice.mono keeps_int (Ext.gr _) r0) hnow1) HK.out))))
                refine wpQuiet_nil ?_
                intro w2 hw2
                have g2 := Ext.out hw2
                clear hw2 q0 q1 q2 q3 q4
                have gw2 := gwr.trans g2
                replace d0 := g2.cellv d0
                replace d1 := g2.cellv d1
                replace d2 := g2.cellv d2
                replace d3 := g2.cellv d3
                replace r0 := r0.mono g2
                have hg2 := hg1.trans g2
                go_wp2
                go_loopw [6] (fun i wr => ∃ (p : Nat), p ≤ m ∧ i = .int .i64 p ∧ Gr w2 wr ∧ Hid (∀ q (h : q < l.length), q < p → clashB l[m] l[q] = false)) (fun i _ => m - (intOf i).toNat)
                case atStart => exact ⟨0, Nat.zero_le _, rfl, Gr.refl _, Lib.hid fun _ _ h => absurd h (Nat.not_lt_zero _)⟩
                case round =>
                  obtain ⟨p, hp, rfl, hg3, hcl⟩ := hrel
                  by_cases hpm : p < m
                  · have hpt : p < l.length := by omega
                    obtain ⟨b8, off8, cs8, e8, hlen8, ⟨u8, rfl, i_id8, h_vals8, i_born8, i_died8⟩, hc8⟩ := hx7 p hpt
                    simp only [Option.some.injEq, Addr.mk.injEq] at e8
                    obtain ⟨rfl, rfl, -⟩ := e8
                    have c0 := (hg2.trans hg3).cellv (hc8 0 (by simp))
                    have c1 := (hg2.trans hg3).cellv (hc8 1 (by simp))
                    have c2 := (hg2.trans hg3).cellv (hc8 2 (by simp))
                    have c3 := (hg2.trans hg3).cellv (hc8 3 (by simp))
                    simp only [Nat.add_zero, List.getElem_cons_zero, List.getElem_cons_succ] at c0 c1 c2 c3
                    clear hc8 hlen8
                    have y0 := hg3.cellv d0
                    have y1 := hg3.cellv d1
                    have y2 := hg3.cellv d2
                    have y3 := hg3.cellv d3
                    have s0 := r0.mono hg3
                    have s1 := h_vals8.mono (hg2.trans hg3)
                    have j0 : (0 : Int) ≤ (p : Int) := Int.natCast_nonneg _
                    have j1 : (p : Int) < (l.length : Int) := by omega
                    have HA := Lib.hid (apart_clash HK.out (verAt_ok hpt (hvr.out p hpm)))
                    have gw3 := gw2.trans hg3
                    cases hcb : clashB l[m] l[p] with
                    | false =>
                      have HC := Lib.hid hcb
                      have HB : Hid (apartB l[m] l[p] = true) := Lib.hid (by rw [HA.out, hcb]; rfl)
                      clear hcb
                      go_wp2
                      have q0 := fun q : Ext wr => Ext.cell c0 q
                      have q1 := fun q : Ext wr => Ext.cell c1 q
                      have q2 := fun q : Ext wr => Ext.cell c2 q
                      have q3 := fun q : Ext wr => Ext.cell c3 q
                      have q4 := fun q : Ext wr => Ext.cell y0 q
                      have q5 := fun q : Ext wr => Ext.cell y1 q
                      have q6 := fun q : Ext wr => Ext.cell y2 q
                      have q7 := fun q : Ext wr => Ext.cell y3 q
                      refine wp_region_ext (by kernel_rfl) (by kernel_rfl) ?_
                      repeat (go_big_quiet_step ((go_at_call 77; exact quiet_ext (calls_b (spec_l7Apart l[m] l[p] _ _ _ (RSlice.mono keeps_int (Ext.gr _) s0) (RSlice.mono keeps_int (Ext.gr _) s1)) HB.out))))
                      refine wpQuiet_nil ?_
                      intro w4 hw4
                      have g4 := Ext.out hw4
                      clear hw4 q0 q1 q2 q3 q4 q5 q6 q7
                      go_wp2
                      go_roundw
                      case rel => exact ⟨p + 1, by omega, by go_num, hg3.trans g4, Lib.hid (below_suc (p := fun q => clashB l[m] q = false) hcl.out hpt HC.out)⟩
                      case measure => simp [intOf]; omega
                    | true =>
                      have HE : Hid (isStoreB ⟨xs, now⟩ = false) := Lib.hid (isStoreB_ver' (s := ⟨xs, now⟩) HFL.out hmt (verAt_2 hmt hpm hcb))
                      have HB : Hid (apartB l[m] l[p] = false) := Lib.hid (by rw [HA.out, hcb]; rfl)
                      clear hcb
                      go_wp2
                      have q0 := fun q : Ext wr => Ext.cell c0 q
                      have q1 := fun q : Ext wr => Ext.cell c1 q
                      have q2 := fun q : Ext wr => Ext.cell c2 q
                      have q3 := fun q : Ext wr => Ext.cell c3 q
                      have q4 := fun q : Ext wr => Ext.cell y0 q
                      have q5 := fun q : Ext wr => Ext.cell y1 q
                      have q6 := fun q : Ext wr => Ext.cell y2 q
                      have q7 := fun q : Ext wr => Ext.cell y3 q
                      refine wp_region_ext (by kernel_rfl) (by kernel_rfl) ?_
                      repeat (go_big_quiet_step ((go_at_call 77; exact quiet_ext (calls_b (spec_l7Apart l[m] l[p] _ _ _ (RSlice.mono keeps_int (Ext.gr _) s0) (RSlice.mono keeps_int (Ext.gr _) s1)) HB.out))))
                      refine wpQuiet_nil ?_
                      intro w4 hw4
                      have g4 := Ext.out hw4
                      clear hw4 q0 q1 q2 q3 q4 q5 q6 q7
                      go_wp2
                      go_ret
                      exact ⟨ret_bool HE.out.symm, gw3.trans g4⟩
                  · obtain rfl : p = m := by omega
                    have HVA : Hid (verAtB l now p = true) := Lib.hid (verAt_3 hmt HK.out fun q hq hqi => hcl.out q hq hqi)
                    go_wp2
                    go_roundw
                    case rel => exact ⟨p + 1, by omega, by go_num, hg2.trans hg3, Lib.hid (below_succ hvr.out HVA.out)⟩
                    case measure => simp [intOf]; omega
            · obtain rfl : m = l.length := by omega
              have HE : Hid (isStoreB ⟨xs, now⟩ = true) := Lib.hid (isStoreB_yes' (s := ⟨xs, now⟩) HFL.out H1.out H2.out (fun j hj => hsg.out j hj hj) fun j hj => hvr.out j hj)
              go_wp2_with fail
              go_ret
              exact ⟨ret_bool HE.out.symm, gw1.trans hg1⟩
end Go.Proofs.Ytnnapjaggahjgaa
