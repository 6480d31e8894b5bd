/- IsStore: the program's walk. Written by gen_isstore.py. -/
import Derived.Test.YtnnapjaggahjgaaStore1
import Derived.Test.YtnnapjaggahjgaaRowOf
namespace Go.Proofs.Ytnnapjaggahjgaa
open Go.RowKit
/-- What has been seen ahead of version j of segment k. -/
def seenTo (xs : List (List DVersion)) (k j : Nat) : List DVersion := partV xs k ++ (xs.getD k []).take j
theorem seenTo_zero (xs : List (List DVersion)) (k : Nat) : seenTo xs k 0 = partV xs k := by unfold seenTo; simp
theorem seenTo_succ {xs : List (List DVersion)} {k j : Nat} (hk : k < xs.length) (hj : j < xs[k].length) : seenTo xs k (j + 1) = seenTo xs k j ++ [xs[k][j]] := by
  unfold seenTo; rw [getD_lt hk, List.take_succ_eq_append_getElem hj, List.append_assoc]
theorem seenTo_all {xs : List (List DVersion)} {k : Nat} (hk : k < xs.length) : seenTo xs k xs[k].length = partV xs (k + 1) := by
  unfold seenTo; rw [getD_lt hk, List.take_length, partV_succ hk]
theorem seenTo_len {xs : List (List DVersion)} {k j : Nat} (hk : k < xs.length) (hj : j ≤ xs[k].length) : (seenTo xs k j).length = (partV xs k).length + j := by
  unfold seenTo; rw [getD_lt hk, List.length_append, List.length_take]; omega
theorem seenTo_at {xs : List (List DVersion)} {k j q : Nat} (hk : k < xs.length) (_ : j < xs[k].length) (hq : q < (seenTo xs k j).length) : ∃ h : q < xs.flatten.length, xs.flatten[q] = (seenTo xs k j)[q] := by
  have e : xs.flatten = seenTo xs k j ++ (xs[k].drop j ++ (xs.drop (k + 1)).flatten) := by
    unfold seenTo partV
    rw [getD_lt hk]
    conv => lhs; rw [← List.take_append_drop k xs, List.flatten_append, List.drop_eq_getElem_cons hk, List.flatten_cons]
    rw [List.append_assoc, ← List.append_assoc (xs[k].take j), List.take_append_drop]
  have hl : q < xs.flatten.length := by rw [e, List.length_append]; omega
  refine ⟨hl, ?_⟩
  have h : xs.flatten[q]? = some (seenTo xs k j)[q] := by rw [e, List.getElem?_append_left hq, List.getElem?_eq_getElem hq]
  rw [List.getElem?_eq_getElem hl] at h
  exact Option.some.inj h
set_option maxRecDepth 100000 in
set_option maxHeartbeats 4000000 in
theorem impl_IsStore (s : DStore) (u : Value) (w : World) (hu : RVersionss w u s.segs) (hb : totStore s ≤ 4294967296) :
    Calls Try.prog 18 #[.agg #[u, .int .i64 s.now]] w fun e w' => e = .returned (.bool (isStoreB s)) ∧ Gr w w' := by
  have hbs : ∀ k (hk : k < s.segs.length) j (hj : j < s.segs[k].length), s.segs[k][j].vals.length ≤ 4294967296 := fun k hk j hj => by
    unfold totStore at hb
    have h1 := sumT_mem (totL totVersion) s.segs k hk
    have h2 := sumT_mem totVersion s.segs[k] j hj
    unfold totL at hb h1
    unfold totVersion at h1 h2
    unfold totVersion at hb
    omega
  have HBS := Lib.hid hbs
  have HAL : Hid (s.segs.flatten.length ≤ 4294967296) := Lib.hid (Nat.le_trans (allV_len s) hb)
  clear hbs
  obtain ⟨xs, now⟩ := s
  obtain ⟨a, cap, rfl, hl, hm, hx⟩ := hu
  dsimp only at *
  have g0 : Gr w (w.alloc (.cells #[.slice a xs.length cap, .int .i64 now] 29)) := (Gr.refl w).alloc _
  have p1 : (w.alloc (.cells #[.slice a xs.length cap, .int .i64 now] 29)).cell? ⟨w.heap.size, 1, none⟩ = some (.int .i64 now) := by simp [go_sem]
  cases h1 : inB (xs.length : Int) 1 8 with
  | false =>
    have HE : Hid (isStoreB ⟨xs, now⟩ = false) := Lib.hid (isStoreB_1 h1)
    have H1 := Lib.hid h1
    clear h1
    go_enter Try.func18, Try.ntmps18
    go_wp2_with fail
    refine (calls_b (R := fun w' => _ = w') (impl_within _ _ _ _) H1.out).mono ?_
    rintro e w1 ⟨rfl, rfl⟩
    go_wp2_with fail
    go_ret
    exact ⟨ret_bool HE.out.symm, g0⟩
  | true =>
    cases h2 : inB now 0 100000 with
    | false =>
      have HE : Hid (isStoreB ⟨xs, now⟩ = false) := Lib.hid (isStoreB_2 h2)
      have H1 := Lib.hid h1
      have H2 := Lib.hid h2
      clear h1 h2
      go_enter Try.func18, Try.ntmps18
      go_wp2_with fail
      refine (calls_b (R := fun w' => _ = w') (impl_within _ _ _ _) H1.out).mono ?_
      rintro e w1 ⟨rfl, rfl⟩
      go_wp2_with fail
      refine (calls_b (R := fun w' => _ = w') (impl_within _ _ _ _) H2.out).mono ?_
      rintro e w1 ⟨rfl, rfl⟩
      go_wp2_with fail
      go_ret
      exact ⟨ret_bool HE.out.symm, g0⟩
    | true =>
      have hnow0 := (inB_true h2).1
      have hnow1 := (inB_true h2).2
      have H1 := Lib.hid h1
      have H2 := Lib.hid h2
      clear h1 h2
      have HST : Hid (ORd 110 4 RVersion (w.alloc (.cells #[.slice a xs.length cap, .int .i64 now] 29)) ((w.alloc (.cells #[.slice a xs.length cap, .int .i64 now] 29)).alloc (.cells #[] 110)) (.slice (some ⟨w.heap.size + 1, 0, none⟩) 0 0) (partV xs 0)) := Lib.hid (by
        have h := ORd.made (t := 110) (sz := 4) (R := RVersion) (Gr.refl (w.alloc (.cells #[.slice a xs.length cap, .int .i64 now] 29)))
        have e : (w.alloc (.cells #[.slice a xs.length cap, .int .i64 now] 29)).heap.size = w.heap.size + 1 := by simp
        rw [e] at h
        exact h)
      go_enter Try.func18, Try.ntmps18
      go_wp2_with fail
      refine (calls_b (R := fun w' => _ = w') (impl_within _ _ _ _) H1.out).mono ?_
      rintro e w1 ⟨rfl, rfl⟩
      go_wp2_with fail
      refine (calls_b (R := fun w' => _ = w') (impl_within _ _ _ _) H2.out).mono ?_
      rintro e w1 ⟨rfl, rfl⟩
      go_wp2_with fail
      go_loopw [3, 25] (fun out i wr => ∃ (k : Nat) (b : Option Addr) (c : Nat), k ≤ xs.length ∧ i = .int .i64 k ∧ out = .slice b (partV xs k).length c ∧ Hid (ORd 110 4 RVersion (w.alloc (.cells #[.slice a xs.length cap, .int .i64 now] 29)) wr out (partV xs k)) ∧ Gr (w.alloc (.cells #[.slice a xs.length cap, .int .i64 now] 29)) wr ∧ Hid (∀ j (h : j < xs.length), j < k → xs[j].length ≤ 4) ∧ Hid (∀ j, j < (partV xs k).length → verAtB xs.flatten now j = true)) (fun _ i _ => xs.length - (intOf i).toNat)
      case atStart => exact ⟨0, _, _, Nat.zero_le _, rfl, by rw [partV_zero], HST, (Gr.refl _).alloc _, Lib.hid fun _ _ h => absurd h (Nat.not_lt_zero _), Lib.hid fun _ h => by rw [partV_zero] at h; exact absurd h (Nat.not_lt_zero _)⟩
      case round =>
        obtain ⟨k, bo, co, hk, rfl, rfl, hO, hgW, hsg, hvr⟩ := hrel
        have hgr := g0.trans hgW
        by_cases hlt : k < xs.length
        · obtain ⟨b, off, cs, rfl, hlen, ⟨u, rfl, hu⟩, hc⟩ := hx k hlt
          have c0 := hgr.cellv (hc 0 (by simp))
          simp only [Nat.add_zero, Nat.mul_one, List.getElem_cons_zero] at c0
          clear hc hlen
          have HU := Lib.hid hu
          obtain ⟨ea, ec, rfl, hl3, hm3, hx3⟩ := hu
          by_cases h4 : xs[k].length ≤ 4
          · have H4 := Lib.hid h4
            have hd4 : decide ((xs[k].length : Int) > 4) = false := by simp; omega
            clear h4
            obtain ⟨WA, hWA⟩ : ∃ W1, W1 = wr := ⟨_, rfl⟩
            subst hWA
            have HG := Lib.hid hgW
            have HR := Lib.hid hgr
            have HO := Lib.hid hO
            clear hgW hgr hO
            go_wp2
            go_loopw [3, 34] (fun out i wr => ∃ (j : Nat) (b' : Option Addr) (c' : Nat), j ≤ xs[k].length ∧ i = .int .i64 j ∧ out = .slice b' (seenTo xs k j).length c' ∧ Hid (ORd 110 4 RVersion (w.alloc (.cells #[.slice (some ⟨b, off, none⟩) xs.length cap, .int .i64 now] 29)) wr out (seenTo xs k j)) ∧ Gr (w.alloc (.cells #[.slice (some ⟨b, off, none⟩) xs.length cap, .int .i64 now] 29)) wr ∧ Hid (∀ i, i < (partV xs k).length + j → verAtB xs.flatten now i = true)) (fun _ i _ => xs[k].length - (intOf i).toNat)
            case atStart => exact ⟨0, _, _, Nat.zero_le _, rfl, by rw [seenTo_zero], by rw [seenTo_zero]; exact HO.out, HG.out, hvr⟩
            case round =>
              obtain ⟨j, bs, cs, hj, rfl, rfl, hO, hgW, hvi⟩ := hrel
              have hgr := g0.trans hgW
              by_cases hjt : j < xs[k].length
              · obtain ⟨b3, off3, cs3, rfl, hlen3, ⟨u_vals3, rfl, i_id3, h_vals3, i_born3, i_died3⟩, hc3⟩ := hx3 j hjt
                have c0 := hgr.cellv (hc3 0 (by simp))
                have c1 := hgr.cellv (hc3 1 (by simp))
                have c2 := hgr.cellv (hc3 2 (by simp))
                have c3 := hgr.cellv (hc3 3 (by simp))
                simp only [Nat.add_zero, List.getElem_cons_zero, List.getElem_cons_succ] at c0 c1 c2 c3
                clear hc3 hlen3
                obtain ⟨va, vn, vc, rfl⟩ := RSlice.isSl h_vals3
                have HI3 := Lib.hid i_id3
                have HB3 := Lib.hid i_born3
                have HD3 := Lib.hid i_died3
                have HV3 := Lib.hid h_vals3
                obtain ⟨hat, hate⟩ := partV_at hlt hjt
                have HAT := Lib.hid hat
                have HATE : Hid (xs.flatten[(partV xs k).length + j]'HAT.out = xs[k][j]) := Lib.hid hate
                clear h_vals3 hat hate i_id3
                obtain ⟨WB, hWB⟩ : ∃ W1, W1 = wr := ⟨_, rfl⟩
                subst hWB
                have gq : Gr WB (WB.alloc (.cells #[.int .i64 xs[k][j].id, .slice va vn vc, .int .i64 xs[k][j].born, .int .i64 xs[k][j].died] 110)) := (Gr.refl _).alloc _
                have hgq := hgr.trans gq
                have e1 := (hgW.trans gq).cellv p1
                cases h5 : isRowB ⟨xs[k][j].id, xs[k][j].vals⟩ with
                | false =>
                  have HE : Hid (versOk now (xs.flatten[(partV xs k).length + j]'HAT.out) = false) := Lib.hid (by rw [HATE.out]; unfold versOk; rw [h5]; rfl)
                  have H5 := Lib.hid h5
                  clear h5
                  go_wp2_with fail
                  refine (impl_rowOf xs[k][j] _ _ (RSlice.mono keeps_int hgq HV3.out) (HBS.out k hlt j hjt)).mono ?_
                  rintro e w2 ⟨pv, rfl, g2, hp⟩
                  obtain ⟨pa, pc, rfl⟩ := (rd_pints hp).form
                  have HP := Lib.hid (rd_pints hp)
                  clear hp
                  go_wp2_with fail
                  refine (calls_b (impl_IsRow ⟨xs[k][j].id, xs[k][j].vals⟩ _ _ HP.out) H5.out).mono ?_
                  rintro e w3 ⟨rfl, g3⟩
                  have g23 := g2.trans g3
                  have gw3 := hgq.trans g23
                  have f1 := g23.cellv e1
                  have k0 : w3.cell? ⟨WB.heap.size, 0, none⟩ = some (.int .i64 xs[k][j].id) := g23.cellv (by simp [go_sem])
                  have k1 : w3.cell? ⟨WB.heap.size, 1, none⟩ = some (.slice va vn vc) := g23.cellv (by simp [go_sem])
                  have k2 : w3.cell? ⟨WB.heap.size, 2, none⟩ = some (.int .i64 xs[k][j].born) := g23.cellv (by simp [go_sem])
                  have k3 : w3.cell? ⟨WB.heap.size, 3, none⟩ = some (.int .i64 xs[k][j].died) := g23.cellv (by simp [go_sem])
                  go_wp2_with fail
                  go_ret
                  exact ⟨ret_bool (isStoreB_ver (s := ⟨xs, now⟩) HAT.out (verAt_1 HAT.out HE.out)).symm, gw3⟩
                | true =>
                  cases h6 : inB xs[k][j].born 0 now with
                  | false =>
                    have HE : Hid (versOk now (xs.flatten[(partV xs k).length + j]'HAT.out) = false) := Lib.hid (by rw [HATE.out]; unfold versOk; rw [h5, h6]; rfl)
                    have H5 := Lib.hid h5
                    have H6 := Lib.hid h6
                    clear h5 h6
                    go_wp2_with fail
                    refine (impl_rowOf xs[k][j] _ _ (RSlice.mono keeps_int hgq HV3.out) (HBS.out k hlt j hjt)).mono ?_
                    rintro e w2 ⟨pv, rfl, g2, hp⟩
                    obtain ⟨pa, pc, rfl⟩ := (rd_pints hp).form
                    have HP := Lib.hid (rd_pints hp)
                    clear hp
                    go_wp2_with fail
                    refine (calls_b (impl_IsRow ⟨xs[k][j].id, xs[k][j].vals⟩ _ _ HP.out) H5.out).mono ?_
                    rintro e w3 ⟨rfl, g3⟩
                    have g23 := g2.trans g3
                    have gw3 := hgq.trans g23
                    have f1 := g23.cellv e1
                    have k0 : w3.cell? ⟨WB.heap.size, 0, none⟩ = some (.int .i64 xs[k][j].id) := g23.cellv (by simp [go_sem])
                    have k1 : w3.cell? ⟨WB.heap.size, 1, none⟩ = some (.slice va vn vc) := g23.cellv (by simp [go_sem])
                    have k2 : w3.cell? ⟨WB.heap.size, 2, none⟩ = some (.int .i64 xs[k][j].born) := g23.cellv (by simp [go_sem])
                    have k3 : w3.cell? ⟨WB.heap.size, 3, none⟩ = some (.int .i64 xs[k][j].died) := g23.cellv (by simp [go_sem])
                    go_wp2_with fail
                    refine (calls_b (R := fun w' => _ = w') (impl_within _ _ _ _) H6.out).mono ?_
                    rintro e w4 ⟨rfl, rfl⟩
                    go_wp2_with fail
                    go_ret
                    exact ⟨ret_bool (isStoreB_ver (s := ⟨xs, now⟩) HAT.out (verAt_1 HAT.out HE.out)).symm, gw3⟩
                  | true =>
                    have hb0 := (inB_true h6).1
                    have hb1 := (inB_true h6).2
                    by_cases h8 : xs[k][j].died = -1
                    · have hd8 : (xs[k][j].died != (-1 : Int)) = false := by simp [h8]
                      have HE : Hid (versOk now (xs.flatten[(partV xs k).length + j]'HAT.out) = true) := Lib.hid (by rw [HATE.out]; unfold versOk; rw [h5, h6, h8]; rfl)
                      have H5 := Lib.hid h5
                      have H6 := Lib.hid h6
                      clear h5 h6 h8
                      go_wp2_with fail
                      refine (impl_rowOf xs[k][j] _ _ (RSlice.mono keeps_int hgq HV3.out) (HBS.out k hlt j hjt)).mono ?_
                      rintro e w2 ⟨pv, rfl, g2, hp⟩
                      obtain ⟨pa, pc, rfl⟩ := (rd_pints hp).form
                      have HP := Lib.hid (rd_pints hp)
                      clear hp
                      go_wp2_with fail
                      refine (calls_b (impl_IsRow ⟨xs[k][j].id, xs[k][j].vals⟩ _ _ HP.out) H5.out).mono ?_
                      rintro e w3 ⟨rfl, g3⟩
                      have g23 := g2.trans g3
                      have gw3 := hgq.trans g23
                      have f1 := g23.cellv e1
                      have k0 : w3.cell? ⟨WB.heap.size, 0, none⟩ = some (.int .i64 xs[k][j].id) := g23.cellv (by simp [go_sem])
                      have k1 : w3.cell? ⟨WB.heap.size, 1, none⟩ = some (.slice va vn vc) := g23.cellv (by simp [go_sem])
                      have k2 : w3.cell? ⟨WB.heap.size, 2, none⟩ = some (.int .i64 xs[k][j].born) := g23.cellv (by simp [go_sem])
                      have k3 : w3.cell? ⟨WB.heap.size, 3, none⟩ = some (.int .i64 xs[k][j].died) := g23.cellv (by simp [go_sem])
                      go_wp2_with fail
                      refine (calls_b (R := fun w' => _ = w') (impl_within _ _ _ _) H6.out).mono ?_
                      rintro e w4 ⟨rfl, rfl⟩
                      have HRD := Lib.hid (hO.out.reads keeps_version hgW)
                      obtain ⟨sa, sc, hse, sl, sm, hxs⟩ := RSlice.mono keeps_version (gq.trans g23) HRD.out
                      simp only [Value.slice.injEq] at hse
                      obtain ⟨rfl, -, rfl⟩ := hse
                      have HSL := Lib.hid (seenTo_len hlt (Nat.le_of_lt hjt))
                      have HXS := Lib.hid hxs
                      clear hxs
                      go_wp2
                      go_loopw [68] (fun i wr => ∃ p : Nat, p ≤ (seenTo xs k j).length ∧ i = .int .i64 p ∧ Gr w3 wr ∧ Hid (∀ q (h : q < (seenTo xs k j).length), q < p → clashB xs[k][j] (seenTo xs k j)[q] = false)) (fun i _ => (seenTo xs k j).length - (intOf i).toNat)
                      case atStart => exact ⟨0, Nat.zero_le _, rfl, Gr.refl _, Lib.hid fun _ _ h => absurd h (Nat.not_lt_zero _)⟩
                      case round =>
                        obtain ⟨p, hp, rfl, hg3, hcl⟩ := hrel
                        have r0 := hg3.cellv k0
                        have r1 := hg3.cellv k1
                        have r2 := hg3.cellv k2
                        have r3 := hg3.cellv k3
                        by_cases hpt : p < (seenTo xs k j).length
                        · obtain ⟨b5, off5, cs5, rfl, hlen5, ⟨u5, rfl, i_id5, h_vals5, i_born5, i_died5⟩, hc5⟩ := HXS.out p hpt
                          have d0 := hg3.cellv (hc5 0 (by simp))
                          have d1 := hg3.cellv (hc5 1 (by simp))
                          have d2 := hg3.cellv (hc5 2 (by simp))
                          have d3 := hg3.cellv (hc5 3 (by simp))
                          simp only [Nat.add_zero, List.getElem_cons_zero, List.getElem_cons_succ] at d0 d1 d2 d3
                          clear hc5 hlen5
                          obtain ⟨ya, yn, yc, rfl⟩ := RSlice.isSl h_vals5
                          have gz : Gr wr (wr.alloc (.cells #[.int .i64 (seenTo xs k j)[p].id, .slice ya yn yc, .int .i64 (seenTo xs k j)[p].born, .int .i64 (seenTo xs k j)[p].died] 110)) := (Gr.refl _).alloc _
                          have HV5 := Lib.hid (h_vals5.mono (hg3.trans gz))
                          have HV3' := Lib.hid (HV3.out.mono ((gw3.trans hg3).trans gz))
                          clear h_vals5
                          replace r0 := gz.cellv r0
                          replace r1 := gz.cellv r1
                          replace r2 := gz.cellv r2
                          replace r3 := gz.cellv r3
                          have gw5 := hg3.trans gz
                          by_cases hid : xs[k][j].id = (seenTo xs k j)[p].id
                          · have hde : (xs[k][j].id == (seenTo xs k j)[p].id) = true := by simp [hid]
                            cases hmt : meetB xs[k][j] (seenTo xs k j)[p] with
                            | false =>
                              have HC : Hid (clashB xs[k][j] (seenTo xs k j)[p] = false) := Lib.hid (by unfold clashB; rw [hmt, Bool.and_false])
                              have HM := Lib.hid hmt
                              clear hmt hid
                              go_wp2_with fail
                              refine (calls_b (impl_meetInTime xs[k][j] (seenTo xs k j)[p] _ _ _ HV3'.out HV5.out) HM.out).mono ?_
                              rintro e w5 ⟨rfl, g5⟩
                              have gw6 := gw5.trans g5
                              go_wp2_with fail
                              go_roundw
                              case rel => exact ⟨p + 1, by omega, by go_num, gw6, Lib.hid (below_suc (p := fun q => clashB xs[k][j] q = false) hcl.out hpt HC.out)⟩
                              case measure => simp [intOf]; omega
                            | true =>
                              have HC : Hid (clashB xs[k][j] (seenTo xs k j)[p] = true) := Lib.hid (by unfold clashB; rw [hmt, hde]; rfl)
                              obtain ⟨hql, hqe⟩ := seenTo_at hlt hjt hpt
                              have HE : Hid (isStoreB ⟨xs, now⟩ = false) := Lib.hid (isStoreB_ver (s := ⟨xs, now⟩) HAT.out (verAt_2 (i := (partV xs k).length + j) (k := p) HAT.out (by have := HSL.out; omega) (by
                                have h := HC.out
                                rw [← HATE.out, ← hqe] at h
                                exact h)))
                              have HM := Lib.hid hmt
                              clear hmt hid hqe
                              go_wp2_with fail
                              refine (calls_b (impl_meetInTime xs[k][j] (seenTo xs k j)[p] _ _ _ HV3'.out HV5.out) HM.out).mono ?_
                              rintro e w5 ⟨rfl, g5⟩
                              go_wp2_with fail
                              go_ret
                              exact ⟨ret_bool HE.out.symm, (gw3.trans gw5).trans g5⟩
                          · have hde : (xs[k][j].id == (seenTo xs k j)[p].id) = false := by simp [hid]
                            have HC : Hid (clashB xs[k][j] (seenTo xs k j)[p] = false) := Lib.hid (by unfold clashB; rw [hde]; rfl)
                            clear hid
                            go_wp2_with fail
                            go_roundw
                            case rel => exact ⟨p + 1, by omega, by go_num, gw5, Lib.hid (below_suc (p := fun q => clashB xs[k][j] q = false) hcl.out hpt HC.out)⟩
                            case measure => simp [intOf]; omega
                        · obtain rfl : p = (seenTo xs k j).length := by omega
                          have HVA : Hid (verAtB xs.flatten now ((partV xs k).length + j) = true) := Lib.hid (verAt_3 HAT.out HE.out fun q hq hqi => by
                            have hq' : q < (seenTo xs k j).length := by have := HSL.out; omega
                            obtain ⟨h1, h2⟩ := seenTo_at hlt hjt hq'
                            have h3 := hcl.out q hq' hq'
                            rw [← h2, ← HATE.out] at h3
                            exact h3)
                          have HS := Lib.hid (seenTo_succ hlt hjt)
                          have HB : Hid (((seenTo xs k j).length + 1) * 48 ≤ 140737488355328) := Lib.hid (by have := HSL.out; have := HAT.out; have := HAL.out; omega)
                          have gW4 := ((hgW.trans gq).trans g23).trans hg3
                          have HO4 := Lib.hid (hO.out.gr ((gq.trans g23).trans hg3))
                          have HV0 := Lib.hid (HV3.out.mono g0)
                          go_wp2_with (at_builtin; refine push_r (wr := wr) 106 110 4 48 Try.underlying106 (z := .agg #[.int .i64 0, .slice none 0 0, .int .i64 0, .int .i64 0]) (by kernel_rfl) rfl (by decide) (by decide) rfl _ _ rfl xs[k][j] [.int .i64 xs[k][j].id, .slice va vn vc, .int .i64 xs[k][j].born, .int .i64 xs[k][j].died] rfl rfl rfl HO4.out ⟨_, rfl, HI3.out, HV0.out, HB3.out, HD3.out⟩ gW4 rfl (by simp [Value.oneCell']) HB.out ?_; intro g5 cap5 w5 hown5 hb5)
                          go_roundw
                          case rel => exact ⟨j + 1, _, _, by omega, by go_num, by rw [HS.out, List.length_append, List.length_singleton], Lib.hid (by have h := hown5; rw [List.length_append, List.length_singleton] at h; rw [HS.out]; exact h), gW4.trans' hb5, Lib.hid (below_succ hvi.out HVA.out)⟩
                          case measure => simp [intOf]; omega
                    · have hd8 : (xs[k][j].died != (-1 : Int)) = true := by simp [h8]
                      cases h7 : inB xs[k][j].died (xs[k][j].born + 1) now with
                      | false =>
                        have HE : Hid (versOk now (xs.flatten[(partV xs k).length + j]'HAT.out) = false) := Lib.hid (by rw [HATE.out]; unfold versOk; rw [h5, h6, h7]; simp [h8])
                        have H5 := Lib.hid h5
                        have H6 := Lib.hid h6
                        have H7 := Lib.hid h7
                        clear h5 h6 h7 h8
                        go_wp2_with fail
                        refine (impl_rowOf xs[k][j] _ _ (RSlice.mono keeps_int hgq HV3.out) (HBS.out k hlt j hjt)).mono ?_
                        rintro e w2 ⟨pv, rfl, g2, hp⟩
                        obtain ⟨pa, pc, rfl⟩ := (rd_pints hp).form
                        have HP := Lib.hid (rd_pints hp)
                        clear hp
                        go_wp2_with fail
                        refine (calls_b (impl_IsRow ⟨xs[k][j].id, xs[k][j].vals⟩ _ _ HP.out) H5.out).mono ?_
                        rintro e w3 ⟨rfl, g3⟩
                        have g23 := g2.trans g3
                        have gw3 := hgq.trans g23
                        have f1 := g23.cellv e1
                        have k0 : w3.cell? ⟨WB.heap.size, 0, none⟩ = some (.int .i64 xs[k][j].id) := g23.cellv (by simp [go_sem])
                        have k1 : w3.cell? ⟨WB.heap.size, 1, none⟩ = some (.slice va vn vc) := g23.cellv (by simp [go_sem])
                        have k2 : w3.cell? ⟨WB.heap.size, 2, none⟩ = some (.int .i64 xs[k][j].born) := g23.cellv (by simp [go_sem])
                        have k3 : w3.cell? ⟨WB.heap.size, 3, none⟩ = some (.int .i64 xs[k][j].died) := g23.cellv (by simp [go_sem])
                        go_wp2_with fail
                        refine (calls_b (R := fun w' => _ = w') (impl_within _ _ _ _) H6.out).mono ?_
                        rintro e w4 ⟨rfl, rfl⟩
                        go_wp2_with fail
                        refine (calls_b (R := fun w' => _ = w') (impl_within _ _ _ _) H7.out).mono ?_
                        rintro e w4 ⟨rfl, rfl⟩
                        go_wp2_with fail
                        go_ret
                        exact ⟨ret_bool (isStoreB_ver (s := ⟨xs, now⟩) HAT.out (verAt_1 HAT.out HE.out)).symm, gw3⟩
                      | true =>
                        have HE : Hid (versOk now (xs.flatten[(partV xs k).length + j]'HAT.out) = true) := Lib.hid (by rw [HATE.out]; unfold versOk; rw [h5, h6, h7]; simp)
                        have H5 := Lib.hid h5
                        have H6 := Lib.hid h6
                        have H7 := Lib.hid h7
                        clear h5 h6 h7 h8
                        go_wp2_with fail
                        refine (impl_rowOf xs[k][j] _ _ (RSlice.mono keeps_int hgq HV3.out) (HBS.out k hlt j hjt)).mono ?_
                        rintro e w2 ⟨pv, rfl, g2, hp⟩
                        obtain ⟨pa, pc, rfl⟩ := (rd_pints hp).form
                        have HP := Lib.hid (rd_pints hp)
                        clear hp
                        go_wp2_with fail
                        refine (calls_b (impl_IsRow ⟨xs[k][j].id, xs[k][j].vals⟩ _ _ HP.out) H5.out).mono ?_
                        rintro e w3 ⟨rfl, g3⟩
                        have g23 := g2.trans g3
                        have gw3 := hgq.trans g23
                        have f1 := g23.cellv e1
                        have k0 : w3.cell? ⟨WB.heap.size, 0, none⟩ = some (.int .i64 xs[k][j].id) := g23.cellv (by simp [go_sem])
                        have k1 : w3.cell? ⟨WB.heap.size, 1, none⟩ = some (.slice va vn vc) := g23.cellv (by simp [go_sem])
                        have k2 : w3.cell? ⟨WB.heap.size, 2, none⟩ = some (.int .i64 xs[k][j].born) := g23.cellv (by simp [go_sem])
                        have k3 : w3.cell? ⟨WB.heap.size, 3, none⟩ = some (.int .i64 xs[k][j].died) := g23.cellv (by simp [go_sem])
                        go_wp2_with fail
                        refine (calls_b (R := fun w' => _ = w') (impl_within _ _ _ _) H6.out).mono ?_
                        rintro e w4 ⟨rfl, rfl⟩
                        go_wp2_with fail
                        refine (calls_b (R := fun w' => _ = w') (impl_within _ _ _ _) H7.out).mono ?_
                        rintro e w4 ⟨rfl, rfl⟩
                        have HRD := Lib.hid (hO.out.reads keeps_version hgW)
                        obtain ⟨sa, sc, hse, sl, sm, hxs⟩ := RSlice.mono keeps_version (gq.trans g23) HRD.out
                        simp only [Value.slice.injEq] at hse
                        obtain ⟨rfl, -, rfl⟩ := hse
                        have HSL := Lib.hid (seenTo_len hlt (Nat.le_of_lt hjt))
                        have HXS := Lib.hid hxs
                        clear hxs
                        go_wp2
                        go_loopw [68] (fun i wr => ∃ p : Nat, p ≤ (seenTo xs k j).length ∧ i = .int .i64 p ∧ Gr w3 wr ∧ Hid (∀ q (h : q < (seenTo xs k j).length), q < p → clashB xs[k][j] (seenTo xs k j)[q] = false)) (fun i _ => (seenTo xs k j).length - (intOf i).toNat)
                        case atStart => exact ⟨0, Nat.zero_le _, rfl, Gr.refl _, Lib.hid fun _ _ h => absurd h (Nat.not_lt_zero _)⟩
                        case round =>
                          obtain ⟨p, hp, rfl, hg3, hcl⟩ := hrel
                          have r0 := hg3.cellv k0
                          have r1 := hg3.cellv k1
                          have r2 := hg3.cellv k2
                          have r3 := hg3.cellv k3
                          by_cases hpt : p < (seenTo xs k j).length
                          · obtain ⟨b5, off5, cs5, rfl, hlen5, ⟨u5, rfl, i_id5, h_vals5, i_born5, i_died5⟩, hc5⟩ := HXS.out p hpt
                            have d0 := hg3.cellv (hc5 0 (by simp))
                            have d1 := hg3.cellv (hc5 1 (by simp))
                            have d2 := hg3.cellv (hc5 2 (by simp))
                            have d3 := hg3.cellv (hc5 3 (by simp))
                            simp only [Nat.add_zero, List.getElem_cons_zero, List.getElem_cons_succ] at d0 d1 d2 d3
                            clear hc5 hlen5
                            obtain ⟨ya, yn, yc, rfl⟩ := RSlice.isSl h_vals5
                            have gz : Gr wr (wr.alloc (.cells #[.int .i64 (seenTo xs k j)[p].id, .slice ya yn yc, .int .i64 (seenTo xs k j)[p].born, .int .i64 (seenTo xs k j)[p].died] 110)) := (Gr.refl _).alloc _
                            have HV5 := Lib.hid (h_vals5.mono (hg3.trans gz))
                            have HV3' := Lib.hid (HV3.out.mono ((gw3.trans hg3).trans gz))
                            clear h_vals5
                            replace r0 := gz.cellv r0
                            replace r1 := gz.cellv r1
                            replace r2 := gz.cellv r2
                            replace r3 := gz.cellv r3
                            have gw5 := hg3.trans gz
                            by_cases hid : xs[k][j].id = (seenTo xs k j)[p].id
                            · have hde : (xs[k][j].id == (seenTo xs k j)[p].id) = true := by simp [hid]
                              cases hmt : meetB xs[k][j] (seenTo xs k j)[p] with
                              | false =>
                                have HC : Hid (clashB xs[k][j] (seenTo xs k j)[p] = false) := Lib.hid (by unfold clashB; rw [hmt, Bool.and_false])
                                have HM := Lib.hid hmt
                                clear hmt hid
                                go_wp2_with fail
                                refine (calls_b (impl_meetInTime xs[k][j] (seenTo xs k j)[p] _ _ _ HV3'.out HV5.out) HM.out).mono ?_
                                rintro e w5 ⟨rfl, g5⟩
                                have gw6 := gw5.trans g5
                                go_wp2_with fail
                                go_roundw
                                case rel => exact ⟨p + 1, by omega, by go_num, gw6, Lib.hid (below_suc (p := fun q => clashB xs[k][j] q = false) hcl.out hpt HC.out)⟩
                                case measure => simp [intOf]; omega
                              | true =>
                                have HC : Hid (clashB xs[k][j] (seenTo xs k j)[p] = true) := Lib.hid (by unfold clashB; rw [hmt, hde]; rfl)
                                obtain ⟨hql, hqe⟩ := seenTo_at hlt hjt hpt
                                have HE : Hid (isStoreB ⟨xs, now⟩ = false) := Lib.hid (isStoreB_ver (s := ⟨xs, now⟩) HAT.out (verAt_2 (i := (partV xs k).length + j) (k := p) HAT.out (by have := HSL.out; omega) (by
                                  have h := HC.out
                                  rw [← HATE.out, ← hqe] at h
                                  exact h)))
                                have HM := Lib.hid hmt
                                clear hmt hid hqe
                                go_wp2_with fail
                                refine (calls_b (impl_meetInTime xs[k][j] (seenTo xs k j)[p] _ _ _ HV3'.out HV5.out) HM.out).mono ?_
                                rintro e w5 ⟨rfl, g5⟩
                                go_wp2_with fail
                                go_ret
                                exact ⟨ret_bool HE.out.symm, (gw3.trans gw5).trans g5⟩
                            · have hde : (xs[k][j].id == (seenTo xs k j)[p].id) = false := by simp [hid]
                              have HC : Hid (clashB xs[k][j] (seenTo xs k j)[p] = false) := Lib.hid (by unfold clashB; rw [hde]; rfl)
                              clear hid
                              go_wp2_with fail
                              go_roundw
                              case rel => exact ⟨p + 1, by omega, by go_num, gw5, Lib.hid (below_suc (p := fun q => clashB xs[k][j] q = false) hcl.out hpt HC.out)⟩
                              case measure => simp [intOf]; omega
                          · obtain rfl : p = (seenTo xs k j).length := by omega
                            have HVA : Hid (verAtB xs.flatten now ((partV xs k).length + j) = true) := Lib.hid (verAt_3 HAT.out HE.out fun q hq hqi => by
                              have hq' : q < (seenTo xs k j).length := by have := HSL.out; omega
                              obtain ⟨h1, h2⟩ := seenTo_at hlt hjt hq'
                              have h3 := hcl.out q hq' hq'
                              rw [← h2, ← HATE.out] at h3
                              exact h3)
                            have HS := Lib.hid (seenTo_succ hlt hjt)
                            have HB : Hid (((seenTo xs k j).length + 1) * 48 ≤ 140737488355328) := Lib.hid (by have := HSL.out; have := HAT.out; have := HAL.out; omega)
                            have gW4 := ((hgW.trans gq).trans g23).trans hg3
                            have HO4 := Lib.hid (hO.out.gr ((gq.trans g23).trans hg3))
                            have HV0 := Lib.hid (HV3.out.mono g0)
                            go_wp2_with (at_builtin; refine push_r (wr := wr) 106 110 4 48 Try.underlying106 (z := .agg #[.int .i64 0, .slice none 0 0, .int .i64 0, .int .i64 0]) (by kernel_rfl) rfl (by decide) (by decide) rfl _ _ rfl xs[k][j] [.int .i64 xs[k][j].id, .slice va vn vc, .int .i64 xs[k][j].born, .int .i64 xs[k][j].died] rfl rfl rfl HO4.out ⟨_, rfl, HI3.out, HV0.out, HB3.out, HD3.out⟩ gW4 rfl (by simp [Value.oneCell']) HB.out ?_; intro g5 cap5 w5 hown5 hb5)
                            go_roundw
                            case rel => exact ⟨j + 1, _, _, by omega, by go_num, by rw [HS.out, List.length_append, List.length_singleton], Lib.hid (by have h := hown5; rw [List.length_append, List.length_singleton] at h; rw [HS.out]; exact h), gW4.trans' hb5, Lib.hid (below_succ hvi.out HVA.out)⟩
                            case measure => simp [intOf]; omega
              · obtain rfl : j = xs[k].length := by omega
                have HS := Lib.hid (seenTo_all hlt)
                have HPN := Lib.hid (partV_next hlt)
                go_wp2_with fail
                go_roundw
                case rel => exact ⟨k + 1, _, _, by omega, by go_num, by rw [HS.out], Lib.hid (by rw [← HS.out]; exact hO.out), hgW, Lib.hid (below_suc (p := fun g => g.length ≤ 4) hsg.out hlt H4.out), Lib.hid fun i hi => hvi.out i (by rw [HPN.out] at hi; exact hi)⟩
                case measure => simp [intOf]; omega
          · have hd4 : decide ((xs[k].length : Int) > 4) = true := by simp; omega
            have HE : Hid (isStoreB ⟨xs, now⟩ = false) := Lib.hid (isStoreB_seg (s := ⟨xs, now⟩) hlt h4)
            clear h4
            go_wp2_with fail
            go_ret
            exact ⟨ret_bool HE.out.symm, hgr⟩
        · obtain rfl : k = xs.length := by omega
          have HE : Hid (isStoreB ⟨xs, now⟩ = true) := Lib.hid (isStoreB_yes (s := ⟨xs, now⟩) H1.out H2.out (fun j hj => hsg.out j hj hj) fun j hj => hvr.out j (by rw [partV_all]; exact hj))
          go_wp2_with fail
          go_ret
          exact ⟨ret_bool HE.out.symm, hgr⟩
end Go.Proofs.Ytnnapjaggahjgaa
