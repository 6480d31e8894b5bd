/- NewStore: the reference's walk. -/
import Derived.Test.YtnnapjaggahjgaaNewP
import Derived.Test.YtnnapjaggahjgaaStepN
namespace Go.Proofs.Ytnnapjaggahjgaa
open Go.RowKit
theorem i64_zero : I64 0 := by unfold I64; omega
theorem i64_neg : I64 (-1) := by unfold I64; omega
theorem newL_ret {rows : List DRow} {n : Int} {v : Value} {b : Bool} (h : newOk rows n = b) : Ending.returned (.tuple #[.agg #[v, .int .i64 0], .bool b]) = .returned (.tuple #[.agg #[v, .int .i64 (newL rows n).now], .bool (newOk rows n)]) := by rw [newL_now, h]
set_option maxRecDepth 100000 in
set_option maxHeartbeats 2000000 in
theorem spec_NewStore (v : Value) (rows : List DRow) (n : Int) (w : World) (hv : RRows w v rows) (hb : totL totRow rows ≤ 4294967296) :
    Calls Try.prog 40 #[v, .int .i64 n] w fun e w' => ∃ u, e = .returned (.tuple #[.agg #[u, .int .i64 (newL rows n).now], .bool (newOk rows n)]) ∧ RVersionss w' u (newL rows n).segs ∧ Gr w w' := by
  have HV := Lib.hid hv
  obtain ⟨a, cap, rfl, hl, hm, hx⟩ := hv
  have g0 : Gr w (w.alloc (.cells #[.slice none 0 0, .int .i64 0] 29)) := (Gr.refl w).alloc _
  cases h1 : areRowsB rows with
  | false =>
    have HE := Lib.hid (newOk_1 (n := n) h1)
    have H1 := Lib.hid h1
    clear h1
    go_enter Try.func40, Try.ntmps40
    go_wp2_with fail
    refine (calls_b (spec_AreRows _ rows _ (RSlice.mono keeps_row g0 HV.out)) H1.out).mono ?_
    rintro e w1 ⟨rfl, g1⟩
    have k0 : w1.cell? ⟨w.heap.size, 0, none⟩ = some (.slice none 0 0) := g1.cellv (by simp [go_sem])
    have k1 : w1.cell? ⟨w.heap.size, 1, none⟩ = some (.int .i64 0) := g1.cellv (by simp [go_sem])
    have hlt : w.heap.size < (w.alloc (.cells #[.slice none 0 0, .int .i64 0] 29)).heap.size := by simp
    have f0 : w1.frozen? ⟨w.heap.size, 0, none⟩ = false := by rw [g1.frozen hlt]; simp [go_sem]
    have f1 : w1.frozen? ⟨w.heap.size, 1, none⟩ = false := by rw [g1.frozen hlt]; simp [go_sem]
    go_wp2_with fail
    refine bodyPost_ret (v := .tuple #[.agg #[.slice none 0 0, .int .i64 0], .bool false]) (by simp [results, Try.results40, go_sem, *]) rfl ⟨_, newL_ret HE.out, by rw [newL_no HE.out]; exact rd_pversionss (OSl.nil (F := fun _ => True) _), ((g0.trans g1).setCell (Nat.le_refl _) _).setCell (Nat.le_refl _) _⟩
  | true =>
    cases h2 : inB n 1 8 with
    | false =>
      have HE := Lib.hid (newOk_2 (rows := rows) h2)
      have H1 := Lib.hid h1
      have H2 := Lib.hid h2
      clear h1 h2
      go_enter Try.func40, Try.ntmps40
      go_wp2_with fail
      refine (calls_b (spec_AreRows _ rows _ (RSlice.mono keeps_row g0 HV.out)) H1.out).mono ?_
      rintro e w1 ⟨rfl, g1⟩
      have k0 : w1.cell? ⟨w.heap.size, 0, none⟩ = some (.slice none 0 0) := g1.cellv (by simp [go_sem])
      have k1 : w1.cell? ⟨w.heap.size, 1, none⟩ = some (.int .i64 0) := g1.cellv (by simp [go_sem])
      have hlt : w.heap.size < (w.alloc (.cells #[.slice none 0 0, .int .i64 0] 29)).heap.size := by simp
      have f0 : w1.frozen? ⟨w.heap.size, 0, none⟩ = false := by rw [g1.frozen hlt]; simp [go_sem]
      have f1 : w1.frozen? ⟨w.heap.size, 1, none⟩ = false := by rw [g1.frozen hlt]; simp [go_sem]
      go_wp2_with fail
      refine (calls_b (R := fun w' => w1 = w') (spec_l1In _ _ _ _) H2.out).mono ?_
      rintro e w2 ⟨rfl, rfl⟩
      go_wp2_with fail
      refine bodyPost_ret (v := .tuple #[.agg #[.slice none 0 0, .int .i64 0], .bool false]) (by simp [results, Try.results40, go_sem, *]) rfl ⟨_, newL_ret HE.out, by rw [newL_no HE.out]; exact rd_pversionss (OSl.nil (F := fun _ => True) _), ((g0.trans g1).setCell (Nat.le_refl _) _).setCell (Nat.le_refl _) _⟩
    | true =>
      obtain ⟨N, rfl⟩ := Int.eq_ofNat_of_zero_le (by have := (inB_true h2).1; omega : (0 : Int) ≤ n)
      have hN1 : (1 : Int) ≤ (N : Int) := (inB_true h2).1
      have hN8 : (N : Int) ≤ 8 := (inB_true h2).2
      by_cases h3 : (rows.length : Int) ≤ 4 * (N : Int)
      · have hd : decide ((rows.length : Int) > (N : Int) * 4) = false := by simp; omega
        have HE := Lib.hid (newOk_yes h1 h2 h3)
        have HR32 : Hid (rows.length ≤ 32) := Lib.hid (by omega)
        have HL : Hid (newL rows (N : Int) = ⟨segsTo rows N rows.length, 0⟩) := Lib.hid (newL_yes (newOk_yes h1 h2 h3))
        have HBS : Hid (∀ k (h : k < rows.length), rows[k].vals.length ≤ 4294967296) := Lib.hid fun k h => by
          have h2 := sumT_mem totRow rows k h
          unfold totL at hb
          unfold totRow at h2 hb
          omega
        have H1 := Lib.hid h1
        have H2 := Lib.hid h2
        clear h1 h2 h3
        go_enter Try.func40, Try.ntmps40
        go_wp2_with fail
        refine (calls_b (spec_AreRows _ rows _ (RSlice.mono keeps_row g0 HV.out)) H1.out).mono ?_
        rintro e w1 ⟨rfl, g1⟩
        have k0 : w1.cell? ⟨w.heap.size, 0, none⟩ = some (.slice none 0 0) := g1.cellv (by simp [go_sem])
        have k1 : w1.cell? ⟨w.heap.size, 1, none⟩ = some (.int .i64 0) := g1.cellv (by simp [go_sem])
        have hlt : w.heap.size < (w.alloc (.cells #[.slice none 0 0, .int .i64 0] 29)).heap.size := by simp
        have f0 : w1.frozen? ⟨w.heap.size, 0, none⟩ = false := by rw [g1.frozen hlt]; simp [go_sem]
        have f1 : w1.frozen? ⟨w.heap.size, 1, none⟩ = false := by rw [g1.frozen hlt]; simp [go_sem]
        have gw1 := g0.trans g1
        have hB1 : w.heap.size < w1.heap.size := Nat.lt_of_lt_of_le hlt g1.size
        have HST : Hid (PVersionss (In (w1.heap.size + 1) (w1.alloc (.cells #[.slice none 0 0, .int .i64 0] 29)).heap.size) (w1.alloc (.cells #[.slice none 0 0, .int .i64 0] 29)) (.slice none 0 0) []) := Lib.hid (OSl.nil _)
        go_wp2_with fail
        refine (calls_b (R := fun w' => w1 = w') (spec_l1In _ _ _ _) H2.out).mono ?_
        rintro e w2 ⟨rfl, rfl⟩
        go_wp2_with fail
        go_loopw [7] (fun i wr => ∃ (k : Nat) (b : Option Addr) (c : Nat), k ≤ N ∧ i = .int .i64 k ∧ wr.cell? ⟨w1.heap.size, 0, none⟩ = some (.slice b (segsUp rows N k).length c) ∧ wr.cell? ⟨w1.heap.size, 1, none⟩ = some (.int .i64 0) ∧ wr.frozen? ⟨w1.heap.size, 0, none⟩ = false ∧ Hid (PVersionss (In (w1.heap.size + 1) wr.heap.size) wr (.slice b (segsUp rows N k).length c) (segsUp rows N k)) ∧ Gr w1 wr ∧ w1.heap.size < wr.heap.size) (fun i _ => N - (intOf i).toNat)
        case atStart => exact ⟨0, none, 0, Nat.zero_le _, rfl, by simp [go_sem, segsUp], by simp [go_sem], by simp [go_sem], HST, (Gr.refl _).alloc _, by simp⟩
        case round =>
          obtain ⟨k, bo, co, hk, rfl, s0, s1, sf, hO, hg1, hBW⟩ := hrel
          have HO := hO
          clear hO
          by_cases hlt : k < N
          · have hkN : (k : Int) < (N : Int) := by omega
            obtain ⟨WA, hWA⟩ : ∃ W1, W1 = wr := ⟨_, rfl⟩
            subst hWA
            have HPS : Hid (PVersions (In WA.heap.size (WA.alloc (.cells #[] 110)).heap.size) (WA.alloc (.cells #[] 110)) (.slice (some ⟨WA.heap.size, 0, none⟩) 0 0) []) := Lib.hid (OSl.made WA ⟨Nat.le_refl _, by simp⟩)
            have HPH := Lib.hid (partTo_head (rows := rows) hlt k (Nat.le_refl _))
            go_wp2
            go_loopw [8, 9] (fun out i wr => ∃ (q m : Nat) (b' : Option Addr) (c' : Nat), i = .int .i64 m ∧ Hid (m = k + q * N) ∧ m ≤ rows.length + N ∧ out = .slice b' (partTo rows N k m).length c' ∧ Hid (PVersions (In WA.heap.size wr.heap.size) wr out (partTo rows N k m)) ∧ Gr WA wr) (fun _ i _ => rows.length + N + 1 - (intOf i).toNat)
            case atStart => exact ⟨0, k, _, _, rfl, Lib.hid (by omega), by omega, by rw [HPH.out]; rfl, by rw [HPH.out]; exact HPS, (Gr.refl _).alloc _⟩
            case round =>
              obtain ⟨q, m, bi, ci, rfl, hmq, hmb, rfl, ho, hgA⟩ := hrel
              have hg3 := hg1.trans hgA
              have hgr := gw1.trans hg3
              have hr32 := HR32.out
              by_cases hmt : m < rows.length
              · obtain ⟨b3, off3, cs3, rfl, hlen3, ⟨u3, rfl, i_id3, h_vals3⟩, hc3⟩ := hx m hmt
                have c0 := hgr.cellv (hc3 0 (by simp))
                have c1 := hgr.cellv (hc3 1 (by simp))
                have HLW : Hid (b3 < w.heap.size) := Lib.hid (World.block_lt_of_cell? w _ (hc3 0 (by simp)))
                simp only [Nat.add_zero, List.getElem_cons_zero, List.getElem_cons_succ] at c0 c1
                clear hc3 hlen3
                obtain ⟨va, vc, rfl, hsrc, hi3⟩ := ints_src h_vals3
                have HI3 := Lib.hid i_id3
                have HII := Lib.hid hi3
                have HSR2 : Hid (SrcAt wr va (rows[m].vals.map (Value.int .i64))) := Lib.hid (by
                  rcases hsrc with h | ⟨b, off, h1, h2⟩
                  · exact Or.inl h
                  · exact Or.inr ⟨b, off, h1, fun j u hj => hgr.cellv (h2 j u hj)⟩)
                have i0 : (0 : Int) ≤ (m : Int) := Int.natCast_nonneg _
                have i1 : (m : Int) < (rows.length : Int) := by omega
                have HB : Hid (((partTo rows N k m).length + 1) * 48 ≤ 140737488355328) := Lib.hid (by have := partTo_len rows N k m; omega)
                have HN : Hid (partTo rows N k (m + N) = partTo rows N k m ++ [bornV rows[m]]) := Lib.hid (by have h := hmq.out; subst h; exact partTo_next hlt hmt)
                have HSZ := Lib.hid hgA.size
                have HSW := Lib.hid hg1.size
                clear h_vals3 hsrc hi3 i_id3
                go_wp2
                first | (go_region_held3 (fun w' => w'.cell? ⟨b3, off3 + m * 2, none⟩ = some (.int .i64 rows[m].id) ∧ w'.cell? ⟨b3, off3 + m * 2 + 1, none⟩ = some (.slice va rows[m].vals.length vc))
                  (first | exact ⟨c0, c1⟩ | exact ⟨Gr.cellv ((Gr.refl wr).alloc _).drew c0, Gr.cellv ((Gr.refl wr).alloc _).drew c1⟩ | exact ⟨Gr.cellv (Gr.alloc hb3 _) c0, Gr.cellv (Gr.alloc hb3 _) c1⟩ | exact ⟨Gr.cellv hb3 c0, Gr.cellv hb3 c1⟩ | exact ⟨(hb4.cell (by have := HLW.out; have := HSW.out; dsimp only; omega)).trans (Gr.cellv hb3 c0), (hb4.cell (by have := HLW.out; have := HSW.out; dsimp only; omega)).trans (Gr.cellv hb3 c1)⟩)
                  (first | (refine step_copy_i (wr := wr) rfl _ _ rfl (ys := rows[m].vals) rfl rfl (by first | exact Or.inl rfl | exact Or.inr rfl) HSR2.out HII.out (HBS.out m hmt) ?_; intro b5 c5 w3 hown3 hb3) | (refine step_push_on (w0 := wr) (wr := w3) (la := wr.heap.size) (hb := w3.heap.size) (lo := WA.heap.size) 106 110 4 48 Try.underlying106 (z := .agg #[.int .i64 0, .slice none 0 0, .int .i64 0, .int .i64 0]) (by kernel_rfl) rfl (by decide) (by decide) rfl _ _ rfl fr_version (bornV rows[m]) [.int .i64 rows[m].id, .slice b5 rows[m].vals.length c5, .int .i64 0, .int .i64 (-1)] rfl rfl rfl ho.out HSZ.out hb3 ⟨_, rfl, HI3.out, hown3.priv, i64_zero, i64_neg⟩ (Nat.le_refl _) (Nat.le_refl _) rfl (by simp [Value.oneCell']) HB.out ?_; intro g4 cap4 w4 hown4 hb4))) | fail
                go_wp2
                go_roundw
                case rel => exact ⟨q + 1, m + N, _, _, by go_num, Lib.hid (by have := hmq.out; rw [Nat.add_mul]; omega), by omega, by rw [HN.out, List.length_append, List.length_singleton], Lib.hid (by have h := hown4; rw [List.length_append, List.length_singleton] at h; rw [HN.out]; exact h), (hgA.trans hb3).trans' hb4⟩
                case measure => simp [intOf]; omega
              · have HPO := Lib.hid (partTo_over (rows := rows) (n := N) (k := k) (m := m) (by omega))
                rw [HPO.out] at ho ⊢
                have y0 := hgA.cellv s0
                have y1 := hgA.cellv s1
                have yf : wr.frozen? ⟨w1.heap.size, 0, none⟩ = false := by rw [hgA.frozen hBW]; exact sf
                have HS := Lib.hid (segsUp_succ rows N k)
                have HB : Hid (((segsUp rows N k).length + 1) * 24 ≤ 140737488355328) := Lib.hid (by rw [segsUp_len]; omega)
                have HBW := Lib.hid hBW
                have HWA := Lib.hid hgA.size
                have BW : Hid (w1.heap.size < wr.heap.size) := Lib.hid (Nat.lt_of_lt_of_le hBW hgA.size)
                go_wp2_with (at_builtin; refine push_o (w0 := WA) (wr := wr) (la := WA.heap.size) (hb := wr.heap.size) (lo := w1.heap.size + 1) 27 106 1 24 Try.underlying27 (z := .slice none 0 0) (by kernel_rfl) rfl (by decide) (by decide) rfl _ _ rfl (fr_of fr_version) (partTo rows N k rows.length) [.slice bi (partTo rows N k rows.length).length ci] rfl rfl rfl HO.out HBW.out hgA ⟨_, rfl, ho.out⟩ (Nat.le_refl _) (Nat.le_refl _) rfl (by simp [Value.oneCell']) HB.out ?_; intro g4 cap4 w4 hown4 hb4; have z0 := (hb4.cell (p := ⟨w1.heap.size, 0, none⟩) (Nat.lt_succ_self _)).trans y0; have z1 := (hb4.cell (p := ⟨w1.heap.size, 1, none⟩) (Nat.lt_succ_self _)).trans y1; have zf := (hb4.frozen (p := ⟨w1.heap.size, 0, none⟩) (Nat.lt_succ_self _)).trans yf)
                have HOW := Lib.hid hown4
                have HZ4 := Lib.hid hb4.size
                have HG4 := Lib.hid (hg3.trans' (hb4.mono (by omega) : Below w1.heap.size wr w4))
                have hzz := HZ4.out
                have hbb := BW.out
                clear hown4
                go_roundw
                case rel => exact ⟨k + 1, some ⟨g4, 0, none⟩, cap4, by omega, by go_num, by rw [HS.out, List.length_append, List.length_singleton]; simp [go_sem, z0], by simp [go_sem, z1], by simp [go_sem, zf], Lib.hid (by
                  have h := HOW.out.loc (fr_of fr_version) (Loc.setCell (Loc.refl _ _) (p := ⟨w1.heap.size, 0, none⟩) (Nat.lt_succ_self _) (.slice (some ⟨g4, 0, none⟩) ((segsUp rows N k).length + 1) cap4)) (Nat.le_refl _)
                  rw [HS.out]
                  rw [List.length_append, List.length_singleton] at h ⊢
                  exact h.wide (Nat.le_refl _) (by simp [World.setCell])), HG4.out.setCell (Nat.le_refl _) _, by simp [World.setCell]; omega⟩
                case measure => simp [intOf]; omega
          · obtain rfl : k = N := by omega
            have r0 := hg1.cellv k0
            have r1 := hg1.cellv k1
            have rf0 := (hg1.frozen (p := ⟨w.heap.size, 0, none⟩) hB1).trans f0
            have rf1 := (hg1.frozen (p := ⟨w.heap.size, 1, none⟩) hB1).trans f1
            go_wp2_with fail
            refine bodyPost_ret (v := .tuple #[.agg #[.slice bo (segsUp rows k k).length co, .int .i64 0], .bool true]) (by simp [results, Try.results40, go_sem, *]) rfl ⟨_, newL_ret HE.out, ?_, ((gw1.trans hg1).setCell (Nat.le_refl _) _).setCell (Nat.le_refl _) _⟩
            rw [HL.out]
            exact rd_pversionss (HO.out.loc (lo' := w1.heap.size + 1) (fr_of fr_version) (Loc.setCell (Loc.setCell (Loc.refl _ _) (by dsimp only; omega) _) (by dsimp only; omega) _) (Nat.le_refl _))
      · have hd : decide ((rows.length : Int) > (N : Int) * 4) = true := by simp; omega
        have HE := Lib.hid (newOk_3 h3)
        have H1 := Lib.hid h1
        have H2 := Lib.hid h2
        clear h1 h2 h3
        go_enter Try.func40, Try.ntmps40
        go_wp2_with fail
        refine (calls_b (spec_AreRows _ rows _ (RSlice.mono keeps_row g0 HV.out)) H1.out).mono ?_
        rintro e w1 ⟨rfl, g1⟩
        have k0 : w1.cell? ⟨w.heap.size, 0, none⟩ = some (.slice none 0 0) := g1.cellv (by simp [go_sem])
        have k1 : w1.cell? ⟨w.heap.size, 1, none⟩ = some (.int .i64 0) := g1.cellv (by simp [go_sem])
        have hlt : w.heap.size < (w.alloc (.cells #[.slice none 0 0, .int .i64 0] 29)).heap.size := by simp
        have f0 : w1.frozen? ⟨w.heap.size, 0, none⟩ = false := by rw [g1.frozen hlt]; simp [go_sem]
        have f1 : w1.frozen? ⟨w.heap.size, 1, none⟩ = false := by rw [g1.frozen hlt]; simp [go_sem]
        go_wp2_with fail
        refine (calls_b (R := fun w' => w1 = w') (spec_l1In _ _ _ _) H2.out).mono ?_
        rintro e w2 ⟨rfl, rfl⟩
        go_wp2_with fail
        refine bodyPost_ret (v := .tuple #[.agg #[.slice none 0 0, .int .i64 0], .bool false]) (by simp [results, Try.results40, go_sem, *]) rfl ⟨_, newL_ret HE.out, by rw [newL_no HE.out]; exact rd_pversionss (OSl.nil (F := fun _ => True) _), ((g0.trans g1).setCell (Nat.le_refl _) _).setCell (Nat.le_refl _) _⟩
end Go.Proofs.Ytnnapjaggahjgaa
