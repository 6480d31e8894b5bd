/- BuildIndex: the reference's walk. Written by gen_build.py. -/
import Derived.Test.YtnnapjaggahjgaaBuildU
namespace Go.Proofs.Ytnnapjaggahjgaa
open Go.ChangeShapes Go.WideShapes Go.RowKit Go.Deep
set_option maxRecDepth 100000 in
set_option maxHeartbeats 2000000 in
theorem spec_BuildIndex (v : Value) (xs : List DQuery) (w : World) (hv : RQueries w v xs) (hb : totL totQuery xs ≤ 4294967296) :
    Calls Try.prog 60 #[v] w fun e w' => ∃ vq vf, e = .returned (.agg #[vq, vf]) ∧ RQueries w' vq (buildL xs).queries ∧ RSpanss w' vf (buildL xs).fields ∧ Gr w w' := by
  obtain ⟨va, vn, vc, rfl⟩ := hv.isSl
  have HV := Lib.hid hv
  have HBT := Lib.hid hb
  clear hv
  have g0 : Gr w (w.alloc (.cells #[.slice none 0 0, .slice none 0 0] 87)) := (Gr.refl w).alloc _
  have hlt : w.heap.size < (w.alloc (.cells #[.slice none 0 0, .slice none 0 0] 87)).heap.size := by simp
  cases h1 : areQueriesB xs with
  | false =>
    have HE := Lib.hid (buildL_no h1)
    have H1 := Lib.hid h1
    clear h1
    go_enter Try.func60, Try.ntmps60
    go_wp2_with fail
    refine (calls_b (spec_AreQueries _ xs _ (RSlice.mono keeps_query g0 HV.out)) H1.out).mono ?_
    rintro e w1 ⟨rfl, g1⟩
    have k0 : w1.cell? ⟨w.heap.size, 0, none⟩ = some (.slice none 0 0) := g1.cellv (by simp [go_sem])
    have k1 : w1.cell? ⟨w.heap.size, 1, none⟩ = some (.slice none 0 0) := g1.cellv (by simp [go_sem])
    have f0 : w1.frozen? ⟨w.heap.size, 0, none⟩ = false := by rw [g1.frozen hlt]; simp [go_sem]
    have f1 : w1.frozen? ⟨w.heap.size, 1, none⟩ = false := by rw [g1.frozen hlt]; simp [go_sem]
    have gw1 := g0.trans g1
    go_wp2_with fail
    refine bodyPost_ret (v := .agg #[.slice none 0 0, .slice none 0 0]) (by simp [results, Try.results60, go_sem, *]) rfl ⟨_, _, rfl, by rw [HE.out]; exact rd_pqueries (OSl.nil (F := fun _ => True) _), by rw [HE.out]; exact rd_pspanss (OSl.nil (F := fun _ => True) _), (gw1.setCell (Nat.le_refl _) _).setCell (Nat.le_refl _) _⟩
  | true =>
    have HE := Lib.hid (buildL_yes h1)
    have H1 := Lib.hid h1
    clear h1
    go_enter Try.func60, Try.ntmps60
    go_wp2_with fail
    refine (calls_b (spec_AreQueries _ xs _ (RSlice.mono keeps_query g0 HV.out)) H1.out).mono ?_
    rintro e w1 ⟨rfl, g1⟩
    have k0 : w1.cell? ⟨w.heap.size, 0, none⟩ = some (.slice none 0 0) := g1.cellv (by simp [go_sem])
    have k1 : w1.cell? ⟨w.heap.size, 1, none⟩ = some (.slice none 0 0) := g1.cellv (by simp [go_sem])
    have f0 : w1.frozen? ⟨w.heap.size, 0, none⟩ = false := by rw [g1.frozen hlt]; simp [go_sem]
    have f1 : w1.frozen? ⟨w.heap.size, 1, none⟩ = false := by rw [g1.frozen hlt]; simp [go_sem]
    have gw1 := g0.trans g1
    have hl1 : w.heap.size < w1.heap.size := Nat.lt_of_lt_of_le hlt g1.size
    go_wp2_with fail
    refine (spec_l6Queries _ xs _ (RSlice.mono keeps_query gw1 HV.out) HBT.out).mono ?_
    rintro e w2 ⟨vq, rfl, g2, hq⟩
    obtain ⟨qa, qc, rfl⟩ := hq.form
    replace k0 := g2.cellv k0
    replace k1 := g2.cellv k1
    replace f0 := (g2.frozen (p := ⟨w.heap.size, 0, none⟩) hl1).trans f0
    replace f1 := (g2.frozen (p := ⟨w.heap.size, 1, none⟩) hl1).trans f1
    have gw2 := gw1.trans g2
    have hl2 : w.heap.size < w2.heap.size := Nat.lt_of_lt_of_le hl1 g2.size
    have HQ := Lib.hid (hq.wide (lo' := w.heap.size + 1) (hi' := w2.heap.size) (by omega) (Nat.le_refl _))
    have HST : Hid (PSpanss (In (w2.heap.size + 1) (w2.alloc (.cells #[.slice qa xs.length qc, .slice none 0 0] 87)).heap.size) (w2.alloc (.cells #[.slice qa xs.length qc, .slice none 0 0] 87)) (.slice none 0 0) []) := Lib.hid (OSl.nil _)
    clear hq g1 g2
    go_wp2
    go_loopw [4] (fun i wr => ∃ (k : Nat) (b : Option Addr) (c : Nat), k ≤ 3 ∧ i = .int .i64 k ∧ wr.cell? ⟨w2.heap.size, 0, none⟩ = some (.slice qa xs.length qc) ∧ wr.cell? ⟨w2.heap.size, 1, none⟩ = some (.slice b (fldsTo xs k).length c) ∧ wr.frozen? ⟨w2.heap.size, 1, none⟩ = false ∧ Hid (PSpanss (In (w2.heap.size + 1) wr.heap.size) wr (.slice b (fldsTo xs k).length c) (fldsTo xs k)) ∧ Gr w2 wr ∧ w2.heap.size < wr.heap.size) (fun i _ => 3 - (intOf i).toNat)
    case atStart => exact ⟨0, none, 0, by omega, rfl, by simp [go_sem], by simp [go_sem, fldsTo], by simp [go_sem], HST, (Gr.refl _).alloc _, by simp⟩
    case round =>
      obtain ⟨k, bo, co, hk, rfl, s0, s1, sf, hO, hg2, hBW⟩ := hrel
      have hgr := gw2.trans hg2
      by_cases hlt3 : k < 3
      · have HO := hO
        have HV3 := Lib.hid (RSlice.mono keeps_query hgr HV.out)
        have HS := Lib.hid (fldsTo_succ xs k)
        have HB : Hid (((fldsTo xs k).length + 1) * 24 ≤ 140737488355328) := Lib.hid (by rw [fldsTo_len]; omega)
        have HBW := Lib.hid hBW
        clear hO
        go_wp2
        refine wp_region_G (S := fun w' => w'.cell? ⟨w2.heap.size, 1, none⟩ = some (.slice bo (fldsTo xs k).length co)) (m := 8) (by kernel_rfl) ?_
        have hS := ((Gr.refl wr).drew).cellv s1
        refine wpAnyG_take (i := 0) (v := ?v0) hS rfl (by kernel_rfl) (by kernel_rfl) (by kernel_rfl) (by kernel_rfl) (fun _ _ _ h => h) (Or.inl ⟨by rfl, ?hy0⟩) ?rest0
        case hy0 => (intro w' hw'; (try dsimp only at hw'); go_simp; try with_reducible rfl)
        try simp only [Act.put]
        refine wpAnyG_take (i := 1) (v := ?v1) hS rfl (by kernel_rfl) (by kernel_rfl) (by kernel_rfl) (by kernel_rfl) (fun _ _ _ h => h) (Or.inl ⟨by rfl, ?hy1⟩) ?rest1
        case hy1 => (intro w' hw'; (try dsimp only at hw'); go_simp; try with_reducible rfl)
        try simp only [Act.put]
        refine wpAnyG_take (i := 2) (v := ?v2) hS rfl (by kernel_rfl) (by kernel_rfl) (by kernel_rfl) (by kernel_rfl) (fun _ _ _ h => h) (Or.inl ⟨by rfl, ?hy2⟩) ?rest2
        case hy2 => (intro w' hw'; (try dsimp only at hw'); go_simp; try with_reducible rfl)
        try simp only [Act.put]
        refine wpAnyG_take (i := 3) (v := ?v3) hS rfl (by kernel_rfl) (by kernel_rfl) (by kernel_rfl) (by kernel_rfl) (fun _ _ _ h => h) (Or.inl ⟨by rfl, ?hy3⟩) ?rest3
        case hy3 => (intro w' hw'; (try dsimp only at hw'); go_simp; try with_reducible rfl)
        try simp only [Act.put]
        refine wpAnyG_one (i := 4) rfl (by kernel_rfl) (fun K4 hK4 => ?_)
        go_simp
        refine (spec_StabIndex _ xs (k : Int) _ (RSlice.mono keeps_query (by first | exact (Gr.refl _).drew | exact Gr.refl _) HV3.out)).mono ?_
        rintro e w3 ⟨v3, rfl, g3, hp3⟩
        obtain ⟨pa, pc, rfl⟩ := hp3.form
        have gw3 : Gr wr w3 := (Gr.refl wr).drew.trans g3
        go_wp2_with fail
        have hS3 := gw3.cellv s1
        refine hK4.out _ _ (fun _ => hS3) ?_
        clear hK4 K4 hS
        try simp only [Act.put]
        refine wpAnyG_one (i := 5) rfl (by kernel_rfl) (fun K5 hK5 => ?_)
        go_simp
        refine hK5.out _ _ (fun _ => ((Gr.refl w3).alloc _).cellv hS3) ?_
        clear hK5 K5
        try simp only [Act.put]
        refine wpAnyG_one (i := 6) rfl (by kernel_rfl) (fun K6 hK6 => ?_)
        refine step_push_on (w0 := wr) (wr := w3) (lo := w2.heap.size + 1) 85 75 1 24 Try.underlying85 (z := .slice none 0 0) (by kernel_rfl) rfl (by decide) (by decide) rfl _ _ rfl (fr_of fr_span) (idxL xs (k : Int)) [.slice pa (idxL xs (k : Int)).length pc] rfl rfl rfl HO.out HBW.out gw3 ⟨_, rfl, hp3⟩ (Nat.le_refl wr.heap.size) (Nat.le_refl _) rfl (by simp [Value.oneCell']) HB.out ?_
        intro g4 cap4 w4 hown4 hb4
        have z0 := (hb4.cell (p := ⟨w2.heap.size, 0, none⟩) (Nat.lt_succ_self _)).trans (gw3.cellv s0)
        have z1 := (hb4.cell (p := ⟨w2.heap.size, 1, none⟩) (Nat.lt_succ_self _)).trans hS3
        have zf := (hb4.frozen (p := ⟨w2.heap.size, 1, none⟩) (Nat.lt_succ_self _)).trans ((gw3.frozen (p := ⟨w2.heap.size, 1, none⟩) hBW).trans sf)
        refine hK6.out _ _ (fun _ => z1) ?_
        clear hK6 K6
        try simp only [Act.put]
        refine wpAnyG_take (i := 7) (v := ?v7) z1 rfl (by kernel_rfl) (by kernel_rfl) (by kernel_rfl) (by kernel_rfl) (fun _ _ _ h => h) (Or.inl ⟨by rfl, ?hy7⟩) ?rest7
        case hy7 => (intro w' hw'; (try dsimp only at hw'); go_simp; try with_reducible rfl)
        try simp only [Act.put]
        refine wpAnyG_one (i := 8) rfl (by kernel_rfl) (fun K8 hK8 => ?_)
        go_simp
        refine hK8.out _ _ (fun h => absurd rfl h) ?_
        clear hK8 K8
        try simp only [Act.put]
        refine wpAnyG_done (by kernel_rfl) ?_ _
        have HOW := Lib.hid hown4
        have HG4 : Hid (Gr w2 w4) := Lib.hid (hg2.trans' ((gw3.mono (by omega) : Below w2.heap.size wr w3).trans (hb4.mono (by omega))))
        have hz4 := hb4.size
        have hz3 := gw3.size
        clear hown4 hb4 hp3 g3 gw3
        go_wp2
        go_roundw
        case rel => exact ⟨k + 1, some ⟨g4, 0, none⟩, cap4, by omega, by go_num, by simp [go_sem, z0], by rw [HS.out, List.length_append, List.length_singleton]; simp [go_sem, z1], by simp [go_sem, zf], Lib.hid (by
          have h := HOW.out.loc (fr_of fr_span) (Loc.setCell (Loc.refl _ _) (p := ⟨w2.heap.size, 1, none⟩) (Nat.lt_succ_self _) (.slice (some ⟨g4, 0, none⟩) ((fldsTo xs k).length + 1) cap4)) (Nat.le_refl _)
          rw [HS.out]
          rw [List.length_append, List.length_singleton] at h ⊢
          exact h.wide (Nat.le_refl _) (by simp [World.setCell])), HG4.out.setCell (Nat.le_refl _) _, by simp [World.setCell]; omega⟩
        case measure => simp [intOf]; omega
      · obtain rfl : k = 3 := by omega
        have r0 := hg2.cellv k0
        have r1 := hg2.cellv k1
        have rf0 := (hg2.frozen (p := ⟨w.heap.size, 0, none⟩) hl2).trans f0
        have rf1 := (hg2.frozen (p := ⟨w.heap.size, 1, none⟩) hl2).trans f1
        have HQ3 := Lib.hid (HQ.out.gr fr_query hg2)
        go_wp2_with fail
        have hq4 : PQueries (In (w.heap.size + 1) w2.heap.size) ((wr.setCell ⟨w.heap.size, 0, none⟩ (.slice qa xs.length qc)).setCell ⟨w.heap.size, 1, none⟩ (.slice bo (fldsTo xs 3).length co)) (.slice qa xs.length qc) xs := HQ3.out.frame fr_query (((Agree.refl _ wr).setCell (p := ⟨w.heap.size, 0, none⟩) (fun b hb e => by have := hb.1; dsimp only at e; omega) (.slice qa xs.length qc)).setCell (p := ⟨w.heap.size, 1, none⟩) (fun b hb e => by have := hb.1; dsimp only at e; omega) (.slice bo (fldsTo xs 3).length co))
        have hs4 : PSpanss (In (w2.heap.size + 1) wr.heap.size) ((wr.setCell ⟨w.heap.size, 0, none⟩ (.slice qa xs.length qc)).setCell ⟨w.heap.size, 1, none⟩ (.slice bo (fldsTo xs 3).length co)) (.slice bo (fldsTo xs 3).length co) (fldsTo xs 3) := hO.out.frame (fr_of fr_span) (((Agree.refl _ wr).setCell (p := ⟨w.heap.size, 0, none⟩) (fun b hb e => by have := hb.1; dsimp only at e; omega) (.slice qa xs.length qc)).setCell (p := ⟨w.heap.size, 1, none⟩) (fun b hb e => by have := hb.1; dsimp only at e; omega) (.slice bo (fldsTo xs 3).length co))
        refine bodyPost_ret (v := .agg #[.slice qa xs.length qc, .slice bo (fldsTo xs 3).length co]) (by simp [results, Try.results60, go_sem, *]) rfl ⟨_, _, rfl, by rw [HE.out]; exact rd_pqueries hq4, by rw [HE.out]; exact rd_pspanss hs4, (hgr.setCell (Nat.le_refl _) _).setCell (Nat.le_refl _) _⟩
end Go.Proofs.Ytnnapjaggahjgaa
