/- BuildIndex: the reference's copies. -/
import Derived.Test.YtcdcpfcmhmhdjaaMg9
import Derived.Test.YtcdcpfcmhmhdjaaMg6
import Derived.Test.YtcdcpfcmhmhdjaaMg7
import Derived.Test.YtcdcpfcmhmhdjaaMg8
namespace Go.Proofs.Ytcdcpfcmhmhdjaa
open Go.ChangeShapes Go.WideShapes Go.RowKit Go.Deep
set_option maxRecDepth 100000 in
set_option maxHeartbeats 1000000 in
theorem spec_l6Queries (v : Value) (xs : List DQuery) (w : World) (hv : RQueries w v xs) (hb : totL totQuery xs ≤ 4294967296) :
    Calls Try.prog 65 #[v] w fun e w' => ∃ u, e = .returned u ∧ Gr w w' ∧ PQueries (In w.heap.size w'.heap.size) w' u xs := by
  have hbs : xs.length ≤ 4294967296 ∧ ∀ k (h : k < xs.length), totQuery xs[k] ≤ 4294967296 := by
    refine ⟨by unfold totL at hb; omega, fun k h => ?_⟩
    have h2 := sumT_mem totQuery xs k h
    unfold totL at hb
    omega
  have HBS := Lib.hid hbs
  clear hbs
  obtain ⟨a, cap, rfl, hl, hm, hx3⟩ := hv
  have g0 : Gr w (w.alloc (.cells #[] 44)) := (Gr.refl w).alloc _
  have HST : Hid (PQueries (In w.heap.size (w.alloc (.cells #[] 44)).heap.size) (w.alloc (.cells #[] 44)) (.slice (some ⟨w.heap.size, 0, none⟩) 0 0) (qTo xs 0)) := Lib.hid (OSl.made w ⟨Nat.le_refl _, by simp⟩)
  go_enter Try.func65, Try.ntmps65
  go_wp2
  go_loopw [3, 4] (fun out i wr => ∃ (k : Nat) (b : Option Addr) (c : Nat), k ≤ xs.length ∧ i = .int .i64 k ∧ out = .slice b (qTo xs k).length c ∧ Hid (PQueries (In w.heap.size wr.heap.size) wr out (qTo xs k)) ∧ Gr w wr) (fun _ i _ => xs.length - (intOf i).toNat)
  case atStart => exact ⟨0, _, _, Nat.zero_le _, rfl, rfl, HST, g0⟩
  case round =>
    obtain ⟨k, bo, co, hk, rfl, rfl, ho, hgr⟩ := hrel
    by_cases hlt : k < xs.length
    · obtain ⟨b3, off3, cs3, rfl, hlen3, ⟨u_conds3, u_out3, rfl, i_id3, i_tenant3, h_conds3, h_out3⟩, hc3⟩ := hx3 k hlt
      have c0 := hgr.cellv (hc3 0 (by simp))
      have c1 := hgr.cellv (hc3 1 (by simp))
      have c2 := hgr.cellv (hc3 2 (by simp))
      have c3 := hgr.cellv (hc3 3 (by simp))
      simp only [Nat.add_zero, List.getElem_cons_zero, List.getElem_cons_succ] at c0 c1 c2 c3
      clear hc3 hlen3
      obtain ⟨va, vn, vc, rfl⟩ := RSlice.isSl h_conds3
      obtain ⟨xa, xn, xc, rfl⟩ := RSlice.isSl h_out3
      have i0 : (0 : Int) ≤ (k : Int) := Int.natCast_nonneg _
      have i1 : (k : Int) < (xs.length : Int) := by omega
      have HI3 := Lib.hid i_id3
      have HT3 := Lib.hid i_tenant3
      have HC3 := Lib.hid (RSlice.mono keeps_cond hgr h_conds3)
      have HO3 := Lib.hid (RSlice.mono keeps_int hgr h_out3)
      have HS := Lib.hid (qTo_succ hlt)
      have HB : Hid (((qTo xs k).length + 1) * 64 ≤ 140737488355328) := Lib.hid (by rw [qTo_len hk]; have := HBS.out.1; omega)
      have HSZ := Lib.hid hgr.size
      clear h_conds3 h_out3
      go_wp2_with fail
      refine (spec_l6Query xs[k] _ _ _ HC3.out HO3.out (HBS.out.2 k hlt)).mono ?_
      rintro e w2 ⟨u2, x2, rfl, g2, F1, F2, hc2, hp2, h6, h7⟩
      obtain ⟨ca, cc, rfl⟩ := hc2.form
      obtain ⟨pa, pc, rfl⟩ := hp2.form
      have gB : Gr w2 (w2.alloc (.cells #[.int .i64 xs[k].id, .int .i64 xs[k].tenant, .slice ca xs[k].conds.length cc, .slice pa xs[k].out.length pc] 44)) := (Gr.refl _).alloc _
      have HQ2 : Hid (PQuery (In wr.heap.size w2.heap.size) (w2.alloc (.cells #[.int .i64 xs[k].id, .int .i64 xs[k].tenant, .slice ca xs[k].conds.length cc, .slice pa xs[k].out.length pc] 44)) [.int .i64 xs[k].id, .int .i64 xs[k].tenant, .slice ca xs[k].conds.length cc, .slice pa xs[k].out.length pc] xs[k]) := Lib.hid ⟨_, _, F1, F2, rfl, HI3.out, HT3.out, hc2.gr fr_cond gB, hp2.gr fr_int gB, h6, h7⟩
      have gr2 := g2.trans gB
      have HSQ := Lib.hid gB.size
      clear hc2 hp2 h6 h7 g2
      go_wp2_with (at_builtin; refine push_o (w0 := wr) (wr := w2.alloc (.cells #[.int .i64 xs[k].id, .int .i64 xs[k].tenant, .slice ca xs[k].conds.length cc, .slice pa xs[k].out.length pc] 44)) (la := wr.heap.size) (hb := w2.heap.size) (lo := w.heap.size) 24 44 4 64 Try.underlying24 (z := .agg #[.int .i64 0, .int .i64 0, .slice none 0 0, .slice none 0 0]) (by kernel_rfl) rfl (by decide) (by decide) rfl _ _ rfl fr_query xs[k] [.int .i64 xs[k].id, .int .i64 xs[k].tenant, .slice ca xs[k].conds.length cc, .slice pa xs[k].out.length pc] rfl (by first | rfl | simp [go_sem]) rfl ho.out HSZ.out gr2 HQ2.out (Nat.le_refl _) HSQ.out rfl (by simp [Value.oneCell']) HB.out ?_; intro g4 cap4 w4 hown4 hb4)
      go_roundw
      case rel => exact ⟨k + 1, _, _, by omega, by go_num, by rw [HS.out, List.length_append, List.length_singleton], Lib.hid (by have h := hown4; rw [List.length_append, List.length_singleton] at h; rw [HS.out]; exact h), (hgr.trans gr2).trans' hb4⟩
      case measure => simp [intOf]; omega
    · obtain rfl : k = xs.length := by omega
      rw [qTo_all] at ho
      go_wp2_with fail
      go_ret
      exact ⟨_, rfl, hgr, by rw [qTo_all]; exact ho.out⟩
end Go.Proofs.Ytcdcpfcmhmhdjaa

/- BuildIndex: the reference's walk. Written by gen_build.py, then turned by hand (its results as memory of one's own). -/
namespace Go.Proofs.Ytcdcpfcmhmhdjaa
open Go.ChangeShapes Go.WideShapes Go.RowKit Go.Deep
set_option maxRecDepth 100000 in
set_option maxHeartbeats 2000000 in
theorem spec_BuildIndex_own (v : Value) (xs : List DQuery) (w : World) (hv : RQueries w v xs) (hb : totL totQuery xs ≤ 4294967296) :
    Calls Try.prog 41 #[v] w fun e w' => ∃ vq vf, e = .returned (.agg #[vq, vf]) ∧ Gr w w' ∧ ∃ m, w.heap.size ≤ m ∧ m ≤ w'.heap.size ∧ PQueries (In w.heap.size m) w' vq (buildL xs).queries ∧ PSpanss (In m w'.heap.size) w' vf (buildL xs).fields := by
  obtain ⟨va, vn, vc, rfl⟩ := hv.isSl
  have HV := Lib.hid hv
  have HBT := Lib.hid hb
  clear hv
  have g0 : Gr w (w.alloc (.cells #[.slice none 0 0, .slice none 0 0] 27)) := (Gr.refl w).alloc _
  have hlt : w.heap.size < (w.alloc (.cells #[.slice none 0 0, .slice none 0 0] 27)).heap.size := by simp
  cases h1 : areQueriesB xs with
  | false =>
    have HE := Lib.hid (buildL_no h1)
    have H1 := Lib.hid h1
    clear h1
    go_enter Try.func41, Try.ntmps41
    go_wp2_with fail
    refine (calls_b (spec_AreQueries _ xs _ (RSlice.mono keeps_query g0 HV.out)) H1.out).mono ?_
    rintro e w1 ⟨rfl, g1⟩
    have k0 : w1.cell? ⟨w.heap.size, 0, none⟩ = some (.slice none 0 0) := g1.cellv (by simp [go_sem])
    have k1 : w1.cell? ⟨w.heap.size, 1, none⟩ = some (.slice none 0 0) := g1.cellv (by simp [go_sem])
    have f0 : w1.frozen? ⟨w.heap.size, 0, none⟩ = false := by rw [g1.frozen hlt]; simp [go_sem]
    have f1 : w1.frozen? ⟨w.heap.size, 1, none⟩ = false := by rw [g1.frozen hlt]; simp [go_sem]
    have gw1 := g0.trans g1
    go_wp2_with fail
    refine bodyPost_ret (v := .agg #[.slice none 0 0, .slice none 0 0]) (by simp [results, Try.results41, go_sem, *]) rfl ⟨_, _, rfl, (gw1.setCell (Nat.le_refl _) _).setCell (Nat.le_refl _) _, w.heap.size, Nat.le_refl _, by have := gw1.size; simpa [World.setCell] using this, by rw [HE.out]; exact OSl.nil _, by rw [HE.out]; exact OSl.nil _⟩
  | true =>
    have HE := Lib.hid (buildL_yes h1)
    have H1 := Lib.hid h1
    clear h1
    go_enter Try.func41, Try.ntmps41
    go_wp2_with fail
    refine (calls_b (spec_AreQueries _ xs _ (RSlice.mono keeps_query g0 HV.out)) H1.out).mono ?_
    rintro e w1 ⟨rfl, g1⟩
    have k0 : w1.cell? ⟨w.heap.size, 0, none⟩ = some (.slice none 0 0) := g1.cellv (by simp [go_sem])
    have k1 : w1.cell? ⟨w.heap.size, 1, none⟩ = some (.slice none 0 0) := g1.cellv (by simp [go_sem])
    have f0 : w1.frozen? ⟨w.heap.size, 0, none⟩ = false := by rw [g1.frozen hlt]; simp [go_sem]
    have f1 : w1.frozen? ⟨w.heap.size, 1, none⟩ = false := by rw [g1.frozen hlt]; simp [go_sem]
    have gw1 := g0.trans g1
    have hl1 : w.heap.size < w1.heap.size := Nat.lt_of_lt_of_le hlt g1.size
    go_wp2_with fail
    refine (spec_l6Queries _ xs _ (RSlice.mono keeps_query gw1 HV.out) HBT.out).mono ?_
    rintro e w2 ⟨vq, rfl, g2, hq⟩
    obtain ⟨qa, qc, rfl⟩ := hq.form
    replace k0 := g2.cellv k0
    replace k1 := g2.cellv k1
    replace f0 := (g2.frozen (p := ⟨w.heap.size, 0, none⟩) hl1).trans f0
    replace f1 := (g2.frozen (p := ⟨w.heap.size, 1, none⟩) hl1).trans f1
    have gw2 := gw1.trans g2
    have hl2 : w.heap.size < w2.heap.size := Nat.lt_of_lt_of_le hl1 g2.size
    have HQ := Lib.hid (hq.wide (lo' := w.heap.size + 1) (hi' := w2.heap.size) (by omega) (Nat.le_refl _))
    have HST : Hid (PSpanss (In (w2.heap.size + 1) (w2.alloc (.cells #[.slice qa xs.length qc, .slice none 0 0] 27)).heap.size) (w2.alloc (.cells #[.slice qa xs.length qc, .slice none 0 0] 27)) (.slice none 0 0) []) := Lib.hid (OSl.nil _)
    clear hq g1 g2
    go_wp2
    go_loopw [4] (fun i wr => ∃ (k : Nat) (b : Option Addr) (c : Nat), k ≤ 3 ∧ i = .int .i64 k ∧ wr.cell? ⟨w2.heap.size, 0, none⟩ = some (.slice qa xs.length qc) ∧ wr.cell? ⟨w2.heap.size, 1, none⟩ = some (.slice b (fldsTo xs k).length c) ∧ wr.frozen? ⟨w2.heap.size, 1, none⟩ = false ∧ Hid (PSpanss (In (w2.heap.size + 1) wr.heap.size) wr (.slice b (fldsTo xs k).length c) (fldsTo xs k)) ∧ Gr w2 wr ∧ w2.heap.size < wr.heap.size) (fun i _ => 3 - (intOf i).toNat)
    case atStart => exact ⟨0, none, 0, by omega, rfl, by simp [go_sem], by simp [go_sem, fldsTo], by simp [go_sem], HST, (Gr.refl _).alloc _, by simp⟩
    case round =>
      obtain ⟨k, bo, co, hk, rfl, s0, s1, sf, hO, hg2, hBW⟩ := hrel
      have hgr := gw2.trans hg2
      by_cases hlt3 : k < 3
      · have HO := hO
        have HV3 := Lib.hid (RSlice.mono keeps_query hgr HV.out)
        have HS := Lib.hid (fldsTo_succ xs k)
        have HB : Hid (((fldsTo xs k).length + 1) * 24 ≤ 140737488355328) := Lib.hid (by rw [fldsTo_len]; omega)
        have HBW := Lib.hid hBW
        clear hO
        go_wp2
        refine wp_region_G (S := fun w' => w'.cell? ⟨w2.heap.size, 1, none⟩ = some (.slice bo (fldsTo xs k).length co)) (m := 8) (by kernel_rfl) ?_
        have hS := ((Gr.refl wr).drew).cellv s1
        refine wpAnyG_take (i := 0) (v := ?v0) hS rfl (by kernel_rfl) (by kernel_rfl) (by kernel_rfl) (by kernel_rfl) (fun _ _ _ h => h) (Or.inl ⟨by rfl, ?hy0⟩) ?rest0
        case hy0 => (intro w' hw'; (try dsimp only at hw'); go_simp; try with_reducible rfl)
        try simp only [Act.put]
        refine wpAnyG_take (i := 1) (v := ?v1) hS rfl (by kernel_rfl) (by kernel_rfl) (by kernel_rfl) (by kernel_rfl) (fun _ _ _ h => h) (Or.inl ⟨by rfl, ?hy1⟩) ?rest1
        case hy1 => (intro w' hw'; (try dsimp only at hw'); go_simp; try with_reducible rfl)
        try simp only [Act.put]
        refine wpAnyG_take (i := 2) (v := ?v2) hS rfl (by kernel_rfl) (by kernel_rfl) (by kernel_rfl) (by kernel_rfl) (fun _ _ _ h => h) (Or.inl ⟨by rfl, ?hy2⟩) ?rest2
        case hy2 => (intro w' hw'; (try dsimp only at hw'); go_simp; try with_reducible rfl)
        try simp only [Act.put]
        refine wpAnyG_take (i := 3) (v := ?v3) hS rfl (by kernel_rfl) (by kernel_rfl) (by kernel_rfl) (by kernel_rfl) (fun _ _ _ h => h) (Or.inl ⟨by rfl, ?hy3⟩) ?rest3
        case hy3 => (intro w' hw'; (try dsimp only at hw'); go_simp; try with_reducible rfl)
        try simp only [Act.put]
        refine wpAnyG_one (i := 4) rfl (by kernel_rfl) (fun K4 hK4 => ?_)
        go_simp
        refine (spec_StabIndex _ xs (k : Int) _ (RSlice.mono keeps_query (by first | exact (Gr.refl _).drew | exact Gr.refl _) HV3.out)).mono ?_
        rintro e w3 ⟨v3, rfl, g3, hp3⟩
        obtain ⟨pa, pc, rfl⟩ := hp3.form
        have gw3 : Gr wr w3 := (Gr.refl wr).drew.trans g3
        go_wp2_with fail
        have hS3 := gw3.cellv s1
        refine hK4.out _ _ (fun _ => hS3) ?_
        clear hK4 K4 hS
        try simp only [Act.put]
        refine wpAnyG_one (i := 5) rfl (by kernel_rfl) (fun K5 hK5 => ?_)
        go_simp
        refine hK5.out _ _ (fun _ => ((Gr.refl w3).alloc _).cellv hS3) ?_
        clear hK5 K5
        try simp only [Act.put]
        refine wpAnyG_one (i := 6) rfl (by kernel_rfl) (fun K6 hK6 => ?_)
        refine step_push_on (w0 := wr) (wr := w3) (lo := w2.heap.size + 1) 25 60 1 24 Try.underlying25 (z := .slice none 0 0) (by kernel_rfl) rfl (by decide) (by decide) rfl _ _ rfl (fr_of fr_span) (idxL xs (k : Int)) [.slice pa (idxL xs (k : Int)).length pc] rfl rfl rfl HO.out HBW.out gw3 ⟨_, rfl, hp3⟩ (Nat.le_refl wr.heap.size) (Nat.le_refl _) rfl (by simp [Value.oneCell']) HB.out ?_
        intro g4 cap4 w4 hown4 hb4
        have z0 := (hb4.cell (p := ⟨w2.heap.size, 0, none⟩) (Nat.lt_succ_self _)).trans (gw3.cellv s0)
        have z1 := (hb4.cell (p := ⟨w2.heap.size, 1, none⟩) (Nat.lt_succ_self _)).trans hS3
        have zf := (hb4.frozen (p := ⟨w2.heap.size, 1, none⟩) (Nat.lt_succ_self _)).trans ((gw3.frozen (p := ⟨w2.heap.size, 1, none⟩) hBW).trans sf)
        refine hK6.out _ _ (fun _ => z1) ?_
        clear hK6 K6
        try simp only [Act.put]
        refine wpAnyG_take (i := 7) (v := ?v7) z1 rfl (by kernel_rfl) (by kernel_rfl) (by kernel_rfl) (by kernel_rfl) (fun _ _ _ h => h) (Or.inl ⟨by rfl, ?hy7⟩) ?rest7
        case hy7 => (intro w' hw'; (try dsimp only at hw'); go_simp; try with_reducible rfl)
        try simp only [Act.put]
        refine wpAnyG_one (i := 8) rfl (by kernel_rfl) (fun K8 hK8 => ?_)
        go_simp
        refine hK8.out _ _ (fun h => absurd rfl h) ?_
        clear hK8 K8
        try simp only [Act.put]
        refine wpAnyG_done (by kernel_rfl) ?_ _
        have HOW := Lib.hid hown4
        have HG4 : Hid (Gr w2 w4) := Lib.hid (hg2.trans' ((gw3.mono (by omega) : Below w2.heap.size wr w3).trans (hb4.mono (by omega))))
        have hz4 := hb4.size
        have hz3 := gw3.size
        clear hown4 hb4 hp3 g3 gw3
        go_wp2
        go_roundw
        case rel => exact ⟨k + 1, some ⟨g4, 0, none⟩, cap4, by omega, by go_num, by simp [go_sem, z0], by rw [HS.out, List.length_append, List.length_singleton]; simp [go_sem, z1], by simp [go_sem, zf], Lib.hid (by
          have h := HOW.out.loc (fr_of fr_span) (Loc.setCell (Loc.refl _ _) (p := ⟨w2.heap.size, 1, none⟩) (Nat.lt_succ_self _) (.slice (some ⟨g4, 0, none⟩) ((fldsTo xs k).length + 1) cap4)) (Nat.le_refl _)
          rw [HS.out]
          rw [List.length_append, List.length_singleton] at h ⊢
          exact h.wide (Nat.le_refl _) (by simp [World.setCell])), HG4.out.setCell (Nat.le_refl _) _, by simp [World.setCell]; omega⟩
        case measure => simp [intOf]; omega
      · obtain rfl : k = 3 := by omega
        have r0 := hg2.cellv k0
        have r1 := hg2.cellv k1
        have rf0 := (hg2.frozen (p := ⟨w.heap.size, 0, none⟩) hl2).trans f0
        have rf1 := (hg2.frozen (p := ⟨w.heap.size, 1, none⟩) hl2).trans f1
        have HQ3 := Lib.hid (HQ.out.gr fr_query hg2)
        go_wp2_with fail
        have hq4 : PQueries (In (w.heap.size + 1) w2.heap.size) ((wr.setCell ⟨w.heap.size, 0, none⟩ (.slice qa xs.length qc)).setCell ⟨w.heap.size, 1, none⟩ (.slice bo (fldsTo xs 3).length co)) (.slice qa xs.length qc) xs := HQ3.out.frame fr_query (((Agree.refl _ wr).setCell (p := ⟨w.heap.size, 0, none⟩) (fun b hb e => by have := hb.1; dsimp only at e; omega) (.slice qa xs.length qc)).setCell (p := ⟨w.heap.size, 1, none⟩) (fun b hb e => by have := hb.1; dsimp only at e; omega) (.slice bo (fldsTo xs 3).length co))
        have hs4 : PSpanss (In (w2.heap.size + 1) wr.heap.size) ((wr.setCell ⟨w.heap.size, 0, none⟩ (.slice qa xs.length qc)).setCell ⟨w.heap.size, 1, none⟩ (.slice bo (fldsTo xs 3).length co)) (.slice bo (fldsTo xs 3).length co) (fldsTo xs 3) := hO.out.frame (fr_of fr_span) (((Agree.refl _ wr).setCell (p := ⟨w.heap.size, 0, none⟩) (fun b hb e => by have := hb.1; dsimp only at e; omega) (.slice qa xs.length qc)).setCell (p := ⟨w.heap.size, 1, none⟩) (fun b hb e => by have := hb.1; dsimp only at e; omega) (.slice bo (fldsTo xs 3).length co))
        refine bodyPost_ret (v := .agg #[.slice qa xs.length qc, .slice bo (fldsTo xs 3).length co]) (by simp [results, Try.results41, go_sem, *]) rfl ⟨_, _, rfl, (hgr.setCell (Nat.le_refl _) _).setCell (Nat.le_refl _) _, w2.heap.size, gw2.size, by have := hg2.size; simpa [World.setCell] using this, by rw [HE.out]; exact hq4.wide (Nat.le_succ _) (Nat.le_refl _), by rw [HE.out]; exact hs4.wide (Nat.le_succ _) (by simp [World.setCell])⟩
theorem spec_BuildIndex (v : Value) (xs : List DQuery) (w : World) (hv : RQueries w v xs) (hb : totL totQuery xs ≤ 4294967296) :
    Calls Try.prog 41 #[v] w fun e w' => ∃ vq vf, e = .returned (.agg #[vq, vf]) ∧ RQueries w' vq (buildL xs).queries ∧ RSpanss w' vf (buildL xs).fields ∧ Gr w w' :=
  (spec_BuildIndex_own v xs w hv hb).mono fun _ _ ⟨vq, vf, e, g, _, _, _, h1, h2⟩ => ⟨vq, vf, e, rd_pqueries h1, rd_pspanss h2, g⟩
end Go.Proofs.Ytcdcpfcmhmhdjaa

/- The drawing of values: an index. -/
namespace Go.Proofs.Ytcdcpfcmhmhdjaa
open Go.RowKit Go.ChangeShapes Go.WideShapes Go.Deep
theorem RSlice.rest1 {α : Type} {sz : Nat} {R : World → List Value → α → Prop} {w : World} {g o n cap : Nat} {xs : List α} (h : RSlice sz R w (.slice (some ⟨g, o, none⟩) n cap) xs) (hk : 1 ≤ xs.length) : RSlice sz R w (.slice (some ⟨g, o + sz, none⟩) (xs.length - 1) (cap - 1)) (xs.drop 1) := by
  obtain ⟨a', cap', e, h1, h2, h3⟩ := h
  obtain ⟨rfl, rfl, rfl⟩ : some (⟨g, o, none⟩ : Addr) = a' ∧ n = xs.length ∧ cap = cap' := by simpa using e
  have hl : (xs.drop 1).length = xs.length - 1 := List.length_drop
  refine ⟨_, cap - 1, by rw [hl], by omega, by omega, fun i hi => ?_⟩
  obtain ⟨b, off, cs, ha, hc, hr, hcc⟩ := h3 (1 + i) (by omega)
  simp only [Option.some.injEq, Addr.mk.injEq, and_true] at ha
  obtain ⟨rfl, rfl⟩ := ha
  exact ⟨g, o + sz, cs, rfl, hc, by rw [List.getElem_drop]; exact hr, by rw [show o + sz + i * sz = o + (1 + i) * sz by rw [Nat.add_mul]; omega]; exact hcc⟩
section
variable {α : Type} {P : Program} {O : (Nat → Prop) → World → List Value → α → Prop} {ops : Array Oper} {o : Oper} {a : Act} {Q : Exit → Act → World → Prop} {w0 wr w : World} {F : Nat → Prop}
/-- append(out, x) inside a region that draws its order, onto a row of one's own whose blocks are any set. -/
theorem step_push_f {K : Act → World → Prop} {E : Prop} {la hb lo : Nat} (t e size bytes : Nat) {z : Value} (ht : P.underlying t = some (.slice e))
    (hi : (P.info? e).map (fun i => (i.zero, i.size, i.bytes)) = some (some z, size, bytes)) (hzs : z.cells.size = size) (hsz : 0 < size) (hby : 0 < bytes) (hgd : o.guard = none) (s x : Operand)
    (ho : o.op = .call { callee := .builtin .append, args := #[s, x], argTypes := #[t, t] }) (hO : FramedE O) {v : Value} {ys : List α} (y : α) (c : List Value)
    (hs : a.eval s = v) (hx : a.eval x = .slice (some ⟨wr.heap.size, 0, none⟩) 1 1) (hw : w = wr.alloc (.cells c.toArray e)) (hown : OSl e size O F w0 v ys) (hF : ∀ b, F b → lo ≤ b ∧ b < w0.heap.size) (hlo : lo ≤ w0.heap.size) (hg : Gr w0 wr)
    (hy : O (In la hb) wr c y) (ha : w0.heap.size ≤ la) (hhb : hb ≤ wr.heap.size) (hl : c.length = size) (h1 : ∀ u ∈ c, u.oneCell' = true) (hn : (ys.length + 1) * bytes ≤ 140737488355328)
    (h : ∀ g cap w', OSl e size O (Plus F w0.heap.size w'.heap.size) w' (.slice (some ⟨g, 0, none⟩) (ys ++ [y]).length cap) (ys ++ [y]) → Chg F wr w' → K (a.put o.dst (.slice (some ⟨g, 0, none⟩) (ys ++ [y]).length cap)) w') :
    if Region.wanted o (yielded ops a.tmps) = true then Oper.wp P o a w K Q else E := by
  obtain ⟨cs, hE⟩ := hown
  have hrow : wr.ownsRow lo e size v ys.length (flatC size ys.length cs) := (hE.frame hO (hg.agree _)).row fun b hb => (hF b hb).1
  have hvF := hE.2.1
  refine step_push_n t e size bytes ht hi hzs hsz hby hgd s x ho 1 (by decide) c hs hx hw hrow (by simpa using hl) h1 hn (Nat.le_trans hlo hg.size) fun g cap w' k1 k2 k3 k4 => ?_
  have hp := OSlE.pushF (v' := .slice (some ⟨g, 0, none⟩) (ys.length + 1) cap) hO hE (fun b hb => (hF b hb).2) hg hy ha hhb hl k1 k2.size (fun k hk => by
    have e : g = k := Option.some.inj hk
    subst e
    rcases k3 with h3 | h3
    · exact Or.inl h3
    · exact Or.inr (by omega)) k4
  have := h g cap w' (by rw [List.length_append, List.length_singleton]; exact ⟨_, hp⟩) ⟨k2.os, k2.tape, k2.output, k2.size, fun b hb hn => k4 b hb fun hv => hn (hvF b hv)⟩
  rwa [List.length_append, List.length_singleton] at this
end
section
variable {t : TypeId} {w wr w' : World} {g R B : Nat} {rc bc : Array Value} {F : Nat → Prop}
theorem BX.chg (h : BX t w g R B rc bc wr) (k : Chg F wr w') (hF : ∀ b, F b → R < b ∧ b ≠ B) : BX t w g R B rc bc w' := by
  have hB := h.ltB
  have hl := h.lt
  exact ⟨by rw [k.block R (by omega) (fun hf => by have := (hF _ hf).1; omega)]; exact h.r, by rw [k.block B hB (fun hf => (hF _ hf).2 rfl)]; exact h.b, hl,
    h.cur.keep fun b hb => k.block b (by omega) (fun hf => by have := (hF _ hf).1; omega),
    ⟨k.os.trans h.dr.os, k.tape.trans h.dr.tape, k.output.trans h.dr.output, Nat.le_trans h.dr.size k.size, fun b h1 h2 => (k.block b (Nat.lt_of_lt_of_le h1 h.dr.size) (fun hf => by have := (hF _ hf).1; omega)).trans (h.dr.block b h1 h2)⟩⟩
end
/-- The index in its box B: what its fields own lies elsewhere, the queries' below m, the spans' from m on. -/
structure IX (w : World) (g R B lo m hi : Nat) (vq vf : Value) (X : DIndex) (wr : World) : Prop where
  x : BX 27 w g R B #[.slice none 0 0, .slice none 0 0] #[vq, vf] wr
  q : PQueries (In lo m) wr vq X.queries
  f : PSpanss (In m hi) wr vf X.fields
  le : R < lo ∧ lo ≤ m ∧ m ≤ hi ∧ hi ≤ B
section
variable {w wr w' : World} {g R B lo m hi : Nat} {vq vf : Value} {X : DIndex}
theorem IX.draw (h : IX w g R B lo m hi vq vf X wr) (k : Cur w' g ∧ Dr g wr w') : IX w g R B lo m hi vq vf X w' :=
  ⟨h.x.draw k, osl_dr fr_query h.q (by have := h.x.lt; have := h.le; omega) k.2, osl_dr (fr_of fr_span) h.f (by have := h.x.lt; have := h.le; omega) k.2, h.le⟩
theorem IX.gr (h : IX w g R B lo m hi vq vf X wr) (k : Gr wr w') : IX w g R B lo m hi vq vf X w' := ⟨h.x.gr k, h.q.gr fr_query k, h.f.gr (fr_of fr_span) k, h.le⟩
theorem two_set {R a b : Nat} {x y : Value} : Loc (R + 1) wr ((wr.setCell ⟨R, a, none⟩ x).setCell ⟨R, b, none⟩ y) :=
  ((Loc.refl (R + 1) wr).setCell (p := ⟨R, a, none⟩) (Nat.lt_succ_self R) x).setCell (p := ⟨R, b, none⟩) (Nat.lt_succ_self R) y
theorem IX.freshQ (h : IX w g R B lo m hi vq vf X wr) : Fresh (R + 1) RQueries wr vq X.queries := fun w' k => rd_pqueries (h.q.loc fr_query k (by have := h.le; omega))
theorem IX.freshF (h : IX w g R B lo m hi vq vf X wr) : Fresh (R + 1) RSpanss wr vf X.fields := fun w' k => rd_pspanss (h.f.loc (fr_of fr_span) k (by have := h.le; omega))
end
theorem tot_flds (xs : List DQuery) : totL (totL totSpan) (fldsTo xs 3) ≤ 7503 := by
  have h2 : sumT (totL totSpan) (fldsTo xs 3) ≤ 2500 * (fldsTo xs 3).length := sumT_const _ fun x hx => by
    obtain ⟨i, hi, rfl⟩ := List.getElem_of_mem hx
    have : (fldsTo xs 3)[i] = idxL xs (i : Int) := by simp [fldsTo]
    rw [this]; exact idxL_tot xs _
  rw [fldsTo_len] at h2
  rw [totL_eq, fldsTo_len]
  omega
theorem tot_drop (xs : List DQuery) : totL (totL totSpan) ((fldsTo xs 3).drop 1) ≤ 7503 := by
  have h2 : sumT (totL totSpan) ((fldsTo xs 3).drop 1) ≤ 2500 * ((fldsTo xs 3).drop 1).length := sumT_const _ fun x hx => by
    obtain ⟨i, hi, rfl⟩ := List.getElem_of_mem (List.mem_of_mem_drop hx)
    have : (fldsTo xs 3)[i] = idxL xs (i : Int) := by simp [fldsTo]
    rw [this]; exact idxL_tot xs _
  rw [List.length_drop, fldsTo_len] at h2
  rw [totL_eq, List.length_drop, fldsTo_len]
  omega
theorem tot_qs {xs : List DQuery} (h : ∀ q ∈ xs, totQuery q ≤ 8) (hl : xs.length ≤ 7) : totL totQuery xs ≤ 63 := by
  have h2 := sumT_const (g := totQuery) (c := 8) xs h
  unfold totL
  omega
theorem quer_tot {qs : List DQuery} (h : areQueriesB qs = true) : ∀ q ∈ qs, totQuery q ≤ 8 := by
  intro q hq
  unfold areQueriesB at h
  simp only [Bool.and_eq_true] at h
  obtain ⟨i, hi, rfl⟩ := List.getElem_of_mem hq
  have := allB_iff.1 h.2.2 i hi
  unfold qOk at this
  rw [getD_lt hi] at this
  have := query_ids this
  unfold totQuery
  omega
set_option maxRecDepth 100000 in
set_option maxHeartbeats 4000000 in
theorem spec_l6Index (g : Nat) (w : World) (hc : Cur w g) : Calls Try.prog 23 #[.pointer (some ⟨g, 0, none⟩)] w fun e w' => ∃ (vq vf : Value) (x : DIndex), e = .returned (.agg #[vq, vf]) ∧ Hid (totIndex x ≤ 8000 ∧ x.queries.length ≤ 7) ∧ Hid (Fresh w.heap.size RQueries w' vq x.queries) ∧ Hid (Fresh w.heap.size RSpanss w' vf x.fields) ∧ Hid (Cur w' g ∧ Dr g w w') := by
  obtain ⟨W0, hW0⟩ : ∃ W0, W0 = w.alloc (.cells #[.slice none 0 0, .slice none 0 0] 27) := ⟨_, rfl⟩
  have HW0 : Hid (Cur W0 g ∧ Dr g w W0 ∧ W0.heap[w.heap.size]? = some (.cells #[.slice none 0 0, .slice none 0 0] 27) ∧ W0.heap.size = w.heap.size + 1) := Lib.hid (by rw [hW0]; exact ⟨hc.gr ((Gr.refl w).alloc _), (Chg.refl _ _).alloc _, heap_alloc_new _ _, by simp⟩)
  have HGW : Hid (g < w.heap.size) := Lib.hid hc.lt
  clear hc
  go_enter Try.func23, Try.ntmps23
  go_wp2_with fail
  rw [← hW0]
  clear hW0
  refine (spec_l4Queries g 6 _ HW0.out.1 (by decide)).mono ?_
  rintro e w1 ⟨b, n, c, qs, rfl, hl, ho, hk1⟩
  obtain rfl := hl.out.1
  have HL : Hid (qs.length ≤ 6 ∧ areQueriesB qs = true ∧ ∀ q ∈ qs, totQuery q ≤ 8) := Lib.hid ⟨hl.out.2.1, hl.out.2.2, quer_tot hl.out.2.2⟩
  clear hl
  go_wp2_with fail
  refine (spec_BuildIndex_own _ qs _ (rd_pqueries ho.out) (by have := tot_qs HL.out.2.2 (by have := HL.out.1; omega); omega)).mono ?_
  rintro e w2 ⟨vq, vf, rfl, g2, m, hm1, hm2, hq, hf⟩
  rw [buildL_yes HL.out.2.1] at hq hf
  dsimp only at hq hf
  obtain ⟨qa, qc, rfl⟩ := hq.form
  obtain ⟨fa, fc, rfl⟩ := hf.form
  have HQ := Lib.hid hq
  have HF := Lib.hid hf
  have HM : Hid (w1.heap.size ≤ m ∧ m ≤ w2.heap.size) := Lib.hid ⟨hm1, hm2⟩
  have HG2 := Lib.hid g2
  rw [fldsTo_len] at HF ⊢
  clear hq hf hm1 hm2 g2 ho
  obtain ⟨B, hB⟩ : ∃ B, B = w2.heap.size := ⟨_, rfl⟩
  obtain ⟨W, hW⟩ : ∃ W, W = w2.alloc (.cells #[.slice qa qs.length qc, .slice fa 3 fc] 27) := ⟨_, rfl⟩
  have HA : Hid (IX w g w.heap.size B w1.heap.size m w2.heap.size (.slice qa qs.length qc) (.slice fa 3 fc) ⟨qs, fldsTo qs 3⟩ W) := Lib.hid (by
    have h0 := HW0.out
    have h1 := hk1.out
    have h2 := HG2.out
    have hs1 := h1.2.size
    have hs2 := h2.size
    have hgw := HGW.out
    have hmm := HM.out
    have hg3 : Gr w2 W := by rw [hW]; exact (Gr.refl _).alloc _
    refine ⟨⟨?_, by rw [hW, hB]; exact heap_alloc_new _ _, ⟨hgw, Nat.le_refl _, by omega⟩, (h1.1.gr h2).gr hg3, ((h0.2.1.trans h1.2).belowT h2 (by omega)).belowT hg3 (by omega)⟩, HQ.out.gr fr_query hg3, HF.out.gr (fr_of fr_span) hg3, ⟨by omega, hmm.1, hmm.2, by omega⟩⟩
    rw [hg3.block _ (by omega), h2.block _ (by omega), h1.2.block _ (by omega) (by omega)]
    exact h0.2.2.1)
  clear hk1 HQ HF HM HG2 HW0
  go_wp2_with fail
  rw [← hW, ← hB]
  clear hW hB
  refine (spec_l1Below g 16 _ HA.out.x.cur (by decide) (by decide)).mono ?_
  rintro e w3 ⟨t, rfl, ht, hk3⟩
  have HA3 := Lib.hid (HA.out.draw hk3.out)
  clear HA hk3 ht
  by_cases t0 : t = 0
  · have e0 : (t == 0) = true := by simp [t0]
    have T := Lib.hid t0
    clear t0
    obtain ⟨W3, hW3⟩ : ∃ W3, W3 = w3.drew := ⟨_, rfl⟩
    have HA4 : Hid (IX w g w.heap.size B w1.heap.size m w2.heap.size (.slice qa qs.length qc) (.slice fa 3 fc) ⟨qs, fldsTo qs 3⟩ W3) := Lib.hid (by rw [hW3]; exact HA3.out.gr ((Gr.refl _).drew))
    go_wp2_with fail
    refine wp_region_G (S := fun w' => w'.cell? ⟨B, 0, none⟩ = some (.slice qa qs.length qc)) (m := 7) (by kernel_rfl) ?_
    rw [← hW3]
    clear hW3 HA3
    have hS : (fun w' : World => w'.cell? ⟨B, 0, none⟩ = some (.slice qa qs.length qc)) W3 := HA4.out.x.cell (k := 0) rfl
    refine wpAnyG_take (i := 0) (v := ?v0) hS rfl (by kernel_rfl) (by kernel_rfl) (by kernel_rfl) (by kernel_rfl) (fun _ _ _ h => h) (Or.inl ⟨by rfl, ?hy0⟩) ?rest0
    case hy0 => (intro w' hw'; (try dsimp only at hw'); go_simp; try with_reducible rfl)
    try simp only [Act.put]
    refine wpAnyG_take (i := 1) (v := ?v1) hS rfl (by kernel_rfl) (by kernel_rfl) (by kernel_rfl) (by kernel_rfl) (fun _ _ _ h => h) (Or.inl ⟨by rfl, ?hy1⟩) ?rest1
    case hy1 => (intro w' hw'; (try dsimp only at hw'); go_simp; try with_reducible rfl)
    try simp only [Act.put]
    refine wpAnyG_take (i := 2) (v := ?v2) hS rfl (by kernel_rfl) (by kernel_rfl) (by kernel_rfl) (by kernel_rfl) (fun _ _ _ h => h) (Or.inl ⟨by rfl, ?hy2⟩) ?rest2
    case hy2 => (intro w' hw'; (try dsimp only at hw'); go_simp; try with_reducible rfl)
    try simp only [Act.put]
    refine wpAnyG_one (i := 3) rfl (by kernel_rfl) (fun K3 hK3 => ?_)
    go_simp
    refine (spec_l4Any g _ HA4.out.x.cur).mono ?_
    rintro e w5 ⟨u, x, id, ten, cs, os, rfl, hi, htw, hk5⟩
    obtain ⟨ua, uc, xa, xc, rfl, rfl⟩ := htw.out.form
    have HA5 := Lib.hid (HA4.out.draw hk5.out)
    have HPQ : Hid (PQuery (In W3.heap.size w5.heap.size) w5 [.int .i64 id, .int .i64 ten, .slice ua cs.length uc, .slice xa os.length xc] ⟨id, ten, cs, os⟩) := Lib.hid (htw.out.query (q := ⟨id, ten, cs, os⟩) hi.out.1 hi.out.2.1)
    have HQT : Hid (totQuery ⟨id, ten, cs, os⟩ ≤ 8) := Lib.hid (by have := hi.out.2.2; unfold totQuery; dsimp only; omega)
    have HS5 : Hid (W3.heap.size ≤ w5.heap.size ∧ B < W3.heap.size) := Lib.hid ⟨hk5.out.2.size, HA4.out.x.ltB⟩
    have HT5 : Hid (w1.heap.size ≤ (trunc w5 W3.heap.size).heap.size ∧ Gr (trunc w5 W3.heap.size) w5 ∧ (trunc w5 W3.heap.size).heap.size ≤ W3.heap.size ∧ ∀ b, In w1.heap.size m b → w1.heap.size ≤ b ∧ b < (trunc w5 W3.heap.size).heap.size) := Lib.hid (by
      have h1 := HS5.out
      have h2 := HA5.out.le
      refine ⟨?_, gr_trunc h1.1, ?_, fun b hb => ⟨hb.1, ?_⟩⟩
      · rw [trunc_size h1.1]; omega
      · rw [trunc_size h1.1]; exact Nat.le_refl _
      · rw [trunc_size h1.1]; have := hb.2; omega)
    have HO5 : Hid (PQueries (In w1.heap.size m) (trunc w5 W3.heap.size) (.slice qa qs.length qc) qs) := Lib.hid (HA5.out.q.frame fr_query fun b hb _ => trunc_get (by have := HS5.out; have := HA5.out.le; have := hb.2; omega) HS5.out.1)
    clear htw hi hk5 hS HA4
    go_simp
    refine hK3.out _ _ (fun _ => HA5.out.x.cell (k := 0) rfl) ?_
    clear hK3 K3
    try simp only [Act.put]
    refine wpAnyG_one (i := 4) rfl (by kernel_rfl) (fun K4 hK4 => ?_)
    go_simp
    refine hK4.out _ _ (fun _ => (HA5.out.gr ((Gr.refl _).alloc _)).x.cell (k := 0) rfl) ?_
    clear hK4 K4
    try simp only [Act.put]
    refine wpAnyG_one (i := 5) rfl (by kernel_rfl) (fun K5 hK5 => ?_)
    refine step_push_f (w0 := trunc w5 W3.heap.size) (wr := w5) (la := W3.heap.size) (hb := w5.heap.size) (lo := w1.heap.size) (F := In w1.heap.size m) 24 44 4 64 Try.underlying24 (z := .agg #[.int .i64 0, .int .i64 0, .slice none 0 0, .slice none 0 0]) (by kernel_rfl) rfl (by decide) (by decide) rfl _ _ rfl fr_query ⟨id, ten, cs, os⟩ [.int .i64 id, .int .i64 ten, .slice ua cs.length uc, .slice xa os.length xc] rfl rfl rfl HO5.out HT5.out.2.2.2 HT5.out.1 HT5.out.2.1 HPQ.out HT5.out.2.2.1 (Nat.le_refl _) rfl (by simp [Value.oneCell']) (by have := HL.out.1; omega) ?_
    intro g6 cap6 w6 hO6 hC6
    obtain ⟨X, hX⟩ : ∃ X, X = qs ++ [⟨id, ten, cs, os⟩] := ⟨_, rfl⟩
    rw [← hX] at hO6
    rw [← hX]
    have HX := Lib.hid hX
    have HB6 := Lib.hid (HA5.out.x.chg hC6 fun b hb => ⟨by have := HA5.out.le; have := hb.1; omega, by have := HA5.out.le; have := hb.2; omega⟩)
    have HF6 := Lib.hid (HA5.out.f.frame (fr_of fr_span) (hC6.agree fun b hb h => by have := hb.1; have := h.2; omega))
    have HO6 := Lib.hid hO6
    have HLE := Lib.hid HA5.out.le
    have HN6 : Hid (B < (trunc w5 W3.heap.size).heap.size) := Lib.hid (by rw [trunc_size HS5.out.1]; exact HS5.out.2)
    clear hO6 hC6 hX HA5 HO5 HPQ HT5 HS5
    have c6 : w6.cell? ⟨B, 0, none⟩ = some (.slice qa qs.length qc) := HB6.out.cell rfl
    have f6 := (HB6.out.frz 0).1
    refine hK5.out _ _ (fun _ => c6) ?_
    clear hK5 K5
    try simp only [Act.put]
    have hS6 : (fun w' : World => w'.cell? ⟨B, 0, none⟩ = some (.slice qa qs.length qc)) w6 := c6
    refine wpAnyG_take (i := 6) (v := ?v6) hS6 rfl (by kernel_rfl) (by kernel_rfl) (by kernel_rfl) (by kernel_rfl) (fun _ _ _ h => h) (Or.inl ⟨by rfl, ?hy6⟩) ?rest6
    case hy6 => (intro w' hw'; (try dsimp only at hw'); go_simp; try with_reducible rfl)
    try simp only [Act.put]
    refine wpAnyG_one (i := 7) rfl (by kernel_rfl) (fun K7 hK7 => ?_)
    go_simp
    refine hK7.out _ _ (fun h => absurd rfl h) ?_
    clear hK7 K7 hS6 c6 f6
    try simp only [Act.put]
    refine wpAnyG_done (by kernel_rfl) ?_ _
    have HX7 := Lib.hid (HB6.out.set (k := 0) (.slice (some ⟨g6, 0, none⟩) X.length cap6) rfl)
    have HQ7 : Hid (Fresh (w.heap.size + 1) RQueries (w6.setCell ⟨B, 0, none⟩ (.slice (some ⟨g6, 0, none⟩) X.length cap6)) (.slice (some ⟨g6, 0, none⟩) X.length cap6) X) := Lib.hid fun w' k => rd_pqueries (HO6.out.frame fr_query fun b hb hl => by
      have h1 := HLE.out
      have h2 := HN6.out
      have h3 : w.heap.size + 1 ≤ b ∧ b ≠ B := by
        rcases hb with hb | hb
        · exact ⟨by have := hb.1; omega, by have := hb.2; omega⟩
        · exact ⟨by have := hb.1; omega, by have := hb.1; omega⟩
      rw [k.2 b h3.1 (by rw [size_set]; exact hl)]
      exact Below.heap_setCell _ _ _ _ h3.2)
    have HF7 : Hid (Fresh (w.heap.size + 1) RSpanss (w6.setCell ⟨B, 0, none⟩ (.slice (some ⟨g6, 0, none⟩) X.length cap6)) (.slice fa 3 fc) (fldsTo qs 3)) := Lib.hid fun w' k => rd_pspanss (HF6.out.frame (fr_of fr_span) fun b hb hl => by
      have h1 := HLE.out
      rw [k.2 b (by have := hb.1; omega) (by rw [size_set]; exact hl)]
      exact Below.heap_setCell _ _ _ _ (by have := hb.2; dsimp only; omega))
    clear HB6 HF6 HO6
    have d0 := HX7.out.cell (k := 0) rfl
    have d1 := HX7.out.cell (k := 1) rfl
    have r0 := HX7.out.cellR (k := 0) rfl
    have r1 := HX7.out.cellR (k := 1) rfl
    have f0 := (HX7.out.frz 0).2
    have f1 := (HX7.out.frz 1).2
    go_wp2_with fail
    refine bodyPost_ret (v := .agg #[.slice (some ⟨g6, 0, none⟩) X.length cap6, .slice fa 3 fc]) (by simp [results, Try.results23, go_sem, *]) rfl ⟨_, _, ⟨X, fldsTo qs 3⟩, rfl, Lib.hid ⟨?_, ?_⟩, Lib.hid ((HQ7.out.loc two_set).le (Nat.le_succ _)), Lib.hid ((HF7.out.loc two_set).le (Nat.le_succ _)), Lib.hid ⟨HX7.out.cur.keep fun q hq => ?_, ?_⟩⟩
    · have h1 := tot_qs (xs := X) (fun q hq => by
        rw [HX.out] at hq
        rcases List.mem_append.1 hq with h | h
        · exact HL.out.2.2 q h
        · rw [List.mem_singleton.1 h]; exact HQT.out) (by rw [HX.out]; have := HL.out.1; simp; omega)
      have h2 := tot_flds qs
      unfold totIndex; dsimp only; omega
    · dsimp only; rw [HX.out]; have := HL.out.1; simp; omega
    · exact two_other (by have := HGW.out; omega)
    · exact (HX7.out.dr.setHigh (Nat.le_refl _) _).setHigh (Nat.le_refl _) _
  · have e0 : (t == 0) = false := by simp [t0]
    by_cases t1 : t = 1
    · have e1 : (t == 1) = true := by simp [t1]
      have T := Lib.hid t1
      clear t1 t0
      obtain ⟨gf, rfl⟩ : ∃ gf, fa = some ⟨gf, 0, none⟩ := by
        obtain ⟨cs, h1, _⟩ := HA3.out.f
        rw [fldsTo_len] at h1
        exact row_ptr h1 (by decide)
      have hc3 : 3 ≤ fc := by
        obtain ⟨a', c', e, h1, h2, _⟩ := rd_pspanss HA3.out.f
        simp only [Value.slice.injEq] at e
        rw [fldsTo_len] at h1
        omega
      have hc1 : ¬ fc = 1 := by omega
      have hc0 : 1 ≤ fc := by omega
      have d1 : w3.cell? ⟨B, 1, none⟩ = some (.slice (some ⟨gf, 0, none⟩) 3 fc) := HA3.out.x.cell (k := 1) rfl
      have fb := (HA3.out.x.frz 1).1
      have HX7 := Lib.hid (HA3.out.x.set (k := 1) (.slice (some ⟨gf, 1, none⟩) 2 (fc - 1)) rfl)
      have HQ7 : Hid (Fresh (w.heap.size + 1) RQueries (w3.setCell ⟨B, 1, none⟩ (.slice (some ⟨gf, 1, none⟩) 2 (fc - 1))) (.slice qa qs.length qc) qs) := Lib.hid fun w' k => rd_pqueries (HA3.out.q.frame fr_query fun b hb hl => by
        have h1 := HA3.out.le
        rw [k.2 b (by have := hb.1; omega) (by rw [size_set]; exact hl)]
        exact Below.heap_setCell _ _ _ _ (by have := hb.2; dsimp only; omega))
      have HF7 : Hid (Fresh (w.heap.size + 1) RSpanss (w3.setCell ⟨B, 1, none⟩ (.slice (some ⟨gf, 1, none⟩) 2 (fc - 1))) (.slice (some ⟨gf, 1, none⟩) 2 (fc - 1)) ((fldsTo qs 3).drop 1)) := Lib.hid fun w' k => by
        have h := rd_pspanss (HA3.out.f.frame (w' := w') (fr_of fr_span) fun b hb hl => by
          have h1 := HA3.out.le
          rw [k.2 b (by have := hb.1; omega) (by rw [size_set]; exact hl)]
          exact Below.heap_setCell _ _ _ _ (by have := hb.2; dsimp only; omega))
        have h2 := h.rest1 (by dsimp only; rw [fldsTo_len]; decide)
        simpa [fldsTo_len] using h2
      have HLQ := Lib.hid HL.out
      have d0 := HX7.out.cell (k := 0) rfl
      have d1' := HX7.out.cell (k := 1) rfl
      have r0 := HX7.out.cellR (k := 0) rfl
      have r1 := HX7.out.cellR (k := 1) rfl
      have f0 := (HX7.out.frz 0).2
      have f1 := (HX7.out.frz 1).2
      clear HA3
      go_wp2_with fail
      refine bodyPost_ret (v := .agg #[.slice qa qs.length qc, .slice (some ⟨gf, 1, none⟩) 2 (fc - 1)]) (by simp [results, Try.results23, go_sem, *]) rfl ⟨_, _, ⟨qs, (fldsTo qs 3).drop 1⟩, rfl, Lib.hid ⟨?_, ?_⟩, Lib.hid ((HQ7.out.loc two_set).le (Nat.le_succ _)), Lib.hid ((HF7.out.loc two_set).le (Nat.le_succ _)), Lib.hid ⟨HX7.out.cur.keep fun q hq => ?_, ?_⟩⟩
      · have h1 := tot_qs HL.out.2.2 (by have := HL.out.1; omega); have h2 := tot_drop qs; unfold totIndex; dsimp only; omega
      · have := HL.out.1; dsimp only; omega
      · exact two_other (by have := HGW.out; omega)
      · exact (HX7.out.dr.setHigh (Nat.le_refl _) _).setHigh (Nat.le_refl _) _
    · have e1 : (t == 1) = false := by simp [t1]
      clear t0 t1
      have d0 := HA3.out.x.cell (k := 0) rfl
      have d1 := HA3.out.x.cell (k := 1) rfl
      have r0 := HA3.out.x.cellR (k := 0) rfl
      have r1 := HA3.out.x.cellR (k := 1) rfl
      have f0 := (HA3.out.x.frz 0).2
      have f1 := (HA3.out.x.frz 1).2
      go_wp2_with fail
      refine bodyPost_ret (v := .agg #[.slice qa qs.length qc, .slice fa 3 fc]) (by simp [results, Try.results23, go_sem, *]) rfl ⟨_, _, ⟨qs, fldsTo qs 3⟩, rfl, Lib.hid ⟨?_, ?_⟩, Lib.hid ((HA3.out.freshQ.loc two_set).le (Nat.le_succ _)), Lib.hid ((HA3.out.freshF.loc two_set).le (Nat.le_succ _)), Lib.hid ⟨HA3.out.x.cur.keep fun q hq => ?_, ?_⟩⟩
      · have h1 := tot_qs HL.out.2.2 (by have := HL.out.1; omega); have h2 := tot_flds qs; unfold totIndex; dsimp only; omega
      · have := HL.out.1; dsimp only; omega
      · exact two_other (by have := HGW.out; omega)
      · exact (HA3.out.x.dr.setHigh (Nat.le_refl _) _).setHigh (Nat.le_refl _) _
end Go.Proofs.Ytcdcpfcmhmhdjaa
