/- ParseQuery: the reference's walk. Written by gen_pqrr.py. -/
import Derived.Test.YtjeffagejbdjkaaDoorMg1
import Derived.Test.YtjeffagejbdjkaaDoorMg2
import Derived.Deep.DeepCutAuto
import Derived.Deep.RegionHeld3
import Derived.Test.YtjeffagejbdjkaaDoorMkInt
import Derived.Test.YtjeffagejbdjkaaDoorGenCond
namespace Go.Proofs.YtjeffagejbdjkaaDoor
open Go.ChangeShapes Go.WideShapes Go.RowKit Go.Deep
theorem chg_below {F : Nat → Prop} {a w w' : World} (h : Chg F a w) (k : Below a.heap.size w w') : Chg F a w' :=
  ⟨k.os.trans h.os, k.tape.trans h.tape, k.output.trans h.output, Nat.le_trans h.size k.size, fun b hb hn => (k.block b hb).trans (h.block b hb hn)⟩
theorem specQuery_few {l : List UInt8} (h : (cutL 32 l).length < 4) : specQuery l = none := by unfold specQuery; exact if_neg (fun k => by have := k.1; omega)
theorem specQuery_no {l : List UInt8} (h : queryText (qS (cutL 32 l)) ≠ l) : specQuery l = none := by unfold specQuery; exact if_neg (fun k => h k.2)
theorem specQuery_yes {l : List UInt8} (h1 : 4 ≤ (cutL 32 l).length) (h2 : queryText (qS (cutL 32 l)) = l) : specQuery l = some (qS (cutL 32 l)) := by unfold specQuery; exact if_pos ⟨h1, h2⟩
theorem qcsS_succ (P : List (List UInt8)) (k : Nat) : qcsS P (k + 1) = qcsS P k ++ [qcS P k] := by unfold qcsS; rw [List.range_succ, List.map_append]; rfl
theorem qcsS_len (P : List (List UInt8)) (k : Nat) : (qcsS P k).length = k := by unfold qcsS; simp
theorem aftS_i64 (c : UInt8) (p : List UInt8) : I64 (aftS c p) := by
  unfold aftS
  split
  · simp [I64]
  · exact numV_i64 _
theorem rngS_i64 (p : List UInt8) : I64 (rngS p).1 ∧ I64 (rngS p).2 := by
  unfold rngS
  split
  · exact ⟨numV_i64 _, numV_i64 _⟩
  · exact ⟨by simp [I64], by simp [I64]⟩
theorem spec_FormatQuery_any (x : DQuery) (u u' : Value) (w : World) (hu : RConds w u x.conds) (hu' : RInts w u' x.out) :
    Calls Tryd.prog 29 #[.agg #[.int .i64 x.id, .int .i64 x.tenant, u, u']] w fun e w' => e = .returned (.string ⟨(queryText x).toArray⟩) ∧ Gr w w' := by
  cases hs : isQueryB x with
  | true => exact spec_FormatQuery x u u' w hu hu' (query_small hs).1 (query_small hs).2
  | false =>
    have H1 := Lib.hid hs
    have HR := Lib.hid (queryText_no hs)
    have HU := Lib.hid hu
    have HO := Lib.hid hu'
    obtain ⟨ua, un, uc, rfl⟩ := hu.isSl
    obtain ⟨oa, on, oc, rfl⟩ := hu'.isSl
    have g0 : Gr w (w.alloc (.cells #[.int .i64 x.id, .int .i64 x.tenant, .slice ua un uc, .slice oa on oc] 51)) := (Gr.refl w).alloc _
    clear hs hu hu'
    go_enter Tryd.func29, Tryd.ntmps29
    go_wp2_with fail
    refine (spec_IsQuery_of H1.out _ _ _ (RSlice.mono keeps_cond g0 HU.out) (RSlice.mono keeps_int g0 HO.out)).mono ?_
    rintro e w1 ⟨rfl, g1⟩
    go_wp2_with fail
    go_ret
    exact ⟨ret_str (by rw [HR.out]), g0.trans g1⟩
theorem spec_aft {p : List UInt8} {c : UInt8} {n : Int} (m : Int) (hm : (c.toNat : Int) = m) (h : aftS c p = n) (hp : p.length ≤ 1048576) (w : World) : Calls Tryd.prog 71 #[.string ⟨p.toArray⟩, .int .u8 m] w fun e w' => e = .returned (.int .i64 n) ∧ Gr w w' := hm ▸ h ▸ spec_l4After p c hp w
theorem spec_rng {p : List UInt8} {a b : Int} (h : rngS p = (a, b)) (hp : p.length ≤ 1048576) (w : World) : Calls Tryd.prog 72 #[.string ⟨p.toArray⟩] w fun e w' => e = .returned (.tuple #[.int .i64 a, .int .i64 b]) ∧ Gr w w' := by
  have := spec_l4Range p hp w
  rw [h] at this; exact this
set_option maxRecDepth 100000 in
set_option maxHeartbeats 6000000 in
theorem spec_ParseQuery (l : List UInt8) (w : World) (hl : l.length ≤ 1048576) : Calls Tryd.prog 43 #[.string ⟨l.toArray⟩] w fun e w' => ∃ v v', e = .returned (.tuple #[.agg #[.int .i64 (qryOr (specQuery l)).id, .int .i64 (qryOr (specQuery l)).tenant, v, v'], .bool (specQuery l).isSome]) ∧ RConds w' v (qryOr (specQuery l)).conds ∧ RInts w' v' (qryOr (specQuery l)).out ∧ Gr w w' := by
  have HL := Lib.hid hl
  have g0 : Gr w (w.alloc (.cells #[.int .i64 0, .int .i64 0, .slice none 0 0, .slice none 0 0] 51)) := (Gr.refl w).alloc _
  have hlt : w.heap.size < (w.alloc (.cells #[.int .i64 0, .int .i64 0, .slice none 0 0, .slice none 0 0] 51)).heap.size := by simp
  clear hl
  obtain ⟨P, HPP⟩ : ∃ P, Hid (cutL 32 l = P) := ⟨_, Lib.hid rfl⟩
  have HAW : Hid (∀ j, (atW P j).length ≤ 1048576) := Lib.hid (by rw [← HPP.out]; exact atW_len HL.out)
  obtain ⟨N, HN⟩ : ∃ N, Hid (P.length = N) := ⟨_, Lib.hid rfl⟩

  by_cases b1 : N < 4
  · have d4 : (N : Int) < 4 := by omega
    have HB := Lib.hid (specQuery_few (l := l) (by rw [HPP.out, HN.out]; exact b1))
    clear b1
    go_enter Tryd.func43, Tryd.ntmps43
    go_wp2_with fail
    refine (spec_l2CutN l 32 P N HPP.out HN.out HL.out _).mono ?_
    rintro e w1 ⟨g, n, rfl, g1, HSt⟩
    have k0 : w1.cell? ⟨w.heap.size, 0, none⟩ = some (.int .i64 0) := g1.cellv (by simp [go_sem])
    have k1 : w1.cell? ⟨w.heap.size, 1, none⟩ = some (.int .i64 0) := g1.cellv (by simp [go_sem])
    have k2 : w1.cell? ⟨w.heap.size, 2, none⟩ = some (.slice none 0 0) := g1.cellv (by simp [go_sem])
    have k3 : w1.cell? ⟨w.heap.size, 3, none⟩ = some (.slice none 0 0) := g1.cellv (by simp [go_sem])
    have f0 : w1.frozen? ⟨w.heap.size, 0, none⟩ = false := by rw [g1.frozen hlt]; simp [go_sem]
    have f1 : w1.frozen? ⟨w.heap.size, 1, none⟩ = false := by rw [g1.frozen hlt]; simp [go_sem]
    have f2 : w1.frozen? ⟨w.heap.size, 2, none⟩ = false := by rw [g1.frozen hlt]; simp [go_sem]
    have f3 : w1.frozen? ⟨w.heap.size, 3, none⟩ = false := by rw [g1.frozen hlt]; simp [go_sem]
    have G1 := Lib.hid (g0.trans g1)
    have hl1 : w.heap.size < w1.heap.size := Nat.lt_of_lt_of_le hlt g1.size
    clear g0 g1 hlt
    go_wp2_with fail
    refine bodyPost_ret (v := .tuple #[.agg #[.int .i64 0, .int .i64 0, .slice none 0 0, .slice none 0 0], .bool false]) (by simp [results, Tryd.results43, go_sem, *]) rfl ⟨_, _, by rw [HB.out]; rfl, by rw [HB.out]; exact rd_pconds (OSl.nil (F := fun _ => True) _), by rw [HB.out]; exact rd_pints (OSl.nil (F := fun _ => True) _), ((((G1.out.setCell (Nat.le_refl _) _).setCell (Nat.le_refl _) _).setCell (Nat.le_refl _) _).setCell (Nat.le_refl _) _)⟩
  have d4 : (4 : Int) ≤ (N : Int) := by omega
  have i0 : (0 : Int) < (N : Int) := by omega
  have i1 : (1 : Int) < (N : Int) := by omega
  have n0 : 0 < N := by omega
  have n1 : 1 < N := by omega
  have H4 := Lib.hid (show 4 ≤ N by omega)
  have HN2 : Hid (N ≤ 1048577) := Lib.hid (by rw [← HN.out, ← HPP.out]; have := cutL_count 32 l; have := HL.out; omega)
  obtain ⟨I, HI⟩ : ∃ I, Hid (aftS 113 (atW P 0) = I) := ⟨_, Lib.hid rfl⟩
  obtain ⟨J, HJ⟩ : ∃ J, Hid (aftS 116 (atW P 1) = J) := ⟨_, Lib.hid rfl⟩
  clear b1
  go_enter Tryd.func43, Tryd.ntmps43
  go_wp2_with fail
  refine (spec_l2CutN l 32 P N HPP.out HN.out HL.out _).mono ?_
  rintro e w1 ⟨g, n, rfl, g1, HSt⟩
  have k0 : w1.cell? ⟨w.heap.size, 0, none⟩ = some (.int .i64 0) := g1.cellv (by simp [go_sem])
  have k1 : w1.cell? ⟨w.heap.size, 1, none⟩ = some (.int .i64 0) := g1.cellv (by simp [go_sem])
  have k2 : w1.cell? ⟨w.heap.size, 2, none⟩ = some (.slice none 0 0) := g1.cellv (by simp [go_sem])
  have k3 : w1.cell? ⟨w.heap.size, 3, none⟩ = some (.slice none 0 0) := g1.cellv (by simp [go_sem])
  have f0 : w1.frozen? ⟨w.heap.size, 0, none⟩ = false := by rw [g1.frozen hlt]; simp [go_sem]
  have f1 : w1.frozen? ⟨w.heap.size, 1, none⟩ = false := by rw [g1.frozen hlt]; simp [go_sem]
  have f2 : w1.frozen? ⟨w.heap.size, 2, none⟩ = false := by rw [g1.frozen hlt]; simp [go_sem]
  have f3 : w1.frozen? ⟨w.heap.size, 3, none⟩ = false := by rw [g1.frozen hlt]; simp [go_sem]
  have G1 := Lib.hid (g0.trans g1)
  have hl1 : w.heap.size < w1.heap.size := Nat.lt_of_lt_of_le hlt g1.size
  clear g0 g1 hlt
  have HST1 : Hid (StrsAt w1 g P) := Lib.hid HSt.out.1
  have c0 : w1.cell? ⟨g, 0, none⟩ = some (.string ⟨(atW P 0).toArray⟩) := strsAt_at HST1.out (by rw [HN.out]; exact Nat.lt_of_lt_of_le (by decide) H4.out)
  have c1 : w1.cell? ⟨g, 1, none⟩ = some (.string ⟨(atW P 1).toArray⟩) := strsAt_at HST1.out (by rw [HN.out]; exact Nat.lt_of_lt_of_le (by decide) H4.out)
  go_upto_region 4 with fail
  go_cut [5] (fun s5 wx => ∃ tb, s5 = .pointer (some ⟨tb, 0, none⟩) ∧ w1.heap.size ≤ tb ∧ tb < wx.heap.size ∧ wx.cell? ⟨tb, 0, none⟩ = some (.int .i64 I) ∧ wx.cell? ⟨tb, 1, none⟩ = some (.int .i64 J) ∧ wx.cell? ⟨tb, 2, none⟩ = some (.slice none 0 0) ∧ wx.cell? ⟨tb, 3, none⟩ = some (.slice none 0 0) ∧ wx.frozen? ⟨tb, 2, none⟩ = false ∧ wx.frozen? ⟨tb, 3, none⟩ = false ∧ Gr w1 wx)
  case first =>
    have KS : Hid (∀ w', Gr w1 w' → w'.cell? ⟨g, 0, none⟩ = some (.string ⟨(atW P 0).toArray⟩) ∧ w'.cell? ⟨g, 1, none⟩ = some (.string ⟨(atW P 1).toArray⟩) ∧ Gr w1 w') := Lib.hid (fun w' k => ⟨k.cellv c0, k.cellv c1, k⟩)
    refine wp_region_G (S := fun w' => w'.cell? ⟨g, 0, none⟩ = some (.string ⟨(atW P 0).toArray⟩) ∧ w'.cell? ⟨g, 1, none⟩ = some (.string ⟨(atW P 1).toArray⟩) ∧ Gr w1 w') (m := 10) (by kernel_rfl) ?_
    have hS : Gr w1 w1.drew := (Gr.refl w1).drew
    refine wpAnyG_take (i := 0) (v := ?v0) (KS.out _ hS) rfl (by kernel_rfl) (by kernel_rfl) (by kernel_rfl) (by kernel_rfl) (fun _ _ _ h => h) (Or.inl ⟨by rfl, ?hy0⟩) ?rest0
    case hy0 => (intro w' hw'; (try dsimp only at hw'); obtain ⟨hw1, hw2, _⟩ := hw'; go_simp; try with_reducible rfl)
    try simp only [Act.put]
    refine wpAnyG_take (i := 1) (v := ?v1) (KS.out _ hS) rfl (by kernel_rfl) (by kernel_rfl) (by kernel_rfl) (by kernel_rfl) (fun _ _ _ h => h) (Or.inl ⟨by rfl, ?hy1⟩) ?rest1
    case hy1 => (intro w' hw'; (try dsimp only at hw'); obtain ⟨hw1, hw2, _⟩ := hw'; go_simp; try with_reducible rfl)
    try simp only [Act.put]
    refine wpAnyG_take (i := 2) (v := ?v2) (KS.out _ hS) rfl (by kernel_rfl) (by kernel_rfl) (by kernel_rfl) (by kernel_rfl) (fun _ _ _ h => h) (Or.inl ⟨by rfl, ?hy2⟩) ?rest2
    case hy2 => (intro w' hw'; (try dsimp only at hw'); obtain ⟨hw1, hw2, _⟩ := hw'; go_simp; try with_reducible rfl)
    try simp only [Act.put]
    refine wpAnyG_take (i := 4) (v := ?v4) (KS.out _ hS) rfl (by kernel_rfl) (by kernel_rfl) (by kernel_rfl) (by kernel_rfl) (fun _ _ _ h => h) (Or.inl ⟨by rfl, ?hy4⟩) ?rest4
    case hy4 => (intro w' hw'; (try dsimp only at hw'); obtain ⟨hw1, hw2, _⟩ := hw'; go_simp; try with_reducible rfl)
    try simp only [Act.put]
    refine wpAnyG_take (i := 5) (v := ?v5) (KS.out _ hS) rfl (by kernel_rfl) (by kernel_rfl) (by kernel_rfl) (by kernel_rfl) (fun _ _ _ h => h) (Or.inl ⟨by rfl, ?hy5⟩) ?rest5
    case hy5 => (intro w' hw'; (try dsimp only at hw'); obtain ⟨hw1, hw2, _⟩ := hw'; go_simp; try with_reducible rfl)
    try simp only [Act.put]
    refine wpAnyG_take (i := 6) (v := ?v6) (KS.out _ hS) rfl (by kernel_rfl) (by kernel_rfl) (by kernel_rfl) (by kernel_rfl) (fun _ _ _ h => h) (Or.inl ⟨by rfl, ?hy6⟩) ?rest6
    case hy6 => (intro w' hw'; (try dsimp only at hw'); obtain ⟨hw1, hw2, _⟩ := hw'; go_simp; try with_reducible rfl)
    try simp only [Act.put]
    refine wpAnyG_two (i := 3) (j := 9) rfl rfl (by kernel_rfl) (fun K hK => ?_) (fun K hK => ?_)
    · go_simp
      refine (spec_aft (c := 113) 113 rfl HI.out (HAW.out 0) _).mono ?_
      rintro e wA ⟨rfl, gA⟩
      have hSA : Gr w1 wA := hS.trans gA
      go_wp2_with fail
      refine hK.out _ _ (fun _ => KS.out _ hSA) ?_
      clear hK K
      try simp only [Act.put]
      refine wpAnyG_two (i := 7) (j := 9) rfl rfl (by kernel_rfl) (fun K hK => ?_) (fun K hK => ?_)
      · go_simp
        refine (spec_aft (c := 116) 116 rfl HJ.out (HAW.out 1) _).mono ?_
        rintro e wB ⟨rfl, gB⟩
        have hSB : Gr w1 wB := hSA.trans gB
        go_wp2_with fail
        refine hK.out _ _ (fun _ => KS.out _ hSB) ?_
        clear hK K
        try simp only [Act.put]
        refine wpAnyG_take (i := 8) (v := ?v8) (KS.out _ hSB) rfl (by kernel_rfl) (by kernel_rfl) (by kernel_rfl) (by kernel_rfl) (fun _ _ _ h => h) (Or.inl ⟨by rfl, ?hy8⟩) ?rest8
        case hy8 => (intro w' hw'; (try dsimp only at hw'); obtain ⟨hw1, hw2, _⟩ := hw'; go_simp; try with_reducible rfl)
        try simp only [Act.put]
        refine wpAnyG_one (i := 9) rfl (by kernel_rfl) (fun K hK => ?_)
        go_simp
        refine hK.out _ _ (fun _ => KS.out _ (hSB.alloc _)) ?_
        clear hK K
        try simp only [Act.put]
        refine wpAnyG_one (i := 10) rfl (by kernel_rfl) (fun K hK => ?_)
        go_simp
        refine hK.out _ _ (fun h => absurd rfl h) ?_
        clear hK K
        try simp only [Act.put]
        refine wpAnyG_done (by kernel_rfl) ?_ _
        go_wp2_with fail
        go_meet
        exact ⟨wB.heap.size, rfl, hSB.size, by simp, by simp [go_sem], by simp [go_sem], by simp [go_sem], by simp [go_sem], by simp [go_sem], by simp [go_sem], hSB.alloc _⟩
      · go_simp
        refine hK.out _ _ (fun _ => KS.out _ (hSA.alloc _)) ?_
        clear hK K
        try simp only [Act.put]
        refine wpAnyG_one (i := 7) rfl (by kernel_rfl) (fun K hK => ?_)
        go_simp
        refine (spec_aft (c := 116) 116 rfl HJ.out (HAW.out 1) _).mono ?_
        rintro e wB ⟨rfl, gB⟩
        have hSB : Gr w1 wB := (hSA.alloc _).trans gB
        go_wp2_with fail
        refine hK.out _ _ (fun _ => KS.out _ hSB) ?_
        clear hK K
        try simp only [Act.put]
        refine wpAnyG_one (i := 8) rfl (by kernel_rfl) (fun K hK => ?_)
        go_simp
        refine hK.out _ _ (fun _ => KS.out _ hSB) ?_
        clear hK K
        try simp only [Act.put]
        have z0 : wB.cell? ⟨wA.heap.size, 0, none⟩ = some (.int .i64 0) := gB.cellv (by simp [go_sem])
        have z1 : wB.cell? ⟨wA.heap.size, 1, none⟩ = some (.int .i64 0) := gB.cellv (by simp [go_sem])
        have z2 : wB.cell? ⟨wA.heap.size, 2, none⟩ = some (.slice none 0 0) := gB.cellv (by simp [go_sem])
        have z3 : wB.cell? ⟨wA.heap.size, 3, none⟩ = some (.slice none 0 0) := gB.cellv (by simp [go_sem])
        have y0 : wB.frozen? ⟨wA.heap.size, 0, none⟩ = false := by rw [gB.frozen (by simp)]; simp [go_sem]
        have y1 : wB.frozen? ⟨wA.heap.size, 1, none⟩ = false := by rw [gB.frozen (by simp)]; simp [go_sem]
        have y2 : wB.frozen? ⟨wA.heap.size, 2, none⟩ = false := by rw [gB.frozen (by simp)]; simp [go_sem]
        have y3 : wB.frozen? ⟨wA.heap.size, 3, none⟩ = false := by rw [gB.frozen (by simp)]; simp [go_sem]
        refine wpAnyG_one (i := 10) rfl (by kernel_rfl) (fun K hK => ?_)
        go_simp
        refine hK.out _ _ (fun h => absurd rfl h) ?_
        clear hK K
        try simp only [Act.put]
        refine wpAnyG_done (by kernel_rfl) ?_ _
        go_wp2_with fail
        go_meet
        exact ⟨wA.heap.size, rfl, by first | exact Nat.le_refl _ | exact gA.size, by simp [World.setCell]; exact (Nat.lt_of_lt_of_le (by simp : wA.heap.size < (wA.alloc (.cells #[.int .i64 0, .int .i64 0, .slice none 0 0, .slice none 0 0] 51)).heap.size) gB.size), by simp [go_sem, z0], by simp [go_sem, z1], by simp [go_sem, z2], by simp [go_sem, z3], by simp [go_sem, y2], by simp [go_sem, y3], (((hSB.setCell (by first | exact Nat.le_refl _ | exact gA.size) _).setCell (by first | exact Nat.le_refl _ | exact gA.size) _).setCell (by first | exact Nat.le_refl _ | exact gA.size) _).setCell (by first | exact Nat.le_refl _ | exact gA.size) _⟩
    · go_simp
      refine hK.out _ _ (fun _ => KS.out _ (hS.alloc _)) ?_
      clear hK K
      try simp only [Act.put]
      refine wpAnyG_one (i := 3) rfl (by kernel_rfl) (fun K hK => ?_)
      go_simp
      refine (spec_aft (c := 113) 113 rfl HI.out (HAW.out 0) _).mono ?_
      rintro e wA ⟨rfl, gA⟩
      have hSA : Gr w1 wA := (hS.alloc _).trans gA
      go_wp2_with fail
      refine hK.out _ _ (fun _ => KS.out _ hSA) ?_
      clear hK K
      try simp only [Act.put]
      refine wpAnyG_one (i := 7) rfl (by kernel_rfl) (fun K hK => ?_)
      go_simp
      refine (spec_aft (c := 116) 116 rfl HJ.out (HAW.out 1) _).mono ?_
      rintro e wB ⟨rfl, gB⟩
      have hSB : Gr w1 wB := hSA.trans gB
      go_wp2_with fail
      refine hK.out _ _ (fun _ => KS.out _ hSB) ?_
      clear hK K
      try simp only [Act.put]
      refine wpAnyG_one (i := 8) rfl (by kernel_rfl) (fun K hK => ?_)
      go_simp
      refine hK.out _ _ (fun _ => KS.out _ hSB) ?_
      clear hK K
      try simp only [Act.put]
      have gAB := gA.trans gB
      have z0 : wB.cell? ⟨w1.heap.size, 0, none⟩ = some (.int .i64 0) := gAB.cellv (by simp [go_sem])
      have z1 : wB.cell? ⟨w1.heap.size, 1, none⟩ = some (.int .i64 0) := gAB.cellv (by simp [go_sem])
      have z2 : wB.cell? ⟨w1.heap.size, 2, none⟩ = some (.slice none 0 0) := gAB.cellv (by simp [go_sem])
      have z3 : wB.cell? ⟨w1.heap.size, 3, none⟩ = some (.slice none 0 0) := gAB.cellv (by simp [go_sem])
      have y0 : wB.frozen? ⟨w1.heap.size, 0, none⟩ = false := by rw [gAB.frozen (by simp)]; simp [go_sem]
      have y1 : wB.frozen? ⟨w1.heap.size, 1, none⟩ = false := by rw [gAB.frozen (by simp)]; simp [go_sem]
      have y2 : wB.frozen? ⟨w1.heap.size, 2, none⟩ = false := by rw [gAB.frozen (by simp)]; simp [go_sem]
      have y3 : wB.frozen? ⟨w1.heap.size, 3, none⟩ = false := by rw [gAB.frozen (by simp)]; simp [go_sem]
      refine wpAnyG_one (i := 10) rfl (by kernel_rfl) (fun K hK => ?_)
      go_simp
      refine hK.out _ _ (fun h => absurd rfl h) ?_
      clear hK K
      try simp only [Act.put]
      refine wpAnyG_done (by kernel_rfl) ?_ _
      go_wp2_with fail
      go_meet
      exact ⟨w1.heap.size, rfl, by first | exact Nat.le_refl _ | exact gA.size, by simp [World.setCell]; exact (Nat.lt_of_lt_of_le (by simp : w1.heap.size < (w1.drew.alloc (.cells #[.int .i64 0, .int .i64 0, .slice none 0 0, .slice none 0 0] 51)).heap.size) gAB.size), by simp [go_sem, z0], by simp [go_sem, z1], by simp [go_sem, z2], by simp [go_sem, z3], by simp [go_sem, y2], by simp [go_sem, y3], (((hSB.setCell (by first | exact Nat.le_refl _ | exact gA.size) _).setCell (by first | exact Nat.le_refl _ | exact gA.size) _).setCell (by first | exact Nat.le_refl _ | exact gA.size) _).setCell (by first | exact Nat.le_refl _ | exact gA.size) _⟩
  case rest =>
    obtain ⟨tb, rfl, ht1, ht2, d0, d1, d2, d3, e2, e3, gx⟩ := hcut
    have HTB : Hid (w1.heap.size ≤ tb ∧ tb < wc.heap.size) := Lib.hid ⟨ht1, ht2⟩
    have HGX := Lib.hid gx
    have HKN : Hid (qn P = (N - 4) / 2) := Lib.hid (by unfold qn; rw [HN.out])
    have HC0 : Hid (PConds (In wc.heap.size wc.heap.size) wc (.slice none 0 0) []) := Lib.hid (OSl.nil _)
    clear ht1 ht2 gx c0 c1 HSt n0 n1
    go_wp2_with fail
    go_loopw [7] (fun iv wr => ∃ (j k : Nat) (bo : Option Addr) (co : Nat), iv = .int .i64 j ∧ Hid (j = 2 + 2 * k ∧ k ≤ qn P) ∧ wr.cell? ⟨tb, 0, none⟩ = some (.int .i64 I) ∧ wr.cell? ⟨tb, 1, none⟩ = some (.int .i64 J) ∧ wr.cell? ⟨tb, 2, none⟩ = some (.slice bo (qcsS P k).length co) ∧ wr.cell? ⟨tb, 3, none⟩ = some (.slice none 0 0) ∧ wr.frozen? ⟨tb, 2, none⟩ = false ∧ wr.frozen? ⟨tb, 3, none⟩ = false ∧ Hid (PConds (In wc.heap.size wr.heap.size) wr (.slice bo (qcsS P k).length co) (qcsS P k)) ∧ Gr w1 wr ∧ Hid (wc.heap.size ≤ wr.heap.size)) (fun i _ => N - (intOf i).toNat)
    case atStart => exact ⟨2, 0, none, 0, rfl, Lib.hid ⟨rfl, Nat.zero_le _⟩, d0, d1, d2, d3, e2, e3, HC0, HGX.out, Lib.hid (Nat.le_refl _)⟩
    case round =>
      obtain ⟨j, k, bo, co, rfl, hjk, q0, q1, q2, q3, qf2, qf3, HO, hg, HZ⟩ := hrel
      have j0 : (0 : Int) ≤ (j : Int) := Int.natCast_nonneg _
      have jN : (N : Int) ≤ 1048577 := by have := HN2.out; omega
      by_cases hlt : k < qn P
      · have HLT := Lib.hid hlt
        have HJ2 : Hid (j + 1 < N) := Lib.hid (by have := hjk.out; have := HKN.out; have := H4.out; omega)
        have j3 : (j : Int) + 1 < (N : Int) - 2 := by have := hjk.out; have := HKN.out; have := H4.out; omega
        have j1 : (j : Int) + 1 < (N : Int) := by omega
        have j2 : (j : Int) < (N : Int) := by omega
        have n1 : j + 1 < N := HJ2.out
        have cj1 : wr.cell? ⟨g, j + 1, none⟩ = some (.string ⟨(atW P (j + 1)).toArray⟩) := hg.cellv (strsAt_at HST1.out (by rw [HN.out]; exact HJ2.out))
        have cj : Hid (w1.cell? ⟨g, j, none⟩ = some (.string ⟨(atW P j).toArray⟩)) := Lib.hid (strsAt_at HST1.out (by rw [HN.out]; have := HJ2.out; omega))
        obtain ⟨F, HF⟩ : ∃ F, Hid (aftS 102 (atW P j) = F) := ⟨_, Lib.hid rfl⟩
        obtain ⟨L, H, HR⟩ : ∃ L H, Hid (rngS (atW P (j + 1)) = (L, H)) := ⟨_, _, Lib.hid rfl⟩
        have HQC : Hid (qcsS P (k + 1) = qcsS P k ++ [⟨F, L, H⟩]) := Lib.hid (by
          rw [qcsS_succ]; unfold qcS
          have e1 : 2 + 2 * k = j := hjk.out.1.symm
          have e2 : 3 + 2 * k = j + 1 := by omega
          rw [e1, e2, HF.out, HR.out])
        have H64 : Hid (I64 F ∧ I64 L ∧ I64 H) := Lib.hid (by have h := rngS_i64 (atW P (j + 1)); rw [HR.out] at h; exact ⟨by rw [← HF.out]; exact aftS_i64 _ _, h.1, h.2⟩)
        have HSZ : Hid (((qcsS P k).length + 1) * 24 ≤ 140737488355328) := Lib.hid (by rw [qcsS_len]; have := HKN.out; have := HN2.out; have := HLT.out; omega)
        have HG := Lib.hid hg
        clear hlt
        go_wp2_with fail
        refine (spec_rng HR.out (HAW.out (j + 1)) _).mono ?_
        rintro e w5 ⟨rfl, g5⟩
        have n2 : j < N := by omega
        have s2 := g5.cellv q2
        have sj := (HG.out.trans g5).cellv cj.out
        have HG5 := Lib.hid g5
        clear n1 j1 cj1 j3 g5 hg
        go_wp2_with fail
        refine wp_region_G (S := fun w' => w'.cell? ⟨tb, 2, none⟩ = some (.slice bo (qcsS P k).length co) ∧ w'.cell? ⟨g, j, none⟩ = some (.string ⟨(atW P j).toArray⟩)) (m := 13) (by kernel_rfl) ?_
        have hS : w5.drew.cell? ⟨tb, 2, none⟩ = some (.slice bo (qcsS P k).length co) ∧ w5.drew.cell? ⟨g, j, none⟩ = some (.string ⟨(atW P j).toArray⟩) := ⟨((Gr.refl w5).drew).cellv s2, ((Gr.refl w5).drew).cellv sj⟩
        refine wpAnyG_take (i := 0) (v := ?vt1) hS rfl (by kernel_rfl) (by kernel_rfl) (by kernel_rfl) (by kernel_rfl) (fun _ _ _ h => h) (Or.inl ⟨by rfl, ?hyt1⟩) ?restt1
        case hyt1 => (intro w' hw'; (try dsimp only at hw'); obtain ⟨hw1, hw2⟩ := hw'; go_simp; try with_reducible rfl)
        try simp only [Act.put]
        refine wpAnyG_take (i := 1) (v := ?vt2) hS rfl (by kernel_rfl) (by kernel_rfl) (by kernel_rfl) (by kernel_rfl) (fun _ _ _ h => h) (Or.inl ⟨by rfl, ?hyt2⟩) ?restt2
        case hyt2 => (intro w' hw'; (try dsimp only at hw'); obtain ⟨hw1, hw2⟩ := hw'; go_simp; try with_reducible rfl)
        try simp only [Act.put]
        refine wpAnyG_take (i := 2) (v := ?vt3) hS rfl (by kernel_rfl) (by kernel_rfl) (by kernel_rfl) (by kernel_rfl) (fun _ _ _ h => h) (Or.inl ⟨by rfl, ?hyt3⟩) ?restt3
        case hyt3 => (intro w' hw'; (try dsimp only at hw'); obtain ⟨hw1, hw2⟩ := hw'; go_simp; try with_reducible rfl)
        try simp only [Act.put]
        refine wpAnyG_take (i := 3) (v := ?vt4) hS rfl (by kernel_rfl) (by kernel_rfl) (by kernel_rfl) (by kernel_rfl) (fun _ _ _ h => h) (Or.inl ⟨by rfl, ?hyt4⟩) ?restt4
        case hyt4 => (intro w' hw'; (try dsimp only at hw'); obtain ⟨hw1, hw2⟩ := hw'; go_simp; try with_reducible rfl)
        try simp only [Act.put]
        refine wpAnyG_take (i := 4) (v := ?vt5) hS rfl (by kernel_rfl) (by kernel_rfl) (by kernel_rfl) (by kernel_rfl) (fun _ _ _ h => h) (Or.inl ⟨by rfl, ?hyt5⟩) ?restt5
        case hyt5 => (intro w' hw'; (try dsimp only at hw'); obtain ⟨hw1, hw2⟩ := hw'; go_simp; try with_reducible rfl)
        try simp only [Act.put]
        refine wpAnyG_take (i := 5) (v := ?vt6) hS rfl (by kernel_rfl) (by kernel_rfl) (by kernel_rfl) (by kernel_rfl) (fun _ _ _ h => h) (Or.inl ⟨by rfl, ?hyt6⟩) ?restt6
        case hyt6 => (intro w' hw'; (try dsimp only at hw'); obtain ⟨hw1, hw2⟩ := hw'; go_simp; try with_reducible rfl)
        try simp only [Act.put]
        refine wpAnyG_take (i := 7) (v := ?vt7) hS rfl (by kernel_rfl) (by kernel_rfl) (by kernel_rfl) (by kernel_rfl) (fun _ _ _ h => h) (Or.inl ⟨by rfl, ?hyt7⟩) ?restt7
        case hyt7 => (intro w' hw'; (try dsimp only at hw'); obtain ⟨hw1, hw2⟩ := hw'; go_simp; try with_reducible rfl)
        try simp only [Act.put]
        refine wpAnyG_take (i := 8) (v := ?vt8) hS rfl (by kernel_rfl) (by kernel_rfl) (by kernel_rfl) (by kernel_rfl) (fun _ _ _ h => h) (Or.inl ⟨by rfl, ?hyt8⟩) ?restt8
        case hyt8 => (intro w' hw'; (try dsimp only at hw'); obtain ⟨hw1, hw2⟩ := hw'; go_simp; try with_reducible rfl)
        try simp only [Act.put]
        refine wpAnyG_one (i := 6) rfl (by kernel_rfl) (fun K hK => ?_)
        go_simp
        refine (spec_aft (c := 102) 102 rfl HF.out (HAW.out j) _).mono ?_
        rintro e w6 ⟨rfl, g6⟩
        have gw6 : Gr w5 w6 := (Gr.refl w5).drew.trans g6
        go_wp2_with fail
        have hS6 : w6.cell? ⟨tb, 2, none⟩ = some (.slice bo (qcsS P k).length co) ∧ w6.cell? ⟨g, j, none⟩ = some (.string ⟨(atW P j).toArray⟩) := ⟨gw6.cellv s2, gw6.cellv sj⟩
        refine hK.out _ _ (fun _ => hS6) ?_
        clear hK K
        try simp only [Act.put]
        clear hS
        refine wpAnyG_one (i := 9) rfl (by kernel_rfl) (fun K hK => ?_)
        go_simp
        refine hK.out _ _ (fun _ => hS6) ?_
        clear hK K
        try simp only [Act.put]
        refine wpAnyG_one (i := 10) rfl (by kernel_rfl) (fun K hK => ?_)
        go_simp
        refine hK.out _ _ (fun _ => ⟨((Gr.refl w6).alloc _).cellv hS6.1, ((Gr.refl w6).alloc _).cellv hS6.2⟩) ?_
        clear hK K
        try simp only [Act.put]
        have gr6 : Gr wr w6 := HG5.out.trans gw6
        refine wpAnyG_one (i := 11) rfl (by kernel_rfl) (fun K hK => ?_)
        refine step_push_on (w0 := wr) (wr := w6) (la := w6.heap.size) (hb := w6.heap.size) (lo := wc.heap.size) 49 81 3 24 Tryd.underlying49 (z := .agg #[.int .i64 0, .int .i64 0, .int .i64 0]) (by kernel_rfl) rfl (by decide) (by decide) rfl _ _ rfl fr_cond ⟨F, L, H⟩ [.int .i64 F, .int .i64 L, .int .i64 H] rfl rfl rfl HO.out HZ.out gr6 ⟨rfl, H64.out.1, H64.out.2.1, H64.out.2.2⟩ gr6.size (Nat.le_refl _) rfl (by simp [Value.oneCell']) HSZ.out ?_
        intro g9 cap9 w9 hown9 hb9
        have z0 := (hb9.cell (p := ⟨tb, 0, none⟩) HTB.out.2).trans (gr6.cellv q0)
        have z1 := (hb9.cell (p := ⟨tb, 1, none⟩) HTB.out.2).trans (gr6.cellv q1)
        have z2 := (hb9.cell (p := ⟨tb, 2, none⟩) HTB.out.2).trans (gr6.cellv q2)
        have z3 := (hb9.cell (p := ⟨tb, 3, none⟩) HTB.out.2).trans (gr6.cellv q3)
        have HLB : Hid (tb < wr.heap.size ∧ g < w1.heap.size) := Lib.hid ⟨Nat.lt_of_lt_of_le HTB.out.2 HZ.out, World.block_lt_of_cell? w1 _ cj.out⟩
        have y2 := (hb9.frozen (p := ⟨tb, 2, none⟩) HTB.out.2).trans ((gr6.frozen (p := ⟨tb, 2, none⟩) HLB.out.1).trans qf2)
        have y3 := (hb9.frozen (p := ⟨tb, 3, none⟩) HTB.out.2).trans ((gr6.frozen (p := ⟨tb, 3, none⟩) HLB.out.1).trans qf3)
        have zj := (hb9.cell (p := ⟨g, j, none⟩) (by have := HLB.out; have := HTB.out; dsimp only; omega)).trans hS6.2
        refine hK.out _ _ (fun _ => ⟨z2, zj⟩) ?_
        clear hK K
        try simp only [Act.put]
        have hS := And.intro z2 zj
        refine wpAnyG_take (i := 12) (v := ?vt9) hS rfl (by kernel_rfl) (by kernel_rfl) (by kernel_rfl) (by kernel_rfl) (fun _ _ _ h => h) (Or.inl ⟨by rfl, ?hyt9⟩) ?restt9
        case hyt9 => (intro w' hw'; (try dsimp only at hw'); obtain ⟨hw1, hw2⟩ := hw'; go_simp; try with_reducible rfl)
        try simp only [Act.put]
        refine wpAnyG_one (i := 13) rfl (by kernel_rfl) (fun K hK => ?_)
        go_simp
        refine hK.out _ _ (fun h => absurd rfl h) ?_
        clear hK K
        try simp only [Act.put]
        refine wpAnyG_done (by kernel_rfl) ?_ _
        have HOW := Lib.hid hown9
        have HG9 : Hid (Gr w1 w9) := Lib.hid (HG.out.trans' ((gr6.mono (by have := HZ.out; have := HTB.out; omega) : Below w1.heap.size wr w6).trans (hb9.mono (by have := HTB.out; omega))))
        have HZ9 : Hid (wc.heap.size ≤ w9.heap.size) := Lib.hid (Nat.le_trans HZ.out (Nat.le_trans gr6.size hb9.size))
        clear hown9 hb9 g6 gw6 hS hS6 gr6
        go_wp2_with fail
        go_roundw
        case rel => exact ⟨j + 2, k + 1, some ⟨g9, 0, none⟩, cap9, by go_num, Lib.hid ⟨by have := hjk.out; omega, HLT.out⟩, by simp [go_sem, z0], by simp [go_sem, z1], by rw [HQC.out, List.length_append, List.length_singleton]; simp [go_sem, z2], by simp [go_sem, z3], by simp [go_sem, y2], by simp [go_sem, y3], Lib.hid (by
          have h := HOW.out.loc fr_cond (Loc.setCell (Loc.refl _ _) (p := ⟨tb, 2, none⟩) HTB.out.2 (.slice (some ⟨g9, 0, none⟩) ((qcsS P k).length + 1) cap9)) (Nat.le_refl _)
          rw [HQC.out]
          rw [List.length_append, List.length_singleton] at h ⊢
          exact h.wide (Nat.le_refl _) (by simp [World.setCell])), HG9.out.setCell HTB.out.1 _, Lib.hid (by simp [World.setCell]; exact HZ9.out)⟩
        case measure => have := HLT.out; have := hjk.out; have := HKN.out; have := H4.out; simp only [intOf]; omega
      · obtain ⟨W1, hW1⟩ : ∃ W1, W1 = wr := ⟨_, rfl⟩
        subst hW1
        obtain rfl : k = qn P := by have := hjk.out; omega
        have j3 : (N : Int) - 2 ≤ (j : Int) + 1 := by have := hjk.out; have := HKN.out; have := H4.out; omega
        have jU : (j : Int) + 1 ≤ (N : Int) := by have := hjk.out; have := HKN.out; have := H4.out; omega
        have jU2 : (j : Int) < (N : Int) := by omega
        have jd : decide ((j : Int) + 1 < (N : Int) - 2) = false := decide_eq_false (by omega)
        obtain ⟨p, HPZ⟩ : ∃ p, Hid (atW P (N - 1) = p) := ⟨_, Lib.hid rfl⟩
        have HPL : Hid (p.length ≤ 1048576) := Lib.hid (by rw [← HPZ.out]; exact HAW.out _)
        have cz : W1.cell? ⟨g, N - 1, none⟩ = some (.string ⟨p.toArray⟩) := by rw [← HPZ.out]; exact hg.cellv (strsAt_at HST1.out (by rw [HN.out]; have := H4.out; omega))
        obtain ⟨Q, HQ⟩ : ∃ Q, Hid (cutL 44 p = Q) := ⟨_, Lib.hid rfl⟩
        have HVQ : Hid (outS3 P = Q.map numV) := Lib.hid (by unfold outS3; rw [HN.out, HPZ.out, HQ.out])
        have HQL : Hid (0 < Q.length ∧ Q.length ≤ 1048577) := Lib.hid (by rw [← HQ.out]; exact ⟨List.length_pos_iff.2 (cutL_ne 44 p), by have := cutL_count 44 p; have := HPL.out; omega⟩)
        have HQP : Hid (∀ x ∈ Q, x.length ≤ 1048576) := Lib.hid (fun x h => by have := cutL_len 44 p x (by rw [HQ.out]; exact h); have := HPL.out; omega)
        have nz : N - 1 < N := by have := H4.out; omega
        have HG := Lib.hid hg
        clear hlt hg
        go_wp2_with fail
        refine (spec_l2CutN p 44 Q Q.length HQ.out rfl HPL.out _).mono ?_
        rintro e wq ⟨h, n2, rfl, gq, HS2⟩
        have HHQ : Hid (tb ≠ h ∧ h < wq.heap.size ∧ W1.heap.size ≤ wq.heap.size ∧ tb < W1.heap.size ∧ tb < wq.heap.size) := Lib.hid ⟨by have := HS2.out.2; have := HTB.out; have := HZ.out; omega, World.block_lt_of_cell? wq _ (HS2.out.1 0 HQL.out.1), gq.size, by have := HTB.out; have := HZ.out; omega, by have := HTB.out; have := HZ.out; have := gq.size; omega⟩
        have b0 := gq.cellv q0
        have b1 := gq.cellv q1
        have b2 := gq.cellv q2
        have b3 := gq.cellv q3
        have bf := (gq.frozen (p := ⟨tb, 3, none⟩) HHQ.out.2.2.2.1).trans qf3
        have HGQ := Lib.hid (HG.out.trans gq)
        have HOC := Lib.hid (HO.out.gr fr_cond gq)
        have HO0 : OwnI wq wq.heap.size (.slice none 0 0) [] := World.ownsRow_nil _ _ _ _
        clear q0 q1 q2 q3 qf2 qf3 gq cz d0 d1 d2 d3 e2 e3 jd j3
        go_wp2_with fail
        go_loopw [11] (fun iv wr => ∃ (k : Nat) (ns : List Int) (bo2 : Option Addr) (co2 : Nat), k ≤ Q.length ∧ iv = .int .i64 k ∧ wr.cell? ⟨tb, 0, none⟩ = some (.int .i64 I) ∧ wr.cell? ⟨tb, 1, none⟩ = some (.int .i64 J) ∧ wr.cell? ⟨tb, 2, none⟩ = some (.slice bo (qcsS P (qn P)).length co) ∧ wr.cell? ⟨tb, 3, none⟩ = some (.slice bo2 ns.length co2) ∧ wr.frozen? ⟨tb, 3, none⟩ = false ∧ Hid (OwnI wr wq.heap.size (.slice bo2 ns.length co2) ns) ∧ Hid (ns = (Q.take k).map numV ∧ ns.length = k) ∧ Hid (StrsAt wr h Q) ∧ Gr w1 wr ∧ Hid (Chg (fun b => b = tb) wq wr)) (fun i _ => Q.length - (intOf i).toNat)
        case atStart => exact ⟨0, [], _, _, Nat.zero_le _, rfl, b0, b1, b2, b3, bf, Lib.hid HO0, Lib.hid ⟨by simp, rfl⟩, Lib.hid HS2.out.1, HGQ.out, Lib.hid (Chg.refl _ _)⟩
        case round =>
          obtain ⟨k, ns, bo2, co2, hk, rfl, s0, s1, s2, s3, sf, HO2, HNS, HST, hgr, HCH⟩ := hrel
          by_cases hlt3 : k < Q.length
          · have HLT := Lib.hid hlt3
            have HTK : Hid (ns ++ [numV Q[k]] = (Q.take (k + 1)).map numV) := Lib.hid ((congrArg (· ++ [numV Q[k]]) HNS.out.1).trans (take_numV hlt3).symm)
            have HPL3 : Hid (Q[k].length ≤ 1048576) := Lib.hid (HQP.out _ (List.getElem_mem hlt3))
            have sk : wr.cell? ⟨h, k, none⟩ = some (.string ⟨Q[k].toArray⟩) := HST.out k hlt3
            generalize Q[k] = x at HTK HPL3 sk
            have i0 : (0 : Int) ≤ (k : Int) := Int.natCast_nonneg _
            have i1 : (k : Int) < (Q.length : Int) := by omega
            have i2 : (Q.length : Int) ≤ 1048577 := by have := HQL.out; omega
            have HB2 : Hid ((ns.length + 1) * 8 ≤ 140737488355328) := Lib.hid (by have := HNS.out.2; omega)
            clear hk
            go_wp2_with fail
            refine wp_region_G (S := fun w' => w'.cell? ⟨tb, 3, none⟩ = some (.slice bo2 ns.length co2) ∧ w'.cell? ⟨h, k, none⟩ = some (.string ⟨x.toArray⟩)) (m := 10) (by kernel_rfl) ?_
            have hS : wr.drew.cell? ⟨tb, 3, none⟩ = some (.slice bo2 ns.length co2) ∧ wr.drew.cell? ⟨h, k, none⟩ = some (.string ⟨x.toArray⟩) := ⟨((Gr.refl wr).drew).cellv s3, ((Gr.refl wr).drew).cellv sk⟩
            refine wpAnyG_take (i := 0) (v := ?vt10) hS rfl (by kernel_rfl) (by kernel_rfl) (by kernel_rfl) (by kernel_rfl) (fun _ _ _ h => h) (Or.inl ⟨by rfl, ?hyt10⟩) ?restt10
            case hyt10 => (intro w' hw'; (try dsimp only at hw'); obtain ⟨hw1, hw2⟩ := hw'; go_simp; try with_reducible rfl)
            try simp only [Act.put]
            refine wpAnyG_take (i := 1) (v := ?vt11) hS rfl (by kernel_rfl) (by kernel_rfl) (by kernel_rfl) (by kernel_rfl) (fun _ _ _ h => h) (Or.inl ⟨by rfl, ?hyt11⟩) ?restt11
            case hyt11 => (intro w' hw'; (try dsimp only at hw'); obtain ⟨hw1, hw2⟩ := hw'; go_simp; try with_reducible rfl)
            try simp only [Act.put]
            refine wpAnyG_take (i := 2) (v := ?vt12) hS rfl (by kernel_rfl) (by kernel_rfl) (by kernel_rfl) (by kernel_rfl) (fun _ _ _ h => h) (Or.inl ⟨by rfl, ?hyt12⟩) ?restt12
            case hyt12 => (intro w' hw'; (try dsimp only at hw'); obtain ⟨hw1, hw2⟩ := hw'; go_simp; try with_reducible rfl)
            try simp only [Act.put]
            refine wpAnyG_take (i := 3) (v := ?vt13) hS rfl (by kernel_rfl) (by kernel_rfl) (by kernel_rfl) (by kernel_rfl) (fun _ _ _ h => h) (Or.inl ⟨by rfl, ?hyt13⟩) ?restt13
            case hyt13 => (intro w' hw'; (try dsimp only at hw'); obtain ⟨hw1, hw2⟩ := hw'; go_simp; try with_reducible rfl)
            try simp only [Act.put]
            refine wpAnyG_take (i := 4) (v := ?vt14) hS rfl (by kernel_rfl) (by kernel_rfl) (by kernel_rfl) (by kernel_rfl) (fun _ _ _ h => h) (Or.inl ⟨by rfl, ?hyt14⟩) ?restt14
            case hyt14 => (intro w' hw'; (try dsimp only at hw'); obtain ⟨hw1, hw2⟩ := hw'; go_simp; try with_reducible rfl)
            try simp only [Act.put]
            refine wpAnyG_take (i := 5) (v := ?vt15) hS rfl (by kernel_rfl) (by kernel_rfl) (by kernel_rfl) (by kernel_rfl) (fun _ _ _ h => h) (Or.inl ⟨by rfl, ?hyt15⟩) ?restt15
            case hyt15 => (intro w' hw'; (try dsimp only at hw'); obtain ⟨hw1, hw2⟩ := hw'; go_simp; try with_reducible rfl)
            try simp only [Act.put]
            refine wpAnyG_one (i := 6) rfl (by kernel_rfl) (fun K hK => ?_)
            go_simp
            refine (spec_l2Num x HPL3.out _).mono ?_
            rintro e w4 ⟨rfl, g4⟩
            have gw4 : Gr wr w4 := (Gr.refl wr).drew.trans g4
            go_wp2_with fail
            have hS4 : w4.cell? ⟨tb, 3, none⟩ = some (.slice bo2 ns.length co2) ∧ w4.cell? ⟨h, k, none⟩ = some (.string ⟨x.toArray⟩) := ⟨gw4.cellv s3, gw4.cellv sk⟩
            refine hK.out _ _ (fun _ => hS4) ?_
            clear hK K
            try simp only [Act.put]
            clear hS
            refine wpAnyG_one (i := 7) rfl (by kernel_rfl) (fun K hK => ?_)
            go_simp
            refine hK.out _ _ (fun _ => ⟨((Gr.refl w4).alloc _).cellv hS4.1, ((Gr.refl w4).alloc _).cellv hS4.2⟩) ?_
            clear hK K
            try simp only [Act.put]
            refine wpAnyG_one (i := 8) rfl (by kernel_rfl) (fun K hK => ?_)
            refine step_push_n (wr := w4) 24 3 1 8 Tryd.underlying24 (z := .int .i64 0) (by kernel_rfl) rfl (by decide) (by decide) rfl _ _ rfl 1 (by decide) [.int .i64 (numV x)] rfl rfl rfl (ownsRow_gr HO2.out gw4) rfl (by simp [Value.oneCell']) HB2.out (Nat.le_trans HCH.out.size gw4.size) ?_
            intro g5 cap5 w5 hown5 hb5 _ _
            have z0 := (hb5.cell (p := ⟨tb, 0, none⟩) HHQ.out.2.2.2.2).trans (gw4.cellv s0)
            have z1 := (hb5.cell (p := ⟨tb, 1, none⟩) HHQ.out.2.2.2.2).trans (gw4.cellv s1)
            have z2 := (hb5.cell (p := ⟨tb, 2, none⟩) HHQ.out.2.2.2.2).trans (gw4.cellv s2)
            have z3 := (hb5.cell (p := ⟨tb, 3, none⟩) HHQ.out.2.2.2.2).trans hS4.1
            have zk := (hb5.cell (p := ⟨h, k, none⟩) HHQ.out.2.1).trans hS4.2
            have zf := (hb5.frozen (p := ⟨tb, 3, none⟩) HHQ.out.2.2.2.2).trans ((gw4.frozen (p := ⟨tb, 3, none⟩) (Nat.lt_of_lt_of_le HHQ.out.2.2.2.2 HCH.out.size)).trans sf)
            refine hK.out _ _ (fun _ => ⟨z3, zk⟩) ?_
            clear hK K
            try simp only [Act.put]
            have hS := And.intro z3 zk
            refine wpAnyG_take (i := 9) (v := ?vt16) hS rfl (by kernel_rfl) (by kernel_rfl) (by kernel_rfl) (by kernel_rfl) (fun _ _ _ h => h) (Or.inl ⟨by rfl, ?hyt16⟩) ?restt16
            case hyt16 => (intro w' hw'; (try dsimp only at hw'); obtain ⟨hw1, hw2⟩ := hw'; go_simp; try with_reducible rfl)
            try simp only [Act.put]
            refine wpAnyG_one (i := 10) rfl (by kernel_rfl) (fun K hK => ?_)
            go_simp
            refine hK.out _ _ (fun h => absurd rfl h) ?_
            clear hK K
            try simp only [Act.put]
            refine wpAnyG_done (by kernel_rfl) ?_ _
            have HOW := Lib.hid hown5
            have HG5 : Hid (Gr w1 w5) := Lib.hid (hgr.trans' ((gw4.mono (by have := HCH.out.size; have := HHQ.out; have := HTB.out; omega) : Below w1.heap.size wr w4).trans (hb5.mono (by have := HHQ.out; have := HTB.out; omega))))
            have HST5 : Hid (StrsAt w5 h Q) := Lib.hid (strsAt_below (HST.out.gr gw4) hb5 HHQ.out.2.1)
            have HCH5 : Hid (Chg (fun b => b = tb) wq w5) := Lib.hid (chg_below HCH.out ((gw4.mono HCH.out.size : Below wq.heap.size wr w4).trans hb5))
            clear hown5 hb5 g4 gw4 hS hS4
            go_wp2_with fail
            go_roundw
            case rel => exact ⟨k + 1, ns ++ [numV x], some ⟨g5, 0, none⟩, cap5, by have := HLT.out; omega, by go_num, by simp [go_sem, z0], by simp [go_sem, z1], by simp [go_sem, z2], by simp [go_sem, z3], by simp [go_sem, zf], Lib.hid (by
              have h := ownsRow_setCell_below HOW.out (a := ⟨tb, 3, none⟩) HHQ.out.2.2.2.2 (.slice (some ⟨g5, 0, none⟩) (ns.length + 1) cap5)
              unfold OwnI; rw [List.length_append, List.length_singleton, List.map_append]; exact h), Lib.hid ⟨HTK.out, by rw [List.length_append, HNS.out.2]; rfl⟩, Lib.hid (strsAt_set HST5.out HHQ.out.1 _), HG5.out.setCell HTB.out.1 _, Lib.hid (HCH5.out.setCell rfl _)⟩
            case measure => have := HLT.out; simp only [intOf]; omega
          · obtain rfl : k = Q.length := by omega
            have HNV : Hid (ns = outS3 P) := Lib.hid (by rw [HNS.out.1, List.take_length, HVQ.out])
            have HP : Hid (PInts (In wq.heap.size wr.heap.size) wr (.slice bo2 ns.length co2) (outS3 P)) := Lib.hid (by
              rw [← HNV.out]
              exact own_priv HO2.out (fun x hx => by rw [HNS.out.1] at hx; obtain ⟨y, _, rfl⟩ := List.mem_map.1 hx; exact numV_i64 y))
            have HPC : Hid (PConds (In wc.heap.size W1.heap.size) wr (.slice bo (qcsS P (qn P)).length co) (qcsS P (qn P))) := Lib.hid (HOC.out.frame fr_cond (HCH.out.agree fun b hb e => by have := hb.1; have := HTB.out; omega))
            obtain ⟨oa, on, oc, hvv⟩ : ∃ oa on oc, Value.slice bo2 ns.length co2 = .slice oa on oc := ⟨_, _, _, rfl⟩
            rw [hvv] at HP s3
            have HQS : Hid (qS (cutL 32 l) = ⟨I, J, qcsS P (qn P), outS3 P⟩) := Lib.hid (by rw [HPP.out]; unfold qS; rw [HI.out, HJ.out])
            replace k0 := hgr.cellv k0
            replace k1 := hgr.cellv k1
            replace k2 := hgr.cellv k2
            replace k3 := hgr.cellv k3
            replace f0 := (hgr.frozen (p := ⟨w.heap.size, 0, none⟩) hl1).trans f0
            replace f1 := (hgr.frozen (p := ⟨w.heap.size, 1, none⟩) hl1).trans f1
            replace f2 := (hgr.frozen (p := ⟨w.heap.size, 2, none⟩) hl1).trans f2
            replace f3 := (hgr.frozen (p := ⟨w.heap.size, 3, none⟩) hl1).trans f3
            have hlz : w.heap.size < wr.heap.size := Nat.lt_of_lt_of_le hl1 hgr.size
            have GZ := Lib.hid (G1.out.trans hgr)
            have HLW : Hid (w.heap.size + 1 ≤ wc.heap.size ∧ w.heap.size + 1 ≤ wq.heap.size) := Lib.hid (by have := HTB.out; have := HHQ.out; omega)
            obtain ⟨HI1, HHI1⟩ : ∃ HI1, Hid (HI1 = W1.heap.size) := ⟨_, Lib.hid rfl⟩
            obtain ⟨HI2, HHI2⟩ : ∃ HI2, Hid (HI2 = wr.heap.size) := ⟨_, Lib.hid rfl⟩
            replace HP : Hid (PInts (In (w.heap.size + 1) HI2) wr (.slice oa on oc) (outS3 P)) := Lib.hid (by rw [HHI2.out]; exact HP.out.wide HLW.out.2 (Nat.le_refl _))
            replace HPC : Hid (PConds (In (w.heap.size + 1) HI1) wr (.slice bo (qcsS P (qn P)).length co) (qcsS P (qn P))) := Lib.hid (by rw [HHI1.out]; exact HPC.out.wide HLW.out.1 (Nat.le_refl _))
            obtain ⟨T, HTT⟩ : ∃ T, Hid (T = queryText ⟨I, J, qcsS P (qn P), outS3 P⟩) := ⟨_, Lib.hid rfl⟩
            clear hvv hk hlt3 hl1 b0 b1 b2 b3 bf hgr HO0 sf
            cases ht : (T == l) with
            | false =>
              have HB := Lib.hid (specQuery_no (l := l) (by rw [HQS.out, ← HTT.out]; intro e; rw [e] at ht; simp at ht))
              go_wp2_with fail
              refine (Calls.mono (spec_FormatQuery_any ⟨I, J, qcsS P (qn P), outS3 P⟩ _ _ _ (rd_pconds HPC.out) (rd_pints HP.out)) fun e w' h => by rw [← HTT.out] at h; exact h).mono ?_
              rintro e w6 ⟨rfl, g6⟩
              replace k0 := g6.cellv k0
              replace k1 := g6.cellv k1
              replace k2 := g6.cellv k2
              replace k3 := g6.cellv k3
              replace f0 := (g6.frozen (p := ⟨w.heap.size, 0, none⟩) hlz).trans f0
              replace f1 := (g6.frozen (p := ⟨w.heap.size, 1, none⟩) hlz).trans f1
              replace f2 := (g6.frozen (p := ⟨w.heap.size, 2, none⟩) hlz).trans f2
              replace f3 := (g6.frozen (p := ⟨w.heap.size, 3, none⟩) hlz).trans f3
              have G6 := Lib.hid (GZ.out.trans g6)
              clear g6 s0 s1 s2 s3
              go_wp2_with fail
              refine bodyPost_ret (v := .tuple #[.agg #[.int .i64 0, .int .i64 0, .slice none 0 0, .slice none 0 0], .bool false]) (by simp [results, Tryd.results43, go_sem, *]) rfl ⟨_, _, by rw [HB.out]; rfl, by rw [HB.out]; exact rd_pconds (OSl.nil (F := fun _ => True) _), by rw [HB.out]; exact rd_pints (OSl.nil (F := fun _ => True) _), ((((G6.out.setCell (Nat.le_refl _) _).setCell (Nat.le_refl _) _).setCell (Nat.le_refl _) _).setCell (Nat.le_refl _) _)⟩
            | true =>
              have HB := Lib.hid ((specQuery_yes (l := l) (by rw [HPP.out, HN.out]; exact H4.out) (by rw [HQS.out, ← HTT.out]; exact eq_of_beq ht)).trans (congrArg some HQS.out))
              go_wp2_with fail
              refine (Calls.mono (spec_FormatQuery_any ⟨I, J, qcsS P (qn P), outS3 P⟩ _ _ _ (rd_pconds HPC.out) (rd_pints HP.out)) fun e w' h => by rw [← HTT.out] at h; exact h).mono ?_
              rintro e w6 ⟨rfl, g6⟩
              replace k0 := g6.cellv k0
              replace k1 := g6.cellv k1
              replace k2 := g6.cellv k2
              replace k3 := g6.cellv k3
              replace f0 := (g6.frozen (p := ⟨w.heap.size, 0, none⟩) hlz).trans f0
              replace f1 := (g6.frozen (p := ⟨w.heap.size, 1, none⟩) hlz).trans f1
              replace f2 := (g6.frozen (p := ⟨w.heap.size, 2, none⟩) hlz).trans f2
              replace f3 := (g6.frozen (p := ⟨w.heap.size, 3, none⟩) hlz).trans f3
              replace s0 := g6.cellv s0
              replace s1 := g6.cellv s1
              replace s2 := g6.cellv s2
              replace s3 := g6.cellv s3
              have G6 := Lib.hid (GZ.out.trans g6)
              have HC6 := Lib.hid (HPC.out.gr fr_cond g6)
              have HO6 := Lib.hid (HP.out.gr fr_int g6)
              clear g6 hlz
              go_wp2_with fail
              have hv7 : PConds (In (w.heap.size + 1) HI1) ((((w6.setCell ⟨w.heap.size, 0, none⟩ (.int .i64 I)).setCell ⟨w.heap.size, 1, none⟩ (.int .i64 J)).setCell ⟨w.heap.size, 2, none⟩ (.slice bo (qcsS P (qn P)).length co)).setCell ⟨w.heap.size, 3, none⟩ (.slice oa on oc)) (.slice bo (qcsS P (qn P)).length co) (qcsS P (qn P)) := HC6.out.frame fr_cond ((((((Agree.refl _ w6).setCell (p := ⟨w.heap.size, 0, none⟩) (fun b hb e => by have := hb.1; dsimp only at e; omega) (.int .i64 I)).setCell (p := ⟨w.heap.size, 1, none⟩) (fun b hb e => by have := hb.1; dsimp only at e; omega) (.int .i64 J)).setCell (p := ⟨w.heap.size, 2, none⟩) (fun b hb e => by have := hb.1; dsimp only at e; omega) (.slice bo (qcsS P (qn P)).length co)).setCell (p := ⟨w.heap.size, 3, none⟩) (fun b hb e => by have := hb.1; dsimp only at e; omega) (.slice oa on oc)))
              have ho7 : PInts (In (w.heap.size + 1) HI2) ((((w6.setCell ⟨w.heap.size, 0, none⟩ (.int .i64 I)).setCell ⟨w.heap.size, 1, none⟩ (.int .i64 J)).setCell ⟨w.heap.size, 2, none⟩ (.slice bo (qcsS P (qn P)).length co)).setCell ⟨w.heap.size, 3, none⟩ (.slice oa on oc)) (.slice oa on oc) (outS3 P) := HO6.out.frame fr_int ((((((Agree.refl _ w6).setCell (p := ⟨w.heap.size, 0, none⟩) (fun b hb e => by have := hb.1; dsimp only at e; omega) (.int .i64 I)).setCell (p := ⟨w.heap.size, 1, none⟩) (fun b hb e => by have := hb.1; dsimp only at e; omega) (.int .i64 J)).setCell (p := ⟨w.heap.size, 2, none⟩) (fun b hb e => by have := hb.1; dsimp only at e; omega) (.slice bo (qcsS P (qn P)).length co)).setCell (p := ⟨w.heap.size, 3, none⟩) (fun b hb e => by have := hb.1; dsimp only at e; omega) (.slice oa on oc)))
              refine bodyPost_ret (v := .tuple #[.agg #[.int .i64 I, .int .i64 J, .slice bo (qcsS P (qn P)).length co, .slice oa on oc], .bool true]) (by simp [results, Tryd.results43, go_sem, *]) rfl ⟨_, _, by rw [HB.out]; rfl, by rw [HB.out]; exact rd_pconds hv7, by rw [HB.out]; exact rd_pints ho7, ((((G6.out.setCell (Nat.le_refl _) _).setCell (Nat.le_refl _) _).setCell (Nat.le_refl _) _).setCell (Nat.le_refl _) _)⟩
end Go.Proofs.YtjeffagejbdjkaaDoor

/- The law's own helpers: marks, and what holds them. Written by gen_mark.py. -/
namespace Go.Proofs.YtjeffagejbdjkaaDoor
open Go.RowKit
set_option linter.unusedSimpArgs false
set_option maxRecDepth 100000 in
set_option maxHeartbeats 4000000 in
theorem laws_markCondS (F : Nat → Prop) (v : Value) (xs : List DCond) (k : Int) (w : World) (hx : PConds F w v xs) (h0 : 0 ≤ k) (hb : k + sumT cntCond xs ≤ 4611686018427387904) :
    Calls Tryd.prog 74 #[v, .int .i64 k] w fun e w' => e = .returned (.int .i64 (k + sumT cntCond xs)) ∧ PConds F w' v (marksTo mkCond cntCond k xs.length xs) ∧ Chg F w w' := by
  obtain ⟨a, cap, rfl⟩ := hx.form
  have hlen : (xs.length : Int) ≤ 9223372036854775807 := by
    obtain ⟨_, _, hve, h1, h2, _⟩ := rd_pconds hx
    simp only [Value.slice.injEq] at hve
    omega
  go_enter Tryd.func74, Tryd.ntmps74
  go_wp2
  go_loopw [1, 5] (fun kk i wr => ∃ j : Nat, j ≤ xs.length ∧ i = .int .i64 j ∧ kk = .int .i64 (k + sumT cntCond (xs.take j)) ∧ PConds F wr (.slice a xs.length cap) (marksTo mkCond cntCond k j xs) ∧ Chg F w wr) (fun _ i _ => xs.length - (intOf i).toNat)
  case atStart => exact ⟨0, Nat.zero_le _, rfl, by simp [sumT], by rw [marksTo_zero]; exact hx, Chg.refl _ _⟩
  case round =>
    obtain ⟨j, hj, rfl, rfl, hp, hch⟩ := hrel
    by_cases hlt : j < xs.length
    · obtain ⟨cs, G, hrow, hparts⟩ := hp.parts
      rw [marksTo_len] at hrow
      have hjl : j < (marksTo mkCond cntCond k j xs).length := by rw [marksTo_len]; exact hlt
      obtain ⟨g, rfl⟩ := row_ptr hrow (by omega)
      obtain ⟨hcl, hEl, hG, _⟩ := hparts.2 j hjl
      rw [marksTo_ge hlt (Nat.le_refl _) hjl] at hEl
      obtain ⟨hcs, i_field, i_low, i_high⟩ := hEl
      have hr0 : wr.ownsRow 0 81 3 (.slice (some ⟨g, 0, none⟩) xs.length cap) xs.length (flatC 3 xs.length (updC cs j [.int .i64 xs[j].field, .int .i64 xs[j].low, .int .i64 xs[j].high])) := by rw [← hcs, updC_same]; exact hrow
      have hgG : ∀ b, G j b → b ≠ g := fun b hb e => (hG b hb).2 (by subst e; rfl)
      have hsum := sumT_take cntCond xs j hlt
      have hle := sumT_le cntCond xs (j + 1)
      have hnn : 0 ≤ k + (sumT cntCond (xs.take j) : Int) := by omega
      have hkb : k + (sumT cntCond (xs.take j) : Int) + (cntCond xs[j] : Int) ≤ 4611686018427387904 := by omega
      obtain ⟨k0_0, f0_0⟩ := row_cell (j := 0) hr0 hlt (by rw [updC_at]; rfl) (by rw [updC_at]; rfl) (p := j * 3) rfl
      obtain ⟨k0_1, f0_1⟩ := row_cell (j := 1) hr0 hlt (by rw [updC_at]; rfl) (by rw [updC_at]; rfl) (p := j * 3 + 1) rfl
      obtain ⟨k0_2, f0_2⟩ := row_cell (j := 2) hr0 hlt (by rw [updC_at]; rfl) (by rw [updC_at]; rfl) (p := j * 3 + 2) rfl
      have hrz_0 : (wr.setCell ⟨g, j * 3, none⟩ (.int .i64 (k + (sumT cntCond (xs.take j) : Int)))).ownsRow 0 81 3 (.slice (some ⟨g, 0, none⟩) xs.length cap) xs.length (flatC 3 xs.length (updC cs j [.int .i64 (k + (sumT cntCond (xs.take j) : Int)), .int .i64 xs[j].low, .int .i64 xs[j].high])) := row_set' (j := 0) hr0 hlt (by decide) (p := j * 3) rfl rfl (u := .int .i64 (k + (sumT cntCond (xs.take j) : Int)))
      have hrz_1 : ((wr.setCell ⟨g, j * 3, none⟩ (.int .i64 (k + (sumT cntCond (xs.take j) : Int)))).setCell ⟨g, j * 3 + 1, none⟩ (.int .i64 ((k + (sumT cntCond (xs.take j) : Int)) + 1))).ownsRow 0 81 3 (.slice (some ⟨g, 0, none⟩) xs.length cap) xs.length (flatC 3 xs.length (updC cs j [.int .i64 (k + (sumT cntCond (xs.take j) : Int)), .int .i64 ((k + (sumT cntCond (xs.take j) : Int)) + 1), .int .i64 xs[j].high])) := row_set' (j := 1) hrz_0 hlt (by decide) (p := j * 3 + 1) rfl rfl (u := .int .i64 ((k + (sumT cntCond (xs.take j) : Int)) + 1))
      have hrz_2 : (((wr.setCell ⟨g, j * 3, none⟩ (.int .i64 (k + (sumT cntCond (xs.take j) : Int)))).setCell ⟨g, j * 3 + 1, none⟩ (.int .i64 ((k + (sumT cntCond (xs.take j) : Int)) + 1))).setCell ⟨g, j * 3 + 2, none⟩ (.int .i64 (((k + (sumT cntCond (xs.take j) : Int)) + 1) + 1))).ownsRow 0 81 3 (.slice (some ⟨g, 0, none⟩) xs.length cap) xs.length (flatC 3 xs.length (updC cs j [.int .i64 (k + (sumT cntCond (xs.take j) : Int)), .int .i64 ((k + (sumT cntCond (xs.take j) : Int)) + 1), .int .i64 (((k + (sumT cntCond (xs.take j) : Int)) + 1) + 1)])) := row_set' (j := 2) hrz_1 hlt (by decide) (p := j * 3 + 2) rfl rfl (u := .int .i64 (((k + (sumT cntCond (xs.take j) : Int)) + 1) + 1))
      have hcz : Chg (fun b => G j b ∨ (Value.slice (some ⟨g, 0, none⟩) xs.length cap).ownBlock = some b) wr (((wr.setCell ⟨g, j * 3, none⟩ (.int .i64 (k + (sumT cntCond (xs.take j) : Int)))).setCell ⟨g, j * 3 + 1, none⟩ (.int .i64 ((k + (sumT cntCond (xs.take j) : Int)) + 1))).setCell ⟨g, j * 3 + 2, none⟩ (.int .i64 (((k + (sumT cntCond (xs.take j) : Int)) + 1) + 1))) := (Chg.setCell (p := ⟨g, j * 3 + 2, none⟩) (Chg.setCell (p := ⟨g, j * 3 + 1, none⟩) (Chg.setCell (p := ⟨g, j * 3, none⟩) (Chg.refl _ wr) (Or.inr rfl) (.int .i64 (k + (sumT cntCond (xs.take j) : Int)))) (Or.inr rfl) (.int .i64 ((k + (sumT cntCond (xs.take j) : Int)) + 1))) (Or.inr rfl) (.int .i64 (((k + (sumT cntCond (xs.take j) : Int)) + 1) + 1)))
      have hy : PCond (G j) (((wr.setCell ⟨g, j * 3, none⟩ (.int .i64 (k + (sumT cntCond (xs.take j) : Int)))).setCell ⟨g, j * 3 + 1, none⟩ (.int .i64 ((k + (sumT cntCond (xs.take j) : Int)) + 1))).setCell ⟨g, j * 3 + 2, none⟩ (.int .i64 (((k + (sumT cntCond (xs.take j) : Int)) + 1) + 1))) [.int .i64 (k + (sumT cntCond (xs.take j) : Int)), .int .i64 ((k + (sumT cntCond (xs.take j) : Int)) + 1), .int .i64 (((k + (sumT cntCond (xs.take j) : Int)) + 1) + 1)] (mkCond (k + (sumT cntCond (xs.take j) : Int)) xs[j]) := ⟨rfl, (by unfold I64; (try simp only [cntI, cntCond, cntRow, cntSpan, cntVersion, cntQuery, Int.natCast_add, Int.natCast_one, Int.cast_ofNat_Int] at hkb); (try simp only [mkI, mkCond, mkRow, mkSpan, mkVersion, mkQuery]); omega), (by unfold I64; (try simp only [cntI, cntCond, cntRow, cntSpan, cntVersion, cntQuery, Int.natCast_add, Int.natCast_one, Int.cast_ofNat_Int] at hkb); (try simp only [mkI, mkCond, mkRow, mkSpan, mkVersion, mkQuery]); omega), (by unfold I64; (try simp only [cntI, cntCond, cntRow, cntSpan, cntVersion, cntQuery, Int.natCast_add, Int.natCast_one, Int.cast_ofNat_Int] at hkb); (try simp only [mkI, mkCond, mkRow, mkSpan, mkVersion, mkQuery]); omega)⟩
      have hup : PConds F (((wr.setCell ⟨g, j * 3, none⟩ (.int .i64 (k + (sumT cntCond (xs.take j) : Int)))).setCell ⟨g, j * 3 + 1, none⟩ (.int .i64 ((k + (sumT cntCond (xs.take j) : Int)) + 1))).setCell ⟨g, j * 3 + 2, none⟩ (.int .i64 (((k + (sumT cntCond (xs.take j) : Int)) + 1) + 1))) (.slice (some ⟨g, 0, none⟩) xs.length cap) (marksTo mkCond cntCond k (j + 1) xs) := by
        rw [marksTo_succ hlt]
        exact hparts.upd fr_cond hjl (by rw [marksTo_len]; exact hrz_2) rfl hy hcz
      have hch' := hch.trans (hparts.chgF hjl hcz)
      have HUP := Lib.hid hup
      have HCH := Lib.hid hch'
      have HS := Lib.hid hsum
      clear hup hch' hy hcz hparts hp hsum hle hrow
      have hkb' := hkb
      (try simp only [cntI, cntCond, cntRow, cntSpan, cntVersion, cntQuery, Int.natCast_add, Int.natCast_one, Int.cast_ofNat_Int] at hkb')
      go_wp2_with fail
      go_roundw
      case rel => exact ⟨j + 1, by omega, by go_num, by rw [HS.out]; (try simp only [cntI, cntCond, cntRow, cntSpan, cntVersion, cntQuery, Int.natCast_add, Int.natCast_one, Int.cast_ofNat_Int]); go_num, HUP.out, HCH.out⟩
      case measure => simp [intOf]; omega
    · obtain rfl : j = xs.length := by omega
      go_wp2
      go_ret
      exact ⟨ret_int (by rw [List.take_length]), hp, hch⟩
set_option maxRecDepth 100000 in
set_option maxHeartbeats 4000000 in
theorem laws_heldCondS (v : Value) (xs : List DCond) (k : Int) (w : World) (hx : RConds w v (marksTo mkCond cntCond k xs.length xs)) (h0 : 0 ≤ k) (hb : k + sumT cntCond xs ≤ 4611686018427387904) :
    Calls Tryd.prog 75 #[v, .int .i64 k] w fun e w' => e = .returned (.int .i64 (k + sumT cntCond xs)) ∧ Gr w w' := by
  obtain ⟨a, cap, rfl, hl, hm, hx⟩ := hx
  simp only [marksTo_len] at hl hx ⊢
  go_enter Tryd.func75, Tryd.ntmps75
  go_wp2
  go_loopw [1, 5] (fun kk i wr => ∃ j : Nat, j ≤ xs.length ∧ i = .int .i64 j ∧ kk = .int .i64 (k + sumT cntCond (xs.take j)) ∧ Gr w wr) (fun _ i _ => xs.length - (intOf i).toNat)
  case atStart => exact ⟨0, Nat.zero_le _, rfl, by simp [sumT], Gr.refl _⟩
  case round =>
    obtain ⟨j, hj, rfl, rfl, hgr⟩ := hrel
    by_cases hlt : j < xs.length
    · obtain ⟨b, off, cs, rfl, hlen, hE, hc⟩ := hx j hlt
      rw [marksTo_lt hlt hlt] at hE
      obtain ⟨rfl, i_field, i_low, i_high⟩ := hE
      have c0 := hgr.cellv (hc 0 (by simp))
      have c1 := hgr.cellv (hc 1 (by simp))
      have c2 := hgr.cellv (hc 2 (by simp))
      simp only [Nat.add_zero, List.getElem_cons_zero, List.getElem_cons_succ] at c0 c1 c2
      clear hc hlen
      have hsum := sumT_take cntCond xs j hlt
      have hle := sumT_le cntCond xs (j + 1)
      have hnn : 0 ≤ k + (sumT cntCond (xs.take j) : Int) := by omega
      have hkb : k + (sumT cntCond (xs.take j) : Int) + (cntCond xs[j] : Int) ≤ 4611686018427387904 := by omega
      have hkb' := hkb
      (try simp only [cntI, cntCond, cntRow, cntSpan, cntVersion, cntQuery, Int.natCast_add, Int.natCast_one, Int.cast_ofNat_Int] at hkb')
      have HS := Lib.hid hsum
      clear hsum hle
      have e0 : ((k + (sumT cntCond (xs.take j) : Int)) != (k + (sumT cntCond (xs.take j) : Int))) = false := by simp
      have e1 : (((k + (sumT cntCond (xs.take j) : Int)) + 1) != ((k + (sumT cntCond (xs.take j) : Int)) + 1)) = false := by simp
      have e2 : ((((k + (sumT cntCond (xs.take j) : Int)) + 1) + 1) != (((k + (sumT cntCond (xs.take j) : Int)) + 1) + 1)) = false := by simp
      go_wp2_with fail
      go_roundw
      case rel => exact ⟨j + 1, by omega, by go_num, by rw [HS.out]; (try simp only [cntI, cntCond, cntRow, cntSpan, cntVersion, cntQuery, Int.natCast_add, Int.natCast_one, Int.cast_ofNat_Int]); go_num, hgr⟩
      case measure => simp [intOf]; omega
    · obtain rfl : j = xs.length := by omega
      go_wp2
      go_ret
      exact ⟨ret_int (by rw [List.take_length]), hgr⟩
end Go.Proofs.YtjeffagejbdjkaaDoor
