/- BuildIndex: queries copied: the walks. Written by gen_l6query.py. -/
import Derived.Test.YtcdcpfcmhmhdjaaMg8
namespace Go.Proofs.Ytcdcpfcmhmhdjaa
open Go.ChangeShapes Go.WideShapes Go.RowKit Go.Deep
theorem cell_ne {w : World} {p q : Addr} {v u : Value} (h : q.block ≠ p.block) (hv : w.cell? q = some v) : (w.setCell p u).cell? q = some v := by
  rw [World.cell?_of_block (w := w) (Below.heap_setCell _ _ _ _ h)]; exact hv
theorem Chg.cellv {F : Nat → Prop} {w w' : World} (h : Chg F w w') {p : Addr} {v : Value} (hp : ¬ F p.block) (hv : w.cell? p = some v) : w'.cell? p = some v := (World.cell?_of_block (w := w) (h.block _ (World.block_lt_of_cell? w _ hv) hp)).trans hv
theorem size_setCell (w : World) (p : Addr) (v : Value) : (w.setCell p v).heap.size = w.heap.size := by simp [World.setCell]
theorem Chg.frozenv {F : Nat → Prop} {w w' : World} (h : Chg F w w') {p : Addr} (hl : p.block < w.heap.size) (hp : ¬ F p.block) (hv : w.frozen? p = false) : w'.frozen? p = false := (World.frozen?_of_block (w := w) (h.block _ hl hp)).trans hv
/-- Two rows of one's own, apart. -/
def TwoOwn (lo : Nat) (w' : World) (u' x' : Value) (cs : List DCond) (os : List Int) : Prop := ∃ F1 F2 : Nat → Prop, PConds F1 w' u' cs ∧ PInts F2 w' x' os ∧ (∀ b, F1 b → In lo w'.heap.size b ∧ ¬ F2 b) ∧ ∀ b, F2 b → In lo w'.heap.size b
set_option maxRecDepth 100000 in
set_option maxHeartbeats 16000000 in
theorem spec_l6Query (q : DQuery) (u x : Value) (w : World) (hu : RConds w u q.conds) (hx : RInts w x q.out) (hb : totQuery q ≤ 4294967296) :
    Calls Try.prog 77 #[.agg #[.int .i64 q.id, .int .i64 q.tenant, u, x]] w fun e w' => ∃ u' x', e = .returned (.agg #[.int .i64 q.id, .int .i64 q.tenant, u', x']) ∧ Gr w w' ∧ TwoOwn w.heap.size w' u' x' q.conds q.out := by
  obtain ⟨id, ten, conds, out⟩ := q
  unfold totQuery at hb
  dsimp only at *
  obtain ⟨ua, uc, rfl⟩ := hu.form
  obtain ⟨xa, xc, rfl⟩ := hx.form
  have g0 : Gr w ((w.alloc (.cells #[.int .i64 id, .int .i64 ten, .slice ua conds.length uc, .slice xa out.length xc] 44)).alloc (.cells #[.int .i64 0, .int .i64 0, .slice none 0 0, .slice none 0 0] 44)) := ((Gr.refl w).alloc _).alloc _
  have hz : ((w.alloc (.cells #[.int .i64 id, .int .i64 ten, .slice ua conds.length uc, .slice xa out.length xc] 44)).alloc (.cells #[.int .i64 0, .int .i64 0, .slice none 0 0, .slice none 0 0] 44)).heap.size = w.heap.size + 1 + 1 := by simp
  have HU := Lib.hid hu
  have HX := Lib.hid hx
  have HBC : Hid (conds.length ≤ 4294967296) := Lib.hid (by omega)
  have HBO : Hid (out.length ≤ 4294967296) := Lib.hid (by omega)
  clear hu hx
  have c0 : ((w.alloc (.cells #[.int .i64 id, .int .i64 ten, .slice ua conds.length uc, .slice xa out.length xc] 44)).alloc (.cells #[.int .i64 0, .int .i64 0, .slice none 0 0, .slice none 0 0] 44)).cell? ⟨w.heap.size, 0, none⟩ = some (.int .i64 id) := by simp [go_sem]
  have c1 : ((w.alloc (.cells #[.int .i64 id, .int .i64 ten, .slice ua conds.length uc, .slice xa out.length xc] 44)).alloc (.cells #[.int .i64 0, .int .i64 0, .slice none 0 0, .slice none 0 0] 44)).cell? ⟨w.heap.size, 1, none⟩ = some (.int .i64 ten) := by simp [go_sem]
  have c2 : ((w.alloc (.cells #[.int .i64 id, .int .i64 ten, .slice ua conds.length uc, .slice xa out.length xc] 44)).alloc (.cells #[.int .i64 0, .int .i64 0, .slice none 0 0, .slice none 0 0] 44)).cell? ⟨w.heap.size, 2, none⟩ = some (.slice ua conds.length uc) := by simp [go_sem]
  have c3 : ((w.alloc (.cells #[.int .i64 id, .int .i64 ten, .slice ua conds.length uc, .slice xa out.length xc] 44)).alloc (.cells #[.int .i64 0, .int .i64 0, .slice none 0 0, .slice none 0 0] 44)).cell? ⟨w.heap.size, 3, none⟩ = some (.slice xa out.length xc) := by simp [go_sem]
  have d0 : ((w.alloc (.cells #[.int .i64 id, .int .i64 ten, .slice ua conds.length uc, .slice xa out.length xc] 44)).alloc (.cells #[.int .i64 0, .int .i64 0, .slice none 0 0, .slice none 0 0] 44)).cell? ⟨w.heap.size + 1, 0, none⟩ = some (.int .i64 0) := by simp [go_sem]
  have d1 : ((w.alloc (.cells #[.int .i64 id, .int .i64 ten, .slice ua conds.length uc, .slice xa out.length xc] 44)).alloc (.cells #[.int .i64 0, .int .i64 0, .slice none 0 0, .slice none 0 0] 44)).cell? ⟨w.heap.size + 1, 1, none⟩ = some (.int .i64 0) := by simp [go_sem]
  have d2 : ((w.alloc (.cells #[.int .i64 id, .int .i64 ten, .slice ua conds.length uc, .slice xa out.length xc] 44)).alloc (.cells #[.int .i64 0, .int .i64 0, .slice none 0 0, .slice none 0 0] 44)).cell? ⟨w.heap.size + 1, 2, none⟩ = some (.slice none 0 0) := by simp [go_sem]
  have d3 : ((w.alloc (.cells #[.int .i64 id, .int .i64 ten, .slice ua conds.length uc, .slice xa out.length xc] 44)).alloc (.cells #[.int .i64 0, .int .i64 0, .slice none 0 0, .slice none 0 0] 44)).cell? ⟨w.heap.size + 1, 3, none⟩ = some (.slice none 0 0) := by simp [go_sem]
  have e0 : ((w.alloc (.cells #[.int .i64 id, .int .i64 ten, .slice ua conds.length uc, .slice xa out.length xc] 44)).alloc (.cells #[.int .i64 0, .int .i64 0, .slice none 0 0, .slice none 0 0] 44)).frozen? ⟨w.heap.size + 1, 0, none⟩ = false := by simp [go_sem]
  have e1 : ((w.alloc (.cells #[.int .i64 id, .int .i64 ten, .slice ua conds.length uc, .slice xa out.length xc] 44)).alloc (.cells #[.int .i64 0, .int .i64 0, .slice none 0 0, .slice none 0 0] 44)).frozen? ⟨w.heap.size + 1, 1, none⟩ = false := by simp [go_sem]
  have e2 : ((w.alloc (.cells #[.int .i64 id, .int .i64 ten, .slice ua conds.length uc, .slice xa out.length xc] 44)).alloc (.cells #[.int .i64 0, .int .i64 0, .slice none 0 0, .slice none 0 0] 44)).frozen? ⟨w.heap.size + 1, 2, none⟩ = false := by simp [go_sem]
  have e3 : ((w.alloc (.cells #[.int .i64 id, .int .i64 ten, .slice ua conds.length uc, .slice xa out.length xc] 44)).alloc (.cells #[.int .i64 0, .int .i64 0, .slice none 0 0, .slice none 0 0] 44)).frozen? ⟨w.heap.size + 1, 3, none⟩ = false := by simp [go_sem]
  go_enter Try.func77, Try.ntmps77
  go_wp2
  obtain ⟨W0, hW⟩ : ∃ W, W = ((w.alloc (.cells #[.int .i64 id, .int .i64 ten, .slice ua conds.length uc, .slice xa out.length xc] 44)).alloc (.cells #[.int .i64 0, .int .i64 0, .slice none 0 0, .slice none 0 0] 44)) := ⟨_, rfl⟩
  rw [← hW] at g0 hz c0 c1 c2 c3 d0 d1 d2 d3 e0 e1 e2 e3 ⊢
  clear hW
  refine wp_region_held_drew (S := fun w' => w'.cell? ⟨w.heap.size, 0, none⟩ = some (.int .i64 id) ∧ w'.cell? ⟨w.heap.size, 1, none⟩ = some (.int .i64 ten) ∧ w'.cell? ⟨w.heap.size, 2, none⟩ = some (.slice ua conds.length uc) ∧ w'.cell? ⟨w.heap.size, 3, none⟩ = some (.slice xa out.length xc)) (by kernel_rfl) ⟨c0, c1, c2, c3⟩ (fun hHeld => ?_)
  clear hHeld
  have gw : Gr w W0.drew := g0.drew
  have hzd : w.heap.size + 1 + 1 ≤ W0.drew.heap.size := Nat.le_of_eq hz.symm
  replace c0 := ((Gr.refl W0).drew).cellv c0
  replace c1 := ((Gr.refl W0).drew).cellv c1
  replace c2 := ((Gr.refl W0).drew).cellv c2
  replace c3 := ((Gr.refl W0).drew).cellv c3
  replace d0 := ((Gr.refl W0).drew).cellv d0
  replace d1 := ((Gr.refl W0).drew).cellv d1
  replace d2 := ((Gr.refl W0).drew).cellv d2
  replace d3 := ((Gr.refl W0).drew).cellv d3
  replace e0 : W0.drew.frozen? ⟨w.heap.size + 1, 0, none⟩ = false := e0
  replace e1 : W0.drew.frozen? ⟨w.heap.size + 1, 1, none⟩ = false := e1
  replace e2 : W0.drew.frozen? ⟨w.heap.size + 1, 2, none⟩ = false := e2
  replace e3 : W0.drew.frozen? ⟨w.heap.size + 1, 3, none⟩ = false := e3
  clear g0 hz
  generalize W0.drew = W at gw hzd c0 c1 c2 c3 d0 d1 d2 d3 e0 e1 e2 e3 ⊢
  have hS : (fun w' => w'.cell? ⟨w.heap.size, 0, none⟩ = some (.int .i64 id) ∧ w'.cell? ⟨w.heap.size, 1, none⟩ = some (.int .i64 ten) ∧ w'.cell? ⟨w.heap.size, 2, none⟩ = some (.slice ua conds.length uc) ∧ w'.cell? ⟨w.heap.size, 3, none⟩ = some (.slice xa out.length xc)) W := ⟨c0, c1, c2, c3⟩
  refine wpAnyH_take (i := 0) (v := ?v0_1) rfl (by kernel_rfl) (by kernel_rfl) (by kernel_rfl) (fun _ _ _ h => h) (Or.inl ⟨by rfl, ?hy0_1⟩) hS ?rest0_1
  case hy0_1 => (intro w' hw'; (try dsimp only at hw'); go_simp; try with_reducible rfl)
  try simp only [Act.put]
  refine wpAnyH_take (i := 1) (v := ?v1_2) rfl (by kernel_rfl) (by kernel_rfl) (by kernel_rfl) (fun _ _ _ h => h) (Or.inl ⟨by rfl, ?hy1_2⟩) hS ?rest1_2
  case hy1_2 => (intro w' hw'; (try dsimp only at hw'); go_simp; try with_reducible rfl)
  try simp only [Act.put]
  refine wpAnyH_take (i := 2) (v := ?v2_3) rfl (by kernel_rfl) (by kernel_rfl) (by kernel_rfl) (fun _ _ _ h => h) (Or.inl ⟨by rfl, ?hy2_3⟩) hS ?rest2_3
  case hy2_3 => (intro w' hw'; (try dsimp only at hw'); go_simp; try with_reducible rfl)
  try simp only [Act.put]
  refine wpAnyH_take (i := 3) (v := ?v3_4) rfl (by kernel_rfl) (by kernel_rfl) (by kernel_rfl) (fun _ _ _ h => h) (Or.inl ⟨by rfl, ?hy3_4⟩) hS ?rest3_4
  case hy3_4 => (intro w' hw'; (try dsimp only at hw'); go_simp; try with_reducible rfl)
  try simp only [Act.put]
  refine wpAnyH_take (i := 5) (v := ?v5_5) rfl (by kernel_rfl) (by kernel_rfl) (by kernel_rfl) (fun _ _ _ h => h) (Or.inl ⟨by rfl, ?hy5_5⟩) hS ?rest5_5
  case hy5_5 => (intro w' hw'; (try dsimp only at hw'); go_simp; try with_reducible rfl)
  try simp only [Act.put]
  refine wpAnyH_take (i := 6) (v := ?v6_6) rfl (by kernel_rfl) (by kernel_rfl) (by kernel_rfl) (fun _ _ _ h => h) (Or.inl ⟨by rfl, ?hy6_6⟩) hS ?rest6_6
  case hy6_6 => (intro w' hw'; (try dsimp only at hw'); go_simp; try with_reducible rfl)
  try simp only [Act.put]
  refine wpAnyH_take (i := 9) (v := ?v9_7) rfl (by kernel_rfl) (by kernel_rfl) (by kernel_rfl) (fun _ _ _ h => h) (Or.inl ⟨by rfl, ?hy9_7⟩) hS ?rest9_7
  case hy9_7 => (intro w' hw'; (try dsimp only at hw'); go_simp; try with_reducible rfl)
  try simp only [Act.put]
  refine wpAnyH_take (i := 10) (v := ?v10_8) rfl (by kernel_rfl) (by kernel_rfl) (by kernel_rfl) (fun _ _ _ h => h) (Or.inl ⟨by rfl, ?hy10_8⟩) hS ?rest10_8
  case hy10_8 => (intro w' hw'; (try dsimp only at hw'); go_simp; try with_reducible rfl)
  try simp only [Act.put]
  refine wpAnyH_ready (rs := [4, 8]) (by kernel_rfl) (by simp) (AllReadyH.cons rfl (fun K1_4 hK1_4 => ?br1_4) (AllReadyH.cons rfl (fun K1_8 hK1_8 => ?br1_8) AllReadyH.nil))
  case br1_4 =>
    go_simp
    obtain ⟨W1_4, hW1_4⟩ : ∃ W', W' = W.alloc (.cells #[] 66) := ⟨_, rfl⟩
    rw [← hW1_4]
    have g1_4 : Gr W W1_4 := by rw [hW1_4]; exact (Gr.refl _).alloc _
    have z1_4 : W.heap.size + 1 ≤ W1_4.heap.size := by rw [hW1_4]; simp
    have n1_4 : W1_4.heap[W.heap.size]? = some (.cells #[] 66 (0, 0)) := by rw [hW1_4]; exact heap_alloc_new _ _
    clear hW1_4
    replace c0 := g1_4.cellv c0
    replace c1 := g1_4.cellv c1
    replace c2 := g1_4.cellv c2
    replace c3 := g1_4.cellv c3
    replace d0 := g1_4.cellv d0
    replace d1 := g1_4.cellv d1
    replace d2 := g1_4.cellv d2
    replace d3 := g1_4.cellv d3
    replace e0 := (g1_4.frozen (p := ⟨w.heap.size + 1, 0, none⟩) (by dsimp only; omega)).trans e0
    replace e1 := (g1_4.frozen (p := ⟨w.heap.size + 1, 1, none⟩) (by dsimp only; omega)).trans e1
    replace e2 := (g1_4.frozen (p := ⟨w.heap.size + 1, 2, none⟩) (by dsimp only; omega)).trans e2
    replace e3 := (g1_4.frozen (p := ⟨w.heap.size + 1, 3, none⟩) (by dsimp only; omega)).trans e3
    replace gw := gw.trans g1_4
    clear hS
    have hS : (fun w' => w'.cell? ⟨w.heap.size, 0, none⟩ = some (.int .i64 id) ∧ w'.cell? ⟨w.heap.size, 1, none⟩ = some (.int .i64 ten) ∧ w'.cell? ⟨w.heap.size, 2, none⟩ = some (.slice ua conds.length uc) ∧ w'.cell? ⟨w.heap.size, 3, none⟩ = some (.slice xa out.length xc)) W1_4 := ⟨c0, c1, c2, c3⟩
    refine hK1_4.out _ _ hS (fun hHeld => ?_)
    clear hHeld hK1_4 K1_4
    clear g1_4
    try simp only [Act.put]
    refine wpAnyH_ready (rs := [7, 8]) (by kernel_rfl) (by simp) (AllReadyH.cons rfl (fun K2_7 hK2_7 => ?br2_7) (AllReadyH.cons rfl (fun K2_8 hK2_8 => ?br2_8) AllReadyH.nil))
    case br2_7 =>
      refine step_copy_c (g := W.heap.size) rfl _ _ rfl rfl rfl n1_4 (RSlice.mono keeps_cond gw HU.out) HBC.out ?_
      intro b7 k7 W2_7 o7 ch2_7
      replace o7 := Lib.hid o7
      have z2_7 := ch2_7.size
      replace c0 := ch2_7.cellv (by dsimp only; omega) c0
      replace c1 := ch2_7.cellv (by dsimp only; omega) c1
      replace c2 := ch2_7.cellv (by dsimp only; omega) c2
      replace c3 := ch2_7.cellv (by dsimp only; omega) c3
      replace d0 := ch2_7.cellv (by dsimp only; omega) d0
      replace d1 := ch2_7.cellv (by dsimp only; omega) d1
      replace d2 := ch2_7.cellv (by dsimp only; omega) d2
      replace d3 := ch2_7.cellv (by dsimp only; omega) d3
      replace e0 := ch2_7.frozenv (by dsimp only; omega) (by dsimp only; omega) e0
      replace e1 := ch2_7.frozenv (by dsimp only; omega) (by dsimp only; omega) e1
      replace e2 := ch2_7.frozenv (by dsimp only; omega) (by dsimp only; omega) e2
      replace e3 := ch2_7.frozenv (by dsimp only; omega) (by dsimp only; omega) e3
      replace gw := gw.trans' (ch2_7.below (B := w.heap.size) (fun b hb => by omega) (by omega))
      clear hS
      have hS : (fun w' => w'.cell? ⟨w.heap.size, 0, none⟩ = some (.int .i64 id) ∧ w'.cell? ⟨w.heap.size, 1, none⟩ = some (.int .i64 ten) ∧ w'.cell? ⟨w.heap.size, 2, none⟩ = some (.slice ua conds.length uc) ∧ w'.cell? ⟨w.heap.size, 3, none⟩ = some (.slice xa out.length xc)) W2_7 := ⟨c0, c1, c2, c3⟩
      refine hK2_7.out _ _ hS (fun hHeld => ?_)
      clear hHeld hK2_7 K2_7
      clear ch2_7 n1_4
      try simp only [Act.put]
      refine wpAnyH_ready (rs := [8]) (by kernel_rfl) (by simp) (AllReadyH.cons rfl (fun K3_8 hK3_8 => ?br3_8) AllReadyH.nil)
      case br3_8 =>
        go_simp
        obtain ⟨W3_8, hW3_8⟩ : ∃ W', W' = W2_7.alloc (.cells #[] 3) := ⟨_, rfl⟩
        rw [← hW3_8]
        have g3_8 : Gr W2_7 W3_8 := by rw [hW3_8]; exact (Gr.refl _).alloc _
        have z3_8 : W2_7.heap.size + 1 ≤ W3_8.heap.size := by rw [hW3_8]; simp
        have n3_8 : W3_8.heap[W2_7.heap.size]? = some (.cells #[] 3 (0, 0)) := by rw [hW3_8]; exact heap_alloc_new _ _
        clear hW3_8
        replace c0 := g3_8.cellv c0
        replace c1 := g3_8.cellv c1
        replace c2 := g3_8.cellv c2
        replace c3 := g3_8.cellv c3
        replace d0 := g3_8.cellv d0
        replace d1 := g3_8.cellv d1
        replace d2 := g3_8.cellv d2
        replace d3 := g3_8.cellv d3
        replace e0 := (g3_8.frozen (p := ⟨w.heap.size + 1, 0, none⟩) (by dsimp only; omega)).trans e0
        replace e1 := (g3_8.frozen (p := ⟨w.heap.size + 1, 1, none⟩) (by dsimp only; omega)).trans e1
        replace e2 := (g3_8.frozen (p := ⟨w.heap.size + 1, 2, none⟩) (by dsimp only; omega)).trans e2
        replace e3 := (g3_8.frozen (p := ⟨w.heap.size + 1, 3, none⟩) (by dsimp only; omega)).trans e3
        replace gw := gw.trans g3_8
        replace o7 := Lib.hid (o7.out.gr fr_cond g3_8)
        clear hS
        have hS : (fun w' => w'.cell? ⟨w.heap.size, 0, none⟩ = some (.int .i64 id) ∧ w'.cell? ⟨w.heap.size, 1, none⟩ = some (.int .i64 ten) ∧ w'.cell? ⟨w.heap.size, 2, none⟩ = some (.slice ua conds.length uc) ∧ w'.cell? ⟨w.heap.size, 3, none⟩ = some (.slice xa out.length xc)) W3_8 := ⟨c0, c1, c2, c3⟩
        refine hK3_8.out _ _ hS (fun hHeld => ?_)
        clear hHeld hK3_8 K3_8
        clear g3_8
        try simp only [Act.put]
        refine wpAnyH_ready (rs := [11]) (by kernel_rfl) (by simp) (AllReadyH.cons rfl (fun K4_11 hK4_11 => ?br4_11) AllReadyH.nil)
        case br4_11 =>
          refine step_copy_n (g := W2_7.heap.size) rfl _ _ rfl rfl rfl n3_8 (HX.out.mono gw) HBO.out ?_
          intro b11 k11 W4_11 o11 ch4_11
          replace o11 := Lib.hid o11
          have z4_11 := ch4_11.size
          replace c0 := ch4_11.cellv (by dsimp only; omega) c0
          replace c1 := ch4_11.cellv (by dsimp only; omega) c1
          replace c2 := ch4_11.cellv (by dsimp only; omega) c2
          replace c3 := ch4_11.cellv (by dsimp only; omega) c3
          replace d0 := ch4_11.cellv (by dsimp only; omega) d0
          replace d1 := ch4_11.cellv (by dsimp only; omega) d1
          replace d2 := ch4_11.cellv (by dsimp only; omega) d2
          replace d3 := ch4_11.cellv (by dsimp only; omega) d3
          replace e0 := ch4_11.frozenv (by dsimp only; omega) (by dsimp only; omega) e0
          replace e1 := ch4_11.frozenv (by dsimp only; omega) (by dsimp only; omega) e1
          replace e2 := ch4_11.frozenv (by dsimp only; omega) (by dsimp only; omega) e2
          replace e3 := ch4_11.frozenv (by dsimp only; omega) (by dsimp only; omega) e3
          replace gw := gw.trans' (ch4_11.below (B := w.heap.size) (fun b hb => by omega) (by omega))
          replace o7 := Lib.hid (o7.out.frame fr_cond (ch4_11.agree fun b hb hc => by rcases hb with hb | ⟨hb, hb'⟩ <;> omega))
          clear hS
          have hS : (fun w' => w'.cell? ⟨w.heap.size, 0, none⟩ = some (.int .i64 id) ∧ w'.cell? ⟨w.heap.size, 1, none⟩ = some (.int .i64 ten) ∧ w'.cell? ⟨w.heap.size, 2, none⟩ = some (.slice ua conds.length uc) ∧ w'.cell? ⟨w.heap.size, 3, none⟩ = some (.slice xa out.length xc)) W4_11 := ⟨c0, c1, c2, c3⟩
          refine hK4_11.out _ _ hS (fun hHeld => ?_)
          clear hHeld hK4_11 K4_11
          clear ch4_11 n3_8
          try simp only [Act.put]
          refine wpAnyH_take (i := 12) (v := ?v12_9) rfl (by kernel_rfl) (by kernel_rfl) (by kernel_rfl) (fun _ _ _ h => h) (Or.inl ⟨by rfl, ?hy12_9⟩) hS ?rest12_9
          case hy12_9 => (intro w' hw'; (try dsimp only at hw'); go_simp; try with_reducible rfl)
          try simp only [Act.put]
          refine wpAnyH_ready (rs := [13]) (by kernel_rfl) (by simp) (AllReadyH.cons rfl (fun K5 hK5 => ?br5) AllReadyH.nil)
          case br5 =>
            go_simp
            refine hK5.out _ _ ⟨by repeat' (first | exact c0 | refine cell_ne (by dsimp only; omega) ?_), by repeat' (first | exact c1 | refine cell_ne (by dsimp only; omega) ?_), by repeat' (first | exact c2 | refine cell_ne (by dsimp only; omega) ?_), by repeat' (first | exact c3 | refine cell_ne (by dsimp only; omega) ?_)⟩ (fun hHeld => ?_)
            try simp only [Act.put]
            clear hHeld hK5 K5 c0 c1 c2 c3 e0 e1 e2 e3 hS
            refine wpAnyH_done (by kernel_rfl) ?_ _
            go_wp2_with fail
            refine bodyPost_ret (v := .agg #[.int .i64 id, .int .i64 ten, .slice b7 conds.length k7, .slice b11 out.length k11]) (by simp [results, Try.results77, go_sem, *]) rfl ⟨_, _, rfl, ?_, ?_⟩
            · exact (((gw.setCell (Nat.le_succ _) _).setCell (Nat.le_succ _) _).setCell (Nat.le_succ _) _).setCell (Nat.le_succ _) _
            refine ⟨Sole (W.heap.size) (W1_4.heap.size) (W2_7.heap.size), Sole (W2_7.heap.size) (W3_8.heap.size) (W4_11.heap.size), o7.out.frame fr_cond (by repeat' (first | with_reducible exact Agree.refl _ _ | with_reducible refine Agree.setCell ?_ ?_ _ | (intro b hb e; dsimp only at e; rcases hb with hb | ⟨hb, hb'⟩ <;> omega))), o11.out.frame fr_int (by repeat' (first | with_reducible exact Agree.refl _ _ | with_reducible refine Agree.setCell ?_ ?_ _ | (intro b hb e; dsimp only at e; rcases hb with hb | ⟨hb, hb'⟩ <;> omega))), fun b hb => ⟨?_, fun hc => ?_⟩, fun b hb => ?_⟩
            · rcases hb with hb | ⟨hb, hb'⟩ <;> exact ⟨by omega, by simp only [size_setCell]; omega⟩
            · rcases hb with hb | ⟨hb, hb'⟩ <;> rcases hc with hc | ⟨hc, hc'⟩ <;> omega
            · rcases hb with hb | ⟨hb, hb'⟩ <;> exact ⟨by omega, by simp only [size_setCell]; omega⟩
    case br2_8 =>
      go_simp
      obtain ⟨W2_8, hW2_8⟩ : ∃ W', W' = W1_4.alloc (.cells #[] 3) := ⟨_, rfl⟩
      rw [← hW2_8]
      have g2_8 : Gr W1_4 W2_8 := by rw [hW2_8]; exact (Gr.refl _).alloc _
      have z2_8 : W1_4.heap.size + 1 ≤ W2_8.heap.size := by rw [hW2_8]; simp
      have n2_8 : W2_8.heap[W1_4.heap.size]? = some (.cells #[] 3 (0, 0)) := by rw [hW2_8]; exact heap_alloc_new _ _
      clear hW2_8
      replace c0 := g2_8.cellv c0
      replace c1 := g2_8.cellv c1
      replace c2 := g2_8.cellv c2
      replace c3 := g2_8.cellv c3
      replace d0 := g2_8.cellv d0
      replace d1 := g2_8.cellv d1
      replace d2 := g2_8.cellv d2
      replace d3 := g2_8.cellv d3
      replace e0 := (g2_8.frozen (p := ⟨w.heap.size + 1, 0, none⟩) (by dsimp only; omega)).trans e0
      replace e1 := (g2_8.frozen (p := ⟨w.heap.size + 1, 1, none⟩) (by dsimp only; omega)).trans e1
      replace e2 := (g2_8.frozen (p := ⟨w.heap.size + 1, 2, none⟩) (by dsimp only; omega)).trans e2
      replace e3 := (g2_8.frozen (p := ⟨w.heap.size + 1, 3, none⟩) (by dsimp only; omega)).trans e3
      replace gw := gw.trans g2_8
      replace n1_4 := (g2_8.block _ (by omega)).trans n1_4
      clear hS
      have hS : (fun w' => w'.cell? ⟨w.heap.size, 0, none⟩ = some (.int .i64 id) ∧ w'.cell? ⟨w.heap.size, 1, none⟩ = some (.int .i64 ten) ∧ w'.cell? ⟨w.heap.size, 2, none⟩ = some (.slice ua conds.length uc) ∧ w'.cell? ⟨w.heap.size, 3, none⟩ = some (.slice xa out.length xc)) W2_8 := ⟨c0, c1, c2, c3⟩
      refine hK2_8.out _ _ hS (fun hHeld => ?_)
      clear hHeld hK2_8 K2_8
      clear g2_8
      try simp only [Act.put]
      refine wpAnyH_ready (rs := [7]) (by kernel_rfl) (by simp) (AllReadyH.cons rfl (fun K6_7 hK6_7 => ?br6_7) AllReadyH.nil)
      case br6_7 =>
        refine step_copy_c (g := W.heap.size) rfl _ _ rfl rfl rfl n1_4 (RSlice.mono keeps_cond gw HU.out) HBC.out ?_
        intro b7 k7 W6_7 o7 ch6_7
        replace o7 := Lib.hid o7
        have z6_7 := ch6_7.size
        replace c0 := ch6_7.cellv (by dsimp only; omega) c0
        replace c1 := ch6_7.cellv (by dsimp only; omega) c1
        replace c2 := ch6_7.cellv (by dsimp only; omega) c2
        replace c3 := ch6_7.cellv (by dsimp only; omega) c3
        replace d0 := ch6_7.cellv (by dsimp only; omega) d0
        replace d1 := ch6_7.cellv (by dsimp only; omega) d1
        replace d2 := ch6_7.cellv (by dsimp only; omega) d2
        replace d3 := ch6_7.cellv (by dsimp only; omega) d3
        replace e0 := ch6_7.frozenv (by dsimp only; omega) (by dsimp only; omega) e0
        replace e1 := ch6_7.frozenv (by dsimp only; omega) (by dsimp only; omega) e1
        replace e2 := ch6_7.frozenv (by dsimp only; omega) (by dsimp only; omega) e2
        replace e3 := ch6_7.frozenv (by dsimp only; omega) (by dsimp only; omega) e3
        replace gw := gw.trans' (ch6_7.below (B := w.heap.size) (fun b hb => by omega) (by omega))
        replace n2_8 := (ch6_7.block _ (by omega) (by omega)).trans n2_8
        clear hS
        have hS : (fun w' => w'.cell? ⟨w.heap.size, 0, none⟩ = some (.int .i64 id) ∧ w'.cell? ⟨w.heap.size, 1, none⟩ = some (.int .i64 ten) ∧ w'.cell? ⟨w.heap.size, 2, none⟩ = some (.slice ua conds.length uc) ∧ w'.cell? ⟨w.heap.size, 3, none⟩ = some (.slice xa out.length xc)) W6_7 := ⟨c0, c1, c2, c3⟩
        refine hK6_7.out _ _ hS (fun hHeld => ?_)
        clear hHeld hK6_7 K6_7
        clear ch6_7 n1_4
        try simp only [Act.put]
        refine wpAnyH_ready (rs := [11]) (by kernel_rfl) (by simp) (AllReadyH.cons rfl (fun K7_11 hK7_11 => ?br7_11) AllReadyH.nil)
        case br7_11 =>
          refine step_copy_n (g := W1_4.heap.size) rfl _ _ rfl rfl rfl n2_8 (HX.out.mono gw) HBO.out ?_
          intro b11 k11 W7_11 o11 ch7_11
          replace o11 := Lib.hid o11
          have z7_11 := ch7_11.size
          replace c0 := ch7_11.cellv (by dsimp only; omega) c0
          replace c1 := ch7_11.cellv (by dsimp only; omega) c1
          replace c2 := ch7_11.cellv (by dsimp only; omega) c2
          replace c3 := ch7_11.cellv (by dsimp only; omega) c3
          replace d0 := ch7_11.cellv (by dsimp only; omega) d0
          replace d1 := ch7_11.cellv (by dsimp only; omega) d1
          replace d2 := ch7_11.cellv (by dsimp only; omega) d2
          replace d3 := ch7_11.cellv (by dsimp only; omega) d3
          replace e0 := ch7_11.frozenv (by dsimp only; omega) (by dsimp only; omega) e0
          replace e1 := ch7_11.frozenv (by dsimp only; omega) (by dsimp only; omega) e1
          replace e2 := ch7_11.frozenv (by dsimp only; omega) (by dsimp only; omega) e2
          replace e3 := ch7_11.frozenv (by dsimp only; omega) (by dsimp only; omega) e3
          replace gw := gw.trans' (ch7_11.below (B := w.heap.size) (fun b hb => by omega) (by omega))
          replace o7 := Lib.hid (o7.out.frame fr_cond (ch7_11.agree fun b hb hc => by rcases hb with hb | ⟨hb, hb'⟩ <;> omega))
          clear hS
          have hS : (fun w' => w'.cell? ⟨w.heap.size, 0, none⟩ = some (.int .i64 id) ∧ w'.cell? ⟨w.heap.size, 1, none⟩ = some (.int .i64 ten) ∧ w'.cell? ⟨w.heap.size, 2, none⟩ = some (.slice ua conds.length uc) ∧ w'.cell? ⟨w.heap.size, 3, none⟩ = some (.slice xa out.length xc)) W7_11 := ⟨c0, c1, c2, c3⟩
          refine hK7_11.out _ _ hS (fun hHeld => ?_)
          clear hHeld hK7_11 K7_11
          clear ch7_11 n2_8
          try simp only [Act.put]
          refine wpAnyH_take (i := 12) (v := ?v12_10) rfl (by kernel_rfl) (by kernel_rfl) (by kernel_rfl) (fun _ _ _ h => h) (Or.inl ⟨by rfl, ?hy12_10⟩) hS ?rest12_10
          case hy12_10 => (intro w' hw'; (try dsimp only at hw'); go_simp; try with_reducible rfl)
          try simp only [Act.put]
          refine wpAnyH_ready (rs := [13]) (by kernel_rfl) (by simp) (AllReadyH.cons rfl (fun K8 hK8 => ?br8) AllReadyH.nil)
          case br8 =>
            go_simp
            refine hK8.out _ _ ⟨by repeat' (first | exact c0 | refine cell_ne (by dsimp only; omega) ?_), by repeat' (first | exact c1 | refine cell_ne (by dsimp only; omega) ?_), by repeat' (first | exact c2 | refine cell_ne (by dsimp only; omega) ?_), by repeat' (first | exact c3 | refine cell_ne (by dsimp only; omega) ?_)⟩ (fun hHeld => ?_)
            try simp only [Act.put]
            clear hHeld hK8 K8 c0 c1 c2 c3 e0 e1 e2 e3 hS
            refine wpAnyH_done (by kernel_rfl) ?_ _
            go_wp2_with fail
            refine bodyPost_ret (v := .agg #[.int .i64 id, .int .i64 ten, .slice b7 conds.length k7, .slice b11 out.length k11]) (by simp [results, Try.results77, go_sem, *]) rfl ⟨_, _, rfl, ?_, ?_⟩
            · exact (((gw.setCell (Nat.le_succ _) _).setCell (Nat.le_succ _) _).setCell (Nat.le_succ _) _).setCell (Nat.le_succ _) _
            refine ⟨Sole (W.heap.size) (W2_8.heap.size) (W6_7.heap.size), Sole (W1_4.heap.size) (W6_7.heap.size) (W7_11.heap.size), o7.out.frame fr_cond (by repeat' (first | with_reducible exact Agree.refl _ _ | with_reducible refine Agree.setCell ?_ ?_ _ | (intro b hb e; dsimp only at e; rcases hb with hb | ⟨hb, hb'⟩ <;> omega))), o11.out.frame fr_int (by repeat' (first | with_reducible exact Agree.refl _ _ | with_reducible refine Agree.setCell ?_ ?_ _ | (intro b hb e; dsimp only at e; rcases hb with hb | ⟨hb, hb'⟩ <;> omega))), fun b hb => ⟨?_, fun hc => ?_⟩, fun b hb => ?_⟩
            · rcases hb with hb | ⟨hb, hb'⟩ <;> exact ⟨by omega, by simp only [size_setCell]; omega⟩
            · rcases hb with hb | ⟨hb, hb'⟩ <;> rcases hc with hc | ⟨hc, hc'⟩ <;> omega
            · rcases hb with hb | ⟨hb, hb'⟩ <;> exact ⟨by omega, by simp only [size_setCell]; omega⟩
  case br1_8 =>
    go_simp
    obtain ⟨W1_8, hW1_8⟩ : ∃ W', W' = W.alloc (.cells #[] 3) := ⟨_, rfl⟩
    rw [← hW1_8]
    have g1_8 : Gr W W1_8 := by rw [hW1_8]; exact (Gr.refl _).alloc _
    have z1_8 : W.heap.size + 1 ≤ W1_8.heap.size := by rw [hW1_8]; simp
    have n1_8 : W1_8.heap[W.heap.size]? = some (.cells #[] 3 (0, 0)) := by rw [hW1_8]; exact heap_alloc_new _ _
    clear hW1_8
    replace c0 := g1_8.cellv c0
    replace c1 := g1_8.cellv c1
    replace c2 := g1_8.cellv c2
    replace c3 := g1_8.cellv c3
    replace d0 := g1_8.cellv d0
    replace d1 := g1_8.cellv d1
    replace d2 := g1_8.cellv d2
    replace d3 := g1_8.cellv d3
    replace e0 := (g1_8.frozen (p := ⟨w.heap.size + 1, 0, none⟩) (by dsimp only; omega)).trans e0
    replace e1 := (g1_8.frozen (p := ⟨w.heap.size + 1, 1, none⟩) (by dsimp only; omega)).trans e1
    replace e2 := (g1_8.frozen (p := ⟨w.heap.size + 1, 2, none⟩) (by dsimp only; omega)).trans e2
    replace e3 := (g1_8.frozen (p := ⟨w.heap.size + 1, 3, none⟩) (by dsimp only; omega)).trans e3
    replace gw := gw.trans g1_8
    clear hS
    have hS : (fun w' => w'.cell? ⟨w.heap.size, 0, none⟩ = some (.int .i64 id) ∧ w'.cell? ⟨w.heap.size, 1, none⟩ = some (.int .i64 ten) ∧ w'.cell? ⟨w.heap.size, 2, none⟩ = some (.slice ua conds.length uc) ∧ w'.cell? ⟨w.heap.size, 3, none⟩ = some (.slice xa out.length xc)) W1_8 := ⟨c0, c1, c2, c3⟩
    refine hK1_8.out _ _ hS (fun hHeld => ?_)
    clear hHeld hK1_8 K1_8
    clear g1_8
    try simp only [Act.put]
    refine wpAnyH_ready (rs := [4]) (by kernel_rfl) (by simp) (AllReadyH.cons rfl (fun K9_4 hK9_4 => ?br9_4) AllReadyH.nil)
    case br9_4 =>
      go_simp
      obtain ⟨W9_4, hW9_4⟩ : ∃ W', W' = W1_8.alloc (.cells #[] 66) := ⟨_, rfl⟩
      rw [← hW9_4]
      have g9_4 : Gr W1_8 W9_4 := by rw [hW9_4]; exact (Gr.refl _).alloc _
      have z9_4 : W1_8.heap.size + 1 ≤ W9_4.heap.size := by rw [hW9_4]; simp
      have n9_4 : W9_4.heap[W1_8.heap.size]? = some (.cells #[] 66 (0, 0)) := by rw [hW9_4]; exact heap_alloc_new _ _
      clear hW9_4
      replace c0 := g9_4.cellv c0
      replace c1 := g9_4.cellv c1
      replace c2 := g9_4.cellv c2
      replace c3 := g9_4.cellv c3
      replace d0 := g9_4.cellv d0
      replace d1 := g9_4.cellv d1
      replace d2 := g9_4.cellv d2
      replace d3 := g9_4.cellv d3
      replace e0 := (g9_4.frozen (p := ⟨w.heap.size + 1, 0, none⟩) (by dsimp only; omega)).trans e0
      replace e1 := (g9_4.frozen (p := ⟨w.heap.size + 1, 1, none⟩) (by dsimp only; omega)).trans e1
      replace e2 := (g9_4.frozen (p := ⟨w.heap.size + 1, 2, none⟩) (by dsimp only; omega)).trans e2
      replace e3 := (g9_4.frozen (p := ⟨w.heap.size + 1, 3, none⟩) (by dsimp only; omega)).trans e3
      replace gw := gw.trans g9_4
      replace n1_8 := (g9_4.block _ (by omega)).trans n1_8
      clear hS
      have hS : (fun w' => w'.cell? ⟨w.heap.size, 0, none⟩ = some (.int .i64 id) ∧ w'.cell? ⟨w.heap.size, 1, none⟩ = some (.int .i64 ten) ∧ w'.cell? ⟨w.heap.size, 2, none⟩ = some (.slice ua conds.length uc) ∧ w'.cell? ⟨w.heap.size, 3, none⟩ = some (.slice xa out.length xc)) W9_4 := ⟨c0, c1, c2, c3⟩
      refine hK9_4.out _ _ hS (fun hHeld => ?_)
      clear hHeld hK9_4 K9_4
      clear g9_4
      try simp only [Act.put]
      refine wpAnyH_ready (rs := [7]) (by kernel_rfl) (by simp) (AllReadyH.cons rfl (fun K10_7 hK10_7 => ?br10_7) AllReadyH.nil)
      case br10_7 =>
        refine step_copy_c (g := W1_8.heap.size) rfl _ _ rfl rfl rfl n9_4 (RSlice.mono keeps_cond gw HU.out) HBC.out ?_
        intro b7 k7 W10_7 o7 ch10_7
        replace o7 := Lib.hid o7
        have z10_7 := ch10_7.size
        replace c0 := ch10_7.cellv (by dsimp only; omega) c0
        replace c1 := ch10_7.cellv (by dsimp only; omega) c1
        replace c2 := ch10_7.cellv (by dsimp only; omega) c2
        replace c3 := ch10_7.cellv (by dsimp only; omega) c3
        replace d0 := ch10_7.cellv (by dsimp only; omega) d0
        replace d1 := ch10_7.cellv (by dsimp only; omega) d1
        replace d2 := ch10_7.cellv (by dsimp only; omega) d2
        replace d3 := ch10_7.cellv (by dsimp only; omega) d3
        replace e0 := ch10_7.frozenv (by dsimp only; omega) (by dsimp only; omega) e0
        replace e1 := ch10_7.frozenv (by dsimp only; omega) (by dsimp only; omega) e1
        replace e2 := ch10_7.frozenv (by dsimp only; omega) (by dsimp only; omega) e2
        replace e3 := ch10_7.frozenv (by dsimp only; omega) (by dsimp only; omega) e3
        replace gw := gw.trans' (ch10_7.below (B := w.heap.size) (fun b hb => by omega) (by omega))
        replace n1_8 := (ch10_7.block _ (by omega) (by omega)).trans n1_8
        clear hS
        have hS : (fun w' => w'.cell? ⟨w.heap.size, 0, none⟩ = some (.int .i64 id) ∧ w'.cell? ⟨w.heap.size, 1, none⟩ = some (.int .i64 ten) ∧ w'.cell? ⟨w.heap.size, 2, none⟩ = some (.slice ua conds.length uc) ∧ w'.cell? ⟨w.heap.size, 3, none⟩ = some (.slice xa out.length xc)) W10_7 := ⟨c0, c1, c2, c3⟩
        refine hK10_7.out _ _ hS (fun hHeld => ?_)
        clear hHeld hK10_7 K10_7
        clear ch10_7 n9_4
        try simp only [Act.put]
        refine wpAnyH_ready (rs := [11]) (by kernel_rfl) (by simp) (AllReadyH.cons rfl (fun K11_11 hK11_11 => ?br11_11) AllReadyH.nil)
        case br11_11 =>
          refine step_copy_n (g := W.heap.size) rfl _ _ rfl rfl rfl n1_8 (HX.out.mono gw) HBO.out ?_
          intro b11 k11 W11_11 o11 ch11_11
          replace o11 := Lib.hid o11
          have z11_11 := ch11_11.size
          replace c0 := ch11_11.cellv (by dsimp only; omega) c0
          replace c1 := ch11_11.cellv (by dsimp only; omega) c1
          replace c2 := ch11_11.cellv (by dsimp only; omega) c2
          replace c3 := ch11_11.cellv (by dsimp only; omega) c3
          replace d0 := ch11_11.cellv (by dsimp only; omega) d0
          replace d1 := ch11_11.cellv (by dsimp only; omega) d1
          replace d2 := ch11_11.cellv (by dsimp only; omega) d2
          replace d3 := ch11_11.cellv (by dsimp only; omega) d3
          replace e0 := ch11_11.frozenv (by dsimp only; omega) (by dsimp only; omega) e0
          replace e1 := ch11_11.frozenv (by dsimp only; omega) (by dsimp only; omega) e1
          replace e2 := ch11_11.frozenv (by dsimp only; omega) (by dsimp only; omega) e2
          replace e3 := ch11_11.frozenv (by dsimp only; omega) (by dsimp only; omega) e3
          replace gw := gw.trans' (ch11_11.below (B := w.heap.size) (fun b hb => by omega) (by omega))
          replace o7 := Lib.hid (o7.out.frame fr_cond (ch11_11.agree fun b hb hc => by rcases hb with hb | ⟨hb, hb'⟩ <;> omega))
          clear hS
          have hS : (fun w' => w'.cell? ⟨w.heap.size, 0, none⟩ = some (.int .i64 id) ∧ w'.cell? ⟨w.heap.size, 1, none⟩ = some (.int .i64 ten) ∧ w'.cell? ⟨w.heap.size, 2, none⟩ = some (.slice ua conds.length uc) ∧ w'.cell? ⟨w.heap.size, 3, none⟩ = some (.slice xa out.length xc)) W11_11 := ⟨c0, c1, c2, c3⟩
          refine hK11_11.out _ _ hS (fun hHeld => ?_)
          clear hHeld hK11_11 K11_11
          clear ch11_11 n1_8
          try simp only [Act.put]
          refine wpAnyH_take (i := 12) (v := ?v12_11) rfl (by kernel_rfl) (by kernel_rfl) (by kernel_rfl) (fun _ _ _ h => h) (Or.inl ⟨by rfl, ?hy12_11⟩) hS ?rest12_11
          case hy12_11 => (intro w' hw'; (try dsimp only at hw'); go_simp; try with_reducible rfl)
          try simp only [Act.put]
          refine wpAnyH_ready (rs := [13]) (by kernel_rfl) (by simp) (AllReadyH.cons rfl (fun K12 hK12 => ?br12) AllReadyH.nil)
          case br12 =>
            go_simp
            refine hK12.out _ _ ⟨by repeat' (first | exact c0 | refine cell_ne (by dsimp only; omega) ?_), by repeat' (first | exact c1 | refine cell_ne (by dsimp only; omega) ?_), by repeat' (first | exact c2 | refine cell_ne (by dsimp only; omega) ?_), by repeat' (first | exact c3 | refine cell_ne (by dsimp only; omega) ?_)⟩ (fun hHeld => ?_)
            try simp only [Act.put]
            clear hHeld hK12 K12 c0 c1 c2 c3 e0 e1 e2 e3 hS
            refine wpAnyH_done (by kernel_rfl) ?_ _
            go_wp2_with fail
            refine bodyPost_ret (v := .agg #[.int .i64 id, .int .i64 ten, .slice b7 conds.length k7, .slice b11 out.length k11]) (by simp [results, Try.results77, go_sem, *]) rfl ⟨_, _, rfl, ?_, ?_⟩
            · exact (((gw.setCell (Nat.le_succ _) _).setCell (Nat.le_succ _) _).setCell (Nat.le_succ _) _).setCell (Nat.le_succ _) _
            refine ⟨Sole (W1_8.heap.size) (W9_4.heap.size) (W10_7.heap.size), Sole (W.heap.size) (W10_7.heap.size) (W11_11.heap.size), o7.out.frame fr_cond (by repeat' (first | with_reducible exact Agree.refl _ _ | with_reducible refine Agree.setCell ?_ ?_ _ | (intro b hb e; dsimp only at e; rcases hb with hb | ⟨hb, hb'⟩ <;> omega))), o11.out.frame fr_int (by repeat' (first | with_reducible exact Agree.refl _ _ | with_reducible refine Agree.setCell ?_ ?_ _ | (intro b hb e; dsimp only at e; rcases hb with hb | ⟨hb, hb'⟩ <;> omega))), fun b hb => ⟨?_, fun hc => ?_⟩, fun b hb => ?_⟩
            · rcases hb with hb | ⟨hb, hb'⟩ <;> exact ⟨by omega, by simp only [size_setCell]; omega⟩
            · rcases hb with hb | ⟨hb, hb'⟩ <;> rcases hc with hc | ⟨hc, hc'⟩ <;> omega
            · rcases hb with hb | ⟨hb, hb'⟩ <;> exact ⟨by omega, by simp only [size_setCell]; omega⟩
end Go.Proofs.Ytcdcpfcmhmhdjaa
