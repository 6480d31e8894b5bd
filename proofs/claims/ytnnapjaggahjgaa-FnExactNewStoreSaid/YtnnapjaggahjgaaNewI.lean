/- NewStore: the program's walk. -/
import Derived.Test.YtnnapjaggahjgaaNewR
import Derived.Test.YtnnapjaggahjgaaHeld
namespace Go.Proofs.Ytnnapjaggahjgaa
open Go.ChangeShapes Go.WideShapes Go.RowKit Go.Deep
theorem cell_setCell_ne {w : World} {p q : Addr} {v u : Value} (h : q.block ≠ p.block) (hv : w.cell? q = some v) : (w.setCell p u).cell? q = some v := by
  rw [World.cell?_of_block (w := w) (Below.heap_setCell _ _ _ _ h)]; exact hv
section
variable {α : Type} {P : Program} {O : (Nat → Prop) → World → List Value → α → Prop} {ops : Array Oper} {o : Oper} {a : Act} {Q : Exit → Act → World → Prop} {w0 wr w : World} {F : Nat → Prop}
theorem step_push_f {K : Act → World → Prop} {E : Prop} {la hb lo : Nat} (t e size bytes : Nat) {z : Value} (ht : P.underlying t = some (.slice e))
    (hi : (P.info? e).map (fun i => (i.zero, i.size, i.bytes)) = some (some z, size, bytes)) (hzs : z.cells.size = size) (hsz : 0 < size) (hby : 0 < bytes) (hgd : o.guard = none) (s x : Operand)
    (ho : o.op = .call { callee := .builtin .append, args := #[s, x], argTypes := #[t, t] }) (hO : FramedE O) {v : Value} {ys : List α} (y : α) (c : List Value)
    (hs : a.eval s = v) (hx : a.eval x = .slice (some ⟨wr.heap.size, 0, none⟩) 1 1) (hw : w = wr.alloc (.cells c.toArray e)) (hown : OSl e size O F w0 v ys) (hF : ∀ b, F b → lo ≤ b ∧ b < w0.heap.size) (hlo : lo ≤ w0.heap.size) (hg : Gr w0 wr)
    (hy : O (In la hb) wr c y) (ha : w0.heap.size ≤ la) (hhb : hb ≤ wr.heap.size) (hl : c.length = size) (h1 : ∀ u ∈ c, u.oneCell' = true) (hn : (ys.length + 1) * bytes ≤ 140737488355328)
    (h : ∀ g cap w', OSl e size O (Plus F w0.heap.size w'.heap.size) w' (.slice (some ⟨g, 0, none⟩) (ys ++ [y]).length cap) (ys ++ [y]) → Chg F wr w' → K (a.put o.dst (.slice (some ⟨g, 0, none⟩) (ys ++ [y]).length cap)) w') :
    if Region.wanted o (yielded ops a.tmps) = true then Oper.wp P o a w K Q else E := by
  obtain ⟨cs, hE⟩ := hown
  have hrow : wr.ownsRow lo e size v ys.length (flatC size ys.length cs) := (hE.frame hO (hg.agree _)).row fun b hb => (hF b hb).1
  have hvF := hE.2.1
  refine step_push_n t e size bytes ht hi hzs hsz hby hgd s x ho 1 (by decide) c hs hx hw hrow (by simpa using hl) h1 hn (Nat.le_trans hlo hg.size) fun g cap w' k1 k2 k3 k4 => ?_
  have hp := OSlE.pushF (v' := .slice (some ⟨g, 0, none⟩) (ys.length + 1) cap) hO hE (fun b hb => (hF b hb).2) hg hy ha hhb hl k1 k2.size (fun k hk => by
    have e : g = k := Option.some.inj hk
    subst e
    rcases k3 with h3 | h3
    · exact Or.inl h3
    · exact Or.inr (by omega)) k4
  have := h g cap w' (by rw [List.length_append, List.length_singleton]; exact ⟨_, hp⟩) ⟨k2.os, k2.tape, k2.output, k2.size, fun b hb hn => k4 b hb fun hv => hn (hvF b hv)⟩
  rwa [List.length_append, List.length_singleton] at this
end
theorem fillC_made (sz n : Nat) (z : List Value) (cs : Nat → List Value) : fillC sz n 0 z cs = flatC sz n (fun _ => z) := by simp [fillC, flatC]
/-- g, and the blocks behind the two that the function lays at its head. -/
def NewF (g m b : Nat) : Prop := b = g ∨ (g + 2 ≤ b ∧ b < m)
theorem made_segs {w : World} {g N m : Nat} {cs : Nat → List Value} {rows : List DRow} (hg : w.heap[g]? = some (.cells (fillC 1 N 0 [.slice none 0 0] cs).toArray 106 (0, 0))) (hN : N ≤ 4294967296) :
    PVersionss (NewF g m) w (.slice (some ⟨g, 0, none⟩) N N) (segsTo rows N 0) := by
  rw [fillC_made] at hg
  refine ⟨fun _ => [.slice none 0 0], ⟨by rw [flatC_len, segsTo_len], Or.inr ⟨g, N, _, by rw [segsTo_len], Nat.zero_le _, hg, by rw [segsTo_len]; exact Nat.le_refl _, by simp [maxLen]; omega, by simp [flatC_len], by rw [segsTo_len]; exact List.take_of_length_le (by rw [flatC_len]; exact Nat.le_refl _)⟩⟩, fun k hk => Or.inl (Option.some.inj hk).symm, fun _ _ => False, fun i hi => ⟨rfl, ⟨_, rfl, ?_⟩, fun b hb => hb.elim, fun _ _ _ _ hb => hb.elim⟩⟩
  have hi' : i < N := by rw [segsTo_len] at hi; exact hi
  rw [segsTo_at hi']
  exact OSl.nil _
set_option maxRecDepth 100000 in
set_option maxHeartbeats 2000000 in
theorem impl_NewStore (v : Value) (rows : List DRow) (n : Int) (w : World) (hv : RRows w v rows) (hb : totL totRow rows ≤ 4294967296) :
    Calls Try.prog 42 #[v, .int .i64 n] w fun e w' => ∃ u, e = .returned (.tuple #[.agg #[u, .int .i64 (newL rows n).now], .bool (newOk rows n)]) ∧ Gr w w' ∧ PVersionss (In w.heap.size w'.heap.size) w' u (newL rows n).segs := by
  have HV := Lib.hid hv
  obtain ⟨a, cap, rfl, hl, hm, hx⟩ := hv
  have g0 : Gr w (w.alloc (.cells #[.slice none 0 0, .int .i64 0] 29)) := (Gr.refl w).alloc _
  cases h1 : areRowsB rows with
  | false =>
    have HE := Lib.hid (newOk_1 (n := n) h1)
    have H1 := Lib.hid h1
    clear h1
    go_enter Try.func42, Try.ntmps42
    go_wp2_with fail
    refine (calls_b (impl_AreRows _ rows _ (RSlice.mono keeps_row g0 HV.out)) H1.out).mono ?_
    rintro e w1 ⟨rfl, g1⟩
    have k0 : w1.cell? ⟨w.heap.size, 0, none⟩ = some (.slice none 0 0) := g1.cellv (by simp [go_sem])
    have k1 : w1.cell? ⟨w.heap.size, 1, none⟩ = some (.int .i64 0) := g1.cellv (by simp [go_sem])
    have hlt : w.heap.size < (w.alloc (.cells #[.slice none 0 0, .int .i64 0] 29)).heap.size := by simp
    have f0 : w1.frozen? ⟨w.heap.size, 0, none⟩ = false := by rw [g1.frozen hlt]; simp [go_sem]
    have f1 : w1.frozen? ⟨w.heap.size, 1, none⟩ = false := by rw [g1.frozen hlt]; simp [go_sem]
    go_wp2_with fail
    refine bodyPost_ret (v := .tuple #[.agg #[.slice none 0 0, .int .i64 0], .bool false]) (by simp [results, Try.results42, go_sem, *]) rfl ⟨_, newL_ret HE.out, ((g0.trans g1).setCell (Nat.le_refl _) _).setCell (Nat.le_refl _) _, by rw [newL_no HE.out]; exact OSl.nil _⟩
  | true =>
    cases h2 : inB n 1 8 with
    | false =>
      have HE := Lib.hid (newOk_2 (rows := rows) h2)
      have H1 := Lib.hid h1
      have H2 := Lib.hid h2
      clear h1 h2
      go_enter Try.func42, Try.ntmps42
      go_wp2_with fail
      refine (calls_b (impl_AreRows _ rows _ (RSlice.mono keeps_row g0 HV.out)) H1.out).mono ?_
      rintro e w1 ⟨rfl, g1⟩
      have k0 : w1.cell? ⟨w.heap.size, 0, none⟩ = some (.slice none 0 0) := g1.cellv (by simp [go_sem])
      have k1 : w1.cell? ⟨w.heap.size, 1, none⟩ = some (.int .i64 0) := g1.cellv (by simp [go_sem])
      have hlt : w.heap.size < (w.alloc (.cells #[.slice none 0 0, .int .i64 0] 29)).heap.size := by simp
      have f0 : w1.frozen? ⟨w.heap.size, 0, none⟩ = false := by rw [g1.frozen hlt]; simp [go_sem]
      have f1 : w1.frozen? ⟨w.heap.size, 1, none⟩ = false := by rw [g1.frozen hlt]; simp [go_sem]
      go_wp2_with fail
      refine (calls_b (R := fun w' => w1 = w') (impl_within _ _ _ _) H2.out).mono ?_
      rintro e w2 ⟨rfl, rfl⟩
      go_wp2_with fail
      refine bodyPost_ret (v := .tuple #[.agg #[.slice none 0 0, .int .i64 0], .bool false]) (by simp [results, Try.results42, go_sem, *]) rfl ⟨_, newL_ret HE.out, ((g0.trans g1).setCell (Nat.le_refl _) _).setCell (Nat.le_refl _) _, by rw [newL_no HE.out]; exact OSl.nil _⟩
    | true =>
      obtain ⟨N, rfl⟩ := Int.eq_ofNat_of_zero_le (by have := (inB_true h2).1; omega : (0 : Int) ≤ n)
      have hN1 : (1 : Int) ≤ (N : Int) := (inB_true h2).1
      have hN8 : (N : Int) ≤ 8 := (inB_true h2).2
      by_cases h3 : (rows.length : Int) ≤ 4 * (N : Int)
      · have hd : decide ((rows.length : Int) > 4 * (N : Int)) = false := by simp; omega
        have HE := Lib.hid (newOk_yes h1 h2 h3)
        have HR32 : Hid (rows.length ≤ 32) := Lib.hid (by omega)
        have HL : Hid (newL rows (N : Int) = ⟨segsTo rows N rows.length, 0⟩) := Lib.hid (newL_yes (newOk_yes h1 h2 h3))
        have HBS : Hid (∀ k (h : k < rows.length), rows[k].vals.length ≤ 4294967296) := Lib.hid fun k h => by
          have h2 := sumT_mem totRow rows k h
          unfold totL at hb
          unfold totRow at h2 hb
          omega
        have hmk : ∀ (w : World) (cs : Nat → List Value), (Instr.makeSlice 27 (.int .i64 N) (.int .i64 N)).run Try.prog w = .ok (.slice (some ⟨w.heap.size, 0, none⟩) N N) (w.alloc (.cells (fillC 1 N 0 [.slice none 0 0] cs).toArray 106)) := fun w cs => make_fill Try.underlying27 (z := .slice none 0 0) (bytes := 24) (by kernel_rfl) rfl (by decide) w N (by omega) cs
        have hmk0 := fun w : World => hmk w (fun _ => [])
        have H1 := Lib.hid h1
        have H2 := Lib.hid h2
        clear h1 h2 h3 hmk
        go_enter Try.func42, Try.ntmps42
        go_wp2_with fail
        refine (calls_b (impl_AreRows _ rows _ (RSlice.mono keeps_row g0 HV.out)) H1.out).mono ?_
        rintro e w1 ⟨rfl, g1⟩
        have k0 : w1.cell? ⟨w.heap.size, 0, none⟩ = some (.slice none 0 0) := g1.cellv (by simp [go_sem])
        have k1 : w1.cell? ⟨w.heap.size, 1, none⟩ = some (.int .i64 0) := g1.cellv (by simp [go_sem])
        have hlt : w.heap.size < (w.alloc (.cells #[.slice none 0 0, .int .i64 0] 29)).heap.size := by simp
        have f0 : w1.frozen? ⟨w.heap.size, 0, none⟩ = false := by rw [g1.frozen hlt]; simp [go_sem]
        have f1 : w1.frozen? ⟨w.heap.size, 1, none⟩ = false := by rw [g1.frozen hlt]; simp [go_sem]
        have gw1 := g0.trans g1
        have hB1 : w.heap.size < w1.heap.size := Nat.lt_of_lt_of_le hlt g1.size
        go_wp2_with fail
        refine (calls_b (R := fun w' => w1 = w') (impl_within _ _ _ _) H2.out).mono ?_
        rintro e w2 ⟨rfl, rfl⟩
        go_wp2_with fail
        go_loopw [31] (fun i wr => ∃ (j : Nat), j ≤ rows.length ∧ i = .int .i64 j ∧ wr.cell? ⟨w1.heap.size + 1, 0, none⟩ = some (.slice (some ⟨w1.heap.size, 0, none⟩) N N) ∧ wr.cell? ⟨w1.heap.size + 1, 1, none⟩ = some (.int .i64 0) ∧ Hid (PVersionss (NewF w1.heap.size wr.heap.size) wr (.slice (some ⟨w1.heap.size, 0, none⟩) N N) (segsTo rows N j)) ∧ Gr w1 wr ∧ w1.heap.size + 1 < wr.heap.size) (fun i _ => rows.length - (intOf i).toNat)
        case atStart => exact ⟨0, Nat.zero_le _, rfl, by simp [go_sem], by simp [go_sem], Lib.hid (made_segs (by rw [Below.heap_alloc _ _ _ (by simp)]; exact heap_alloc_new w1 _) (by omega)), ((Gr.refl _).alloc _).alloc _, by simp⟩
        case round =>
          obtain ⟨j, hj, rfl, s0, s1, hO, hg1, hBW⟩ := hrel
          have hgr := gw1.trans hg1
          by_cases hjt : j < rows.length
          · obtain ⟨b3, off3, cs3, rfl, hlen3, ⟨u3, rfl, i_id3, h_vals3⟩, hc3⟩ := hx j hjt
            have c0 := hgr.cellv (hc3 0 (by simp))
            have c1 := hgr.cellv (hc3 1 (by simp))
            simp only [Nat.add_zero, List.getElem_cons_zero, List.getElem_cons_succ] at c0 c1
            clear hc3 hlen3
            have hN0 : ((N : Int) == 0) = false := by simp; omega
            obtain ⟨K, hK⟩ : ∃ K, K = j % N := ⟨_, rfl⟩
            have hKN : K < N := by rw [hK]; exact Nat.mod_lt _ (by omega)
            have hrm : Int.tmod (j : Int) (N : Int) = (K : Int) := by rw [hK]; simp [Int.tmod]
            have i0 : (0 : Int) ≤ (K : Int) := Int.natCast_nonneg _
            have i1 : (K : Int) < (N : Int) := by omega
            have HK := Lib.hid hK
            clear hK
            have HI3 := Lib.hid i_id3
            obtain ⟨va, vc, rfl⟩ := h_vals3.form
            have HV3 := Lib.hid (h_vals3.mono (hgr.trans ((Gr.refl _).alloc (.cells #[.int .i64 rows[j].id, .slice va rows[j].vals.length vc] 46))))
            clear h_vals3
            obtain ⟨cs, G, hrow, hparts⟩ := hO.out.parts
            rw [segsTo_len] at hrow
            have hKL : K < (segsTo rows N j).length := by rw [segsTo_len]; exact hKN
            obtain ⟨hcl, ⟨sv, hcs, hsv⟩, hG, hGd⟩ := hparts.2 K hKL
            rw [segsTo_at hKN] at hsv
            obtain ⟨sa, sc, rfl⟩ := hsv.form
            have hr0 : wr.ownsRow 0 106 1 (.slice (some ⟨w1.heap.size, 0, none⟩) N N) N (flatC 1 N (updC cs K [.slice sa (partTo rows N K j).length sc])) := by have h := hrow; rw [← updC_same cs K, hcs] at h; exact h
            obtain ⟨t0, tf⟩ := row_cell (j := 0) hr0 hKN (by rw [updC_at]; rfl) (by rw [updC_at]; rfl) (p := K) (by omega)
            have HR0 := Lib.hid hr0
            have HP := Lib.hid hparts
            have HSV := Lib.hid hsv
            have HGB : Hid (∀ b, G K b → w1.heap.size + 2 ≤ b ∧ b < wr.heap.size) := Lib.hid fun b hb => by
              rcases (hG b hb).1 with rfl | h
              · exact absurd rfl (hG _ hb).2
              · exact h
            have HBW := Lib.hid hBW
            have HB : Hid (((partTo rows N K j).length + 1) * 48 ≤ 140737488355328) := Lib.hid (by have := partTo_len rows N K j; have := HR32.out; omega)
            clear hr0 hparts hrow hG hcl hsv hGd
            have gq : Gr wr (wr.alloc (.cells #[.int .i64 rows[j].id, .slice va rows[j].vals.length vc] 46)) := (Gr.refl _).alloc _
            have q0 := gq.cellv s0
            have q2 := gq.cellv t0
            have hgl : w1.heap.size < wr.heap.size := by omega
            go_wp2
            have p0 : (wr.alloc (.cells #[.int .i64 rows[j].id, .slice va rows[j].vals.length vc] 46)).cell? ⟨wr.heap.size, 0, none⟩ = some (.int .i64 rows[j].id) := by simp [go_sem]
            have p1 : (wr.alloc (.cells #[.int .i64 rows[j].id, .slice va rows[j].vals.length vc] 46)).cell? ⟨wr.heap.size, 1, none⟩ = some (.slice va rows[j].vals.length vc) := by simp [go_sem]
            have hKF : ¬ G K wr.heap.size := fun h => by have := (HGB.out _ h).2; omega
            have hKB : ¬ G K (w1.heap.size + 1) := fun h => by have := (HGB.out _ h).1; omega
            have hKG : ¬ G K w1.heap.size := fun h => by have := (HGB.out _ h).1; omega
            refine wp_region_G (S := fun w' => w'.cell? ⟨w1.heap.size + 1, 0, none⟩ = some (.slice (some ⟨w1.heap.size, 0, none⟩) N N) ∧ w'.cell? ⟨w1.heap.size, K, none⟩ = some (.slice sa (partTo rows N K j).length sc) ∧ w'.cell? ⟨wr.heap.size, 0, none⟩ = some (.int .i64 rows[j].id) ∧ w'.cell? ⟨wr.heap.size, 1, none⟩ = some (.slice va rows[j].vals.length vc)) (m := 17) (by kernel_rfl) ?_
            have hS := And.intro q0 (And.intro q2 (And.intro p0 p1))
            refine wpAnyG_take (i := 0) (v := ?v0) hS rfl (by kernel_rfl) (by kernel_rfl) (by kernel_rfl) (by kernel_rfl) (fun _ _ _ h => h) (Or.inl ⟨by rfl, ?hy0⟩) ?rest0
            case hy0 => (intro w' hw'; (try dsimp only at hw'); go_simp; try with_reducible rfl)
            try simp only [Act.put]
            refine wpAnyG_take (i := 1) (v := ?v1) hS rfl (by kernel_rfl) (by kernel_rfl) (by kernel_rfl) (by kernel_rfl) (fun _ _ _ h => h) (Or.inl ⟨by rfl, ?hy1⟩) ?rest1
            case hy1 => (intro w' hw'; (try dsimp only at hw'); go_simp; try with_reducible rfl)
            try simp only [Act.put]
            refine wpAnyG_take (i := 2) (v := ?v2) hS rfl (by kernel_rfl) (by kernel_rfl) (by kernel_rfl) (by kernel_rfl) (fun _ _ _ h => h) (Or.inl ⟨by rfl, ?hy2⟩) ?rest2
            case hy2 => (intro w' hw'; (try dsimp only at hw'); go_simp; try with_reducible rfl)
            try simp only [Act.put]
            refine wpAnyG_take (i := 3) (v := ?v3) hS rfl (by kernel_rfl) (by kernel_rfl) (by kernel_rfl) (by kernel_rfl) (fun _ _ _ h => h) (Or.inl ⟨by rfl, ?hy3⟩) ?rest3
            case hy3 => (intro w' hw'; (try dsimp only at hw'); go_simp; try with_reducible rfl)
            try simp only [Act.put]
            refine wpAnyG_take (i := 4) (v := ?v4) hS rfl (by kernel_rfl) (by kernel_rfl) (by kernel_rfl) (by kernel_rfl) (fun _ _ _ h => h) (Or.inl ⟨by rfl, ?hy4⟩) ?rest4
            case hy4 => (intro w' hw'; (try dsimp only at hw'); go_simp; try with_reducible rfl)
            try simp only [Act.put]
            refine wpAnyG_take (i := 5) (v := ?v5) hS rfl (by kernel_rfl) (by kernel_rfl) (by kernel_rfl) (by kernel_rfl) (fun _ _ _ h => h) (Or.inl ⟨by rfl, ?hy5⟩) ?rest5
            case hy5 => (intro w' hw'; (try dsimp only at hw'); go_simp; try with_reducible rfl)
            try simp only [Act.put]
            refine wpAnyG_take (i := 6) (v := ?v6) hS rfl (by kernel_rfl) (by kernel_rfl) (by kernel_rfl) (by kernel_rfl) (fun _ _ _ h => h) (Or.inl ⟨by rfl, ?hy6⟩) ?rest6
            case hy6 => (intro w' hw'; (try dsimp only at hw'); go_simp; try with_reducible rfl)
            try simp only [Act.put]
            refine wpAnyG_take (i := 7) (v := ?v7) hS rfl (by kernel_rfl) (by kernel_rfl) (by kernel_rfl) (by kernel_rfl) (fun _ _ _ h => h) (Or.inl ⟨by rfl, ?hy7⟩) ?rest7
            case hy7 => (intro w' hw'; (try dsimp only at hw'); go_simp; try with_reducible rfl)
            try simp only [Act.put]
            refine wpAnyG_take (i := 8) (v := ?v8) hS rfl (by kernel_rfl) (by kernel_rfl) (by kernel_rfl) (by kernel_rfl) (fun _ _ _ h => h) (Or.inl ⟨by rfl, ?hy8⟩) ?rest8
            case hy8 => (intro w' hw'; (try dsimp only at hw'); go_simp; try with_reducible rfl)
            try simp only [Act.put]
            refine wpAnyG_take (i := 9) (v := ?v9) hS rfl (by kernel_rfl) (by kernel_rfl) (by kernel_rfl) (by kernel_rfl) (fun _ _ _ h => h) (Or.inl ⟨by rfl, ?hy9⟩) ?rest9
            case hy9 => (intro w' hw'; (try dsimp only at hw'); go_simp; try with_reducible rfl)
            try simp only [Act.put]
            refine wpAnyG_take (i := 10) (v := ?v10) hS rfl (by kernel_rfl) (by kernel_rfl) (by kernel_rfl) (by kernel_rfl) (fun _ _ _ h => h) (Or.inl ⟨by rfl, ?hy10⟩) ?rest10
            case hy10 => (intro w' hw'; (try dsimp only at hw'); go_simp; try with_reducible rfl)
            try simp only [Act.put]
            refine wpAnyG_take (i := 11) (v := ?v11) hS rfl (by kernel_rfl) (by kernel_rfl) (by kernel_rfl) (by kernel_rfl) (fun _ _ _ h => h) (Or.inl ⟨by rfl, ?hy11⟩) ?rest11
            case hy11 => (intro w' hw'; (try dsimp only at hw'); go_simp; try with_reducible rfl)
            try simp only [Act.put]
            refine wpAnyG_one (i := 12) rfl (by kernel_rfl) (fun K12 hK12 => ?_)
            go_simp
            refine (impl_copyInts _ rows[j].vals _ (HV3.out.mono (by first | exact (Gr.refl _).drew | exact Gr.refl _)) (HBS.out j hjt)).mono ?_
            rintro e w3 ⟨v3, rfl, g3, hp3⟩
            obtain ⟨pa, pc, rfl⟩ := (rd_pints hp3).form
            have gg3 := (Gr.refl (wr.alloc (.cells #[.int .i64 rows[j].id, .slice va rows[j].vals.length vc] 46))).drew.trans g3
            have gw3 : Gr wr w3 := gq.trans gg3
            have hlq : wr.heap.size < (wr.alloc (.cells #[.int .i64 rows[j].id, .slice va rows[j].vals.length vc] 46)).heap.size := by simp
            go_wp2_with fail
            have hS3 := And.intro (gg3.cellv q0) (And.intro (gg3.cellv q2) (And.intro (gg3.cellv p0) (gg3.cellv p1)))
            refine hK12.out _ _ (fun _ => hS3) ?_
            try simp only [Act.put]
            refine wpAnyG_take (i := 13) (v := ?v13) hS3 rfl (by kernel_rfl) (by kernel_rfl) (by kernel_rfl) (by kernel_rfl) (fun _ _ _ h => h) (Or.inl ⟨by rfl, ?hy13⟩) ?rest13
            case hy13 => (intro w' hw'; (try dsimp only at hw'); go_simp; try with_reducible rfl)
            try simp only [Act.put]
            refine wpAnyG_one (i := 14) rfl (by kernel_rfl) (fun K14 hK14 => ?_)
            go_simp
            have g4a : Gr w3 (w3.alloc (.cells #[.int .i64 rows[j].id, .slice pa rows[j].vals.length pc, .int .i64 0, .int .i64 (-1)] 110)) := (Gr.refl _).alloc _
            refine hK14.out _ _ (fun _ => ⟨g4a.cellv hS3.1, g4a.cellv hS3.2.1, g4a.cellv hS3.2.2.1, g4a.cellv hS3.2.2.2⟩) ?_
            try simp only [Act.put]
            refine wpAnyG_one (i := 15) rfl (by kernel_rfl) (fun K15 hK15 => ?_)
            refine step_push_f (w0 := wr) (wr := w3) (lo := w1.heap.size + 2) 106 110 4 48 Try.underlying106 (z := .agg #[.int .i64 0, .slice none 0 0, .int .i64 0, .int .i64 0]) (by kernel_rfl) rfl (by decide) (by decide) rfl _ _ rfl fr_version (bornV rows[j]) [.int .i64 rows[j].id, .slice pa rows[j].vals.length pc, .int .i64 0, .int .i64 (-1)] rfl rfl rfl HSV.out HGB.out (by have := HBW.out; omega) gw3 ⟨_, rfl, HI3.out, hp3, i64_zero, i64_neg⟩ (by simp [World.drew]) (Nat.le_refl _) rfl (by simp [Value.oneCell']) HB.out ?_
            intro g4 cap4 w4 hown4 hch4
            have hb4 : w4.heap[w1.heap.size]? = w3.heap[w1.heap.size]? := hch4.block _ (Nat.lt_of_lt_of_le hgl gw3.size) hKG
            have hb5 : w4.heap[w1.heap.size + 1]? = w3.heap[w1.heap.size + 1]? := hch4.block _ (Nat.lt_of_lt_of_le HBW.out gw3.size) hKB
            have hb6 : w4.heap[wr.heap.size]? = w3.heap[wr.heap.size]? := hch4.block _ (Nat.lt_of_lt_of_le hlq gg3.size) hKF
            have zc := (World.cell?_of_block (w := w3) (a := ⟨w1.heap.size, K, none⟩) hb4).trans (gw3.cellv t0)
            have zf := (World.frozen?_of_block (w := w3) (a := ⟨w1.heap.size, K, none⟩) hb4).trans ((gw3.frozen hgl).trans tf)
            have hS4 := And.intro ((World.cell?_of_block (w := w3) (a := ⟨w1.heap.size + 1, 0, none⟩) hb5).trans hS3.1) (And.intro zc (And.intro ((World.cell?_of_block (w := w3) (a := ⟨wr.heap.size, 0, none⟩) hb6).trans hS3.2.2.1) ((World.cell?_of_block (w := w3) (a := ⟨wr.heap.size, 1, none⟩) hb6).trans hS3.2.2.2)))
            refine hK15.out _ _ (fun _ => hS4) ?_
            try simp only [Act.put]
            refine wpAnyG_take (i := 16) (v := ?v16) hS4 rfl (by kernel_rfl) (by kernel_rfl) (by kernel_rfl) (by kernel_rfl) (fun _ _ _ h => h) (Or.inl ⟨by rfl, ?hy16⟩) ?rest16
            case hy16 => (intro w' hw'; (try dsimp only at hw'); go_simp; try with_reducible rfl)
            try simp only [Act.put]
            refine wpAnyG_one (i := 17) rfl (by kernel_rfl) (fun K17 hK17 => ?_)
            go_simp
            refine hK17.out _ _ (fun h => absurd rfl h) ?_
            try simp only [Act.put]
            refine wpAnyG_done (by kernel_rfl) ?_ _
            go_wp2
            have HS := Lib.hid (segsTo_succ (n := N) hjt)
            have HZ34 := Lib.hid hch4.size
            have hzz := HZ34.out
            have hz3 := gw3.size
            have HUP : Hid (PVersionss (NewF w1.heap.size (w4.setCell ⟨w1.heap.size, K, none⟩ (.slice (some ⟨g4, 0, none⟩) (partTo rows N K j ++ [bornV rows[j]]).length cap4)).heap.size) (w4.setCell ⟨w1.heap.size, K, none⟩ (.slice (some ⟨g4, 0, none⟩) (partTo rows N K j ++ [bornV rows[j]]).length cap4)) (.slice (some ⟨w1.heap.size, 0, none⟩) N N) (segsTo rows N (j + 1))) := Lib.hid (by
              have hp3 := HP.out.frame (fr_of fr_version) (gw3.agree _)
              have hr4 : w4.ownsRow 0 106 1 (.slice (some ⟨w1.heap.size, 0, none⟩) N N) N (flatC 1 N (updC cs K [.slice sa (partTo rows N K j).length sc])) := ownsRow_agree HR0.out fun g' hg' => by cases hg'; exact hb4.trans (gw3.block _ hgl)
              have hr5 := row_set' (j := 0) hr4 hKN (by decide) (p := K) (by omega) rfl (u := .slice (some ⟨g4, 0, none⟩) (partTo rows N K j ++ [bornV rows[j]]).length cap4)
              rw [HS.out, ← HK.out]
              refine hp3.upd2 (H := Plus (G K) wr.heap.size w4.heap.size) (c := [.slice (some ⟨g4, 0, none⟩) (partTo rows N K j ++ [bornV rows[j]]).length cap4]) (fr_of fr_version) hKL (by rw [segsTo_len]; exact hr5) rfl ⟨_, rfl, hown4.frame fr_version ((Agree.refl _ w4).setCell (p := ⟨w1.heap.size, K, none⟩) (fun b hb e => ?_) _)⟩ ?_ ?_ ?_ ?_
              · rcases hb with hb | hb
                · dsimp only at e; rw [e] at hb; exact hKG hb
                · have := hb.1; dsimp only at e; omega
              · intro b hb
                rcases hb with hb | hb
                · exact Or.inl hb
                · refine Or.inr fun hf => ?_
                  have := hb.1
                  rcases hf with rfl | hf
                  · omega
                  · omega
              · intro b hf
                rcases hf with rfl | hf
                · exact Or.inl rfl
                · exact Or.inr ⟨hf.1, by simp [World.setCell]; omega⟩
              · intro b hb
                rcases hb with hb | hb
                · have := HGB.out b hb
                  exact Or.inr ⟨this.1, by simp [World.setCell]; omega⟩
                · exact Or.inr ⟨by have := hb.1; omega, by simp [World.setCell]; exact hb.2⟩
              · exact Chg.setCell (F := fun b => G K b ∨ (Value.slice (some ⟨w1.heap.size, 0, none⟩) N N).ownBlock = some b) (p := ⟨w1.heap.size, K, none⟩) (hch4.mono fun b hb => Or.inl hb) (Or.inr rfl) _)
            have HG4 : Hid (Gr w1 w4) := Lib.hid (hg1.trans' ((gw3.mono (by omega) : Below w1.heap.size wr w3).trans (hch4.below (fun b hb => by have := (HGB.out b hb).1; omega) (by omega))))
            go_roundw
            case rel => exact ⟨j + 1, by omega, by go_num, cell_setCell_ne (by dsimp only; omega) hS4.1, cell_setCell_ne (by dsimp only; omega) ((World.cell?_of_block (w := w3) (a := ⟨w1.heap.size + 1, 1, none⟩) hb5).trans (gw3.cellv s1)), by simpa using HUP, HG4.out.setCell (Nat.le_refl _) _, by simp [World.setCell]; omega⟩
            case measure => simp [intOf]; omega
          · obtain rfl : j = rows.length := by omega
            have r0 := hg1.cellv k0
            have r1 := hg1.cellv k1
            have rf0 := (hg1.frozen (p := ⟨w.heap.size, 0, none⟩) hB1).trans f0
            have rf1 := (hg1.frozen (p := ⟨w.heap.size, 1, none⟩) hB1).trans f1
            go_wp2_with fail
            refine bodyPost_ret (v := .tuple #[.agg #[.slice (some ⟨w1.heap.size, 0, none⟩) N N, .int .i64 0], .bool true]) (by simp [results, Try.results42, go_sem, *]) rfl ⟨_, newL_ret HE.out, ((gw1.trans hg1).setCell (Nat.le_refl _) _).setCell (Nat.le_refl _) _, ?_⟩
            rw [HL.out]
            have hF : ∀ b, NewF w1.heap.size wr.heap.size b → In w.heap.size wr.heap.size b ∧ b ≠ w.heap.size := fun b hb => by
              rcases hb with rfl | hb
              · exact ⟨⟨by omega, by omega⟩, by omega⟩
              · exact ⟨⟨by omega, hb.2⟩, by omega⟩
            have h := hO.out.frame (fr_of fr_version) (((Agree.refl _ wr).setCell (p := ⟨w.heap.size, 0, none⟩) (fun b hb => (hF b hb).2) (.slice (some ⟨w1.heap.size, 0, none⟩) N N)).setCell (p := ⟨w.heap.size, 1, none⟩) (fun b hb => (hF b hb).2) (.int .i64 0))
            exact h.mono fun b hb => ⟨(hF b hb).1.1, by simpa [World.setCell] using (hF b hb).1.2⟩
      · have hd : decide ((rows.length : Int) > 4 * (N : Int)) = true := by simp; omega
        have HE := Lib.hid (newOk_3 h3)
        have H1 := Lib.hid h1
        have H2 := Lib.hid h2
        clear h1 h2 h3
        go_enter Try.func42, Try.ntmps42
        go_wp2_with fail
        refine (calls_b (impl_AreRows _ rows _ (RSlice.mono keeps_row g0 HV.out)) H1.out).mono ?_
        rintro e w1 ⟨rfl, g1⟩
        have k0 : w1.cell? ⟨w.heap.size, 0, none⟩ = some (.slice none 0 0) := g1.cellv (by simp [go_sem])
        have k1 : w1.cell? ⟨w.heap.size, 1, none⟩ = some (.int .i64 0) := g1.cellv (by simp [go_sem])
        have hlt : w.heap.size < (w.alloc (.cells #[.slice none 0 0, .int .i64 0] 29)).heap.size := by simp
        have f0 : w1.frozen? ⟨w.heap.size, 0, none⟩ = false := by rw [g1.frozen hlt]; simp [go_sem]
        have f1 : w1.frozen? ⟨w.heap.size, 1, none⟩ = false := by rw [g1.frozen hlt]; simp [go_sem]
        go_wp2_with fail
        refine (calls_b (R := fun w' => w1 = w') (impl_within _ _ _ _) H2.out).mono ?_
        rintro e w2 ⟨rfl, rfl⟩
        go_wp2_with fail
        refine bodyPost_ret (v := .tuple #[.agg #[.slice none 0 0, .int .i64 0], .bool false]) (by simp [results, Try.results42, go_sem, *]) rfl ⟨_, newL_ret HE.out, ((g0.trans g1).setCell (Nat.le_refl _) _).setCell (Nat.le_refl _) _, by rw [newL_no HE.out]; exact OSl.nil _⟩
end Go.Proofs.Ytnnapjaggahjgaa
