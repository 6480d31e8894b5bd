/- A slice of rows that is sorted in place: its elements with what they hold, as an array; a swap in memory is a swap of the array. -/
import Derived.Test.YtjeffagejbdjkaaSortP
import Derived.Test.YtjeffagejbdjkaaPriv
namespace Go.Proofs.Ytjeffagejbdjkaa
open Go.RowKit Go.Sort
/-- A row as it lies in the slice: the value of its field, what it reads as, the blocks that hold it. -/
structure El where
  u : Value
  r : DRow
  G : Nat → Prop
instance : Inhabited El := ⟨⟨undef, ⟨0, []⟩, fun _ => False⟩⟩
def El.cs (e : El) : List Value := [.int .i64 e.r.id, e.u]
structure SA (F : Nat → Prop) (g cap : Nat) (w : World) (d : Array El) : Prop where
  row : w.ownsRow 0 47 2 (.slice (some ⟨g, 0, none⟩) d.size cap) d.size (flatC 2 d.size fun i => (d[i]!).cs)
  blk : F g
  el : ∀ i, i < d.size → I64 d[i]!.r.id ∧ PInts d[i]!.G w d[i]!.u d[i]!.r.vals ∧ ∀ b, d[i]!.G b → F b ∧ b ≠ g
  apart : ∀ i j, i < d.size → j < d.size → i ≠ j → ∀ b, d[i]!.G b → ¬ d[j]!.G b
variable {F : Nat → Prop} {g cap : Nat} {w w' : World} {d : Array El}
theorem SA.prows (h : SA F g cap w d) : PRows F w (.slice (some ⟨g, 0, none⟩) d.size cap) (d.toList.map El.r) := by
  refine ⟨fun i => (d[i]!).cs, by simpa using h.row, (fun k hk => by cases hk; exact h.blk), fun i => (d[i]!).G, fun i hi => ?_⟩
  have hi' : i < d.size := by simpa using hi
  have e : d[i]! = d[i] := getElem!_pos d i hi'
  obtain ⟨h1, h2, h3⟩ := h.el i hi'
  refine ⟨rfl, ⟨d[i]!.u, ?_, ?_, ?_⟩, fun b hb => ⟨(h3 b hb).1, fun hv => (h3 b hb).2 (Option.some.inj hv).symm⟩, fun j hj hne b hb => h.apart i j hi' (by simpa using hj) (Ne.symm hne) b hb⟩
  · simp [El.cs, e]
  · simpa [e] using h1
  · simpa [e] using h2
theorem SA.of {v : Value} {xs : List DRow} (h : PRows F w v xs) (hn : 0 < xs.length) : ∃ g cap d, v = .slice (some ⟨g, 0, none⟩) xs.length cap ∧ d.size = xs.length ∧ d.toList.map El.r = xs ∧ SA F g cap w d := by
  obtain ⟨cs, h1, h2, G, h3⟩ := h
  obtain ⟨a, cap, rfl, hp⟩ := row_form h1
  obtain ⟨g, rfl, ho, hg⟩ := hp hn
  have hu : ∀ i : Fin xs.length, ∃ u, cs i = [.int .i64 xs[i].id, u] ∧ I64 xs[i].id ∧ PInts (G i) w u xs[i].vals := fun i => (h3 i i.2).2.1
  have hz : (Array.ofFn fun i : Fin xs.length => (⟨(hu i).choose, xs[i], G i⟩ : El)).size = xs.length := Array.size_ofFn
  have hget : ∀ i (hi : i < xs.length), (Array.ofFn fun i : Fin xs.length => (⟨(hu i).choose, xs[i], G i⟩ : El))[i]! = ⟨(hu ⟨i, hi⟩).choose, xs[i], G i⟩ := fun i hi => by
    rw [getElem!_pos _ i (by rw [hz]; exact hi)]; simp
  refine ⟨g, cap, Array.ofFn fun i : Fin xs.length => ⟨(hu i).choose, xs[i], G i⟩, rfl, hz, ?_, ?_, ?_, ?_, ?_⟩
  · apply List.ext_getElem
    · simp
    · intro i h4 h5; simp
  · rw [hz]
    have e : flatC 2 xs.length cs = flatC 2 xs.length fun i => ((Array.ofFn fun i : Fin xs.length => (⟨(hu i).choose, xs[i], G i⟩ : El))[i]!).cs := flatC_congr fun i hi => by
      rw [hget i hi]; exact (hu ⟨i, hi⟩).choose_spec.1
    rw [← e]; exact h1
  · exact h2 g rfl
  · intro i hi
    have hi' : i < xs.length := by rwa [hz] at hi
    rw [hget i hi']
    obtain ⟨q1, q2, q3⟩ := (hu ⟨i, hi'⟩).choose_spec
    exact ⟨q2, q3, fun b hb => ⟨((h3 i hi').2.2.1 b hb).1, fun e => ((h3 i hi').2.2.1 b hb).2 (by rw [e]; rfl)⟩⟩
  · intro i j hi hj hne b
    have hi' : i < xs.length := by rwa [hz] at hi
    have hj' : j < xs.length := by rwa [hz] at hj
    rw [hget i hi', hget j hj']
    exact (h3 i hi').2.2.2 j hj' (Ne.symm hne) b
theorem SA.gr (h : SA F g cap w d) (k : Gr w w') : SA F g cap w' d :=
  ⟨ownsRow_agree h.row fun x hx => k.block x (h.row.lt x hx).2, h.blk, fun i hi => ⟨(h.el i hi).1, (h.el i hi).2.1.gr fr_int k, (h.el i hi).2.2⟩, h.apart⟩
theorem SA.lt (h : SA F g cap w d) : g < w.heap.size := (h.row.lt g rfl).2
theorem SA.cap_le (h : SA F g cap w d) : d.size ≤ cap ∧ cap ≤ 9223372036854775807 := by
  rcases h.row.2 with ⟨h0, _⟩ | ⟨g', cap', cur, hv, _, hg, hn, hm, hs, ht⟩
  · simp at h0
  · simp only [Value.slice.injEq] at hv
    obtain ⟨_, _, rfl⟩ := hv
    exact ⟨hn, by simpa [maxLen] using hm⟩
theorem SA.cell (h : SA F g cap w d) {i : Nat} (hi : i < d.size) : w.cell? ⟨g, i * 2, none⟩ = some (.int .i64 d[i]!.r.id) ∧ w.cell? ⟨g, i * 2 + 1, none⟩ = some d[i]!.u := by
  rcases h.row.2 with ⟨h0, _⟩ | ⟨g', cap', cur, hv, _, hg, hn, hm, hs, ht⟩
  · simp at h0
  · simp only [Value.slice.injEq, Option.some.injEq, Addr.mk.injEq] at hv
    obtain ⟨⟨rfl, -⟩, -, rfl⟩ := hv
    have e : ∀ j, j < 2 → cur[i * 2 + j]? = some ((d[i]!.cs).getD j undef) := fun j hj => by
      have h4 : (cur.toList.take (d.size * 2))[i * 2 + j]? = some ((d[i]!.cs).getD j undef) := by rw [ht]; exact flatC_at (cs := fun i => (d[i]!).cs) hi hj
      rw [List.getElem?_take, if_pos (idx_lt hi hj)] at h4
      simpa using h4
    have e0 := e 0 (by decide)
    have e1 := e 1 (by decide)
    simp [El.cs] at e0 e1
    exact ⟨by simp [World.cell?, hg, e0], by simp [World.cell?, hg, e1]⟩
theorem SA.frozen (h : SA F g cap w d) {i : Nat} (hi : i < d.size) : w.frozen? ⟨g, i * 2, none⟩ = false ∧ w.frozen? ⟨g, i * 2 + 1, none⟩ = false :=
  ⟨(row_cell (j := 0) (cs := fun i => (d[i]!).cs) h.row hi rfl rfl (p := i * 2) rfl).2, (row_cell (j := 1) (cs := fun i => (d[i]!).cs) h.row hi rfl rfl (p := i * 2 + 1) rfl).2⟩
theorem SA.reads (h : SA F g cap w d) {i : Nat} (hi : i < d.size) : RInts w d[i]!.u d[i]!.r.vals := rd_pints (h.el i hi).2.1
/-- Two elements change places. -/
theorem SA.swap (h : SA F g cap w d) {i j : Nat} (hi : i < d.size) (hj : j < d.size) (hne : i ≠ j) {p q p1 q1 : Nat} (hp : p = i * 2) (hp1 : p1 = i * 2 + 1) (hq : q = j * 2) (hq1 : q1 = j * 2 + 1) :
    SA F g cap ((((w.setCell ⟨g, p, none⟩ (.int .i64 d[j]!.r.id)).setCell ⟨g, p1, none⟩ d[j]!.u).setCell ⟨g, q, none⟩ (.int .i64 d[i]!.r.id)).setCell ⟨g, q1, none⟩ d[i]!.u) (swp d i j) := by
  have hz : (swp d i j).size = d.size := size_swp d i j
  have hr1 := row_set (u := .int .i64 d[j]!.r.id) h.row hi (j := 0) (by decide) (p := p) hp rfl
  have hr2 := row_set' (u := d[j]!.u) hr1 hi (j := 1) (by decide) (p := p1) hp1 rfl
  have hr3 := row_set (u := .int .i64 d[i]!.r.id) hr2 hj (j := 0) (by decide) (p := q) hq (by rw [updC_ne _ _ (Ne.symm hne)]; rfl)
  have hr4 := row_set' (u := d[i]!.u) hr3 hj (j := 1) (by decide) (p := q1) hq1 (by rw [updC_ne _ _ (Ne.symm hne)]; rfl)
  have hag : ∀ G : Nat → Prop, (∀ b, G b → b ≠ g) → Agree G w ((((w.setCell ⟨g, p, none⟩ (.int .i64 d[j]!.r.id)).setCell ⟨g, p1, none⟩ d[j]!.u).setCell ⟨g, q, none⟩ (.int .i64 d[i]!.r.id)).setCell ⟨g, q1, none⟩ d[i]!.u) := fun G hG =>
    Agree.setCell (Agree.setCell (Agree.setCell (Agree.setCell (Agree.refl _ _) hG _) hG _) hG _) hG _
  have hE : ∀ k, k < d.size → ∃ m, m < d.size ∧ (swp d i j)[k]! = d[m]! ∧ m = if k = j then i else if k = i then j else k := fun k hk => by
    rw [swp_get d hi hj k]
    by_cases h1 : k = j
    · exact ⟨i, hi, by rw [if_pos h1], by rw [if_pos h1]⟩
    · by_cases h2 : k = i
      · exact ⟨j, hj, by rw [if_neg h1, if_pos h2], by rw [if_neg h1, if_pos h2]⟩
      · exact ⟨k, hk, by rw [if_neg h1, if_neg h2], by rw [if_neg h1, if_neg h2]⟩
  refine ⟨?_, h.blk, fun k hk => ?_, fun k l hk hl hkl b => ?_⟩
  · rw [hz]
    have e : (flatC 2 d.size fun k => ((swp d i j)[k]!).cs) = flatC 2 d.size (updC (updC (fun i => (d[i]!).cs) i [.int .i64 d[j]!.r.id, d[j]!.u]) j [.int .i64 d[i]!.r.id, d[i]!.u]) := flatC_congr fun k hk => by
      rw [swp_get d hi hj k]
      by_cases h1 : k = j
      · subst h1; rw [updC_at, if_pos rfl]; rfl
      · rw [updC_ne _ _ h1, if_neg h1]
        by_cases h2 : k = i
        · subst h2; rw [updC_at, if_pos rfl]; rfl
        · rw [updC_ne _ _ h2, if_neg h2]
    rw [e]
    simpa [updC_ne _ _ (Ne.symm hne), El.cs] using hr4
  · rw [hz] at hk
    obtain ⟨m, hm, e, _⟩ := hE k hk
    rw [e]
    obtain ⟨h1, h2, h3⟩ := h.el m hm
    exact ⟨h1, h2.frame fr_int (hag _ fun b hb => (h3 b hb).2), h3⟩
  · rw [hz] at hk hl
    obtain ⟨m, hm, e, em⟩ := hE k hk
    obtain ⟨m', hm', e', em'⟩ := hE l hl
    rw [e, e']
    refine h.apart m m' hm hm' ?_ b
    rw [em, em']
    intro hc
    split at hc <;> split at hc <;> (try split at hc) <;> (try split at hc) <;> omega
theorem chg_gr {P : Nat → Prop} {a b : World} (h : Gr a b) : Chg P a b := ⟨h.os, h.tape, h.output, h.size, fun b hb _ => h.block b hb⟩
theorem four_chg {p q p1 q1 : Nat} {a b c e : Value} : Chg (fun k => k = g) w ((((w.setCell ⟨g, p, none⟩ a).setCell ⟨g, p1, none⟩ b).setCell ⟨g, q, none⟩ c).setCell ⟨g, q1, none⟩ e) := by
  have h1 : Chg (fun k => k = g) w (w.setCell ⟨g, p, none⟩ a) := Chg.setCell (F := fun k => k = g) (p := ⟨g, p, none⟩) (Chg.refl _ _) rfl a
  have h2 := Chg.setCell (F := fun k => k = g) (p := ⟨g, p1, none⟩) h1 rfl b
  have h3 := Chg.setCell (F := fun k => k = g) (p := ⟨g, q, none⟩) h2 rfl c
  exact Chg.setCell (F := fun k => k = g) (p := ⟨g, q1, none⟩) h3 rfl e
/-- The exchange of two elements, as the walk meets it. -/
theorem SA.swapAll (h : SA F g cap w d) {I J : Nat} (hx : I < d.size) (hy : J < d.size) (hne : I ≠ J) : ∃ ax nx kx ay ny ky ix iy,
    w.cell? ⟨g, I * 2, none⟩ = some (.int .i64 ix) ∧ w.cell? ⟨g, I * 2 + 1, none⟩ = some (.slice ax nx kx) ∧ w.cell? ⟨g, J * 2, none⟩ = some (.int .i64 iy) ∧ w.cell? ⟨g, J * 2 + 1, none⟩ = some (.slice ay ny ky) ∧
    w.frozen? ⟨g, I * 2, none⟩ = false ∧ w.frozen? ⟨g, I * 2 + 1, none⟩ = false ∧ w.frozen? ⟨g, J * 2, none⟩ = false ∧ w.frozen? ⟨g, J * 2 + 1, none⟩ = false ∧
    Hid (SA F g cap ((((w.setCell ⟨g, I * 2, none⟩ (.int .i64 iy)).setCell ⟨g, I * 2 + 1, none⟩ (.slice ay ny ky)).setCell ⟨g, J * 2, none⟩ (.int .i64 ix)).setCell ⟨g, J * 2 + 1, none⟩ (.slice ax nx kx)).drew (swp d I J)) ∧
    Hid (Chg (fun k => k = g) w ((((w.setCell ⟨g, I * 2, none⟩ (.int .i64 iy)).setCell ⟨g, I * 2 + 1, none⟩ (.slice ay ny ky)).setCell ⟨g, J * 2, none⟩ (.int .i64 ix)).setCell ⟨g, J * 2 + 1, none⟩ (.slice ax nx kx)).drew) := by
  obtain ⟨cx, cx1⟩ := h.cell hx
  obtain ⟨cy, cy1⟩ := h.cell hy
  obtain ⟨fx, fx1⟩ := h.frozen hx
  obtain ⟨fy, fy1⟩ := h.frozen hy
  obtain ⟨ax, nx, kx, hux⟩ := (h.el _ hx).2.1.isSl
  obtain ⟨ay, ny, ky, huy⟩ := (h.el _ hy).2.1.isSl
  have hs := h.swap hx hy hne (p := I * 2) (q := J * 2) (p1 := I * 2 + 1) (q1 := J * 2 + 1) rfl rfl rfl rfl
  rw [hux] at cx1
  rw [huy] at cy1
  rw [hux, huy] at hs
  exact ⟨ax, nx, kx, ay, ny, ky, _, _, cx, cx1, cy, cy1, fx, fx1, fy, fy1, Lib.hid (hs.gr (Gr.refl _).drew), Lib.hid (four_chg.drew)⟩
theorem ne_facts {I J : Nat} (h : I ≠ J) : ¬ I = J ∧ ¬ J = I ∧ ¬ I * 2 = J * 2 + 1 ∧ ¬ J * 2 = I * 2 + 1 ∧ ¬ I * 2 + 1 = J * 2 ∧ ¬ J * 2 + 1 = I * 2 := by omega
end Go.Proofs.Ytjeffagejbdjkaa
