/- A slice of rows that is sorted in place: its elements with what they hold, as an array; a swap in memory is a swap of the array. -/
import Derived.Test.YtcdcpfcmhmhdjaaGreatDoorMg2
import Derived.Test.YtcdcpfcmhmhdjaaGreatDoorPriv
import Derived.Test.YtcdcpfcmhmhdjaaGreatDoorExt
import Derived.Test.YtcdcpfcmhmhdjaaGreatDoorBase
import Derived.Deep.DeepCutAuto
namespace Go.Proofs.YtcdcpfcmhmhdjaaGreatDoor
open Go.RowKit Go.Sort
/-- A row as it lies in the slice: the value of its field, what it reads as, the blocks that hold it. -/
structure El where
  u : Value
  r : DRow
  G : Nat → Prop
instance : Inhabited El := ⟨⟨undef, ⟨0, []⟩, fun _ => False⟩⟩
def El.cs (e : El) : List Value := [.int .i64 e.r.id, e.u]
structure SA (F : Nat → Prop) (g cap : Nat) (w : World) (d : Array El) : Prop where
  row : w.ownsRow 0 36 2 (.slice (some ⟨g, 0, none⟩) d.size cap) d.size (flatC 2 d.size fun i => (d[i]!).cs)
  blk : F g
  el : ∀ i, i < d.size → I64 d[i]!.r.id ∧ PInts d[i]!.G w d[i]!.u d[i]!.r.vals ∧ ∀ b, d[i]!.G b → F b ∧ b ≠ g
  apart : ∀ i j, i < d.size → j < d.size → i ≠ j → ∀ b, d[i]!.G b → ¬ d[j]!.G b
variable {F : Nat → Prop} {g cap : Nat} {w w' : World} {d : Array El}
theorem SA.prows (h : SA F g cap w d) : PRows F w (.slice (some ⟨g, 0, none⟩) d.size cap) (d.toList.map El.r) := by
  refine ⟨fun i => (d[i]!).cs, by simpa using h.row, (fun k hk => by cases hk; exact h.blk), fun i => (d[i]!).G, fun i hi => ?_⟩
  have hi' : i < d.size := by simpa using hi
  have e : d[i]! = d[i] := getElem!_pos d i hi'
  obtain ⟨h1, h2, h3⟩ := h.el i hi'
  refine ⟨rfl, ⟨d[i]!.u, ?_, ?_, ?_⟩, fun b hb => ⟨(h3 b hb).1, fun hv => (h3 b hb).2 (Option.some.inj hv).symm⟩, fun j hj hne b hb => h.apart i j hi' (by simpa using hj) (Ne.symm hne) b hb⟩
  · simp [El.cs, e]
  · simpa [e] using h1
  · simpa [e] using h2
theorem SA.of {v : Value} {xs : List DRow} (h : PRows F w v xs) (hn : 0 < xs.length) : ∃ g cap d, v = .slice (some ⟨g, 0, none⟩) xs.length cap ∧ d.size = xs.length ∧ d.toList.map El.r = xs ∧ SA F g cap w d := by
  obtain ⟨cs, h1, h2, G, h3⟩ := h
  obtain ⟨a, cap, rfl, hp⟩ := row_form h1
  obtain ⟨g, rfl, ho, hg⟩ := hp hn
  have hu : ∀ i : Fin xs.length, ∃ u, cs i = [.int .i64 xs[i].id, u] ∧ I64 xs[i].id ∧ PInts (G i) w u xs[i].vals := fun i => (h3 i i.2).2.1
  have hz : (Array.ofFn fun i : Fin xs.length => (⟨(hu i).choose, xs[i], G i⟩ : El)).size = xs.length := Array.size_ofFn
  have hget : ∀ i (hi : i < xs.length), (Array.ofFn fun i : Fin xs.length => (⟨(hu i).choose, xs[i], G i⟩ : El))[i]! = ⟨(hu ⟨i, hi⟩).choose, xs[i], G i⟩ := fun i hi => by
    rw [getElem!_pos _ i (by rw [hz]; exact hi)]; simp
  refine ⟨g, cap, Array.ofFn fun i : Fin xs.length => ⟨(hu i).choose, xs[i], G i⟩, rfl, hz, ?_, ?_, ?_, ?_, ?_⟩
  · apply List.ext_getElem
    · simp
    · intro i h4 h5; simp
  · rw [hz]
    have e : flatC 2 xs.length cs = flatC 2 xs.length fun i => ((Array.ofFn fun i : Fin xs.length => (⟨(hu i).choose, xs[i], G i⟩ : El))[i]!).cs := flatC_congr fun i hi => by
      rw [hget i hi]; exact (hu ⟨i, hi⟩).choose_spec.1
    rw [← e]; exact h1
  · exact h2 g rfl
  · intro i hi
    have hi' : i < xs.length := by rwa [hz] at hi
    rw [hget i hi']
    obtain ⟨q1, q2, q3⟩ := (hu ⟨i, hi'⟩).choose_spec
    exact ⟨q2, q3, fun b hb => ⟨((h3 i hi').2.2.1 b hb).1, fun e => ((h3 i hi').2.2.1 b hb).2 (by rw [e]; rfl)⟩⟩
  · intro i j hi hj hne b
    have hi' : i < xs.length := by rwa [hz] at hi
    have hj' : j < xs.length := by rwa [hz] at hj
    rw [hget i hi', hget j hj']
    exact (h3 i hi').2.2.2 j hj' (Ne.symm hne) b
theorem SA.gr (h : SA F g cap w d) (k : Gr w w') : SA F g cap w' d :=
  ⟨ownsRow_agree h.row fun x hx => k.block x (h.row.lt x hx).2, h.blk, fun i hi => ⟨(h.el i hi).1, (h.el i hi).2.1.gr fr_int k, (h.el i hi).2.2⟩, h.apart⟩
theorem SA.lt (h : SA F g cap w d) : g < w.heap.size := (h.row.lt g rfl).2
theorem SA.cap_le (h : SA F g cap w d) : d.size ≤ cap ∧ cap ≤ 9223372036854775807 := by
  rcases h.row.2 with ⟨h0, _⟩ | ⟨g', cap', cur, hv, _, hg, hn, hm, hs, ht⟩
  · simp at h0
  · simp only [Value.slice.injEq] at hv
    obtain ⟨_, _, rfl⟩ := hv
    exact ⟨hn, by simpa [maxLen] using hm⟩
theorem SA.cell (h : SA F g cap w d) {i : Nat} (hi : i < d.size) : w.cell? ⟨g, i * 2, none⟩ = some (.int .i64 d[i]!.r.id) ∧ w.cell? ⟨g, i * 2 + 1, none⟩ = some d[i]!.u := by
  rcases h.row.2 with ⟨h0, _⟩ | ⟨g', cap', cur, hv, _, hg, hn, hm, hs, ht⟩
  · simp at h0
  · simp only [Value.slice.injEq, Option.some.injEq, Addr.mk.injEq] at hv
    obtain ⟨⟨rfl, -⟩, -, rfl⟩ := hv
    have e : ∀ j, j < 2 → cur[i * 2 + j]? = some ((d[i]!.cs).getD j undef) := fun j hj => by
      have h4 : (cur.toList.take (d.size * 2))[i * 2 + j]? = some ((d[i]!.cs).getD j undef) := by rw [ht]; exact flatC_at (cs := fun i => (d[i]!).cs) hi hj
      rw [List.getElem?_take, if_pos (idx_lt hi hj)] at h4
      simpa using h4
    have e0 := e 0 (by decide)
    have e1 := e 1 (by decide)
    simp [El.cs] at e0 e1
    exact ⟨by simp [World.cell?, hg, e0], by simp [World.cell?, hg, e1]⟩
theorem SA.frozen (h : SA F g cap w d) {i : Nat} (hi : i < d.size) : w.frozen? ⟨g, i * 2, none⟩ = false ∧ w.frozen? ⟨g, i * 2 + 1, none⟩ = false :=
  ⟨(row_cell (j := 0) (cs := fun i => (d[i]!).cs) h.row hi rfl rfl (p := i * 2) rfl).2, (row_cell (j := 1) (cs := fun i => (d[i]!).cs) h.row hi rfl rfl (p := i * 2 + 1) rfl).2⟩
theorem SA.reads (h : SA F g cap w d) {i : Nat} (hi : i < d.size) : RInts w d[i]!.u d[i]!.r.vals := rd_pints (h.el i hi).2.1
/-- Two elements change places. -/
theorem SA.swap (h : SA F g cap w d) {i j : Nat} (hi : i < d.size) (hj : j < d.size) (hne : i ≠ j) {p q p1 q1 : Nat} (hp : p = i * 2) (hp1 : p1 = i * 2 + 1) (hq : q = j * 2) (hq1 : q1 = j * 2 + 1) :
    SA F g cap ((((w.setCell ⟨g, p, none⟩ (.int .i64 d[j]!.r.id)).setCell ⟨g, p1, none⟩ d[j]!.u).setCell ⟨g, q, none⟩ (.int .i64 d[i]!.r.id)).setCell ⟨g, q1, none⟩ d[i]!.u) (swp d i j) := by
  have hz : (swp d i j).size = d.size := size_swp d i j
  have hr1 := row_set (u := .int .i64 d[j]!.r.id) h.row hi (j := 0) (by decide) (p := p) hp rfl
  have hr2 := row_set' (u := d[j]!.u) hr1 hi (j := 1) (by decide) (p := p1) hp1 rfl
  have hr3 := row_set (u := .int .i64 d[i]!.r.id) hr2 hj (j := 0) (by decide) (p := q) hq (by rw [updC_ne _ _ (Ne.symm hne)]; rfl)
  have hr4 := row_set' (u := d[i]!.u) hr3 hj (j := 1) (by decide) (p := q1) hq1 (by rw [updC_ne _ _ (Ne.symm hne)]; rfl)
  have hag : ∀ G : Nat → Prop, (∀ b, G b → b ≠ g) → Agree G w ((((w.setCell ⟨g, p, none⟩ (.int .i64 d[j]!.r.id)).setCell ⟨g, p1, none⟩ d[j]!.u).setCell ⟨g, q, none⟩ (.int .i64 d[i]!.r.id)).setCell ⟨g, q1, none⟩ d[i]!.u) := fun G hG =>
    Agree.setCell (Agree.setCell (Agree.setCell (Agree.setCell (Agree.refl _ _) hG _) hG _) hG _) hG _
  have hE : ∀ k, k < d.size → ∃ m, m < d.size ∧ (swp d i j)[k]! = d[m]! ∧ m = if k = j then i else if k = i then j else k := fun k hk => by
    rw [swp_get d hi hj k]
    by_cases h1 : k = j
    · exact ⟨i, hi, by rw [if_pos h1], by rw [if_pos h1]⟩
    · by_cases h2 : k = i
      · exact ⟨j, hj, by rw [if_neg h1, if_pos h2], by rw [if_neg h1, if_pos h2]⟩
      · exact ⟨k, hk, by rw [if_neg h1, if_neg h2], by rw [if_neg h1, if_neg h2]⟩
  refine ⟨?_, h.blk, fun k hk => ?_, fun k l hk hl hkl b => ?_⟩
  · rw [hz]
    have e : (flatC 2 d.size fun k => ((swp d i j)[k]!).cs) = flatC 2 d.size (updC (updC (fun i => (d[i]!).cs) i [.int .i64 d[j]!.r.id, d[j]!.u]) j [.int .i64 d[i]!.r.id, d[i]!.u]) := flatC_congr fun k hk => by
      rw [swp_get d hi hj k]
      by_cases h1 : k = j
      · subst h1; rw [updC_at, if_pos rfl]; rfl
      · rw [updC_ne _ _ h1, if_neg h1]
        by_cases h2 : k = i
        · subst h2; rw [updC_at, if_pos rfl]; rfl
        · rw [updC_ne _ _ h2, if_neg h2]
    rw [e]
    simpa [updC_ne _ _ (Ne.symm hne), El.cs] using hr4
  · rw [hz] at hk
    obtain ⟨m, hm, e, _⟩ := hE k hk
    rw [e]
    obtain ⟨h1, h2, h3⟩ := h.el m hm
    exact ⟨h1, h2.frame fr_int (hag _ fun b hb => (h3 b hb).2), h3⟩
  · rw [hz] at hk hl
    obtain ⟨m, hm, e, em⟩ := hE k hk
    obtain ⟨m', hm', e', em'⟩ := hE l hl
    rw [e, e']
    refine h.apart m m' hm hm' ?_ b
    rw [em, em']
    intro hc
    split at hc <;> split at hc <;> (try split at hc) <;> (try split at hc) <;> omega
theorem chg_gr {P : Nat → Prop} {a b : World} (h : Gr a b) : Chg P a b := ⟨h.os, h.tape, h.output, h.size, fun b hb _ => h.block b hb⟩
theorem four_chg {p q p1 q1 : Nat} {a b c e : Value} : Chg (fun k => k = g) w ((((w.setCell ⟨g, p, none⟩ a).setCell ⟨g, p1, none⟩ b).setCell ⟨g, q, none⟩ c).setCell ⟨g, q1, none⟩ e) := by
  have h1 : Chg (fun k => k = g) w (w.setCell ⟨g, p, none⟩ a) := Chg.setCell (F := fun k => k = g) (p := ⟨g, p, none⟩) (Chg.refl _ _) rfl a
  have h2 := Chg.setCell (F := fun k => k = g) (p := ⟨g, p1, none⟩) h1 rfl b
  have h3 := Chg.setCell (F := fun k => k = g) (p := ⟨g, q, none⟩) h2 rfl c
  exact Chg.setCell (F := fun k => k = g) (p := ⟨g, q1, none⟩) h3 rfl e
/-- The exchange of two elements, as the walk meets it. -/
theorem SA.swapAll (h : SA F g cap w d) {I J : Nat} (hx : I < d.size) (hy : J < d.size) (hne : I ≠ J) : ∃ ax nx kx ay ny ky ix iy,
    w.cell? ⟨g, I * 2, none⟩ = some (.int .i64 ix) ∧ w.cell? ⟨g, I * 2 + 1, none⟩ = some (.slice ax nx kx) ∧ w.cell? ⟨g, J * 2, none⟩ = some (.int .i64 iy) ∧ w.cell? ⟨g, J * 2 + 1, none⟩ = some (.slice ay ny ky) ∧
    w.frozen? ⟨g, I * 2, none⟩ = false ∧ w.frozen? ⟨g, I * 2 + 1, none⟩ = false ∧ w.frozen? ⟨g, J * 2, none⟩ = false ∧ w.frozen? ⟨g, J * 2 + 1, none⟩ = false ∧
    Hid (SA F g cap ((((w.setCell ⟨g, I * 2, none⟩ (.int .i64 iy)).setCell ⟨g, I * 2 + 1, none⟩ (.slice ay ny ky)).setCell ⟨g, J * 2, none⟩ (.int .i64 ix)).setCell ⟨g, J * 2 + 1, none⟩ (.slice ax nx kx)).drew (swp d I J)) ∧
    Hid (Chg (fun k => k = g) w ((((w.setCell ⟨g, I * 2, none⟩ (.int .i64 iy)).setCell ⟨g, I * 2 + 1, none⟩ (.slice ay ny ky)).setCell ⟨g, J * 2, none⟩ (.int .i64 ix)).setCell ⟨g, J * 2 + 1, none⟩ (.slice ax nx kx)).drew) := by
  obtain ⟨cx, cx1⟩ := h.cell hx
  obtain ⟨cy, cy1⟩ := h.cell hy
  obtain ⟨fx, fx1⟩ := h.frozen hx
  obtain ⟨fy, fy1⟩ := h.frozen hy
  obtain ⟨ax, nx, kx, hux⟩ := (h.el _ hx).2.1.isSl
  obtain ⟨ay, ny, ky, huy⟩ := (h.el _ hy).2.1.isSl
  have hs := h.swap hx hy hne (p := I * 2) (q := J * 2) (p1 := I * 2 + 1) (q1 := J * 2 + 1) rfl rfl rfl rfl
  rw [hux] at cx1
  rw [huy] at cy1
  rw [hux, huy] at hs
  exact ⟨ax, nx, kx, ay, ny, ky, _, _, cx, cx1, cy, cy1, fx, fx1, fy, fy1, Lib.hid (hs.gr (Gr.refl _).drew), Lib.hid (four_chg.drew)⟩
theorem ne_facts {I J : Nat} (h : I ≠ J) : ¬ I = J ∧ ¬ J = I ∧ ¬ I * 2 = J * 2 + 1 ∧ ¬ J * 2 = I * 2 + 1 ∧ ¬ I * 2 + 1 = J * 2 ∧ ¬ J * 2 + 1 = I * 2 := by omega
end Go.Proofs.YtcdcpfcmhmhdjaaGreatDoor

/- The library's stable sort at rows, step by step: the exchange of two runs. -/
namespace Go.Proofs.YtcdcpfcmhmhdjaaGreatDoor
open Go.RowKit Go.Sort Go.ChangeShapes Go.WideShapes Go.Deep
variable {F : Nat → Prop} {g cap : Nat} {w w' : World} {d : Array El}
set_option maxRecDepth 100000 in
set_option maxHeartbeats 1500000 in
theorem std_swapRange (h : SA F g cap w d) (hsz : d.size ≤ 1048576) {x y n : Nat} (hxy : x + n ≤ y) (hy : y + n ≤ d.size) (c : Value) :
    Calls Tryz.prog 118 #[.slice (some ⟨g, 0, none⟩) d.size cap, .int .i64 x, .int .i64 y, .int .i64 n, c] w fun e w' =>
      e = .returned (.tuple #[]) ∧ ∃ d', SA F g cap w' d' ∧ Swapped x y n d d' ∧ PermIn x (y + n) d d' ∧ Chg (fun k => k = g) w w' := by
  have HS := Lib.hid h
  clear h
  go_enter Tryz.func118, Tryz.ntmps118
  go_wp2_with fail
  go_loopw [10] (fun i wr => ∃ j d1, j ≤ n ∧ i = .int .i64 (j : Nat) ∧ SA F g cap wr d1 ∧ Swapped x y j d d1 ∧ PermIn x (y + n) d d1 ∧ Chg (fun k => k = g) w wr) (fun i _ => n - (intOf i).toNat)
  case atStart => exact ⟨0, d, Nat.zero_le _, rfl, HS.out, Swapped.zero _ _ _, permIn_refl _ _ _, Chg.refl _ _⟩
  case round =>
    obtain ⟨j, d1, hj, rfl, h1, h2, h3, h4⟩ := hrel
    by_cases hlt : j < n
    · have hz : d1.size = d.size := h2.size
      have hlz : (j : Int) < (n : Int) := by omega
      obtain ⟨I, hI⟩ : ∃ I, I = x + j := ⟨_, rfl⟩
      obtain ⟨J, hJ⟩ : ∃ J, J = y + j := ⟨_, rfl⟩
      have hx : I < d1.size := by omega
      have hyj : J < d1.size := by omega
      have hne : I ≠ J := by omega
      have i1 : (x : Int) + (j : Int) < (d.size : Int) := by omega
      have i2 : (y : Int) + (j : Int) < (d.size : Int) := by omega
      have e1 : ((x : Int) + (j : Int)).toNat = I := by omega
      have e2 : ((y : Int) + (j : Int)).toNat = J := by omega
      obtain ⟨n1, n2, n3, n4, n5, n6⟩ := ne_facts hne
      obtain ⟨ax, nx, kx, ay, ny, ky, ix, iy, cx, cx1, cy, cy1, fx, fx1, fy, fy1, HS1, HC1⟩ := h1.swapAll hx hyj hne
      have HW : Hid (Swapped x y (j + 1) d (swp d1 I J) ∧ PermIn x (y + n) d (swp d1 I J)) := Lib.hid (by rw [hI, hJ]; exact ⟨h2.step hlt hxy hy, Swapped.step_perm h3 hlt hxy hy⟩)
      have H4 := Lib.hid h4
      clear h1 h2 h3 h4 hI hJ
      go_wp2_with fail
      go_big_region
      go_wp2_with fail
      go_roundw
      case rel => exact ⟨j + 1, _, by omega, by go_num, HS1.out, HW.out.1, HW.out.2, H4.out.trans HC1.out⟩
      case measure => simp [intOf]; omega
    · have hlz : ¬ (j : Int) < (n : Int) := by omega
      go_wp2_with fail
      have : j = n := by omega
      subst this
      go_end0
      exact ⟨rfl, d1, h1, h2, h3, h4⟩
theorem std_swapRange' (h : SA F g cap w d) (hsz : d.size ≤ 1048576) {x y n : Nat} {X Y N : Int} (hX : X = x) (hY : Y = y) (hN : N = n) (hxy : x + n ≤ y) (hy : y + n ≤ d.size) (c : Value) :
    Calls Tryz.prog 118 #[.slice (some ⟨g, 0, none⟩) d.size cap, .int .i64 X, .int .i64 Y, .int .i64 N, c] w fun e w' =>
      e = .returned (.tuple #[]) ∧ ∃ d', SA F g cap w' d' ∧ Swapped x y n d d' ∧ PermIn x (y + n) d d' ∧ Chg (fun k => k = g) w w' := by
  subst hX hY hN; exact std_swapRange h hsz hxy hy c
set_option maxRecDepth 100000 in
set_option maxHeartbeats 1500000 in
theorem std_rotate (h : SA F g cap w d) (hsz : d.size ≤ 1048576) {a m b : Nat} (ham : a < m) (hmb : m < b) (hb : b ≤ d.size) (c : Value) :
    Calls Tryz.prog 107 #[.slice (some ⟨g, 0, none⟩) d.size cap, .int .i64 a, .int .i64 m, .int .i64 b, c] w fun e w' =>
      e = .returned (.tuple #[]) ∧ ∃ d', SA F g cap w' d' ∧ Rot m (m - a) (b - m) d d' ∧ PermIn a b d d' ∧ Chg (fun k => k = g) w w' := by
  have HS := Lib.hid h
  clear h
  go_enter Tryz.func107, Tryz.ntmps107
  go_wp2_with fail
  go_loopw [10, 11] (fun vi vj wr => ∃ (i j : Nat) (d1 : Array El), vi = .int .i64 i ∧ vj = .int .i64 j ∧ 0 < i ∧ 0 < j ∧ i ≤ m - a ∧ j ≤ b - m ∧ SA F g cap wr d1 ∧ (∀ d2, Rot m i j d1 d2 → Rot m (m - a) (b - m) d d2) ∧ PermIn a b d d1 ∧ Chg (fun k => k = g) w wr) (fun vi vj _ => (intOf vi).toNat + (intOf vj).toNat)
  case atStart => exact ⟨m - a, b - m, d, by go_num, by go_num, by omega, by omega, Nat.le_refl _, Nat.le_refl _, HS.out, fun _ h => h, permIn_refl _ _ _, Chg.refl _ _⟩
  case round =>
    obtain ⟨i, j, d1, rfl, rfl, hi, hj, him, hjm, h1, h2, h3, h4⟩ := hrel
    have hz : d1.size = d.size := h3.1
    have H1 := Lib.hid h1
    have H2 := Lib.hid h2
    have H3 := Lib.hid h3
    have H4 := Lib.hid h4
    clear h1 h2 h3 h4
    by_cases he : i = j
    · subst he
      go_wp2_with fail
      rw [← hz]
      refine (std_swapRange' H1.out (by omega) (x := m - i) (y := m) (n := i) (by omega) rfl rfl (by omega) (by omega) c).mono ?_
      rintro e w1 ⟨rfl, d2, k1, k2, k3, k4⟩
      go_wp2_with fail
      go_end0
      exact ⟨rfl, d2, k1, H2.out _ (Rot.same k2 (by omega)), permIn_trans _ _ _ _ _ H3.out (permIn_mono _ _ _ _ _ _ (by omega) (by omega) (by omega) k3), H4.out.trans k4⟩
    · have hez : ¬ (i : Int) = (j : Int) := by omega
      by_cases hg : j < i
      · have hgz : (j : Int) < (i : Int) := by omega
        go_wp2_with fail
        rw [← hz]
        refine (std_swapRange' H1.out (by omega) (x := m - i) (y := m) (n := j) (by omega) rfl rfl (by omega) (by omega) c).mono ?_
        rintro e w1 ⟨rfl, d2, k1, k2, k3, k4⟩
        have K := Lib.hid (And.intro k1 (And.intro k2 (And.intro k3 k4)))
        clear k1 k2 k3 k4
        rw [hz]
        go_wp2_with fail
        go_roundw
        case rel =>
          obtain ⟨k1, k2, k3, k4⟩ := K.out
          exact ⟨i - j, j, d2, by go_num, rfl, by omega, hj, by omega, hjm, k1, fun d3 hd => H2.out _ (Rot.up k2 hg (by omega) hd), permIn_trans _ _ _ _ _ H3.out (permIn_mono _ _ _ _ _ _ (by omega) (by omega) (by omega) k3), H4.out.trans k4⟩
        case measure => simp [intOf]; omega
      · have hgz : ¬ (j : Int) < (i : Int) := by omega
        go_wp2_with fail
        rw [← hz]
        refine (std_swapRange' H1.out (by omega) (x := m - i) (y := m + j - i) (n := i) (by omega) (by omega) rfl (by omega) (by omega) c).mono ?_
        rintro e w1 ⟨rfl, d2, k1, k2, k3, k4⟩
        have K := Lib.hid (And.intro k1 (And.intro k2 (And.intro k3 k4)))
        clear k1 k2 k3 k4
        rw [hz]
        go_wp2_with fail
        go_roundw
        case rel =>
          obtain ⟨k1, k2, k3, k4⟩ := K.out
          exact ⟨i, j - i, d2, rfl, by go_num, hi, by omega, him, by omega, k1, fun d3 hd => H2.out _ (Rot.lo k2 (by omega) (by omega) hd), permIn_trans _ _ _ _ _ H3.out (permIn_mono _ _ _ _ _ _ (by omega) (by omega) (by omega) k3), H4.out.trans k4⟩
        case measure => simp [intOf]; omega
end Go.Proofs.YtcdcpfcmhmhdjaaGreatDoor

/- The order of rows; the sorted list of a list of rows; both ways to it. Plain. -/
namespace Go.Proofs.YtcdcpfcmhmhdjaaGreatDoor
open Go.Sort
/-- Lists of numbers, in the order of their first difference. -/
def lexB : List Int → List Int → Bool
  | [], [] => false
  | [], _ :: _ => true
  | _ :: _, [] => false
  | x :: xs, y :: ys => if x < y then true else if y < x then false else lexB xs ys
theorem lexB_irrefl : ∀ xs, lexB xs xs = false
  | [] => rfl
  | x :: xs => by simp only [lexB]; rw [if_neg (by omega), if_neg (by omega)]; exact lexB_irrefl xs
theorem lexB_trans : ∀ xs ys zs, lexB xs ys = true → lexB ys zs = true → lexB xs zs = true
  | [], [], _, h, _ => by simp [lexB] at h
  | [], _ :: _, [], _, h => by simp [lexB] at h
  | [], _ :: _, _ :: _, _, _ => rfl
  | _ :: _, [], _, h, _ => by simp [lexB] at h
  | _ :: _, _ :: _, [], _, h => by simp [lexB] at h
  | x :: xs, y :: ys, z :: zs, h1, h2 => by
    simp only [lexB] at h1 h2 ⊢
    by_cases a : x < z
    · rw [if_pos a]
    · rw [if_neg a]
      by_cases b : x < y
      · rw [if_pos b] at h1
        rw [if_neg (show ¬ y < z by omega), if_pos (show z < y by omega)] at h2; cases h2
      · rw [if_neg b] at h1
        by_cases c : y < x
        · rw [if_pos c] at h1; cases h1
        · rw [if_neg c] at h1
          by_cases e : y < z
          · omega
          · rw [if_neg e] at h2
            by_cases f : z < y
            · rw [if_pos f] at h2; cases h2
            · rw [if_neg f] at h2; rw [if_neg (by omega)]; exact lexB_trans xs ys zs h1 h2
theorem lexB_ntrans : ∀ xs ys zs, lexB xs ys = false → lexB ys zs = false → lexB xs zs = false
  | [], [], _, _, h => h
  | [], _ :: _, _, h, _ => by simp [lexB] at h
  | _ :: _, [], [], _, _ => rfl
  | _ :: _, [], _ :: _, _, h => by simp [lexB] at h
  | _ :: _, _ :: _, [], _, _ => rfl
  | x :: xs, y :: ys, z :: zs, h1, h2 => by
    simp only [lexB] at h1 h2 ⊢
    by_cases b : x < y
    · rw [if_pos b] at h1; cases h1
    · rw [if_neg b] at h1
      by_cases e : y < z
      · rw [if_pos e] at h2; cases h2
      · rw [if_neg e] at h2
        rw [if_neg (show ¬ x < z by omega)]
        by_cases a : z < x
        · rw [if_pos a]
        · rw [if_neg a]
          rw [if_neg (show ¬ y < x by omega)] at h1
          rw [if_neg (show ¬ z < y by omega)] at h2
          exact lexB_ntrans xs ys zs h1 h2
theorem lexB_anti : ∀ xs ys, lexB xs ys = false → lexB ys xs = false → xs = ys
  | [], [], _, _ => rfl
  | [], _ :: _, h, _ => by simp [lexB] at h
  | _ :: _, [], _, h => by simp [lexB] at h
  | x :: xs, y :: ys, h1, h2 => by
    simp only [lexB] at h1 h2
    by_cases b : x < y
    · rw [if_pos b] at h1; cases h1
    · rw [if_neg b] at h1
      by_cases c : y < x
      · rw [if_pos c] at h2; cases h2
      · rw [if_neg c] at h1; rw [if_neg c, if_neg b] at h2
        rw [show x = y by omega, lexB_anti xs ys h1 h2]
/-- .. as a number. -/
def cmpInts : List Int → List Int → Int
  | [], [] => 0
  | [], _ :: _ => -1
  | _ :: _, [] => 1
  | x :: xs, y :: ys => if x < y then -1 else if y < x then 1 else cmpInts xs ys
theorem cmpInts_lt : ∀ xs ys, cmpInts xs ys < 0 ↔ lexB xs ys = true
  | [], [] => by simp [cmpInts, lexB]
  | [], _ :: _ => by simp [cmpInts, lexB]
  | _ :: _, [] => by simp [cmpInts, lexB]
  | x :: xs, y :: ys => by
    simp only [cmpInts, lexB]
    by_cases b : x < y
    · simp [b]
    · by_cases c : y < x
      · simp [b, c]
      · simp only [b, c, if_false]; exact cmpInts_lt xs ys
theorem cmpInts_lex (xs ys : List Int) : decide (cmpInts xs ys < 0) = lexB xs ys := by
  rw [Bool.eq_iff_iff]; simpa using cmpInts_lt xs ys
theorem cmpInts_at {xs ys : List Int} {k : Nat} (hx : k < xs.length) (hy : k < ys.length) : cmpInts (xs.drop k) (ys.drop k) = if xs[k] < ys[k] then -1 else if ys[k] < xs[k] then 1 else cmpInts (xs.drop (k + 1)) (ys.drop (k + 1)) := by
  rw [List.drop_eq_getElem_cons hx, List.drop_eq_getElem_cons hy]; rfl
theorem cmpInts_more {xs ys : List Int} {k : Nat} (hx : k < xs.length) (hy : ys.length ≤ k) : cmpInts (xs.drop k) (ys.drop k) = 1 := by
  rw [List.drop_eq_getElem_cons hx, List.drop_eq_nil_of_le hy]; rfl
theorem cmpInts_less {xs ys : List Int} {k : Nat} (hx : xs.length ≤ k) (hy : k < ys.length) : cmpInts (xs.drop k) (ys.drop k) = -1 := by
  rw [List.drop_eq_getElem_cons hy, List.drop_eq_nil_of_le hx]; rfl
theorem cmpInts_same {xs ys : List Int} {k : Nat} (hx : xs.length ≤ k) (hy : ys.length ≤ k) : cmpInts (xs.drop k) (ys.drop k) = 0 := by
  rw [List.drop_eq_nil_of_le hy, List.drop_eq_nil_of_le hx]; rfl
/-- The order of rows. -/
def ltRow (a b : DRow) : Bool := if a.id < b.id then true else if b.id < a.id then false else lexB a.vals b.vals
def cmpRow (a b : DRow) : Int := if a.id < b.id then -1 else if b.id < a.id then 1 else cmpInts a.vals b.vals
theorem cmpRow_lt (a b : DRow) : decide (cmpRow a b < 0) = ltRow a b := cmpInts_lex (a.id :: a.vals) (b.id :: b.vals)
theorem ltRow_lex (a b : DRow) : ltRow a b = lexB (a.id :: a.vals) (b.id :: b.vals) := rfl
theorem swo_row : SWO ltRow where
  irrefl x := by rw [ltRow_lex]; exact lexB_irrefl _
  trans x y z h1 h2 := by rw [ltRow_lex] at *; exact lexB_trans _ _ _ h1 h2
  ntrans x y z h1 h2 := by rw [ltRow_lex] at *; exact lexB_ntrans _ _ _ h1 h2
theorem ltRow_anti (a b : DRow) (h1 : ltRow a b = false) (h2 : ltRow b a = false) : a = b := by
  rw [ltRow_lex] at h1 h2
  have := lexB_anti _ _ h1 h2
  cases a; cases b; simpa using this
/-- Ascending. -/
def UpR (l : List DRow) : Prop := l.Pairwise fun x y => ltRow y x = false
theorem upR_unique {l m : List DRow} (hp : l.Perm m) (hl : UpR l) (hm : UpR m) : l = m := by
  refine List.Perm.eq_of_pairwise (le := fun x y => ltRow y x = false) (fun a b _ _ h1 h2 => ltRow_anti a b h2 h1) hl hm hp
/-- A row into an ascending list, behind all that are not above it. -/
def insR (r : DRow) (l : List DRow) : List DRow := l.filter (fun x => !ltRow r x) ++ r :: l.filter (fun x => ltRow r x)
/-- The sorted list. -/
def sortR (l : List DRow) : List DRow := l.foldl (fun out r => insR r out) []
theorem insR_perm (r : DRow) (l : List DRow) : (insR r l).Perm (r :: l) := by
  unfold insR
  refine List.perm_middle.trans (List.Perm.cons _ ?_)
  have := List.filter_append_perm (fun x => !ltRow r x) l
  simpa using this
theorem insR_up (r : DRow) (l : List DRow) (h : UpR l) : UpR (insR r l) := by
  unfold insR UpR
  rw [List.pairwise_append, List.pairwise_cons]
  refine ⟨h.filter _, ⟨fun x hx => ?_, h.filter _⟩, fun x hx y hy => ?_⟩
  · simp only [List.mem_filter] at hx
    exact swo_row.asymmA hx.2
  · simp only [List.mem_filter, Bool.not_eq_true', List.mem_cons] at hx hy
    rcases hy with rfl | hy
    · exact hx.2
    · exact swo_row.ntrans _ _ _ (swo_row.asymmA hy.2) hx.2
theorem fold_ins (l : List DRow) : ∀ out, UpR out → UpR (l.foldl (fun out r => insR r out) out) ∧ (l.foldl (fun out r => insR r out) out).Perm (out ++ l) := by
  induction l with
  | nil => intro out h; exact ⟨h, by simp⟩
  | cons r l ih =>
    intro out h
    obtain ⟨h1, h2⟩ := ih (insR r out) (insR_up r out h)
    refine ⟨h1, h2.trans ?_⟩
    refine ((insR_perm r out).append_right l).trans ?_
    simpa using List.perm_middle.symm
theorem sortR_up (l : List DRow) : UpR (sortR l) := (fold_ins l [] List.Pairwise.nil).1
theorem sortR_perm (l : List DRow) : (sortR l).Perm l := by
  have h := (fold_ins l [] List.Pairwise.nil).2
  rw [List.nil_append] at h; exact h
theorem sortR_eq {l m : List DRow} (hp : m.Perm l) (h : UpR m) : m = sortR l := upR_unique (hp.trans (sortR_perm l).symm) h (sortR_up l)
theorem sortR_nil : sortR [] = [] := rfl
theorem sortR_len (l : List DRow) : (sortR l).length = l.length := (sortR_perm l).length_eq
theorem sortR_snoc (l : List DRow) (r : DRow) : sortR (l ++ [r]) = insR r (sortR l) := by unfold sortR; rw [List.foldl_append]; rfl
theorem sortR_take {l : List DRow} {k : Nat} (h : k < l.length) : sortR (l.take (k + 1)) = insR l[k] (sortR (l.take k)) := by
  rw [List.take_succ_eq_append_getElem h, sortR_snoc]
/-- Where a row goes in, sought from above. -/
theorem insR_at {r : DRow} {l : List DRow} (h : UpR l) {k : Nat} (hk : k ≤ l.length) (hi : ∀ j (hj : j < l.length), k ≤ j → ltRow r l[j] = true) (hlo : ∀ (h : 0 < k), ltRow r (l[k - 1]'(by omega)) = false) : insR r l = l.take k ++ r :: l.drop k := by
  have h1 : ∀ x ∈ l.take k, ltRow r x = false := by
    intro x hx
    obtain ⟨i, hi', rfl⟩ := List.getElem_of_mem hx
    have hik : i < k := by simp at hi'; omega
    rw [List.getElem_take]
    by_cases e : i = k - 1
    · subst e; exact hlo (by omega)
    · have := List.pairwise_iff_getElem.1 h i (k - 1) (by omega) (by omega) (by omega)
      exact swo_row.ntrans _ _ _ (hlo (by omega)) this
  have h2 : ∀ x ∈ l.drop k, ltRow r x = true := by
    intro x hx
    obtain ⟨i, hi', rfl⟩ := List.getElem_of_mem hx
    rw [List.getElem_drop]
    exact hi _ _ (by omega)
  unfold insR
  have e : l = l.take k ++ l.drop k := (List.take_append_drop k l).symm
  have f1 : l.filter (fun x => !ltRow r x) = l.take k := by
    conv => lhs; rw [e]
    rw [List.filter_append, List.filter_eq_self.2 (fun x hx => by simp [h1 x hx]), List.filter_eq_nil_iff.2 (fun x hx => by simp [h2 x hx]), List.append_nil]
  have f2 : l.filter (fun x => ltRow r x) = l.drop k := by
    conv => lhs; rw [e]
    rw [List.filter_append, List.filter_eq_nil_iff.2 (fun x hx => by simp [h1 x hx]), List.filter_eq_self.2 (fun x hx => h2 x hx), List.nil_append]
  rw [f1, f2]
end Go.Proofs.YtcdcpfcmhmhdjaaGreatDoor

/- The comparison of rows. -/
namespace Go.Proofs.YtcdcpfcmhmhdjaaGreatDoor
open Go.RowKit Go.Sort Go.ChangeShapes Go.WideShapes Go.Deep
theorem cmp_isNaN (n : Int) (w : World) : Calls Tryz.prog 90 #[.int .i64 n] w fun e w' => e = .returned (.bool false) ∧ w' = w := by
  go_enter Tryz.func90, Tryz.ntmps90
  go_wp2
  go_ret
  exact ⟨rfl, rfl⟩
def cmpI (x y : Int) : Int := if x < y then -1 else if y < x then 1 else 0
set_option maxRecDepth 100000 in
theorem cmp_Compare (x y : Int) (w : World) : Calls Tryz.prog 74 #[.int .i64 x, .int .i64 y] w fun e w' => e = .returned (.int .i64 (cmpI x y)) ∧ w' = w := by
  go_enter Tryz.func74, Tryz.ntmps74
  go_wp2_with fail
  refine (cmp_isNaN x _).mono ?_
  rintro e w1 ⟨rfl, rfl⟩
  go_wp2_with fail
  refine (cmp_isNaN y _).mono ?_
  rintro e w1 ⟨rfl, rfl⟩
  by_cases h1 : x < y
  · have H1 := Lib.hid h1
    go_wp2_with fail
    go_ret
    exact ⟨ret_int (by have h1 := H1.out; simp [cmpI, h1]), rfl⟩
  · have H1 := Lib.hid h1
    by_cases h2 : y < x
    · have H2 := Lib.hid h2
      go_wp2_with fail
      go_ret
      exact ⟨ret_int (by unfold cmpI; have := H1.out; have := H2.out; rw [if_neg (by omega), if_pos (by omega)]), rfl⟩
    · have H2 := Lib.hid h2
      go_wp2_with fail
      go_ret
      exact ⟨ret_int (by unfold cmpI; have := H1.out; have := H2.out; rw [if_neg (by omega), if_neg (by omega)]), rfl⟩
set_option maxRecDepth 100000 in
set_option maxHeartbeats 1000000 in
theorem slices_CompareInts {u v : Value} {xs ys : List Int} {w : World} (hx : RInts w u xs) (hy : RInts w v ys) : Calls Tryz.prog 51 #[u, v] w fun e w' => e = .returned (.int .i64 (cmpInts xs ys)) ∧ w' = w := by
  obtain ⟨a, cap, rfl, hl, hm, hx⟩ := hx.open
  obtain ⟨a', cap', rfl, hl', hm', hy⟩ := hy.open
  go_enter Tryz.func51, Tryz.ntmps51
  go_wp2_with fail
  go_loopw [11] (fun i wr => ∃ j : Nat, j ≤ xs.length ∧ j ≤ ys.length ∧ i = .int .i64 j ∧ Hid (cmpInts (xs.drop j) (ys.drop j) = cmpInts xs ys) ∧ wr = w) (fun i _ => xs.length - (intOf i).toNat)
  case atStart => exact ⟨0, Nat.zero_le _, Nat.zero_le _, rfl, Lib.hid (by simp), rfl⟩
  case round =>
    obtain ⟨j, hj, hj', rfl, HC, rfl⟩ := hrel
    by_cases hlt : j < xs.length
    · have hlz : (j : Int) < (xs.length : Int) := by omega
      obtain ⟨b, off, rfl, hc, hi64⟩ := hx j hlt
      by_cases hlt' : j < ys.length
      · have hlz' : (j : Int) < (ys.length : Int) := by omega
        obtain ⟨b', off', rfl, hc', hi64'⟩ := hy j hlt'
        have HE := Lib.hid (cmpInts_at hlt hlt')
        generalize xs[j] = x at hc hi64 HE
        generalize ys[j] = y at hc' hi64' HE
        go_wp2_with fail
        refine (cmp_Compare x y _).mono ?_
        rintro e w1 ⟨rfl, rfl⟩
        by_cases h1 : x < y
        · have H1 := Lib.hid h1
          have e0 : cmpI x y = -1 := by simp [cmpI, h1]
          rw [e0]
          go_wp2_with fail
          go_ret
          exact ⟨ret_int (by have := HE.out; rw [if_pos H1.out, HC.out] at this; rw [this]), rfl⟩
        · have H1 := Lib.hid h1
          by_cases h2 : y < x
          · have H2 := Lib.hid h2
            have e0 : cmpI x y = 1 := by simp [cmpI, h1, h2]
            rw [e0]
            go_wp2_with fail
            go_ret
            exact ⟨ret_int (by have := HE.out; rw [if_neg (show ¬ x < y by have := H1.out; omega), if_pos H2.out, HC.out] at this; rw [this]), rfl⟩
          · have H2 := Lib.hid h2
            have e0 : cmpI x y = 0 := by simp [cmpI, h1, h2]
            rw [e0]
            go_wp2_with fail
            go_roundw
            case rel => exact ⟨j + 1, by omega, by omega, by go_num, Lib.hid (by have := HE.out; rw [if_neg (show ¬ x < y by have := H1.out; omega), if_neg (show ¬ y < x by have := H2.out; omega), HC.out] at this; exact this.symm), by first | rfl | trivial⟩
            case measure => simp [intOf]; omega
      · have hlz' : ¬ (j : Int) < (ys.length : Int) := by omega
        have HE := Lib.hid (cmpInts_more hlt (Nat.le_of_not_lt hlt'))
        go_wp2_with fail
        go_ret
        exact ⟨ret_int (by rw [← HC.out, HE.out]), rfl⟩
    · have hlz : ¬ (j : Int) < (xs.length : Int) := by omega
      by_cases hlt' : xs.length < ys.length
      · have hlz' : (xs.length : Int) < (ys.length : Int) := by omega
        have HE := Lib.hid (cmpInts_less (k := j) (xs := xs) (ys := ys) (by omega) (by omega))
        go_wp2_with fail
        go_ret
        exact ⟨ret_int (by rw [← HC.out, HE.out]), rfl⟩
      · have hlz' : ¬ (xs.length : Int) < (ys.length : Int) := by omega
        have HE := Lib.hid (cmpInts_same (k := j) (xs := xs) (ys := ys) (by omega) (by omega))
        go_wp2_with fail
        go_ret
        exact ⟨ret_int (by rw [← HC.out, HE.out]), rfl⟩
set_option maxRecDepth 100000 in
set_option maxHeartbeats 1000000 in
theorem cmp_rows {x y : DRow} {u v : Value} {w : World} (hx : RInts w u x.vals) (hy : RInts w v y.vals) : Calls Tryz.prog 50 #[.agg #[.int .i64 x.id, u], .agg #[.int .i64 y.id, v]] w fun e w' => e = .returned (.int .i64 (cmpRow x y)) ∧ Gr w w' := by
  obtain ⟨a, c, rfl⟩ := hx.form
  obtain ⟨a', c', rfl⟩ := hy.form
  have HX := Lib.hid hx
  have HY := Lib.hid hy
  clear hx hy
  obtain ⟨id, vs⟩ := x
  obtain ⟨id', vs'⟩ := y
  simp only at HX HY
  have hg : Hid (Gr w ((w.alloc (.cells #[.int .i64 id, .slice a vs.length c] 36)).alloc (.cells #[.int .i64 id', .slice a' vs'.length c'] 36))) := Lib.hid (((Gr.refl w).alloc _).alloc _)
  go_enter Tryz.func50, Tryz.ntmps50
  by_cases h1 : id < id'
  · have H1 := Lib.hid h1
    go_wp2_with fail
    go_ret
    exact ⟨ret_int (by have h1 := H1.out; simp [cmpRow, h1]), hg.out⟩
  · have H1 := Lib.hid h1
    by_cases h2 : id' < id
    · have H2 := Lib.hid h2
      go_wp2_with fail
      go_ret
      exact ⟨ret_int (by unfold cmpRow; simp only; have := H1.out; have := H2.out; rw [if_neg (by omega), if_pos (by omega)]), hg.out⟩
    · have H2 := Lib.hid h2
      go_wp2_with fail
      refine (slices_CompareInts (HX.out.mono hg.out) (HY.out.mono hg.out)).mono ?_
      rintro e w1 ⟨rfl, rfl⟩
      go_wp2_with fail
      go_ret
      exact ⟨ret_int (by unfold cmpRow; simp only; have := H1.out; have := H2.out; rw [if_neg (by omega), if_neg (by omega)]), hg.out⟩
end Go.Proofs.YtcdcpfcmhmhdjaaGreatDoor

/- The library's stable sort at rows, step by step: the insertion sort. -/
namespace Go.Proofs.YtcdcpfcmhmhdjaaGreatDoor
open Go.RowKit Go.Sort Go.ChangeShapes Go.WideShapes Go.Deep
variable {F : Nat → Prop} {g cap : Nat} {w w' : World} {d : Array El}
def ltE (x y : El) : Bool := ltRow x.r y.r
theorem swo_E : SWO ltE := ⟨fun x => swo_row.irrefl x.r, fun x y z => swo_row.trans x.r y.r z.r, fun x y z => swo_row.ntrans x.r y.r z.r⟩
theorem ltE_yes {x y : El} {c : Int} (h : cmpRow x.r y.r = c) (hc : c < 0) : ltE x y = true := by unfold ltE; rw [← cmpRow_lt, h]; exact decide_eq_true hc
theorem ltE_no {x y : El} {c : Int} (h : cmpRow x.r y.r = c) (hc : ¬ c < 0) : ltE x y = false := by unfold ltE; rw [← cmpRow_lt, h]; exact decide_eq_false hc
/-- Two elements of the row, compared. -/
theorem SA.cmpAll (h : SA F g cap w d) {I J : Nat} (hx : I < d.size) (hy : J < d.size) : ∃ ax nx kx ay ny ky ix iy c,
    w.cell? ⟨g, I * 2, none⟩ = some (.int .i64 ix) ∧ w.cell? ⟨g, I * 2 + 1, none⟩ = some (.slice ax nx kx) ∧ w.cell? ⟨g, J * 2, none⟩ = some (.int .i64 iy) ∧ w.cell? ⟨g, J * 2 + 1, none⟩ = some (.slice ay ny ky) ∧
    Hid (cmpRow d[I]!.r d[J]!.r = c) ∧ ∀ q : Ext w, Calls Tryz.prog 50 #[.agg #[.int .i64 ix, .slice ax nx kx], .agg #[.int .i64 iy, .slice ay ny ky]] q.val fun e w' => e = .returned (.int .i64 c) ∧ Gr q.val w' := by
  obtain ⟨cx, cx1⟩ := h.cell hx
  obtain ⟨cy, cy1⟩ := h.cell hy
  have rx := h.reads hx
  have ry := h.reads hy
  obtain ⟨ax, nx, kx, hux⟩ := (h.el _ hx).2.1.isSl
  obtain ⟨ay, ny, ky, huy⟩ := (h.el _ hy).2.1.isSl
  rw [hux] at cx1 rx
  rw [huy] at cy1 ry
  exact ⟨ax, nx, kx, ay, ny, ky, _, _, _, cx, cx1, cy, cy1, Lib.hid rfl, fun q => cmp_rows (RInts.mono q.gr rx) (RInts.mono q.gr ry)⟩
theorem PermIn.step {a b : Nat} {d1 : Array El} (hp : PermIn a b d d1) {i j : Nat} (hi : a ≤ i ∧ i < b) (hj : a ≤ j ∧ j < b) (hb : b ≤ d.size) : PermIn a b d (swp d1 i j) := permIn_one a hp hi hj hb
set_option maxRecDepth 100000 in
set_option maxHeartbeats 2000000 in
theorem std_insertion (h : SA F g cap w d) (hsz : d.size ≤ 1048576) {a b : Nat} (hab : a ≤ b) (hb : b ≤ d.size) :
    Calls Tryz.prog 88 #[.slice (some ⟨g, 0, none⟩) d.size cap, .int .i64 a, .int .i64 b, .func (.func 50) #[] #[]] w fun e w' =>
      e = .returned (.tuple #[]) ∧ ∃ d', SA F g cap w' d' ∧ SortedIn ltE a b d' ∧ PermIn a b d d' ∧ Chg (fun k => k = g) w w' := by
  have HS := Lib.hid h
  clear h
  go_enter Tryz.func88, Tryz.ntmps88
  go_wp2_with fail
  go_loopw [8] (fun vi wr => ∃ (i : Nat) (d1 : Array El), vi = .int .i64 i ∧ a + 1 ≤ i ∧ i ≤ b + 1 ∧ SA F g cap wr d1 ∧ SortedIn ltE a i d1 ∧ PermIn a b d d1 ∧ Chg (fun k => k = g) w wr) (fun vi _ => b - (intOf vi).toNat)
  case atStart => exact ⟨a + 1, d, by go_num, Nat.le_refl _, by omega, HS.out, sorted_one _ _ (Nat.le_refl _) _, permIn_refl _ _ _, Chg.refl _ _⟩
  case round =>
    obtain ⟨i, d1, rfl, hai, hib, h1, h2, h3, h4⟩ := hrel
    by_cases hlt : i < b
    · have hlz : (i : Int) < (b : Int) := by omega
      have H1 := Lib.hid h1
      have H2 := Lib.hid h2
      have H3 := Lib.hid h3
      have H4 := Lib.hid h4
      clear h1 h2 h3 h4
      obtain ⟨W1, hW1⟩ : ∃ W1, W1 = wr := ⟨_, rfl⟩
      rw [← hW1]; rw [← hW1] at H1 H4; clear hW1
      go_wp2_with fail
      go_loopw [9] (fun vj wr => ∃ (j : Nat) (d2 : Array El), vj = .int .i64 j ∧ a ≤ j ∧ j ≤ i ∧ SA F g cap wr d2 ∧ Ins ltE a j i d2 ∧ PermIn a b d d2 ∧ Chg (fun k => k = g) w wr) (fun vj _ => (intOf vj).toNat)
      case atStart => exact ⟨i, d1, rfl, by omega, Nat.le_refl _, H1.out, ⟨fun p q hap hpq hqi _ hq => H2.out p q hap hpq (by omega), fun q h1 h2 => by omega⟩, H3.out, H4.out⟩
      case round =>
        obtain ⟨j, d2, rfl, haj, hji, k1, k2, k3, k4⟩ := hrel
        have hz : d2.size = d.size := k3.1
        by_cases hja : a < j
        · have hjz : (a : Int) < (j : Int) := by omega
          have hjd : decide ((j : Int) > (a : Int)) = true := decide_eq_true hjz
          obtain ⟨J, hJ⟩ : ∃ J, J = j - 1 := ⟨_, rfl⟩
          have hx : j < d2.size := by omega
          have hy : J < d2.size := by omega
          have hne : j ≠ J := by omega
          have i1 : (j : Int) < (d.size : Int) := by omega
          have i2 : (j : Int) - 1 < (d.size : Int) := by omega
          have i3 : (0 : Int) ≤ (j : Int) - 1 := by omega
          have e2 : ((j : Int) - 1).toNat = J := by omega
          obtain ⟨n1, n2, n3, n4, n5, n6⟩ := ne_facts hne
          obtain ⟨ax, nx, kx, ay, ny, ky, ix, iy, c, cx, cx1, cy, cy1, HC, hcmp⟩ := k1.cmpAll hx hy
          have K1 := Lib.hid k1
          have K2 := Lib.hid k2
          have K3 := Lib.hid k3
          have K4 := Lib.hid k4
          have HJ := Lib.hid hJ
          clear k1 k2 k3 k4 hJ
          by_cases hc : c < 0
          · have hcd : decide (c < 0) = true := decide_eq_true hc
            go_wp2_with fail
            have q0 := fun q : Ext wr => Ext.cell cx q
            have q1 := fun q : Ext wr => Ext.cell cx1 q
            have q2 := fun q : Ext wr => Ext.cell cy q
            have q3 := fun q : Ext wr => Ext.cell cy1 q
            refine wp_region_ext (by kernel_rfl) (by kernel_rfl) ?_
            repeat (go_big_quiet_step ((go_at_call 50; exact quiet_ext (hcmp _))))
            refine wpQuiet_nil ?_
            intro w1 hw1
            have g1 := Ext.out hw1
            clear hw1 q0 q1 q2 q3 cx cx1 cy cy1 hcmp
            have L1 := K1.out.gr g1
            obtain ⟨ax, nx, kx, ay, ny, ky, ix, iy, cx, cx1, cy, cy1, fx, fx1, fy, fy1, HS1, HC1⟩ := L1.swapAll hx hy hne
            have HI : Hid (Ins ltE a J i (swp d2 j J)) := Lib.hid (by
              obtain rfl : j = J + 1 := by have := HJ.out; omega
              exact Ins.step K2.out (ltE_yes HC.out hc) (by omega) (by omega))
            have HP : Hid (PermIn a b d (swp d2 j J)) := Lib.hid (PermIn.step K3.out (by omega) (by have := HJ.out; omega) hb)
            have HG := Lib.hid g1
            clear L1 g1
            go_wp2_with fail
            go_big_region
            go_wp2_with fail
            go_roundw
            case rel => exact ⟨J, _, by have := HJ.out; go_num, by have := HJ.out; omega, by have := HJ.out; omega, HS1.out, HI.out, HP.out, (K4.out.trans (chg_gr HG.out)).trans HC1.out⟩
            case measure => have := HJ.out; simp [intOf]; omega
          · have hcd : decide (c < 0) = false := decide_eq_false hc
            go_wp2_with fail
            have q0 := fun q : Ext wr => Ext.cell cx q
            have q1 := fun q : Ext wr => Ext.cell cx1 q
            have q2 := fun q : Ext wr => Ext.cell cy q
            have q3 := fun q : Ext wr => Ext.cell cy1 q
            refine wp_region_ext (by kernel_rfl) (by kernel_rfl) ?_
            repeat (go_big_quiet_step ((go_at_call 50; exact quiet_ext (hcmp _))))
            refine wpQuiet_nil ?_
            intro w1 hw1
            have g1 := Ext.out hw1
            clear hw1 q0 q1 q2 q3 cx cx1 cy cy1 hcmp
            have HG := Lib.hid g1
            have HSo : Hid (SortedIn ltE a (i + 1) d2) := Lib.hid (Ins.stop swo_E K2.out (Or.inr (by rw [← HJ.out]; exact ltE_no HC.out (by omega))))
            clear g1
            go_wp2_with fail
            go_roundw
            case rel => exact ⟨i + 1, d2, by go_num, by omega, by omega, K1.out.gr HG.out, HSo.out, K3.out, K4.out.trans (chg_gr HG.out)⟩
            case measure => simp [intOf]; omega
        · have hjz : ¬ (a : Int) < (j : Int) := by omega
          have hjd : decide ((j : Int) > (a : Int)) = false := decide_eq_false hjz
          have K := Lib.hid (And.intro k1 (And.intro (Ins.stop swo_E k2 (Or.inl (by omega))) (And.intro k3 k4)))
          clear k1 k2 k3 k4
          go_wp2_with fail
          go_big_region
          go_wp2_with fail
          go_roundw
          case rel => exact ⟨i + 1, d2, by go_num, by omega, by omega, K.out.1.gr (Gr.refl _).drew, K.out.2.1, K.out.2.2.1, K.out.2.2.2.drew⟩
          case measure => simp [intOf]; omega
    · have hlz : ¬ (i : Int) < (b : Int) := by omega
      go_wp2_with fail
      go_end0
      exact ⟨rfl, d1, h1, fun p q hp hpq hq => h2 p q hp hpq (by omega), h3, h4⟩
end Go.Proofs.YtcdcpfcmhmhdjaaGreatDoor

/- The library's stable sort at rows, step by step: the merge in place. (Printed by gen_symm.py.) -/
namespace Go.Proofs.YtcdcpfcmhmhdjaaGreatDoor
open Go.RowKit Go.Sort Go.ChangeShapes Go.WideShapes Go.Deep
variable {F : Nat → Prop} {g cap : Nat}
def MergeP (K : Nat) : Prop := ∀ (F : Nat → Prop) (g cap : Nat) (w : World) (d : Array El) (a m b : Nat), SA F g cap w d → d.size ≤ 1048576 → b - a = K → a < m → m < b → b ≤ d.size → SortedIn ltE a m d → SortedIn ltE m b d →
    Calls Tryz.prog 89 #[.slice (some ⟨g, 0, none⟩) d.size cap, .int .i64 a, .int .i64 m, .int .i64 b, .func (.func 50) #[] #[]] w fun e w' =>
      e = .returned (.tuple #[]) ∧ ∃ d', SA F g cap w' d' ∧ SortedIn ltE a b d' ∧ PermIn a b d d' ∧ Chg (fun k => k = g) w w'
theorem MergeP.at {K : Nat} (ih : ∀ k, k < K → MergeP k) {F : Nat → Prop} {g cap : Nat} {w : World} {d : Array El} {a m b : Nat} {A M B : Int} (hA : A = a) (hM : M = m) (hB : B = b) (h : SA F g cap w d) (hsz : d.size ≤ 1048576) (hK : b - a < K) (ham : a < m) (hmb : m < b) (hb : b ≤ d.size) (s1 : SortedIn ltE a m d) (s2 : SortedIn ltE m b d) :
    Calls Tryz.prog 89 #[.slice (some ⟨g, 0, none⟩) d.size cap, .int .i64 A, .int .i64 M, .int .i64 B, .func (.func 50) #[] #[]] w fun e w' =>
      e = .returned (.tuple #[]) ∧ ∃ d', SA F g cap w' d' ∧ SortedIn ltE a b d' ∧ PermIn a b d d' ∧ Chg (fun k => k = g) w w' := by
  subst hA hM hB; exact ih _ hK F g cap w d a m b h hsz rfl ham hmb hb s1 s2
theorem std_rotate' {w : World} {d : Array El} (h : SA F g cap w d) (hsz : d.size ≤ 1048576) {a m b : Nat} {A M B : Int} (hA : A = a) (hM : M = m) (hB : B = b) (ham : a < m) (hmb : m < b) (hb : b ≤ d.size) (c : Value) :
    Calls Tryz.prog 107 #[.slice (some ⟨g, 0, none⟩) d.size cap, .int .i64 A, .int .i64 M, .int .i64 B, c] w fun e w' =>
      e = .returned (.tuple #[]) ∧ ∃ d', SA F g cap w' d' ∧ Rot m (m - a) (b - m) d d' ∧ PermIn a b d d' ∧ Chg (fun k => k = g) w w' := by
  subst hA hM hB; exact std_rotate h hsz ham hmb hb c
def bothB (x y z : Nat) : Bool := decide (x < y ∧ y < z)
theorem bothB_yes {x y z : Nat} (h : bothB x y z = true) : x < y ∧ y < z := of_decide_eq_true h
theorem bothB_no {x y z : Nat} (h : bothB x y z = false) : ¬ (x < y ∧ y < z) := of_decide_eq_false h
def Half1 (F : Nat → Prop) (g cap a i mid E b : Nat) (w : World) (d : Array El) (w1 : World) (d1 : Array El) : Prop := SA F g cap w1 d1 ∧ d1.size = d.size ∧ SortedIn ltE a i d1 ∧ SortedIn ltE i mid d1 ∧ SortedIn ltE mid E d1 ∧ SortedIn ltE E b d1 ∧ (∀ p q, a ≤ p → p < mid → mid ≤ q → q < b → ltE d1[q]! d1[p]! = false) ∧ PermIn a b d d1 ∧ Chg (fun k => k = g) w w1
def Half2 (F : Nat → Prop) (g cap a mid E b : Nat) (w : World) (d : Array El) (w2 : World) (d2 : Array El) : Prop := SA F g cap w2 d2 ∧ d2.size = d.size ∧ SortedIn ltE a mid d2 ∧ SortedIn ltE mid E d2 ∧ SortedIn ltE E b d2 ∧ (∀ p q, a ≤ p → p < mid → mid ≤ q → q < b → ltE d2[q]! d2[p]! = false) ∧ PermIn a b d d2 ∧ Chg (fun k => k = g) w w2
set_option maxRecDepth 100000 in
set_option maxHeartbeats 4000000 in
theorem merge_left (K : Nat) (ih : ∀ k, k < K → MergeP k) (F : Nat → Prop) (g cap : Nat) (w : World) (d : Array El) (a m b : Nat) (h : SA F g cap w d) (hsz : d.size ≤ 1048576) (_ : b - a = K) (_ : a < m) (hmb : m < b) (hb : b ≤ d.size) (s1 : SortedIn ltE a m d) (s2 : SortedIn ltE m b d) (hA : m = a + 1) :
    Calls Tryz.prog 89 #[.slice (some ⟨g, 0, none⟩) d.size cap, .int .i64 a, .int .i64 m, .int .i64 b, .func (.func 50) #[] #[]] w fun e w' =>
      e = .returned (.tuple #[]) ∧ ∃ d', SA F g cap w' d' ∧ SortedIn ltE a b d' ∧ PermIn a b d d' ∧ Chg (fun k => k = g) w w' := by
  have HS := Lib.hid h
  have IH := Lib.hid ih
  have S1 := Lib.hid s1
  have S2 := Lib.hid s2
  clear h ih s1 s2
  have HA := Lib.hid hA
  have hAz : (m : Int) - (a : Int) = 1 := by omega
  clear hA
  go_enter Tryz.func89, Tryz.ntmps89
  go_wp2_with fail
  go_loopw [10, 11] (fun vi vj wr => ∃ (i j : Nat), vi = .int .i64 i ∧ vj = .int .i64 j ∧ m ≤ i ∧ i ≤ j ∧ j ≤ b ∧ Hid (∀ k, a + 1 ≤ k → k < i → ltE d[k]! d[a]! = true) ∧ Hid (∀ k, j ≤ k → k < b → ltE d[k]! d[a]! = false) ∧ Hid (SA F g cap wr d) ∧ Hid (Chg (fun k => k = g) w wr)) (fun vi vj _ => (intOf vj).toNat - (intOf vi).toNat)
  case atStart => exact ⟨m, b, rfl, rfl, Nat.le_refl _, by omega, Nat.le_refl _, Lib.hid (fun k h1 h2 => by have := HA.out; omega), Lib.hid (fun k h1 h2 => by omega), HS, Lib.hid (Chg.refl _ _)⟩
  case round =>
    obtain ⟨i, j, rfl, rfl, hmi, hij, hjb, L1, L2, H1, H2⟩ := hrel
    by_cases hlt : i < j
    · have hlz : (i : Int) < (j : Int) := by omega
      obtain ⟨H, hH⟩ : ∃ H, H = (i + j) / 2 := ⟨_, rfl⟩
      have hHi : i ≤ H := by omega
      have hHj : H < j := by omega
      have e1 : (((i : Int) + (j : Int)) / 2).toNat = H := by omega
      have i1 : ((i : Int) + (j : Int)) / 2 < (d.size : Int) := by omega
      have i0 : (0 : Int) ≤ ((i : Int) + (j : Int)) / 2 := by omega
      have i2 : (a : Int) < (d.size : Int) := by omega
      have HH := Lib.hid hH
      clear hH
      obtain ⟨ax, nx, kx, ay, ny, ky, ix, iy, c, cx, cx1, cy, cy1, HC, hcmp⟩ := H1.out.cmpAll (I := H) (J := a) (by omega) (by omega)
      by_cases hc : c < 0
      · have hcd : decide (c < 0) = true := decide_eq_true hc
        go_wp2_with fail
        have q0 := fun q : Ext wr => Ext.cell cx q
        have q1 := fun q : Ext wr => Ext.cell cx1 q
        have q2 := fun q : Ext wr => Ext.cell cy q
        have q3 := fun q : Ext wr => Ext.cell cy1 q
        refine wp_region_ext (by kernel_rfl) (by kernel_rfl) ?_
        repeat (go_big_quiet_step ((go_at_call 50; exact quiet_ext (hcmp _))))
        refine wpQuiet_nil ?_
        intro w1 hw1
        have HG := Lib.hid (Ext.out hw1)
        clear hw1 q0 q1 q2 q3 cx cx1 cy cy1 hcmp
        go_wp2_with fail
        go_roundw
        case rel => exact ⟨H + 1, j, by have := HH.out; go_num, rfl, by omega, by omega, hjb, Lib.hid (fun k h1 h2 => less_below swo_E (by rw [← HA.out]; exact S2.out) (by omega) (ltE_yes HC.out hc) k h1 (by omega)), L2, Lib.hid (H1.out.gr HG.out), Lib.hid (H2.out.trans (chg_gr HG.out))⟩
        case measure => have := HH.out; simp [intOf]; omega
      · have hcd : decide (c < 0) = false := decide_eq_false hc
        go_wp2_with fail
        have q0 := fun q : Ext wr => Ext.cell cx q
        have q1 := fun q : Ext wr => Ext.cell cx1 q
        have q2 := fun q : Ext wr => Ext.cell cy q
        have q3 := fun q : Ext wr => Ext.cell cy1 q
        refine wp_region_ext (by kernel_rfl) (by kernel_rfl) ?_
        repeat (go_big_quiet_step ((go_at_call 50; exact quiet_ext (hcmp _))))
        refine wpQuiet_nil ?_
        intro w1 hw1
        have HG := Lib.hid (Ext.out hw1)
        clear hw1 q0 q1 q2 q3 cx cx1 cy cy1 hcmp
        go_wp2_with fail
        go_roundw
        case rel => exact ⟨i, H, rfl, by have := HH.out; go_num, hmi, hHi, by omega, L1, Lib.hid (fun k h1 h2 => less_above swo_E S2.out (by omega) (ltE_no HC.out (by omega)) k h1 h2), Lib.hid (H1.out.gr HG.out), Lib.hid (H2.out.trans (chg_gr HG.out))⟩
        case measure => have := HH.out; simp [intOf]; omega
    · have hlz : ¬ (i : Int) < (j : Int) := by omega
      obtain rfl : i = j := by omega
      obtain ⟨W1, hW1⟩ : ∃ W1, W1 = wr := ⟨_, rfl⟩
      rw [← hW1]; rw [← hW1] at H1 H2; clear hW1
      go_wp2_with fail
      go_loopw [13] (fun vk wr => ∃ (k : Nat) (d1 : Array El), vk = .int .i64 k ∧ a ≤ k ∧ k ≤ i - 1 ∧ d1.size = d.size ∧ Hid (SA F g cap wr d1) ∧ Hid (MovedUp a k d d1) ∧ Hid (PermIn a b d d1) ∧ Hid (Chg (fun k => k = g) w wr)) (fun vk _ => i - (intOf vk).toNat)
      case atStart => exact ⟨a, d, rfl, Nat.le_refl _, by omega, rfl, H1, Lib.hid (MovedUp.zero _ _), Lib.hid (permIn_refl _ _ _), H2⟩
      case round =>
        obtain ⟨k, d1, rfl, hak, hki, hz, T1, T2, T3, T4⟩ := hrel
        by_cases hlk : k < i - 1
        · have hlkz : (k : Int) < (i : Int) - 1 := by omega
          have hx : k < d1.size := by omega
          have hy : k + 1 < d1.size := by omega
          have hne : k ≠ k + 1 := by omega
          have i1 : (k : Int) < (d.size : Int) := by omega
          have i2 : (k : Int) + 1 < (d.size : Int) := by omega
          have e2 : ((k : Int) + 1).toNat = k + 1 := by omega
          obtain ⟨n1, n2, n3, n4, n5, n6⟩ := ne_facts hne
          obtain ⟨ax, nx, kx, ay, ny, ky, ix, iy, cx, cx1, cy, cy1, fx, fx1, fy, fy1, HS1, HC1⟩ := T1.out.swapAll hx hy hne
          go_wp2_with fail
          go_big_region
          go_wp2_with fail
          go_roundw
          case rel => exact ⟨k + 1, swp d1 k (k + 1), by go_num, by omega, by omega, by rw [swp_size]; exact hz, HS1, Lib.hid (T2.out.step hak (by omega)), Lib.hid (PermIn.step T3.out (by omega) (by omega) hb), Lib.hid (T4.out.trans HC1.out)⟩
          case measure => simp [intOf]; omega
        · have hlkz : ¬ (k : Int) < (i : Int) - 1 := by omega
          obtain rfl : k = i - 1 := by omega
          go_wp2_with fail
          (try simp only [Exit.inBlock, Exit.then])
          refine bodyPost_ret (results_none rfl _ _ _) rfl ?_
          exact ⟨rfl, d1, T1.out, sorted_up swo_E (by rw [← HA.out]; exact S2.out) (by have := HA.out; omega) hjb L1.out L2.out T2.out, T3.out, T4.out⟩
set_option maxRecDepth 100000 in
set_option maxHeartbeats 4000000 in
theorem merge_right (K : Nat) (ih : ∀ k, k < K → MergeP k) (F : Nat → Prop) (g cap : Nat) (w : World) (d : Array El) (a m b : Nat) (h : SA F g cap w d) (hsz : d.size ≤ 1048576) (_ : b - a = K) (ham : a < m) (_ : m < b) (hb : b ≤ d.size) (s1 : SortedIn ltE a m d) (s2 : SortedIn ltE m b d) (hA : m ≠ a + 1) (hB : b = m + 1) :
    Calls Tryz.prog 89 #[.slice (some ⟨g, 0, none⟩) d.size cap, .int .i64 a, .int .i64 m, .int .i64 b, .func (.func 50) #[] #[]] w fun e w' =>
      e = .returned (.tuple #[]) ∧ ∃ d', SA F g cap w' d' ∧ SortedIn ltE a b d' ∧ PermIn a b d d' ∧ Chg (fun k => k = g) w w' := by
  have HS := Lib.hid h
  have IH := Lib.hid ih
  have S1 := Lib.hid s1
  have S2 := Lib.hid s2
  clear h ih s1 s2
  have HB := Lib.hid hB
  have hAz : ((m : Int) - (a : Int) == 1) = false := by simp; omega
  have hBz : (b : Int) - (m : Int) = 1 := by omega
  clear hA hB
  go_enter Tryz.func89, Tryz.ntmps89
  go_wp2_with fail
  go_loopw [14, 15] (fun vi vj wr => ∃ (i j : Nat), vi = .int .i64 i ∧ vj = .int .i64 j ∧ a ≤ i ∧ i ≤ j ∧ j ≤ m ∧ Hid (∀ k, a ≤ k → k < i → ltE d[m]! d[k]! = false) ∧ Hid (∀ k, j ≤ k → k < m → ltE d[m]! d[k]! = true) ∧ Hid (SA F g cap wr d) ∧ Hid (Chg (fun k => k = g) w wr)) (fun vi vj _ => (intOf vj).toNat - (intOf vi).toNat)
  case atStart => exact ⟨a, m, rfl, rfl, Nat.le_refl _, by omega, Nat.le_refl _, Lib.hid (fun k h1 h2 => by omega), Lib.hid (fun k h1 h2 => by omega), HS, Lib.hid (Chg.refl _ _)⟩
  case round =>
    obtain ⟨i, j, rfl, rfl, hmi, hij, hjb, L1, L2, H1, H2⟩ := hrel
    by_cases hlt : i < j
    · have hlz : (i : Int) < (j : Int) := by omega
      obtain ⟨H, hH⟩ : ∃ H, H = (i + j) / 2 := ⟨_, rfl⟩
      have hHi : i ≤ H := by omega
      have hHj : H < j := by omega
      have e1 : (((i : Int) + (j : Int)) / 2).toNat = H := by omega
      have i1 : ((i : Int) + (j : Int)) / 2 < (d.size : Int) := by omega
      have i0 : (0 : Int) ≤ ((i : Int) + (j : Int)) / 2 := by omega
      have i2 : (m : Int) < (d.size : Int) := by omega
      have HH := Lib.hid hH
      clear hH
      obtain ⟨ax, nx, kx, ay, ny, ky, ix, iy, c, cx, cx1, cy, cy1, HC, hcmp⟩ := H1.out.cmpAll (I := m) (J := H) (by omega) (by omega)
      by_cases hc : c < 0
      · have hcd : decide (c < 0) = true := decide_eq_true hc
        go_wp2_with fail
        have q0 := fun q : Ext wr => Ext.cell cx q
        have q1 := fun q : Ext wr => Ext.cell cx1 q
        have q2 := fun q : Ext wr => Ext.cell cy q
        have q3 := fun q : Ext wr => Ext.cell cy1 q
        refine wp_region_ext (by kernel_rfl) (by kernel_rfl) ?_
        repeat (go_big_quiet_step ((go_at_call 50; exact quiet_ext (hcmp _))))
        refine wpQuiet_nil ?_
        intro w1 hw1
        have HG := Lib.hid (Ext.out hw1)
        clear hw1 q0 q1 q2 q3 cx cx1 cy cy1 hcmp
        go_wp2_with fail
        go_roundw
        case rel => exact ⟨i, H, rfl, by have := HH.out; go_num, hmi, hHi, by omega, L1, Lib.hid (fun k h1 h2 => more_above swo_E S1.out (by omega) (ltE_yes HC.out hc) k h1 h2), Lib.hid (H1.out.gr HG.out), Lib.hid (H2.out.trans (chg_gr HG.out))⟩
        case measure => have := HH.out; simp [intOf]; omega
      · have hcd : decide (c < 0) = false := decide_eq_false hc
        go_wp2_with fail
        have q0 := fun q : Ext wr => Ext.cell cx q
        have q1 := fun q : Ext wr => Ext.cell cx1 q
        have q2 := fun q : Ext wr => Ext.cell cy q
        have q3 := fun q : Ext wr => Ext.cell cy1 q
        refine wp_region_ext (by kernel_rfl) (by kernel_rfl) ?_
        repeat (go_big_quiet_step ((go_at_call 50; exact quiet_ext (hcmp _))))
        refine wpQuiet_nil ?_
        intro w1 hw1
        have HG := Lib.hid (Ext.out hw1)
        clear hw1 q0 q1 q2 q3 cx cx1 cy cy1 hcmp
        go_wp2_with fail
        go_roundw
        case rel => exact ⟨H + 1, j, by have := HH.out; go_num, rfl, by omega, by omega, hjb, Lib.hid (fun k h1 h2 => more_below swo_E S1.out (by omega) (ltE_no HC.out (by omega)) k h1 (by omega)), L2, Lib.hid (H1.out.gr HG.out), Lib.hid (H2.out.trans (chg_gr HG.out))⟩
        case measure => have := HH.out; simp [intOf]; omega
    · have hlz : ¬ (i : Int) < (j : Int) := by omega
      obtain rfl : i = j := by omega
      obtain ⟨W1, hW1⟩ : ∃ W1, W1 = wr := ⟨_, rfl⟩
      rw [← hW1]; rw [← hW1] at H1 H2; clear hW1
      go_wp2_with fail
      go_loopw [17] (fun vk wr => ∃ (k : Nat) (d1 : Array El), vk = .int .i64 k ∧ i ≤ k ∧ k ≤ m ∧ d1.size = d.size ∧ Hid (SA F g cap wr d1) ∧ Hid (MovedDown m k d d1) ∧ Hid (PermIn a b d d1) ∧ Hid (Chg (fun k => k = g) w wr)) (fun vk _ => (intOf vk).toNat)
      case atStart => exact ⟨m, d, rfl, hjb, Nat.le_refl _, rfl, H1, Lib.hid (MovedDown.zero _ _), Lib.hid (permIn_refl _ _ _), H2⟩
      case round =>
        obtain ⟨k, d1, rfl, hak, hki, hz, T1, T2, T3, T4⟩ := hrel
        by_cases hlk : i < k
        · have hlkz : (i : Int) < (k : Int) := by omega
          obtain ⟨J, hJ⟩ : ∃ J, J = k - 1 := ⟨_, rfl⟩
          have hx : k < d1.size := by omega
          have hy : J < d1.size := by omega
          have hne : k ≠ J := by omega
          have i1 : (k : Int) < (d.size : Int) := by omega
          have i2 : (k : Int) - 1 < (d.size : Int) := by omega
          have i3 : (0 : Int) ≤ (k : Int) - 1 := by omega
          have e2 : ((k : Int) - 1).toNat = J := by omega
          have HJ := Lib.hid hJ
          have HT : Hid (MovedDown m J d (swp d1 k J)) := Lib.hid (by
            obtain rfl : k = J + 1 := by omega
            exact T2.out.step (by omega) (by omega))
          clear hJ
          obtain ⟨n1, n2, n3, n4, n5, n6⟩ := ne_facts hne
          obtain ⟨ax, nx, kx, ay, ny, ky, ix, iy, cx, cx1, cy, cy1, fx, fx1, fy, fy1, HS1, HC1⟩ := T1.out.swapAll hx hy hne
          go_wp2_with fail
          go_big_region
          go_wp2_with fail
          go_roundw
          case rel => exact ⟨J, swp d1 k J, by have := HJ.out; go_num, by have := HJ.out; omega, by have := HJ.out; omega, by rw [swp_size]; exact hz, HS1, HT, Lib.hid (PermIn.step T3.out (by omega) (by have := HJ.out; omega) hb), Lib.hid (T4.out.trans HC1.out)⟩
          case measure => have := HJ.out; simp [intOf]; omega
        · have hlkz : ¬ (i : Int) < (k : Int) := by omega
          obtain rfl : k = i := by omega
          go_wp2_with fail
          (try simp only [Exit.inBlock, Exit.then])
          refine bodyPost_ret (results_none rfl _ _ _) rfl ?_
          have e3 := HB.out
          exact ⟨rfl, d1, T1.out, by rw [e3]; exact sorted_down swo_E S1.out hmi hki L1.out L2.out T2.out, T3.out, T4.out⟩
end Go.Proofs.YtcdcpfcmhmhdjaaGreatDoor
