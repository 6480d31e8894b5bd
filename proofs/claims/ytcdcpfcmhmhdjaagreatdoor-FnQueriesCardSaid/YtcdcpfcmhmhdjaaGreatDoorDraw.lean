/- The drawing of values: the cursor. -/
import Derived.Test.YtcdcpfcmhmhdjaaGreatDoorOwns
import Derived.Test.YtcdcpfcmhmhdjaaGreatDoorPriv
namespace Go.Proofs.YtcdcpfcmhmhdjaaGreatDoor
open Go.RowKit Go.ChangeShapes Go.WideShapes Go.Deep
def RByte (_ : World) (cs : List Value) (n : Int) : Prop := cs = [.int .u8 n] ∧ 0 ≤ n ∧ n ≤ 255
abbrev RBytes := RSlice 1 RByte
theorem keeps_byte : Keeps RByte := fun _ _ _ _ _ h => h
/-- The bytes of a code, all below block g. -/
def CodeAt (w : World) (g : Nat) (a : Option Addr) (n : Nat) : Prop := ∀ j, j < n → ∃ b off x, a = some ⟨b, off, none⟩ ∧ b < g ∧ w.cell? ⟨b, off + j, none⟩ = some (.int .u8 x) ∧ 0 ≤ x ∧ x ≤ 255
/-- A cursor. -/
def Cur (w : World) (g : Nat) : Prop := ∃ (a : Option Addr) (n c : Nat) (i : Nat) (h : Int), w.heap[g]? = some (.cells #[.slice a n c, .int .i64 i, .int .i64 h] 77) ∧ i ≤ n ∧ n ≤ c ∧ c ≤ 9223372036854775807 ∧ CodeAt w g a n
/-- Nothing but the cursor has changed. -/
abbrev Dr (g : Nat) (w w' : World) : Prop := Chg (fun b => b = g) w w'
theorem Chg.drewN {F : Nat → Prop} {a w : World} (h : Chg F a w) (n : Nat) : Chg F a (w.drewN n) := ⟨h.os, h.tape, h.output, h.size, h.block⟩
theorem CodeAt.keep {w w' : World} {g n : Nat} {a : Option Addr} (h : CodeAt w g a n) (k : ∀ b, b < g → w'.heap[b]? = w.heap[b]?) : CodeAt w' g a n := fun j hj => by
  obtain ⟨b, off, x, e, hb, hc, hx⟩ := h j hj
  exact ⟨b, off, x, e, hb, by rw [World.cell?_of_block (w := w) (k b hb)]; exact hc, hx⟩
theorem Cur.lt {w : World} {g : Nat} (h : Cur w g) : g < w.heap.size := by
  obtain ⟨a, n, c, i, q, hb, _⟩ := h
  exact (Array.getElem?_eq_some_iff.1 hb).1
theorem Cur.keep {w w' : World} {g : Nat} (h : Cur w g) (k : ∀ b, b ≤ g → w'.heap[b]? = w.heap[b]?) : Cur w' g := by
  obtain ⟨a, n, c, i, q, hb, h1, h2, h3, h4⟩ := h
  exact ⟨a, n, c, i, q, by rw [k g (Nat.le_refl _)]; exact hb, h1, h2, h3, h4.keep fun b hb => k b (Nat.le_of_lt hb)⟩
theorem Cur.gr {w w' : World} {g : Nat} (h : Cur w g) (k : Gr w w') : Cur w' g := h.keep fun b hb => k.block b (Nat.lt_of_le_of_lt hb h.lt)
theorem Cur.below {w w' : World} {g lo : Nat} (h : Cur w g) (hg : g < lo) (k : Below lo w w') : Cur w' g := h.keep fun b hb => k.block b (by omega)
theorem heap_set {w : World} {g k : Nat} {cs : Array Value} {t : TypeId} (h : w.heap[g]? = some (.cells cs t)) (v : Value) : (w.setCell ⟨g, k, none⟩ v).heap[g]? = some (.cells (cs.setIfInBounds k v) t) := by
  simp only [World.setCell, Array.getElem?_modify, h]
  simp
theorem and255 (x : Int) : 0 ≤ bits .and .i64 x 255 ∧ bits .and .i64 x 255 ≤ 255 := by
  unfold bits
  simp only [BitVec.toNat_and]
  have h1 : (BitVec.ofInt IntKind.i64.bits x).toNat &&& (BitVec.ofInt IntKind.i64.bits 255).toNat ≤ 255 := Nat.le_trans Nat.and_le_right (by decide)
  rw [IntKind.wrap_i64]
  omega
set_option maxRecDepth 100000 in
set_option maxHeartbeats 1000000 in
theorem spec_l1Byte (g : Nat) (w : World) (hc : Cur w g) : Calls Tryz.prog 75 #[.pointer (some ⟨g, 0, none⟩)] w fun e w' => ∃ x : Int, e = .returned (.int .i64 x) ∧ Hid (0 ≤ x ∧ x ≤ 255) ∧ Hid (Cur w' g ∧ Dr g w w') := by
  obtain ⟨a, n, c, i, h, hb, hin, hnc, hcm, hcode⟩ := hc
  have HC := Lib.hid hcode
  have HB := Lib.hid hb
  have c0 : w.cell? ⟨g, 0, none⟩ = some (.slice a n c) := by simp [World.cell?, hb]
  have c1 : w.cell? ⟨g, 1, none⟩ = some (.int .i64 i) := by simp [World.cell?, hb]
  have c2 : w.cell? ⟨g, 2, none⟩ = some (.int .i64 h) := by simp [World.cell?, hb]
  have f1 : w.frozen? ⟨g, 1, none⟩ = false := by simp [World.frozen?, hb]
  have f2 : w.frozen? ⟨g, 2, none⟩ = false := by simp [World.frozen?, hb]
  clear hb hcode
  by_cases hlt : i < n
  · obtain ⟨b, off, x, rfl, hbg, hx, hx0, hx1⟩ := HC.out i hlt
    have hlz : (i : Int) < (n : Int) := by omega
    have i0 : (0 : Int) ≤ (i : Int) := Int.natCast_nonneg _
    go_enter Tryz.func75, Tryz.ntmps75
    go_wp2_with fail
    go_quiet (fail)
    go_wp2_with fail
    go_quiet (fail)
    go_wp2_with fail
    go_quiet (fail)
    go_wp2_with fail
    go_ret
    refine ⟨_, rfl, Lib.hid (and255 _), Lib.hid ⟨⟨_, n, c, i + 1, _, heap_set (k := 1) (heap_set (k := 2) HB.out _) _, by omega, hnc, hcm, HC.out.keep fun b hb => ?_⟩, ?_⟩⟩
    · exact (Below.heap_setCell _ _ _ _ (by dsimp only; omega)).trans (Below.heap_setCell _ _ _ _ (by dsimp only; omega))
    · exact (((Chg.refl (fun b => b = g) w).setCell (p := ⟨g, 2, none⟩) rfl _).drewN _).setCell (p := ⟨g, 1, none⟩) rfl _
  · have hlz : ¬ (i : Int) < (n : Int) := by omega
    go_enter Tryz.func75, Tryz.ntmps75
    go_wp2_with fail
    go_quiet (fail)
    go_wp2_with fail
    go_quiet (fail)
    go_wp2_with fail
    go_ret
    refine ⟨_, rfl, Lib.hid (and255 _), Lib.hid ⟨⟨_, n, c, i, _, heap_set (k := 2) HB.out _, by omega, hnc, hcm, HC.out.keep fun b hb => ?_⟩, ?_⟩⟩
    · exact Below.heap_setCell _ _ _ _ (by dsimp only; omega)
    · first
      | exact ((Chg.refl (fun b => b = g) w).setCell (p := ⟨g, 2, none⟩) rfl _).drewN _
      | exact (((Chg.refl (fun b => b = g) w).setCell (p := ⟨g, 2, none⟩) rfl _).drewN _).drewN _
set_option maxRecDepth 100000 in
set_option maxHeartbeats 1000000 in
theorem spec_l1New (v : Value) (bs : List Int) (w : World) (hv : RBytes w v bs) : Calls Tryz.prog 22 #[v] w fun e w' => ∃ g, e = .returned (.pointer (some ⟨g, 0, none⟩)) ∧ Hid (w.heap.size ≤ g ∧ Cur w' g ∧ Gr w w') := by
  obtain ⟨a, c, rfl, hl, hm, hx⟩ := hv
  have hcode : CodeAt w w.heap.size a bs.length := fun j hj => by
    obtain ⟨b, off, cs, e, hlen, ⟨rfl, h0, h1⟩, hc⟩ := hx j hj
    have h := hc 0 (by simp)
    exact ⟨b, off, bs[j], e, World.block_lt_of_cell? w _ h, by simpa using h, h0, h1⟩
  have HC := Lib.hid hcode
  clear hx hcode
  generalize bs.length = n at *
  go_enter Tryz.func22, Tryz.ntmps22
  go_wp2_with fail
  go_loopw [3, 4] (fun vh vi wr => ∃ (h : Int) (k : Nat), vh = .int .i64 h ∧ vi = .int .i64 k ∧ k ≤ n ∧ wr = w) (fun _ vi _ => n - (intOf vi).toNat)
  case atStart => exact ⟨_, 0, rfl, rfl, Nat.zero_le _, rfl⟩
  case round =>
    obtain ⟨h, k, rfl, rfl, hk, rfl⟩ := hrel
    by_cases hlt : k < n
    · have hlz : (k : Int) < (n : Int) := by omega
      have i0 : (0 : Int) ≤ (k : Int) := Int.natCast_nonneg _
      obtain ⟨b, off, x, rfl, _, hx, hx0, hx1⟩ := HC.out k hlt
      by_cases h4 : (k : Int) < 4000
      · go_wp2_with fail
        go_roundw
        case rel => exact ⟨_, k + 1, rfl, by go_num, by omega, by first | trivial | rfl⟩
        case measure => simp [intOf]; omega
      · go_wp2_with fail
        go_ret
        exact ⟨_, rfl, Lib.hid ⟨Nat.le_refl _, ⟨_, n, c, 0, _, heap_alloc_new _ _, Nat.zero_le _, hl, hm, HC.out.keep fun b hb => Below.heap_alloc _ _ _ hb⟩, (Gr.refl _).alloc _⟩⟩
    · have hlz : ¬ (k : Int) < (n : Int) := by omega
      go_wp2_with fail
      go_ret
      exact ⟨_, rfl, Lib.hid ⟨Nat.le_refl _, ⟨_, n, c, 0, _, heap_alloc_new _ _, Nat.zero_le _, hl, hm, HC.out.keep fun b hb => Below.heap_alloc _ _ _ hb⟩, (Gr.refl _).alloc _⟩⟩
set_option maxRecDepth 100000 in
set_option maxHeartbeats 1000000 in
theorem spec_l1Below (g : Nat) (n : Int) (w : World) (hc : Cur w g) (hn : 0 < n) (hm : n ≤ 9223372036854775807) : Calls Tryz.prog 53 #[.pointer (some ⟨g, 0, none⟩), .int .i64 n] w fun e w' => ∃ x : Int, e = .returned (.int .i64 x) ∧ Hid (0 ≤ x ∧ x < n) ∧ Hid (Cur w' g ∧ Dr g w w') := by
  have HC := Lib.hid hc
  clear hc
  have n0 : ¬ n ≤ 0 := by omega
  have n1 : ¬ n = 0 := by omega
  by_cases h : n ≤ 256
  · go_enter Tryz.func53, Tryz.ntmps53
    go_wp2_with fail
    refine (spec_l1Byte g _ HC.out).mono ?_
    rintro e w1 ⟨x, rfl, hx, hk⟩
    have x0 := hx.out.1
    have x1 := hx.out.2
    go_wp2_with fail
    go_ret
    exact ⟨_, rfl, Lib.hid ⟨Int.emod_nonneg _ (by omega), Int.emod_lt_of_pos _ hn⟩, hk⟩
  · have n2 : ¬ n ≤ 256 := h
    go_enter Tryz.func53, Tryz.ntmps53
    go_wp2_with fail
    refine (spec_l1Byte g _ HC.out).mono ?_
    rintro e w1 ⟨x, rfl, hx, hk1⟩
    have x0 := hx.out.1
    have x1 := hx.out.2
    go_wp2_with fail
    refine (spec_l1Byte g _ hk1.out.1).mono ?_
    rintro e w2 ⟨y, rfl, hy, hk2⟩
    have y0 := hy.out.1
    have y1 := hy.out.2
    go_wp2_with fail
    refine (spec_l1Byte g _ hk2.out.1).mono ?_
    rintro e w3 ⟨z, rfl, hz, hk3⟩
    have z0 := hz.out.1
    have z1 := hz.out.2
    go_wp2_with fail
    refine (spec_l1Byte g _ hk3.out.1).mono ?_
    rintro e w4 ⟨u, rfl, hu, hk4⟩
    have u0 := hu.out.1
    have u1 := hu.out.2
    go_wp2_with fail
    go_ret
    exact ⟨_, rfl, Lib.hid ⟨Int.emod_nonneg _ (by omega), Int.emod_lt_of_pos _ hn⟩, Lib.hid ⟨hk4.out.1, ((hk1.out.2.trans hk2.out.2).trans hk3.out.2).trans hk4.out.2⟩⟩
set_option maxRecDepth 100000 in
theorem spec_l1Once (g : Nat) (n : Int) (w : World) (hc : Cur w g) (hn : 0 < n) (hm : n ≤ 9223372036854775807) : Calls Tryz.prog 56 #[.pointer (some ⟨g, 0, none⟩), .int .i64 n] w fun e w' => ∃ x : Bool, e = .returned (.bool x) ∧ Hid (Cur w' g ∧ Dr g w w') := by
  have HC := Lib.hid hc
  clear hc
  go_enter Tryz.func56, Tryz.ntmps56
  go_wp2_with fail
  refine (spec_l1Below g n _ HC.out hn hm).mono ?_
  rintro e w1 ⟨x, rfl, hx, hk⟩
  go_wp2_with fail
  go_ret
  exact ⟨_, rfl, hk⟩
set_option maxRecDepth 100000 in
set_option maxHeartbeats 1000000 in
theorem spec_l1PickInt (g : Nat) (v : Value) (xs : List Int) (w : World) (hc : Cur w g) (hv : ∀ w', Dr g w w' → RInts w' v xs) (hn : 0 < xs.length) : Calls Tryz.prog 54 #[.pointer (some ⟨g, 0, none⟩), v] w fun e w' => ∃ x : Int, e = .returned (.int .i64 x) ∧ Hid (x ∈ xs) ∧ Hid (Cur w' g ∧ Dr g w w') := by
  have HC := Lib.hid hc
  obtain ⟨a, c, rfl, _, _, _⟩ := (hv w (Chg.refl _ _)).open
  have HV := Lib.hid hv
  clear hc hv
  have hm : (xs.length : Int) ≤ 9223372036854775807 := by
    obtain ⟨_, _, e, h1, h2, _⟩ := (HV.out w (Chg.refl _ _)).open
    omega
  go_enter Tryz.func54, Tryz.ntmps54
  go_wp2_with fail
  refine (spec_l1Below g _ _ HC.out (by omega) hm).mono ?_
  rintro e w1 ⟨x, rfl, hx, hk⟩
  obtain ⟨k, hkx⟩ := Int.eq_ofNat_of_zero_le hx.out.1
  subst hkx
  have hlt : k < xs.length := by have := hx.out.2; omega
  have hlz : (k : Int) < (xs.length : Int) := by omega
  have i0 : (0 : Int) ≤ (k : Int) := Int.natCast_nonneg _
  obtain ⟨a', c', e', _, _, hat⟩ := (HV.out w1 hk.out.2).open
  obtain ⟨rfl, rfl⟩ : a = a' ∧ c = c' := by simpa using e'
  obtain ⟨b, off, rfl, hcell, _⟩ := hat k hlt
  clear hat e'
  go_wp2_with fail
  go_ret
  exact ⟨_, rfl, Lib.hid (List.getElem_mem hlt), hk⟩
theorem lit_ints {w w' : World} {g : Nat} (hg : g < w.heap.size) (xs : List Int) (hx : ∀ x ∈ xs, I64 x) (hl : xs.length ≤ 1000) (k : Dr g (w.alloc (.cells (xs.map (Value.int .i64)).toArray 3)) w') : RInts w' (.slice (some ⟨w.heap.size, 0, none⟩) xs.length xs.length) xs := by
  refine ⟨_, _, rfl, Nat.le_refl _, by omega, fun i hi => ⟨w.heap.size, 0, _, rfl, rfl, ⟨rfl, hx _ (List.getElem_mem hi)⟩, fun j hj => ?_⟩⟩
  have hb : w'.heap[w.heap.size]? = some (.cells (xs.map (Value.int .i64)).toArray 3) := by
    rw [k.block w.heap.size (by simp) (by omega)]; exact heap_alloc_new _ _
  have : j = 0 := by simpa using hj
  subst this
  simp [World.cell?, hb, hi]
end Go.Proofs.YtcdcpfcmhmhdjaaGreatDoor
