/- SortRows: the program's walk. -/
import Derived.Test.YtcdcpfcmhmhdjaaGreatDoorMg4
import Derived.Test.YtcdcpfcmhmhdjaaGreatDoorMg3
import Derived.Test.YtcdcpfcmhmhdjaaGreatDoorExt
import Derived.Test.YtcdcpfcmhmhdjaaGreatDoorPriv
import Derived.Test.YtcdcpfcmhmhdjaaGreatDoorSortV
import Derived.Test.YtcdcpfcmhmhdjaaGreatDoorGenInt
import Derived.Test.YtcdcpfcmhmhdjaaGreatDoorGenRow
import Derived.Test.YtcdcpfcmhmhdjaaGreatDoorMg1
namespace Go.Proofs.YtcdcpfcmhmhdjaaGreatDoor
open Go.RowKit Go.Sort Go.ChangeShapes Go.WideShapes Go.Deep
variable {F : Nat → Prop} {g cap : Nat} {w w' : World} {d : Array El}
theorem sorted_rows {d d' : Array El} {xs : List DRow} (hx : d.toList.map El.r = xs) (hp : PermIn 0 d.size d d') (hs : SortedIn ltE 0 d.size d') : d'.toList.map El.r = sortR xs := by
  refine sortR_eq ?_ ?_
  · rw [← hx]
    refine List.Perm.map _ ?_
    have h := hp.2.2
    have e1 : d.extract 0 d.size = d := by simp
    have e2 : d'.extract 0 d.size = d' := by rw [← hp.1]; simp
    rwa [e1, e2] at h
  · unfold UpR
    rw [List.pairwise_map, List.pairwise_iff_getElem]
    intro i j hi hj hij
    have hz : d'.size = d.size := hp.1
    simp only [Array.length_toList] at hi hj
    have h := hs i j (Nat.zero_le _) hij (by omega)
    rw [getElem!_pos d' i hi, getElem!_pos d' j hj] at h
    simpa [ltE] using h
set_option maxRecDepth 100000 in
theorem std_insertion0 (a : Option Addr) (c : Nat) (f : Value) (w : World) : Calls Tryz.prog 88 #[.slice a 0 c, .int .i64 0, .int .i64 0, f] w fun e w' => e = .returned (.tuple #[]) ∧ Gr w w' := by
  go_enter Tryz.func88, Tryz.ntmps88
  go_wp2_with fail
  go_loopw [8] (fun vi wr => vi = .int .i64 1 ∧ Gr w wr) (fun _ _ => 0)
  case atStart => exact ⟨by go_num, Gr.refl _⟩
  case round =>
    obtain ⟨rfl, hg⟩ := hrel
    go_wp2_with fail
    go_end0
    exact ⟨rfl, hg⟩
set_option maxRecDepth 100000 in
theorem std_stable0 (a : Option Addr) (c : Nat) (f : Value) (w : World) : Calls Tryz.prog 73 #[.slice a 0 c, .int .i64 0, f] w fun e w' => e = .returned (.tuple #[]) ∧ Gr w w' := by
  go_enter Tryz.func73, Tryz.ntmps73
  go_wp2_with fail
  go_loopw [7, 8] (fun va vb wr => va = .int .i64 0 ∧ vb = .int .i64 20 ∧ Gr w wr) (fun _ _ _ => 0)
  case atStart => exact ⟨rfl, rfl, Gr.refl _⟩
  case round =>
    obtain ⟨rfl, rfl, hg⟩ := hrel
    obtain ⟨W1, hW1⟩ : ∃ W1, W1 = wr := ⟨_, rfl⟩
    rw [← hW1]; rw [← hW1] at hg; clear hW1
    have HG := Lib.hid hg
    go_wp2_with fail
    refine (std_insertion0 a c f _).mono ?_
    rintro e w1 ⟨rfl, g1⟩
    replace HG := Lib.hid (HG.out.trans g1)
    clear g1 hg
    go_wp2_with fail
    go_loopw [6, 7, 8] (fun vs va vb wr => vs = .int .i64 20 ∧ va = .int .i64 0 ∧ vb = .int .i64 20 ∧ Hid (Gr w wr)) (fun _ _ _ _ => 0)
    case atStart => exact ⟨rfl, rfl, rfl, HG⟩
    case round =>
      obtain ⟨rfl, rfl, rfl, HG2⟩ := hrel
      go_wp2_with fail
      go_end0
      exact ⟨rfl, HG2.out⟩
set_option maxRecDepth 100000 in
set_option maxHeartbeats 1000000 in
theorem std_sort {v : Value} {xs : List DRow} (h : PRows F w v xs) (hb : xs.length ≤ 1048576) :
    Calls Tryz.prog 49 #[v, .func (.func 50) #[] #[]] w fun e w' => e = .returned (.tuple #[]) ∧ PRows F w' v (sortR xs) ∧ Chg F w w' := by
  by_cases h0 : xs = []
  · subst h0
    obtain ⟨a, c, rfl⟩ := h.form
    have HH := Lib.hid h
    clear h
    go_enter Tryz.func49, Tryz.ntmps49
    go_wp2_with fail
    refine (std_stable0 a c _ _).mono ?_
    rintro e w1 ⟨rfl, g1⟩
    go_wp2_with fail
    go_end0
    exact ⟨rfl, HH.out.gr fr_row g1, chg_gr g1⟩
  · have hn : 0 < xs.length := List.length_pos_iff.2 h0
    obtain ⟨g, cap, d, rfl, hz, hx, hS⟩ := SA.of h hn
    have HS := Lib.hid hS
    have HX := Lib.hid hx
    have hzb : d.size ≤ 1048576 := by omega
    rw [← hz]
    clear hS hx h h0 hn hb hz
    go_enter Tryz.func49, Tryz.ntmps49
    go_wp2_with fail
    with_reducible refine (std_stable HS.out hzb).mono ?_
    rintro e w1 ⟨rfl, d', k1, k2, k3, k4⟩
    have HK := Lib.hid (And.intro k1 (And.intro k2 (And.intro k3 k4)))
    clear k1 k2 k3 k4
    go_wp2_with fail
    go_end0
    obtain ⟨k1, k2, k3, k4⟩ := HK.out
    refine ⟨rfl, ?_, k4.mono fun b hb => by rw [hb]; exact HS.out.blk⟩
    have hp := k1.prows
    rw [sorted_rows HX.out k3 k2, k3.1] at hp
    exact hp
set_option maxRecDepth 100000 in
set_option maxHeartbeats 1000000 in
theorem impl_SortRows (v : Value) (xs : List DRow) (w : World) (hv : RRows w v xs) (hb : totL totRow xs ≤ 1048576) :
    Calls Tryz.prog 21 #[v] w fun e w' => ∃ u, e = .returned u ∧ Gr w w' ∧ PRows (In w.heap.size w'.heap.size) w' u (sortR xs) := by
  have HV := Lib.hid hv
  have HB := Lib.hid hb
  obtain ⟨va, vc, rfl⟩ := hv.form
  clear hv hb
  go_enter Tryz.func21, Tryz.ntmps21
  go_wp2_with fail
  refine (impl_copyRows _ xs _ HV.out (Nat.le_trans HB.out (by decide))).mono ?_
  rintro e w1 ⟨u, rfl, g1, hp⟩
  obtain ⟨ua, uc, rfl⟩ := hp.form
  have HP := Lib.hid hp
  have HG := Lib.hid g1
  clear hp g1
  go_wp2_with fail
  refine (std_sort HP.out (by have := HB.out; unfold totL at this; omega)).mono ?_
  rintro e w2 ⟨rfl, hq, hc⟩
  have HQ := Lib.hid (And.intro hq hc)
  clear hq hc
  go_wp2_with fail
  go_ret
  have hc := HQ.out.2
  exact ⟨_, rfl, HG.out.trans' (hc.below (fun b hb => hb.1) HG.out.size), HQ.out.1.wide (Nat.le_refl _) hc.size⟩
end Go.Proofs.YtcdcpfcmhmhdjaaGreatDoor

/- SortRows: the reference's order of rows. -/
namespace Go.Proofs.YtcdcpfcmhmhdjaaGreatDoor
open Go.RowKit Go.ChangeShapes Go.WideShapes Go.Deep
theorem lex_end {xs ys : List Int} {k : Nat} (h : xs.length ≤ k ∨ ys.length ≤ k) (hx : k ≤ xs.length) (hy : k ≤ ys.length) (HC : cmpInts (xs.drop k) (ys.drop k) = cmpInts xs ys) : decide (xs.length < ys.length) = lexB xs ys := by
  rw [← cmpInts_lex, ← HC]
  rcases Nat.lt_trichotomy xs.length ys.length with h1 | h1 | h1
  · rw [cmpInts_less (by omega) (by omega), decide_eq_true (by omega), decide_eq_true (by omega)]
  · rw [cmpInts_same (by omega) (by omega), decide_eq_false (by omega), decide_eq_false (by omega)]
  · rw [cmpInts_more (by omega) (by omega), decide_eq_false (by omega), decide_eq_false (by omega)]
theorem lex_here {xs ys : List Int} {k : Nat} (hx : k < xs.length) (hy : k < ys.length) (HC : cmpInts (xs.drop k) (ys.drop k) = cmpInts xs ys) (h : (xs[k] != ys[k]) = true) : decide (xs[k] < ys[k]) = lexB xs ys := by
  rw [← cmpInts_lex, ← HC, cmpInts_at hx hy]
  have hn : xs[k] ≠ ys[k] := by simpa using h
  by_cases h1 : xs[k] < ys[k]
  · rw [if_pos h1, decide_eq_true h1]; rfl
  · rw [if_neg h1, if_pos (by omega), decide_eq_false h1]; rfl
theorem lex_on {xs ys : List Int} {k : Nat} (hx : k < xs.length) (hy : k < ys.length) (HC : cmpInts (xs.drop k) (ys.drop k) = cmpInts xs ys) (h : (xs[k] != ys[k]) = false) : cmpInts (xs.drop (k + 1)) (ys.drop (k + 1)) = cmpInts xs ys := by
  have hn : xs[k] = ys[k] := by simpa using h
  rw [← HC, cmpInts_at hx hy, if_neg (by omega), if_neg (by omega)]
set_option maxRecDepth 100000 in
set_option maxHeartbeats 1000000 in
theorem spec_l3LessInts (v u : Value) (xs ys : List Int) (w : World) (hx : RInts w v xs) (hy : RInts w u ys) :
    Calls Tryz.prog 76 #[v, u] w fun e w' => e = .returned (.bool (lexB xs ys)) ∧ Gr w w' := by
  obtain ⟨a, cap, rfl, hl, hm, hx⟩ := hx.open
  obtain ⟨a', cap', rfl, hl', hm', hy⟩ := hy.open
  go_enter Tryz.func76, Tryz.ntmps76
  go_wp2_with fail
  go_loopw [5] (fun i wr => ∃ k : Nat, k ≤ xs.length ∧ k ≤ ys.length ∧ i = .int .i64 k ∧ Hid (cmpInts (xs.drop k) (ys.drop k) = cmpInts xs ys) ∧ Gr w wr) (fun i _ => xs.length - (intOf i).toNat)
  case atStart => exact ⟨0, Nat.zero_le _, Nat.zero_le _, rfl, Lib.hid (by simp), Gr.refl _⟩
  case round =>
    obtain ⟨k, hk, hk', rfl, HC, hgr⟩ := hrel
    by_cases hlt : k < xs.length
    · have hlz : (k : Int) < (xs.length : Int) := by omega
      obtain ⟨b, off, rfl, hc, _⟩ := hx k hlt
      by_cases hlt' : k < ys.length
      · have hlz' : (k : Int) < (ys.length : Int) := by omega
        obtain ⟨b', off', rfl, hc', _⟩ := hy k hlt'
        have gc := hgr.cellv hc
        have gc' := hgr.cellv hc'
        have i0 : (0 : Int) ≤ (k : Int) := Int.natCast_nonneg _
        clear hc hc'
        go_wp2_with fail
        go_quiet (fail)
        go_wp2_with fail
        · go_quiet (fail)
          go_wp2_with fail
          go_ret
          have h : (xs[k] != ys[k]) = true := by assumption
          exact ⟨ret_bool (lex_here hlt hlt' HC.out h), (hgr.drewN _).drewN _⟩
        · go_roundw
          have h : (xs[k] != ys[k]) = false := by assumption
          case rel => exact ⟨k + 1, by omega, by omega, by go_num, Lib.hid (lex_on hlt hlt' HC.out h), hgr.drewN _⟩
          case measure => simp [intOf]; omega
      · have hlz' : ¬ (k : Int) < (ys.length : Int) := by omega
        go_wp2_with fail
        go_ret
        exact ⟨ret_bool (lex_end (k := k) (by omega) hk hk' HC.out), hgr⟩
    · have hlz : ¬ (k : Int) < (xs.length : Int) := by omega
      go_wp2_with fail
      go_ret
      exact ⟨ret_bool (lex_end (k := k) (by omega) hk hk' HC.out), hgr⟩
set_option maxRecDepth 100000 in
set_option maxHeartbeats 1000000 in
theorem spec_l3Less (x y : DRow) (u v : Value) (w : World) (hx : RInts w u x.vals) (hy : RInts w v y.vals) : Calls Tryz.prog 58 #[.agg #[.int .i64 x.id, u], .agg #[.int .i64 y.id, v]] w fun e w' => e = .returned (.bool (ltRow x y)) ∧ Gr w w' := by
  obtain ⟨id, xs⟩ := x
  obtain ⟨jd, ys⟩ := y
  dsimp only at *
  obtain ⟨a, c, rfl⟩ := hx.form
  obtain ⟨a', c', rfl⟩ := hy.form
  have g0 : Gr w ((w.alloc (.cells #[.int .i64 id, .slice a xs.length c] 36)).alloc (.cells #[.int .i64 jd, .slice a' ys.length c'] 36)) := ((Gr.refl w).alloc _).alloc _
  have HX := Lib.hid (hx.mono g0)
  have HY := Lib.hid (hy.mono g0)
  have HG := Lib.hid g0
  clear hx hy g0
  by_cases h1 : id = jd
  · have h2 : (id != jd) = false := by simp [h1]
    have HF : Hid (ltRow ⟨id, xs⟩ ⟨jd, ys⟩ = lexB xs ys) := Lib.hid (by simp [ltRow, h1])
    clear h1
    go_enter Tryz.func58, Tryz.ntmps58
    go_wp2_with fail
    refine (spec_l3LessInts _ _ xs ys _ HX.out HY.out).mono ?_
    rintro e w1 ⟨rfl, g1⟩
    go_wp2_with fail
    go_ret
    exact ⟨ret_bool (by rw [HF.out]), HG.out.trans g1⟩
  · have h2 : (id != jd) = true := by simpa using h1
    have HF : Hid (ltRow ⟨id, xs⟩ ⟨jd, ys⟩ = decide (id < jd)) := Lib.hid (by
      unfold ltRow; dsimp only
      by_cases h3 : id < jd
      · rw [if_pos h3, decide_eq_true h3]
      · rw [if_neg h3, if_pos (by omega), decide_eq_false h3])
    clear h1
    go_enter Tryz.func58, Tryz.ntmps58
    go_wp2_with fail
    go_ret
    exact ⟨ret_bool HF.out.symm, HG.out⟩
end Go.Proofs.YtcdcpfcmhmhdjaaGreatDoor

/- SortRows: the reference's walk. -/
namespace Go.Proofs.YtcdcpfcmhmhdjaaGreatDoor
open Go.RowKit Go.ChangeShapes Go.WideShapes Go.Deep
section
variable {α : Type} {sz : Nat} {R : World → List Value → α → Prop} {w : World} {xs : List α}
theorem RSlice.takeN {a : Option Addr} {n cap : Nat} (h : RSlice sz R w (.slice a n cap) xs) {k : Nat} (hk : k ≤ xs.length) : RSlice sz R w (.slice a k cap) (xs.take k) := by
  obtain ⟨a', cap', e, h1, h2, h3⟩ := h
  obtain ⟨rfl, rfl, rfl⟩ : a = a' ∧ n = xs.length ∧ cap = cap' := by simpa using e
  have hl : (xs.take k).length = k := by rw [List.length_take]; omega
  refine ⟨a, cap, by rw [hl], by omega, h2, fun i hi => ?_⟩
  obtain ⟨b, off, cs, ha, hc, hr, hcc⟩ := h3 i (by omega)
  exact ⟨b, off, cs, ha, hc, by rw [List.getElem_take]; exact hr, hcc⟩
theorem RSlice.capN {a : Option Addr} {n cap : Nat} (h : RSlice sz R w (.slice a n cap) xs) : xs.length ≤ cap := by
  obtain ⟨a', cap', e, h1, _⟩ := h
  simp only [Value.slice.injEq] at e
  rw [e.2.2]; exact h1
theorem RSlice.capM {a : Option Addr} {n cap : Nat} (h : RSlice sz R w (.slice a n cap) xs) : cap ≤ 9223372036854775807 := by
  obtain ⟨a', cap', e, _, h1, _⟩ := h
  simp only [Value.slice.injEq] at e
  rw [e.2.2]; exact h1
theorem RSlice.dropN {g o n cap : Nat} (h : RSlice sz R w (.slice (some ⟨g, o, none⟩) n cap) xs) {k : Nat} (hk : k ≤ xs.length) : RSlice sz R w (.slice (some ⟨g, o + k * sz, none⟩) (xs.length - k) (cap - k)) (xs.drop k) := by
  obtain ⟨a', cap', e, h1, h2, h3⟩ := h
  obtain ⟨rfl, rfl, rfl⟩ : some (⟨g, o, none⟩ : Addr) = a' ∧ n = xs.length ∧ cap = cap' := by simpa using e
  have hl : (xs.drop k).length = xs.length - k := List.length_drop
  refine ⟨_, cap - k, by rw [hl], by omega, by omega, fun i hi => ?_⟩
  obtain ⟨b, off, cs, ha, hc, hr, hcc⟩ := h3 (k + i) (by omega)
  simp only [Option.some.injEq, Addr.mk.injEq, and_true] at ha
  obtain ⟨rfl, rfl⟩ := ha
  exact ⟨g, o + k * sz, cs, rfl, hc, by rw [List.getElem_drop]; exact hr, by rw [show o + k * sz + i * sz = o + (k + i) * sz by rw [Nat.add_mul]; omega]; exact hcc⟩
theorem ORq.ptrAt {t lo : Nat} {Q : World → Prop} {b : Option Addr} {n c : Nat} (h : ORq t sz R Q lo w (.slice b n c) xs) (hn : 0 < xs.length) : ∃ g, b = some ⟨g, 0, none⟩ ∧ lo ≤ g ∧ g < w.heap.size := by
  have hlt := fun g hg => h.lt (g := g) hg
  obtain ⟨cs, ⟨_, h2⟩, _⟩ := h
  rcases h2 with ⟨e, h0⟩ | ⟨g, cap, cur, e, _⟩
  · omega
  · simp only [Value.slice.injEq] at e
    obtain ⟨rfl, _, _⟩ := e
    exact ⟨g, rfl, hlt g rfl⟩
end
theorem rows_cell {w : World} {g o n c : Nat} {S : List DRow} (h : RRows w (.slice (some ⟨g, o, none⟩) n c) S) {J : Nat} (hJ : J < S.length) : ∃ (iy : Int) (ay : Option Addr) (ny ky : Nat),
    w.cell? ⟨g, o + J * 2, none⟩ = some (.int .i64 iy) ∧ w.cell? ⟨g, o + J * 2 + 1, none⟩ = some (.slice ay ny ky) ∧ Hid (iy = S[J].id ∧ RInts w (.slice ay ny ky) S[J].vals) := by
  obtain ⟨a', cap', e, h1, h2, h3⟩ := h
  obtain ⟨rfl, _, _⟩ : some (⟨g, o, none⟩ : Addr) = a' ∧ n = S.length ∧ c = cap' := by simpa using e
  obtain ⟨b, off, cs, ha, _, ⟨u, rfl, _, hu⟩, hcc⟩ := h3 J hJ
  simp only [Option.some.injEq, Addr.mk.injEq, and_true] at ha
  obtain ⟨rfl, rfl⟩ := ha
  obtain ⟨ay, ny, ky, rfl⟩ := hu.isSl
  have c0 := hcc 0 (by simp)
  have c1 := hcc 1 (by simp)
  exact ⟨_, ay, ny, ky, by simpa using c0, by simpa using c1, Lib.hid ⟨rfl, hu⟩⟩
theorem ins_of {r : DRow} {S : List DRow} (h : UpR S) {j : Nat} (hj : j ≤ S.length) (hi : ∀ p (h : p < S.length), j ≤ p → ltRow r S[p] = true) (hlo : ∀ (h : 0 < j), ltRow r (S[j - 1]'(by omega)) = false) : insR r S = S.take j ++ [r] ++ S.drop j := by
  rw [insR_at h hj hi hlo, List.append_assoc]; rfl
/-- The worlds in which a copied row, made from c on in the world w2, still reads. -/
def Later (W1 : World) (c : Nat) (w2 w' : World) : Prop := Gr W1 w' ∧ Loc c w2 w'
set_option maxRecDepth 100000 in
set_option maxHeartbeats 2000000 in
theorem spec_SortRows (v : Value) (xs : List DRow) (w : World) (hv : RRows w v xs) (hb : totL totRow xs ≤ 1048576) :
    Calls Tryz.prog 27 #[v] w fun e w' => ∃ u, e = .returned u ∧ RRows w' u (sortR xs) ∧ Gr w w' := by
  have hbs : xs.length ≤ 1048576 ∧ ∀ k (h : k < xs.length), xs[k].vals.length ≤ 4294967296 := by
    refine ⟨by unfold totL at hb; omega, fun k h => ?_⟩
    have h2 := sumT_mem totRow xs k h
    unfold totL at hb
    simp only [totRow] at h2
    omega
  have HBS := Lib.hid hbs
  clear hbs hb
  obtain ⟨a, cap, rfl, hl, hm, hx3⟩ := hv
  have g0 : Gr w (w.alloc (.cells #[] 36)) := (Gr.refl w).alloc _
  have HST : Hid (RRows (w.alloc (.cells #[] 36)) (.slice (some ⟨w.heap.size, 0, none⟩) 0 0) (sortR (rTo xs 0))) := Lib.hid ⟨_, 0, rfl, Nat.le_refl _, by omega, fun i hi => absurd hi (Nat.not_lt_zero _)⟩
  go_enter Tryz.func27, Tryz.ntmps27
  go_wp2_with fail
  go_loopw [3, 4] (fun out i wr => ∃ (k g o c : Nat), k ≤ xs.length ∧ i = .int .i64 k ∧ out = .slice (some ⟨g, o, none⟩) (sortR (rTo xs k)).length c ∧ Hid (RRows wr out (sortR (rTo xs k))) ∧ Gr w wr) (fun _ i _ => xs.length - (intOf i).toNat)
  case atStart => exact ⟨0, _, _, _, Nat.zero_le _, rfl, rfl, HST, g0⟩
  case round =>
    obtain ⟨k, g, o, c, hk, rfl, rfl, HO, hgr⟩ := hrel
    by_cases hlt : k < xs.length
    · have hlz : (k : Int) < (xs.length : Int) := by omega
      have i0 : (0 : Int) ≤ (k : Int) := Int.natCast_nonneg _
      have HSL : Hid ((sortR (rTo xs k)).length = k) := Lib.hid (by rw [sortR_len, rTo_len hk])
      have HUP := Lib.hid (sortR_up (rTo xs k))
      have HTK := Lib.hid (sortR_take hlt)
      obtain ⟨S, hS⟩ : ∃ S, S = sortR (rTo xs k) := ⟨_, rfl⟩
      rw [← hS] at HO HSL HUP
      rw [← hS]
      have HS := Lib.hid hS
      clear hS
      obtain ⟨b3, off3, cs3, rfl, hlen3, ⟨u_vals3, rfl, i_id3, h_vals3⟩, hc3⟩ := hx3 k hlt
      have c0 := hgr.cellv (hc3 0 (by simp))
      have c1 := hgr.cellv (hc3 1 (by simp))
      simp only [Nat.add_zero, List.getElem_cons_zero, List.getElem_cons_succ] at c0 c1
      clear hc3 hlen3
      obtain ⟨ua, un, uc, rfl⟩ := RSlice.isSl h_vals3
      have HC3 := Lib.hid (RSlice.mono keeps_int hgr h_vals3)
      have HI3 := Lib.hid i_id3
      clear h_vals3
      obtain ⟨W1, hW1⟩ : ∃ W1, W1 = wr := ⟨_, rfl⟩
      rw [← hW1] at HO hgr c0 c1 HC3
      rw [← hW1]
      have HG1 := Lib.hid hgr
      clear hgr hW1
      go_wp2_with fail
      go_loopw [5] (fun vj wr => ∃ j : Nat, j ≤ S.length ∧ vj = .int .i64 j ∧ Hid (∀ p (h : p < S.length), j ≤ p → ltRow xs[k] S[p] = true) ∧ Hid (Gr W1 wr)) (fun vj _ => (intOf vj).toNat)
      case atStart => exact ⟨S.length, Nat.le_refl _, rfl, Lib.hid (fun p h h2 => absurd h2 (by omega)), Lib.hid (Gr.refl _)⟩
      case round =>
        obtain ⟨j, hj, rfl, HI, HG⟩ := hrel
        by_cases hj0 : 0 < j
        · have hjz : (0 : Int) < (j : Int) := by omega
          have hjd : decide ((j : Int) > 0) = true := decide_eq_true hjz
          obtain ⟨J, hJ⟩ : ∃ J, J = j - 1 := ⟨_, rfl⟩
          have hJS : J < S.length := by omega
          have i2 : (j : Int) - 1 < (S.length : Int) := by omega
          have i3 : (0 : Int) ≤ (j : Int) - 1 := by omega
          have i4 : (j : Int) ≤ 1048576 := by have := HSL.out; have := HBS.out.1; omega
          have e2 : ((j : Int) - 1).toNat = J := by omega
          obtain ⟨iy, ay, ny, ky, d0, d1, HD⟩ := rows_cell HO.out hJS
          have x0 := HG.out.cellv c0
          have x1 := HG.out.cellv c1
          have y0 := HG.out.cellv d0
          have y1 := HG.out.cellv d1
          have hcmp : ∀ q : Ext wr, Calls Tryz.prog 58 #[.agg #[.int .i64 xs[k].id, .slice ua un uc], .agg #[.int .i64 iy, .slice ay ny ky]] q.val fun e w' => e = .returned (.bool (ltRow xs[k] S[J])) ∧ Gr q.val w' := fun q => by
            have h := spec_l3Less xs[k] S[J] (.slice ua un uc) (.slice ay ny ky) q.val (RSlice.mono keeps_int (HG.out.trans q.gr) HC3.out) (RSlice.mono keeps_int (HG.out.trans q.gr) HD.out.2)
            rw [← HD.out.1] at h
            exact h
          have HJ := Lib.hid hJ
          clear d0 d1 hJ
          cases hr : ltRow xs[k] S[J] with
          | true =>
            have HR := Lib.hid hr
            rw [hr] at hcmp
            clear hr
            go_wp2_with fail
            have q0 := fun q : Ext wr => Ext.cell x0 q
            have q1 := fun q : Ext wr => Ext.cell x1 q
            have q2 := fun q : Ext wr => Ext.cell y0 q
            have q3 := fun q : Ext wr => Ext.cell y1 q
            refine wp_region_ext (by kernel_rfl) (by kernel_rfl) ?_
            repeat (go_big_quiet_step ((go_at_call 58; exact quiet_ext (hcmp _))))
            refine wpQuiet_nil ?_
            intro w1 hw1
            have HGE := Lib.hid (Ext.out hw1)
            clear hw1 q0 q1 q2 q3 x0 x1 y0 y1 hcmp
            go_wp2_with fail
            go_roundw
            case rel => exact ⟨J, by omega, by have := HJ.out; go_num, Lib.hid (fun p h h2 => by
              by_cases e : p = J
              · subst e; exact HR.out
              · exact HI.out p h (by have := HJ.out; omega)), Lib.hid (HG.out.trans HGE.out)⟩
            case measure => have := HJ.out; simp [intOf]; omega
          | false =>
            have HIns : Hid (insR xs[k] S = S.take j ++ [xs[k]] ++ S.drop j) := Lib.hid (ins_of HUP.out hj HI.out (fun _ => by have := HJ.out; subst this; exact hr))
            rw [hr] at hcmp
            clear hr
            go_wp2_with fail
            have q0 := fun q : Ext wr => Ext.cell x0 q
            have q1 := fun q : Ext wr => Ext.cell x1 q
            have q2 := fun q : Ext wr => Ext.cell y0 q
            have q3 := fun q : Ext wr => Ext.cell y1 q
            refine wp_region_ext (by kernel_rfl) (by kernel_rfl) ?_
            repeat (go_big_quiet_step ((go_at_call 58; exact quiet_ext (hcmp _))))
            refine wpQuiet_nil ?_
            intro w1 hw1
            have HG' := Lib.hid (HG.out.trans (Ext.out hw1))
            clear hw1 q0 q1 q2 q3 x0 x1 y0 y1 hcmp HG
            have hT := HO.out.takeN hj
            have hD := HO.out.dropN hj
            have hjc : j ≤ c := Nat.le_trans hj HO.out.capN
            have hcm : c ≤ 9223372036854775807 := HO.out.capM
            have hTn : (S.take j).length = j := by rw [List.length_take]; omega
            have hDn : (S.drop j).length = S.length - j := List.length_drop
            obtain ⟨T, eT⟩ : ∃ T, T = S.take j := ⟨_, rfl⟩
            obtain ⟨D, eD⟩ : ∃ D, D = S.drop j := ⟨_, rfl⟩
            rw [← eT] at hT hTn HIns
            rw [← eD] at hD hDn HIns
            have HT := Lib.hid hT
            have HDr := Lib.hid hD
            have HDr0 : Hid (RSlice 2 RRow W1 (.slice (if c = j then some ⟨g, o, none⟩ else some ⟨g, o + j * 2, none⟩) (S.length - j) (c - j)) D) := Lib.hid (by
              by_cases e : c = j
              · have e0 : D = [] := List.eq_nil_of_length_eq_zero (by have := HO.out.capN; omega)
                subst e0
                exact ⟨_, _, by rw [show S.length - j = 0 by have := HO.out.capN; omega]; rfl, Nat.zero_le _, by omega, fun i hi => absurd hi (Nat.not_lt_zero _)⟩
              · rw [if_neg e]; exact HDr.out)
            have HTn := Lib.hid hTn
            have HDn := Lib.hid hDn
            clear hT hD hTn hDn eT eD
            have HL0 : Hid (W1.heap.size ≤ (w1.alloc (.cells #[] 36)).heap.size) := Lib.hid (HG'.out.alloc _).size
            go_wp2_with (at_builtin; refine spread_q (W := W1) (R := RRow) (Q := fun w' => Gr W1 w') (lo := W1.heap.size) 28 36 2 32 Tryz.underlying28 (z := .agg #[.int .i64 0, .slice none 0 0]) (by kernel_rfl) rfl (by decide) (by decide) one_row keeps_row rfl _ _ rfl (v := .slice (some ⟨w1.heap.size, 0, none⟩) 0 0) (u := .slice (some ⟨g, o, none⟩) j c) (xs := []) (ys := T) rfl rfl (ORq.made HG'.out.size) HT.out (HG'.out.alloc _) (fun _ h => h) HL0.out (by have := HSL.out; have := HBS.out.1; have := HTn.out; simp; omega) ?_; intro b2 c2 w2 hO2 hB2 hs2; rw [List.nil_append] at hO2; rw [List.nil_append]; have HO2 := Lib.hid hO2; have HG2 := Lib.hid ((HG'.out.alloc (.cells #[] 36)).trans' hB2); have x0 := HG2.out.cellv c0; have x1 := HG2.out.cellv c1; clear hO2 hB2 hs2)
            refine (spec_l3Copy xs[k] _ _ (RSlice.mono keeps_int HG2.out HC3.out) (HBS.out.2 k hlt)).mono ?_
            rintro e w3 ⟨u3, rfl, g3, hp3⟩
            obtain ⟨pa, pc, rfl⟩ := (rd_pints hp3).form
            have HP := Lib.hid hp3
            have HO3 := Lib.hid (HO2.out.gr g3)
            have HG3 := Lib.hid (HG2.out.trans g3)
            have HL3 := Lib.hid HG3.out.size
            have HB2 : Hid (∀ q, (Value.slice b2 T.length c2).ownBlock = some q → q < w2.heap.size) := Lib.hid fun q hq => (HO2.out.lt hq).2
            have HY : Hid (∀ w', Later W1 w2.heap.size w3 w' → RRow w' [.int .i64 xs[k].id, .slice pa xs[k].vals.length pc] xs[k]) := Lib.hid fun w' hw' => ⟨_, rfl, HI3.out, rd_pints (HP.out.loc fr_int hw'.2 (Nat.le_refl _))⟩
            clear hp3 g3 x0 x1
            go_wp2_with (at_builtin; first
              | (refine push_q (wr := w3) (R := RRow) (Q := fun w' => Gr W1 w') (Q' := Later W1 w2.heap.size w3) (lo := W1.heap.size) 28 36 2 32 Tryz.underlying28 (z := .agg #[.int .i64 0, .slice none 0 0]) (by kernel_rfl) rfl (by decide) (by decide) rfl _ _ rfl (v := .slice b2 T.length c2) (ys := T) xs[k] [.int .i64 xs[k].id, .slice pa xs[k].vals.length pc] rfl rfl rfl HO3.out HL3.out rfl (by simp [Value.oneCell']) (fun _ h => h.1) HY.out (by have := HSL.out; have := HBS.out.1; have := HTn.out; omega) ?_; intro g5 c5 w5 hO5 hB5 hor hs5; have HG5 := Lib.hid (HG3.out.trans' hB5); have HV5 : Hid (Later W1 w2.heap.size w3 w5) := (Lib.hid ⟨HG5.out, hB5.size, fun b hb hl => hs5 b hl fun hv => by have := HB2.out b hv; omega⟩); have HQ5 : Hid (g5 < w2.heap.size ∨ g5 = w3.heap.size + 1) := Lib.hid (hor.imp (fun h => HB2.out g5 h) id); have HL5 := Lib.hid HG5.out.size; obtain ⟨X, hX⟩ : ∃ X, X = T ++ [xs[k]] := ⟨_, rfl⟩; rw [← hX] at hO5; rw [← hX]; have HX := Lib.hid hX; have HO5 := Lib.hid hO5; clear hO5 hB5 hor hs5 hX)
              | (refine spread_q (W := W1) (R := RRow) (Q := Later W1 w2.heap.size w3) (lo := W1.heap.size) 28 36 2 32 Tryz.underlying28 (z := .agg #[.int .i64 0, .slice none 0 0]) (by kernel_rfl) rfl (by decide) (by decide) one_row keeps_row rfl _ _ rfl (v := .slice (some ⟨g5, 0, none⟩) X.length c5) (u := .slice (if c = j then some ⟨g, o, none⟩ else some ⟨g, o + j * 2, none⟩) (S.length - j) (c - j)) (xs := X) (ys := D) rfl rfl HO5.out HDr0.out HG5.out (fun _ h => h.1) HL5.out (by have := HSL.out; have := HBS.out.1; have := HTn.out; have := HDn.out; rw [HX.out, List.length_append, List.length_singleton]; omega) ?_; intro b6 c6 w6 hO6 hB6 hs6; have HG6 := Lib.hid (HG5.out.trans' hB6); have HV6 : Hid (Later W1 w2.heap.size w3 w6) := (Lib.hid ⟨HG6.out, Nat.le_trans HV5.out.2.1 hB6.size, fun b hb hl => (hs6 b (Nat.lt_of_lt_of_le hl HV5.out.2.1) fun hv => by have e : g5 = b := Option.some.inj hv; have := HQ5.out; omega).trans (HV5.out.2.2 b hb hl)⟩); obtain ⟨Y, hY⟩ : ∃ Y, Y = X ++ D := ⟨_, rfl⟩; rw [← hY] at hO6; rw [← hY]; have HYY := Lib.hid hY; have HO6 := Lib.hid hO6; clear hO6 hB6 hs6 hY))
            have HE : Hid (Y = sortR (rTo xs (k + 1))) := Lib.hid (by rw [HYY.out, HX.out, ← HIns.out, HS.out]; exact HTK.out.symm)
            have HR6 := Lib.hid (HO6.out.reads HV6.out)
            obtain ⟨g6, rfl, _⟩ := HO6.out.ptrAt (by rw [HE.out, sortR_len, rTo_len (by omega)]; omega)
            rw [HE.out] at HR6
            rw [HE.out]
            go_roundw
            case rel => exact ⟨k + 1, g6, 0, c6, by omega, by go_num, rfl, HR6, HG1.out.trans HG6.out⟩
            case measure => simp [intOf]; omega
        · have hjz : ¬ (0 : Int) < (j : Int) := by omega
          have hjd : decide ((j : Int) > 0) = false := decide_eq_false hjz
          have HIns : Hid (insR xs[k] S = S.take j ++ [xs[k]] ++ S.drop j) := Lib.hid (ins_of HUP.out hj HI.out (fun h => absurd h hj0))
          go_wp2_with fail
          go_big_region
          obtain ⟨w1, hw1⟩ : ∃ w1, w1 = wr.drew := ⟨_, rfl⟩
          rw [← hw1]
          have HG' : Hid (Gr W1 w1) := Lib.hid (by rw [hw1]; exact HG.out.drew)
          clear hw1 HG
          have hT := HO.out.takeN hj
          have hD := HO.out.dropN hj
          have hjc : j ≤ c := Nat.le_trans hj HO.out.capN
          have hcm : c ≤ 9223372036854775807 := HO.out.capM
          have hTn : (S.take j).length = j := by rw [List.length_take]; omega
          have hDn : (S.drop j).length = S.length - j := List.length_drop
          obtain ⟨T, eT⟩ : ∃ T, T = S.take j := ⟨_, rfl⟩
          obtain ⟨D, eD⟩ : ∃ D, D = S.drop j := ⟨_, rfl⟩
          rw [← eT] at hT hTn HIns
          rw [← eD] at hD hDn HIns
          have HT := Lib.hid hT
          have HDr := Lib.hid hD
          have HDr0 : Hid (RSlice 2 RRow W1 (.slice (if c = j then some ⟨g, o, none⟩ else some ⟨g, o + j * 2, none⟩) (S.length - j) (c - j)) D) := Lib.hid (by
            by_cases e : c = j
            · have e0 : D = [] := List.eq_nil_of_length_eq_zero (by have := HO.out.capN; omega)
              subst e0
              exact ⟨_, _, by rw [show S.length - j = 0 by have := HO.out.capN; omega]; rfl, Nat.zero_le _, by omega, fun i hi => absurd hi (Nat.not_lt_zero _)⟩
            · rw [if_neg e]; exact HDr.out)
          have HTn := Lib.hid hTn
          have HDn := Lib.hid hDn
          clear hT hD hTn hDn eT eD
          have HL0 : Hid (W1.heap.size ≤ (w1.alloc (.cells #[] 36)).heap.size) := Lib.hid (HG'.out.alloc _).size
          go_wp2_with (at_builtin; refine spread_q (W := W1) (R := RRow) (Q := fun w' => Gr W1 w') (lo := W1.heap.size) 28 36 2 32 Tryz.underlying28 (z := .agg #[.int .i64 0, .slice none 0 0]) (by kernel_rfl) rfl (by decide) (by decide) one_row keeps_row rfl _ _ rfl (v := .slice (some ⟨w1.heap.size, 0, none⟩) 0 0) (u := .slice (some ⟨g, o, none⟩) j c) (xs := []) (ys := T) rfl rfl (ORq.made HG'.out.size) HT.out (HG'.out.alloc _) (fun _ h => h) HL0.out (by have := HSL.out; have := HBS.out.1; have := HTn.out; simp; omega) ?_; intro b2 c2 w2 hO2 hB2 hs2; rw [List.nil_append] at hO2; rw [List.nil_append]; have HO2 := Lib.hid hO2; have HG2 := Lib.hid ((HG'.out.alloc (.cells #[] 36)).trans' hB2); have x0 := HG2.out.cellv c0; have x1 := HG2.out.cellv c1; clear hO2 hB2 hs2)
          refine (spec_l3Copy xs[k] _ _ (RSlice.mono keeps_int HG2.out HC3.out) (HBS.out.2 k hlt)).mono ?_
          rintro e w3 ⟨u3, rfl, g3, hp3⟩
          obtain ⟨pa, pc, rfl⟩ := (rd_pints hp3).form
          have HP := Lib.hid hp3
          have HO3 := Lib.hid (HO2.out.gr g3)
          have HG3 := Lib.hid (HG2.out.trans g3)
          have HL3 := Lib.hid HG3.out.size
          have HB2 : Hid (∀ q, (Value.slice b2 T.length c2).ownBlock = some q → q < w2.heap.size) := Lib.hid fun q hq => (HO2.out.lt hq).2
          have HY : Hid (∀ w', Later W1 w2.heap.size w3 w' → RRow w' [.int .i64 xs[k].id, .slice pa xs[k].vals.length pc] xs[k]) := Lib.hid fun w' hw' => ⟨_, rfl, HI3.out, rd_pints (HP.out.loc fr_int hw'.2 (Nat.le_refl _))⟩
          clear hp3 g3 x0 x1
          go_wp2_with (at_builtin; first
            | (refine push_q (wr := w3) (R := RRow) (Q := fun w' => Gr W1 w') (Q' := Later W1 w2.heap.size w3) (lo := W1.heap.size) 28 36 2 32 Tryz.underlying28 (z := .agg #[.int .i64 0, .slice none 0 0]) (by kernel_rfl) rfl (by decide) (by decide) rfl _ _ rfl (v := .slice b2 T.length c2) (ys := T) xs[k] [.int .i64 xs[k].id, .slice pa xs[k].vals.length pc] rfl rfl rfl HO3.out HL3.out rfl (by simp [Value.oneCell']) (fun _ h => h.1) HY.out (by have := HSL.out; have := HBS.out.1; have := HTn.out; omega) ?_; intro g5 c5 w5 hO5 hB5 hor hs5; have HG5 := Lib.hid (HG3.out.trans' hB5); have HV5 : Hid (Later W1 w2.heap.size w3 w5) := (Lib.hid ⟨HG5.out, hB5.size, fun b hb hl => hs5 b hl fun hv => by have := HB2.out b hv; omega⟩); have HQ5 : Hid (g5 < w2.heap.size ∨ g5 = w3.heap.size + 1) := Lib.hid (hor.imp (fun h => HB2.out g5 h) id); have HL5 := Lib.hid HG5.out.size; obtain ⟨X, hX⟩ : ∃ X, X = T ++ [xs[k]] := ⟨_, rfl⟩; rw [← hX] at hO5; rw [← hX]; have HX := Lib.hid hX; have HO5 := Lib.hid hO5; clear hO5 hB5 hor hs5 hX)
            | (refine spread_q (W := W1) (R := RRow) (Q := Later W1 w2.heap.size w3) (lo := W1.heap.size) 28 36 2 32 Tryz.underlying28 (z := .agg #[.int .i64 0, .slice none 0 0]) (by kernel_rfl) rfl (by decide) (by decide) one_row keeps_row rfl _ _ rfl (v := .slice (some ⟨g5, 0, none⟩) X.length c5) (u := .slice (if c = j then some ⟨g, o, none⟩ else some ⟨g, o + j * 2, none⟩) (S.length - j) (c - j)) (xs := X) (ys := D) rfl rfl HO5.out HDr0.out HG5.out (fun _ h => h.1) HL5.out (by have := HSL.out; have := HBS.out.1; have := HTn.out; have := HDn.out; rw [HX.out, List.length_append, List.length_singleton]; omega) ?_; intro b6 c6 w6 hO6 hB6 hs6; have HG6 := Lib.hid (HG5.out.trans' hB6); have HV6 : Hid (Later W1 w2.heap.size w3 w6) := (Lib.hid ⟨HG6.out, Nat.le_trans HV5.out.2.1 hB6.size, fun b hb hl => (hs6 b (Nat.lt_of_lt_of_le hl HV5.out.2.1) fun hv => by have e : g5 = b := Option.some.inj hv; have := HQ5.out; omega).trans (HV5.out.2.2 b hb hl)⟩); obtain ⟨Y, hY⟩ : ∃ Y, Y = X ++ D := ⟨_, rfl⟩; rw [← hY] at hO6; rw [← hY]; have HYY := Lib.hid hY; have HO6 := Lib.hid hO6; clear hO6 hB6 hs6 hY))
          have HE : Hid (Y = sortR (rTo xs (k + 1))) := Lib.hid (by rw [HYY.out, HX.out, ← HIns.out, HS.out]; exact HTK.out.symm)
          have HR6 := Lib.hid (HO6.out.reads HV6.out)
          obtain ⟨g6, rfl, _⟩ := HO6.out.ptrAt (by rw [HE.out, sortR_len, rTo_len (by omega)]; omega)
          rw [HE.out] at HR6
          rw [HE.out]
          go_roundw
          case rel => exact ⟨k + 1, g6, 0, c6, by omega, by go_num, rfl, HR6, HG1.out.trans HG6.out⟩
          case measure => simp [intOf]; omega
    · obtain rfl : k = xs.length := by omega
      rw [rTo_all] at HO
      go_wp2_with fail
      go_ret
      exact ⟨_, rfl, by rw [rTo_all]; exact HO.out, hgr⟩
end Go.Proofs.YtcdcpfcmhmhdjaaGreatDoor

/- The law's own helpers: marks, and what holds them. Written by gen_mark.py. -/
namespace Go.Proofs.YtcdcpfcmhmhdjaaGreatDoor
open Go.RowKit
set_option linter.unusedSimpArgs false
end Go.Proofs.YtcdcpfcmhmhdjaaGreatDoor

/- The law's own helpers: marks, and what holds them. Written by gen_mark.py. -/
namespace Go.Proofs.YtcdcpfcmhmhdjaaGreatDoor
open Go.RowKit
set_option linter.unusedSimpArgs false
end Go.Proofs.YtcdcpfcmhmhdjaaGreatDoor

/- SortRows: the walk of the law. -/
namespace Go.Proofs.YtcdcpfcmhmhdjaaGreatDoor
open Go.RowKit
theorem sortR_tot (xs : List DRow) : totL totRow (sortR xs) = totL totRow xs := by
  unfold totL sumT
  rw [sortR_len, ((sortR_perm xs).map totRow).sum_nat]
theorem sortR_small (xs : List DRow) : sumT cntRow (sortR xs) ≤ 3 * totL totRow xs := by
  have h1 := cnt_RowS (sortR xs)
  have h2 := sortR_tot xs
  omega
-- mgen FnExactSortRows SortRows+HQ0 RowS "(sortR x0)" "by have := sortR_small x0; have := HT0.out; omega" RowS
-- endgen
end Go.Proofs.YtcdcpfcmhmhdjaaGreatDoor

/- AnswerAlone: the walks. -/
namespace Go.Proofs.YtcdcpfcmhmhdjaaGreatDoor
open Go.RowKit Go.ChangeShapes Go.WideShapes Go.Deep
/-- What matches of the first k rows. -/
def ansTo (q : DQuery) (xs : List DRow) (k : Nat) : List DRow := (xs.take k).filter (matchB q)
def answerL (q : DQuery) (xs : List DRow) : List DRow := sortR (ansTo q xs xs.length)
theorem ansTo_yes {q : DQuery} {xs : List DRow} {k : Nat} (h : k < xs.length) (hm : matchB q xs[k] = true) : ansTo q xs (k + 1) = ansTo q xs k ++ [xs[k]] := by
  unfold ansTo; rw [List.take_succ_eq_append_getElem h, List.filter_append]; simp [hm]
theorem ansTo_no {q : DQuery} {xs : List DRow} {k : Nat} (h : k < xs.length) (hm : matchB q xs[k] = false) : ansTo q xs (k + 1) = ansTo q xs k := by
  unfold ansTo; rw [List.take_succ_eq_append_getElem h, List.filter_append]; simp [hm]
theorem ansTo_len (q : DQuery) (xs : List DRow) (k : Nat) : (ansTo q xs k).length ≤ xs.length := by
  unfold ansTo
  refine Nat.le_trans (List.length_filter_le _ _) ?_
  rw [List.length_take]; omega
theorem sum_filter {α : Type} (f : α → Nat) (p : α → Bool) : ∀ l : List α, sumT f (l.filter p) ≤ sumT f l
  | [] => Nat.le_refl _
  | x :: l => by
    have ih := sum_filter f p l
    unfold sumT at *
    rw [List.filter_cons]
    split <;> simp <;> omega
theorem ansTo_tot (q : DQuery) (xs : List DRow) : totL totRow (ansTo q xs xs.length) ≤ totL totRow xs := by
  have h1 := ansTo_len q xs xs.length
  have h2 := sum_filter totRow (matchB q) xs
  unfold totL
  unfold ansTo at *
  rw [List.take_length] at *
  omega
theorem answerL_small (q : DQuery) (xs : List DRow) : sumT cntRow (answerL q xs) ≤ 3 * totL totRow xs := by
  have h1 := sortR_small (ansTo q xs xs.length)
  have h2 := ansTo_tot q xs
  unfold answerL
  omega
theorem impl_MatchesRow_of {q : DQuery} {r : DRow} {b : Bool} (h : matchB q r = b) (u u' : Value) (t : Value) (w : World) (hu : RConds w u q.conds) (hu' : RInts w u' q.out) (ht : RInts w t r.vals) :
    Calls Tryz.prog 10 #[.agg #[.int .i64 q.id, .int .i64 q.tenant, u, u'], .agg #[.int .i64 r.id, t]] w fun e w' => e = .returned (.bool b) ∧ Gr w w' := h ▸ impl_MatchesRow q u u' r t w hu hu' ht
theorem spec_MatchesRow_of {q : DQuery} {r : DRow} {b : Bool} (h : matchB q r = b) (u u' : Value) (t : Value) (w : World) (hu : RConds w u q.conds) (hu' : RInts w u' q.out) (ht : RInts w t r.vals) :
    Calls Tryz.prog 19 #[.agg #[.int .i64 q.id, .int .i64 q.tenant, u, u'], .agg #[.int .i64 r.id, t]] w fun e w' => e = .returned (.bool b) ∧ Gr w w' := h ▸ spec_MatchesRow q u u' r t w hu hu' ht
set_option maxRecDepth 100000 in
set_option maxHeartbeats 2000000 in
theorem impl_AnswerAlone (q : DQuery) (u u' : Value) (v : Value) (xs : List DRow) (w : World) (hu : RConds w u q.conds) (hu' : RInts w u' q.out) (hv : RRows w v xs) (hb : totL totRow xs ≤ 1048576) :
    Calls Tryz.prog 6 #[.agg #[.int .i64 q.id, .int .i64 q.tenant, u, u'], v] w fun e w' => ∃ z, e = .returned z ∧ Gr w w' ∧ PRows (In w.heap.size w'.heap.size) w' z (answerL q xs) := by
  obtain ⟨ua, un, uc, rfl⟩ := RSlice.isSl hu
  obtain ⟨va, vn, vc, rfl⟩ := RSlice.isSl hu'
  have HU := Lib.hid hu
  have HU' := Lib.hid hu'
  have hln : xs.length ≤ 1048576 := by unfold totL at hb; omega
  have HLN := Lib.hid hln
  have HB := Lib.hid hb
  clear hu hu' hb hln
  obtain ⟨a, cap, rfl, hl, hm, hx3⟩ := hv
  obtain ⟨id, ten, cs, os⟩ := q
  dsimp only at *
  obtain ⟨W0, hW0⟩ : ∃ W0, W0 = w.alloc (.cells #[.int .i64 id, .int .i64 ten, .slice ua un uc, .slice va vn vc] 27) := ⟨_, rfl⟩
  have HW0 : Hid (Gr w W0 ∧ W0.heap.size = w.heap.size + 1) := Lib.hid (by rw [hW0]; exact ⟨(Gr.refl w).alloc _, by simp⟩)
  have k0 : W0.cell? ⟨w.heap.size, 0, none⟩ = some (.int .i64 id) := by rw [hW0]; simp [go_sem]
  have k1 : W0.cell? ⟨w.heap.size, 1, none⟩ = some (.int .i64 ten) := by rw [hW0]; simp [go_sem]
  have k2 : W0.cell? ⟨w.heap.size, 2, none⟩ = some (.slice ua un uc) := by rw [hW0]; simp [go_sem]
  have k3 : W0.cell? ⟨w.heap.size, 3, none⟩ = some (.slice va vn vc) := by rw [hW0]; simp [go_sem]
  have HST : Hid (ORq 36 2 RRow (fun w' => Gr W0 w') W0.heap.size (W0.alloc (.cells #[] 36)) (.slice (some ⟨W0.heap.size, 0, none⟩) 0 0) (ansTo ⟨id, ten, cs, os⟩ xs 0)) := Lib.hid (ORq.made (Nat.le_refl _))
  go_enter Tryz.func6, Tryz.ntmps6
  go_wp2_with fail
  rw [← hW0]
  go_loopw [5, 11] (fun out i wr => ∃ (k : Nat) (b : Option Addr) (c : Nat), k ≤ xs.length ∧ i = .int .i64 k ∧ out = .slice b (ansTo ⟨id, ten, cs, os⟩ xs k).length c ∧ Hid (ORq 36 2 RRow (fun w' => Gr W0 w') W0.heap.size wr out (ansTo ⟨id, ten, cs, os⟩ xs k)) ∧ Hid (Gr W0 wr)) (fun _ i _ => xs.length - (intOf i).toNat)
  case atStart => exact ⟨0, _, _, Nat.zero_le _, rfl, by rw [← HW0.out.2]; rfl, by rw [← HW0.out.2]; exact HST, Lib.hid ((Gr.refl W0).alloc _)⟩
  case round =>
    obtain ⟨k, b, c, hk, rfl, rfl, HO, HG⟩ := hrel
    by_cases hlt : k < xs.length
    · have hlz : (k : Int) < (xs.length : Int) := by omega
      have i0 : (0 : Int) ≤ (k : Int) := Int.natCast_nonneg _
      have hgr := HW0.out.1.trans HG.out
      obtain ⟨b3, off3, cs3, rfl, hlen3, ⟨u_vals3, rfl, i_id3, h_vals3⟩, hc3⟩ := hx3 k hlt
      have c0 := hgr.cellv (hc3 0 (by simp))
      have c1 := hgr.cellv (hc3 1 (by simp))
      simp only [Nat.add_zero, List.getElem_cons_zero, List.getElem_cons_succ] at c0 c1
      clear hc3 hlen3
      obtain ⟨ra, rn, rc, rfl⟩ := RSlice.isSl h_vals3
      obtain ⟨WA, hWA⟩ : ∃ WA, WA = wr.alloc (.cells #[.int .i64 xs[k].id, .slice ra rn rc] 36) := ⟨_, rfl⟩
      have HSA : Hid (WA.heap.size = wr.heap.size + 1 ∧ Gr wr WA) := Lib.hid (by rw [hWA]; exact ⟨by simp, (Gr.refl _).alloc _⟩)
      have HGA := Lib.hid (HG.out.trans HSA.out.2)
      have HI3 := Lib.hid i_id3
      have HC3 := Lib.hid h_vals3
      have y0 := HGA.out.cellv k0
      have y1 := HGA.out.cellv k1
      have y2 := HGA.out.cellv k2
      have y3 := HGA.out.cellv k3
      have z0 : WA.cell? ⟨wr.heap.size, 0, none⟩ = some (.int .i64 xs[k].id) := by rw [hWA]; simp [go_sem]
      have z1 : WA.cell? ⟨wr.heap.size, 1, none⟩ = some (.slice ra rn rc) := by rw [hWA]; simp [go_sem]
      clear h_vals3 hgr
      rw [hWA] at y0 y1 y2 y3
      cases hr : matchB ⟨id, ten, cs, os⟩ xs[k] with
      | false =>
        have HR := Lib.hid hr
        have HE : Hid (ansTo ⟨id, ten, cs, os⟩ xs (k + 1) = ansTo ⟨id, ten, cs, os⟩ xs k) := Lib.hid (ansTo_no hlt hr)
        clear hr
        go_wp2_with fail
        rw [← hWA]
        refine (impl_MatchesRow_of HR.out _ _ _ _ (RSlice.mono keeps_cond (HW0.out.1.trans HGA.out) HU.out) (RSlice.mono keeps_int (HW0.out.1.trans HGA.out) HU'.out) (RSlice.mono keeps_int (HW0.out.1.trans HGA.out) HC3.out)).mono ?_
        rintro e w2 ⟨rfl, g2⟩
        have HG2 := Lib.hid (HGA.out.trans g2)
        have HO2 := Lib.hid (HO.out.gr (HSA.out.2.trans g2))
        clear g2 y0 y1 y2 y3 z0 z1 hWA
        go_wp2_with fail
        go_roundw
        case rel => exact ⟨k + 1, _, _, by omega, by go_num, by rw [HE.out], by rw [HE.out]; exact HO2, HG2⟩
        case measure => simp [intOf]; omega
      | true =>
        have HR := Lib.hid hr
        have HE : Hid (ansTo ⟨id, ten, cs, os⟩ xs (k + 1) = ansTo ⟨id, ten, cs, os⟩ xs k ++ [xs[k]]) := Lib.hid (ansTo_yes hlt hr)
        have HLA : Hid ((ansTo ⟨id, ten, cs, os⟩ xs k).length ≤ 1048576) := Lib.hid (Nat.le_trans (ansTo_len _ _ _) HLN.out)
        clear hr
        go_wp2_with fail
        rw [← hWA]
        refine (impl_MatchesRow_of HR.out _ _ _ _ (RSlice.mono keeps_cond (HW0.out.1.trans HGA.out) HU.out) (RSlice.mono keeps_int (HW0.out.1.trans HGA.out) HU'.out) (RSlice.mono keeps_int (HW0.out.1.trans HGA.out) HC3.out)).mono ?_
        rintro e w2 ⟨rfl, g2⟩
        have HG2 := Lib.hid (HGA.out.trans g2)
        have HO2 := Lib.hid (HO.out.gr (HSA.out.2.trans g2))
        have HS2 := Lib.hid HG2.out.size
        replace z0 := g2.cellv z0
        replace z1 := g2.cellv z1
        have HY : Hid (∀ w', Gr W0 w' → RRow w' [.int .i64 xs[k].id, .slice ra rn rc] xs[k]) := Lib.hid fun w' hw' => ⟨_, rfl, HI3.out, RSlice.mono keeps_int (HW0.out.1.trans hw') HC3.out⟩
        clear g2 y0 y1 y2 y3 hWA
        go_wp2_with (at_builtin; refine push_q (wr := w2) (R := RRow) (Q := fun w' => Gr W0 w') (Q' := fun w' => Gr W0 w') (lo := W0.heap.size) 28 36 2 32 Tryz.underlying28 (z := .agg #[.int .i64 0, .slice none 0 0]) (by kernel_rfl) rfl (by decide) (by decide) rfl _ _ rfl (v := .slice b (ansTo ⟨id, ten, cs, os⟩ xs k).length c) (ys := ansTo ⟨id, ten, cs, os⟩ xs k) xs[k] [.int .i64 xs[k].id, .slice ra rn rc] rfl rfl rfl HO2.out HS2.out rfl (by simp [Value.oneCell']) (fun _ h => h) HY.out (by have := HLA.out; omega) ?_; intro g5 c5 w5 hO5 hB5 _ _; rw [← HE.out] at hO5; rw [← HE.out]; have HG5 := Lib.hid (HG2.out.trans' hB5); have HO5 := Lib.hid hO5; clear hO5 hB5)
        go_roundw
        case rel => exact ⟨k + 1, _, _, by omega, by go_num, rfl, HO5, HG5⟩
        case measure => simp [intOf]; omega
    · have hlz : ¬ (k : Int) < (xs.length : Int) := by omega
      obtain rfl : k = xs.length := by omega
      go_wp2_with fail
      refine (impl_SortRows _ _ _ (HO.out.reads HG.out) (Nat.le_trans (ansTo_tot _ _) HB.out)).mono ?_
      rintro e w5 ⟨z, rfl, g5, hp⟩
      go_wp2_with fail
      go_ret
      exact ⟨_, rfl, HW0.out.1.trans (HG.out.trans g5), hp.wide (by have := HW0.out.1.size; have := HG.out.size; omega) (Nat.le_refl _)⟩
set_option maxRecDepth 100000 in
set_option maxHeartbeats 2000000 in
theorem spec_AnswerAlone (q : DQuery) (u u' : Value) (v : Value) (xs : List DRow) (w : World) (hu : RConds w u q.conds) (hu' : RInts w u' q.out) (hv : RRows w v xs) (hb : totL totRow xs ≤ 1048576) :
    Calls Tryz.prog 8 #[.agg #[.int .i64 q.id, .int .i64 q.tenant, u, u'], v] w fun e w' => ∃ z, e = .returned z ∧ RRows w' z (answerL q xs) ∧ Gr w w' := by
  obtain ⟨ua, un, uc, rfl⟩ := RSlice.isSl hu
  obtain ⟨va, vn, vc, rfl⟩ := RSlice.isSl hu'
  have HU := Lib.hid hu
  have HU' := Lib.hid hu'
  have hbs : xs.length ≤ 1048576 ∧ ∀ k (h : k < xs.length), xs[k].vals.length ≤ 4294967296 := by
    refine ⟨by unfold totL at hb; omega, fun k h => ?_⟩
    have h2 := sumT_mem totRow xs k h
    unfold totL at hb
    simp only [totRow] at h2
    omega
  have HBS := Lib.hid hbs
  have HB := Lib.hid hb
  clear hu hu' hb hbs
  obtain ⟨a, cap, rfl, hl, hm, hx3⟩ := hv
  obtain ⟨id, ten, cs, os⟩ := q
  dsimp only at *
  obtain ⟨W0, hW0⟩ : ∃ W0, W0 = w.alloc (.cells #[.int .i64 id, .int .i64 ten, .slice ua un uc, .slice va vn vc] 27) := ⟨_, rfl⟩
  have HW0 : Hid (Gr w W0 ∧ W0.heap.size = w.heap.size + 1) := Lib.hid (by rw [hW0]; exact ⟨(Gr.refl w).alloc _, by simp⟩)
  have k0 : W0.cell? ⟨w.heap.size, 0, none⟩ = some (.int .i64 id) := by rw [hW0]; simp [go_sem]
  have k1 : W0.cell? ⟨w.heap.size, 1, none⟩ = some (.int .i64 ten) := by rw [hW0]; simp [go_sem]
  have k2 : W0.cell? ⟨w.heap.size, 2, none⟩ = some (.slice ua un uc) := by rw [hW0]; simp [go_sem]
  have k3 : W0.cell? ⟨w.heap.size, 3, none⟩ = some (.slice va vn vc) := by rw [hW0]; simp [go_sem]
  have HST : Hid (PRows (In W0.heap.size (W0.alloc (.cells #[] 36)).heap.size) (W0.alloc (.cells #[] 36)) (.slice (some ⟨W0.heap.size, 0, none⟩) 0 0) (ansTo ⟨id, ten, cs, os⟩ xs 0)) := Lib.hid (OSl.made W0 ⟨Nat.le_refl _, by simp⟩)
  go_enter Tryz.func8, Tryz.ntmps8
  go_wp2_with fail
  rw [← hW0]
  go_loopw [5, 6] (fun out i wr => ∃ (k : Nat) (b : Option Addr) (c : Nat), k ≤ xs.length ∧ i = .int .i64 k ∧ out = .slice b (ansTo ⟨id, ten, cs, os⟩ xs k).length c ∧ Hid (PRows (In W0.heap.size wr.heap.size) wr out (ansTo ⟨id, ten, cs, os⟩ xs k)) ∧ Hid (Gr W0 wr)) (fun _ i _ => xs.length - (intOf i).toNat)
  case atStart => exact ⟨0, _, _, Nat.zero_le _, rfl, by rw [← HW0.out.2]; rfl, by rw [← HW0.out.2]; exact HST, Lib.hid ((Gr.refl W0).alloc _)⟩
  case round =>
    obtain ⟨k, b, c, hk, rfl, rfl, HO, HG⟩ := hrel
    by_cases hlt : k < xs.length
    · have hlz : (k : Int) < (xs.length : Int) := by omega
      have i0 : (0 : Int) ≤ (k : Int) := Int.natCast_nonneg _
      have hgr := HW0.out.1.trans HG.out
      obtain ⟨b3, off3, cs3, rfl, hlen3, ⟨u_vals3, rfl, i_id3, h_vals3⟩, hc3⟩ := hx3 k hlt
      have c0 := hgr.cellv (hc3 0 (by simp))
      have c1 := hgr.cellv (hc3 1 (by simp))
      simp only [Nat.add_zero, List.getElem_cons_zero, List.getElem_cons_succ] at c0 c1
      clear hc3 hlen3
      obtain ⟨ra, rn, rc, rfl⟩ := RSlice.isSl h_vals3
      have HI3 := Lib.hid i_id3
      have HC3 := Lib.hid h_vals3
      have y0 := HG.out.cellv k0
      have y1 := HG.out.cellv k1
      have y2 := HG.out.cellv k2
      have y3 := HG.out.cellv k3
      clear h_vals3 hgr
      have hcall : ∀ b' : Bool, matchB ⟨id, ten, cs, os⟩ xs[k] = b' → ∀ p : Ext wr, Calls Tryz.prog 19 #[.agg #[.int .i64 id, .int .i64 ten, .slice ua un uc, .slice va vn vc], .agg #[.int .i64 xs[k].id, .slice ra rn rc]] p.val fun e w' => e = .returned (.bool b') ∧ Gr p.val w' := fun b' hr p =>
        have hp := HW0.out.1.trans (HG.out.trans p.gr)
        spec_MatchesRow_of hr _ _ _ _ (RSlice.mono keeps_cond hp HU.out) (RSlice.mono keeps_int hp HU'.out) (RSlice.mono keeps_int hp HC3.out)
      cases hr : matchB ⟨id, ten, cs, os⟩ xs[k] with
      | false =>
        have HE : Hid (ansTo ⟨id, ten, cs, os⟩ xs (k + 1) = ansTo ⟨id, ten, cs, os⟩ xs k) := Lib.hid (ansTo_no hlt hr)
        replace hcall := hcall false hr
        clear hr
        go_wp2_with fail
        have q0 := fun q : Ext wr => Ext.cell y0 q
        have q1 := fun q : Ext wr => Ext.cell y1 q
        have q2 := fun q : Ext wr => Ext.cell y2 q
        have q3 := fun q : Ext wr => Ext.cell y3 q
        have q4 := fun q : Ext wr => Ext.cell c0 q
        have q5 := fun q : Ext wr => Ext.cell c1 q
        refine wp_region_ext (by kernel_rfl) (by kernel_rfl) ?_
        repeat (go_big_quiet_step ((go_at_call 19; exact quiet_ext (hcall _))))
        refine wpQuiet_nil ?_
        intro w2 hw2
        have g2 := Ext.out hw2
        have HG2 := Lib.hid (HG.out.trans g2)
        have HO2 := Lib.hid ((HO.out.gr fr_row g2).wide (Nat.le_refl _) g2.size)
        clear hw2 g2 q0 q1 q2 q3 q4 q5 y0 y1 y2 y3 c0 c1 hcall
        go_wp2_with fail
        go_roundw
        case rel => exact ⟨k + 1, _, _, by omega, by go_num, by rw [HE.out], by rw [HE.out]; exact HO2, HG2⟩
        case measure => simp [intOf]; omega
      | true =>
        have HE : Hid (ansTo ⟨id, ten, cs, os⟩ xs (k + 1) = ansTo ⟨id, ten, cs, os⟩ xs k ++ [xs[k]]) := Lib.hid (ansTo_yes hlt hr)
        have HLA : Hid ((ansTo ⟨id, ten, cs, os⟩ xs k).length ≤ 1048576) := Lib.hid (Nat.le_trans (ansTo_len _ _ _) HBS.out.1)
        replace hcall := hcall true hr
        clear hr
        go_wp2_with fail
        have q0 := fun q : Ext wr => Ext.cell y0 q
        have q1 := fun q : Ext wr => Ext.cell y1 q
        have q2 := fun q : Ext wr => Ext.cell y2 q
        have q3 := fun q : Ext wr => Ext.cell y3 q
        have q4 := fun q : Ext wr => Ext.cell c0 q
        have q5 := fun q : Ext wr => Ext.cell c1 q
        refine wp_region_ext (by kernel_rfl) (by kernel_rfl) ?_
        repeat (go_big_quiet_step ((go_at_call 19; exact quiet_ext (hcall _))))
        refine wpQuiet_nil ?_
        intro w2 hw2
        have g2 := Ext.out hw2
        have HG2 := Lib.hid (HG.out.trans g2)
        have HO2 := Lib.hid ((HO.out.gr fr_row g2).wide (Nat.le_refl _) g2.size)
        replace c0 := g2.cellv c0
        replace c1 := g2.cellv c1
        clear hw2 g2 q0 q1 q2 q3 q4 q5 y0 y1 y2 y3 hcall
        go_wp2_with fail
        refine (spec_l3Copy xs[k] _ _ (RSlice.mono keeps_int (HW0.out.1.trans HG2.out) HC3.out) (HBS.out.2 k hlt)).mono ?_
        rintro e w3 ⟨u3, rfl, g3, hp3⟩
        obtain ⟨pa, pc, rfl⟩ := (rd_pints hp3).form
        have HP3 : Hid (PRow (In w2.heap.size w3.heap.size) w3 [.int .i64 xs[k].id, .slice pa xs[k].vals.length pc] xs[k]) := Lib.hid ⟨_, rfl, HI3.out, hp3⟩
        have HG3 := Lib.hid (HG2.out.trans g3)
        have HS2 := Lib.hid HG2.out.size
        have HGG := Lib.hid g3
        clear hp3 g3 c0 c1
        go_wp2_with (at_builtin; refine push_o (w0 := w2) (wr := w3) (la := w2.heap.size) (hb := w3.heap.size) (lo := W0.heap.size) 28 36 2 32 Tryz.underlying28 (z := .agg #[.int .i64 0, .slice none 0 0]) (by kernel_rfl) rfl (by decide) (by decide) rfl _ _ rfl fr_row xs[k] [.int .i64 xs[k].id, .slice pa xs[k].vals.length pc] rfl rfl rfl HO2.out HS2.out HGG.out HP3.out (Nat.le_refl _) (Nat.le_refl _) rfl (by simp [Value.oneCell']) (by have := HLA.out; omega) ?_; intro g5 c5 w5 hO5 hB5; rw [← HE.out] at hO5; rw [← HE.out]; have HG5 := Lib.hid (HG3.out.trans' hB5); have HO5 := Lib.hid hO5; clear hO5 hB5)
        go_roundw
        case rel => exact ⟨k + 1, _, _, by omega, by go_num, rfl, HO5, HG5⟩
        case measure => simp [intOf]; omega
    · have hlz : ¬ (k : Int) < (xs.length : Int) := by omega
      obtain rfl : k = xs.length := by omega
      go_wp2_with fail
      refine (spec_SortRows _ _ _ (rd_prows HO.out) (Nat.le_trans (ansTo_tot _ _) HB.out)).mono ?_
      rintro e w5 ⟨z, rfl, hp, g5⟩
      go_wp2_with fail
      go_ret
      exact ⟨_, rfl, hp, HW0.out.1.trans (HG.out.trans g5)⟩
end Go.Proofs.YtcdcpfcmhmhdjaaGreatDoor
