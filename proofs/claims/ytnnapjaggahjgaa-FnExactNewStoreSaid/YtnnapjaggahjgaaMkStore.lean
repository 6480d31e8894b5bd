/- The law's own helpers: marks, and what holds them. Written by gen_mark.py. -/
import Derived.Test.YtnnapjaggahjgaaMkVersion
import Derived.Test.YtnnapjaggahjgaaGenStore
namespace Go.Proofs.Ytnnapjaggahjgaa
open Go.RowKit
set_option linter.unusedSimpArgs false
set_option maxRecDepth 100000 in
set_option maxHeartbeats 4000000 in
theorem laws_markVersionSS (F : Nat → Prop) (v : Value) (xs : List (List DVersion)) (k : Int) (w : World) (hx : PVersionss F w v xs) (h0 : 0 ≤ k) (hb : k + sumT (sumT cntVersion) xs ≤ 4611686018427387904) :
    Calls Try.prog 100 #[v, .int .i64 k] w fun e w' => e = .returned (.int .i64 (k + sumT (sumT cntVersion) xs)) ∧ PVersionss F w' v (marksTo markedVersion (sumT cntVersion) k xs.length xs) ∧ Chg F w w' := by
  obtain ⟨a, cap, rfl⟩ := hx.form
  have hlen : (xs.length : Int) ≤ 9223372036854775807 := by
    obtain ⟨_, _, hve, h1, h2, _⟩ := rd_pversionss hx
    simp only [Value.slice.injEq] at hve
    omega
  go_enter Try.func100, Try.ntmps100
  go_wp2
  go_loopw [1, 5] (fun kk i wr => ∃ j : Nat, j ≤ xs.length ∧ i = .int .i64 j ∧ kk = .int .i64 (k + sumT (sumT cntVersion) (xs.take j)) ∧ PVersionss F wr (.slice a xs.length cap) (marksTo markedVersion (sumT cntVersion) k j xs) ∧ Chg F w wr) (fun _ i _ => xs.length - (intOf i).toNat)
  case atStart => exact ⟨0, Nat.zero_le _, rfl, by simp [sumT], by rw [marksTo_zero]; exact hx, Chg.refl _ _⟩
  case round =>
    obtain ⟨j, hj, rfl, rfl, hp, hch⟩ := hrel
    by_cases hlt : j < xs.length
    · obtain ⟨cs, G, hrow, hparts⟩ := hp.parts
      rw [marksTo_len] at hrow
      have hjl : j < (marksTo markedVersion (sumT cntVersion) k j xs).length := by rw [marksTo_len]; exact hlt
      obtain ⟨g, rfl⟩ := row_ptr hrow (by omega)
      obtain ⟨hcl, hEl, hG, _⟩ := hparts.2 j hjl
      rw [marksTo_ge hlt (Nat.le_refl _) hjl] at hEl
      obtain ⟨u_, hcs, h_⟩ := hEl
      have hr0 : wr.ownsRow 0 106 1 (.slice (some ⟨g, 0, none⟩) xs.length cap) xs.length (flatC 1 xs.length (updC cs j [u_])) := by rw [← hcs, updC_same]; exact hrow
      have hgG : ∀ b, G j b → b ≠ g := fun b hb e => (hG b hb).2 (by subst e; rfl)
      have hsum := sumT_take (sumT cntVersion) xs j hlt
      have hle := sumT_le (sumT cntVersion) xs (j + 1)
      have hnn : 0 ≤ k + (sumT (sumT cntVersion) (xs.take j) : Int) := by omega
      have hkb : k + (sumT (sumT cntVersion) (xs.take j) : Int) + ((sumT cntVersion) xs[j] : Int) ≤ 4611686018427387904 := by omega
      obtain ⟨k0_0, f0_0⟩ := row_cell (j := 0) hr0 hlt (by rw [updC_at]; rfl) (by rw [updC_at]; rfl) (p := j) (by omega)
      have hc1 : Chg (fun b => G j b ∨ (Value.slice (some ⟨g, 0, none⟩) xs.length cap).ownBlock = some b) wr wr := (Chg.refl _ wr)
      replace h_ : PVersions (G j) wr u_ xs[j] := OSl.frame fr_version h_ (by repeat' (first | with_reducible exact Agree.refl _ _ | with_reducible refine Agree.setCell ?_ ?_ _ | exact fun b hb => hgG b (hb)))
      go_wp2_with fail
      refine (laws_markVersionS (G j) u_ xs[j] (k + (sumT (sumT cntVersion) (xs.take j) : Int)) _ h_ (by omega) (by (try simp only [cntI, cntCond, cntRow, cntSpan, cntVersion, cntQuery, Int.natCast_add, Int.natCast_one, Int.cast_ofNat_Int] at hkb); omega)).mono ?_
      rintro e w1 ⟨rfl, hn_, hd1⟩
      have hgs1 : w1.heap[g]? = wr.heap[g]? := hd1.block g (row_lt hr0 (by omega)) (fun hb => hgG g (hb) rfl)
      have hr1 : w1.ownsRow 0 106 1 (.slice (some ⟨g, 0, none⟩) xs.length cap) xs.length (flatC 1 xs.length (updC cs j [u_])) := ownsRow_agree hr0 fun g' hg' => by cases hg'; exact hgs1
      replace h_ := hn_
      obtain ⟨k1_0, f1_0⟩ := row_cell (j := 0) hr1 hlt (by rw [updC_at]; rfl) (by rw [updC_at]; rfl) (p := j) (by omega)
      have hcz : Chg (fun b => G j b ∨ (Value.slice (some ⟨g, 0, none⟩) xs.length cap).ownBlock = some b) wr w1 := (hc1.trans (hd1.mono fun b hb => Or.inl (hb)))
      have hy : (POf PVersions) (G j) w1 [u_] (markedVersion (k + (sumT (sumT cntVersion) (xs.take j) : Int)) xs[j]) := ⟨_, rfl, h_⟩
      have hup : PVersionss F w1 (.slice (some ⟨g, 0, none⟩) xs.length cap) (marksTo markedVersion (sumT cntVersion) k (j + 1) xs) := by
        rw [marksTo_succ hlt]
        exact hparts.upd (fr_of fr_version) hjl (by rw [marksTo_len]; exact hr1) rfl hy hcz
      have hch' := hch.trans (hparts.chgF hjl hcz)
      have HUP := Lib.hid hup
      have HCH := Lib.hid hch'
      have HS := Lib.hid hsum
      clear hup hch' hy hcz hparts hp hsum hle hrow
      have hkb' := hkb
      (try simp only [cntI, cntCond, cntRow, cntSpan, cntVersion, cntQuery, Int.natCast_add, Int.natCast_one, Int.cast_ofNat_Int] at hkb')
      go_wp2_with fail
      go_roundw
      case rel => exact ⟨j + 1, by omega, by go_num, by rw [HS.out]; (try simp only [cntI, cntCond, cntRow, cntSpan, cntVersion, cntQuery, Int.natCast_add, Int.natCast_one, Int.cast_ofNat_Int]); go_num, HUP.out, HCH.out⟩
      case measure => simp [intOf]; omega
    · obtain rfl : j = xs.length := by omega
      go_wp2
      go_ret
      exact ⟨ret_int (by rw [List.take_length]), hp, hch⟩
set_option maxRecDepth 100000 in
set_option maxHeartbeats 4000000 in
theorem laws_heldVersionSS (v : Value) (xs : List (List DVersion)) (k : Int) (w : World) (hx : RVersionss w v (marksTo markedVersion (sumT cntVersion) k xs.length xs)) (h0 : 0 ≤ k) (hb : k + sumT (sumT cntVersion) xs ≤ 4611686018427387904) :
    Calls Try.prog 101 #[v, .int .i64 k] w fun e w' => e = .returned (.int .i64 (k + sumT (sumT cntVersion) xs)) ∧ Gr w w' := by
  obtain ⟨a, cap, rfl, hl, hm, hx⟩ := hx
  simp only [marksTo_len] at hl hx ⊢
  go_enter Try.func101, Try.ntmps101
  go_wp2
  go_loopw [1, 5] (fun kk i wr => ∃ j : Nat, j ≤ xs.length ∧ i = .int .i64 j ∧ kk = .int .i64 (k + sumT (sumT cntVersion) (xs.take j)) ∧ Gr w wr) (fun _ i _ => xs.length - (intOf i).toNat)
  case atStart => exact ⟨0, Nat.zero_le _, rfl, by simp [sumT], Gr.refl _⟩
  case round =>
    obtain ⟨j, hj, rfl, rfl, hgr⟩ := hrel
    by_cases hlt : j < xs.length
    · obtain ⟨b, off, cs, rfl, hlen, hE, hc⟩ := hx j hlt
      rw [marksTo_lt hlt hlt] at hE
      obtain ⟨u_, rfl, h_⟩ := hE
      have c0 := hgr.cellv (hc 0 (by simp))
      simp only [Nat.add_zero, Nat.mul_one, List.getElem_cons_zero] at c0
      clear hc hlen
      have hsum := sumT_take (sumT cntVersion) xs j hlt
      have hle := sumT_le (sumT cntVersion) xs (j + 1)
      have hnn : 0 ≤ k + (sumT (sumT cntVersion) (xs.take j) : Int) := by omega
      have hkb : k + (sumT (sumT cntVersion) (xs.take j) : Int) + ((sumT cntVersion) xs[j] : Int) ≤ 4611686018427387904 := by omega
      have hkb' := hkb
      (try simp only [cntI, cntCond, cntRow, cntSpan, cntVersion, cntQuery, Int.natCast_add, Int.natCast_one, Int.cast_ofNat_Int] at hkb')
      have HS := Lib.hid hsum
      clear hsum hle
      have hh1 := (RSlice.mono keeps_version hgr h_)
      go_wp2_with fail
      refine (laws_heldVersionS u_ xs[j] (k + (sumT (sumT cntVersion) (xs.take j) : Int)) _ hh1 (by omega) (by omega)).mono ?_
      rintro e w1 ⟨rfl, g1⟩
      have gw1 := hgr.trans g1
      have hn1 : 0 ≤ ((k + (sumT (sumT cntVersion) (xs.take j) : Int)) + (sumT cntVersion xs[j] : Int)) := by omega
      replace c0 := g1.cellv c0
      go_wp2_with fail
      go_roundw
      case rel => exact ⟨j + 1, by omega, by go_num, by rw [HS.out]; (try simp only [cntI, cntCond, cntRow, cntSpan, cntVersion, cntQuery, Int.natCast_add, Int.natCast_one, Int.cast_ofNat_Int]); go_num, gw1⟩
      case measure => simp [intOf]; omega
    · obtain rfl : j = xs.length := by omega
      go_wp2
      go_ret
      exact ⟨ret_int (by rw [List.take_length]), hgr⟩
set_option maxRecDepth 100000 in
set_option maxHeartbeats 4000000 in
theorem laws_markStore (F : Nat → Prop) (x : DStore) (u_segs : Value) (k : Int) (w : World) (h_segs : PVersionss F w u_segs x.segs) (hF_segs : ∀ b, F b → b < w.heap.size) (h0 : 0 ≤ k) (hb : k + (sumT (sumT cntVersion) x.segs : Int) ≤ 4611686018427387904) :
    Calls Try.prog 45 #[.agg #[u_segs, .int .i64 x.now], .int .i64 k] w fun e w' => e = .returned (.int .i64 (k + (sumT (sumT cntVersion) x.segs : Int))) ∧ PVersionss F w' u_segs (marksTo markedVersion (sumT cntVersion) k x.segs.length x.segs) ∧ Chg F w w' := by
  obtain ⟨segs, now⟩ := x
  dsimp only at *
  obtain ⟨a_segs, c_segs, rfl⟩ := h_segs.form
  have gc : Chg F w (w.alloc (.cells #[.slice a_segs segs.length c_segs, .int .i64 now] 29)) := (Chg.refl _ w).alloc _
  have p_segs := OSl.gr (fr_of fr_version) h_segs ((Gr.refl w).alloc (.cells #[.slice a_segs segs.length c_segs, .int .i64 now] 29))
  go_enter Try.func45, Try.ntmps45
  go_wp2_with fail
  refine (laws_markVersionSS F _ segs k _ p_segs (by omega) (by omega)).mono ?_
  rintro e w1 ⟨rfl, q_segs, d1⟩
  replace gc := gc.trans (d1.mono fun b hb => hb)
  replace p_segs := q_segs
  have hblk1 : w1.heap[w.heap.size]? = (w.alloc (.cells #[.slice a_segs segs.length c_segs, .int .i64 now] 29)).heap[w.heap.size]? := d1.block _ (by simp) (fun hb => by have := hF_segs _ hb; omega)
  have c1_0 : w1.cell? ⟨w.heap.size, 0, none⟩ = some (.slice a_segs segs.length c_segs) := by rw [World.cell?_of_block (w := (w.alloc (.cells #[.slice a_segs segs.length c_segs, .int .i64 now] 29))) hblk1]; simp [go_sem]
  have c1_1 : w1.cell? ⟨w.heap.size, 1, none⟩ = some (.int .i64 now) := by rw [World.cell?_of_block (w := (w.alloc (.cells #[.slice a_segs segs.length c_segs, .int .i64 now] 29))) hblk1]; simp [go_sem]
  go_wp2_with fail
  go_ret
  exact ⟨ret_int (by omega), p_segs, gc⟩
set_option maxRecDepth 100000 in
set_option maxHeartbeats 4000000 in
theorem laws_heldStore (x : DStore) (u_segs : Value) (k : Int) (w : World) (h_segs : RVersionss w u_segs (marksTo markedVersion (sumT cntVersion) k x.segs.length x.segs)) (h0 : 0 ≤ k) (hb : k + (sumT (sumT cntVersion) x.segs : Int) ≤ 4611686018427387904) :
    Calls Try.prog 46 #[.agg #[u_segs, .int .i64 x.now], .int .i64 k] w fun e w' => e = .returned (.int .i64 (k + (sumT (sumT cntVersion) x.segs : Int))) ∧ Gr w w' := by
  obtain ⟨segs, now⟩ := x
  dsimp only at *
  have g0 : Gr w (w.alloc (.cells #[u_segs, .int .i64 now] 29)) := (Gr.refl w).alloc _
  go_enter Try.func46, Try.ntmps46
  have hh0 := (RSlice.mono (keeps_of keeps_version) g0 h_segs)
  go_wp2_with fail
  refine (laws_heldVersionSS _ segs k _ hh0 (by omega) (by omega)).mono ?_
  rintro e w1 ⟨rfl, g1⟩
  have gw1 : Gr w w1 := g0.trans g1
  have hn1 : 0 ≤ (k + (sumT (sumT cntVersion) segs : Int)) := by omega
  have k1_0 : w1.cell? ⟨w.heap.size, 0, none⟩ = some (u_segs) := g1.cellv (by simp [go_sem])
  have k1_1 : w1.cell? ⟨w.heap.size, 1, none⟩ = some (.int .i64 now) := g1.cellv (by simp [go_sem])
  go_wp2_with fail
  go_ret
  exact ⟨ret_int (by omega), gw1⟩
end Go.Proofs.Ytnnapjaggahjgaa
