/- The law's own helpers: marks, and what holds them. Written by gen_mark.py. -/
import Derived.Test.YtnnapjaggahjgaaMkQuery
import Derived.Test.YtnnapjaggahjgaaMkSpan
import Derived.Test.YtnnapjaggahjgaaGenIndex
namespace Go.Proofs.Ytnnapjaggahjgaa
open Go.RowKit
set_option linter.unusedSimpArgs false
set_option maxRecDepth 100000 in
set_option maxHeartbeats 4000000 in
theorem laws_markSpanSS (F : Nat → Prop) (v : Value) (xs : List (List DSpan)) (k : Int) (w : World) (hx : PSpanss F w v xs) (h0 : 0 ≤ k) (hb : k + sumT (sumT cntSpan) xs ≤ 4611686018427387904) :
    Calls Try.prog 114 #[v, .int .i64 k] w fun e w' => e = .returned (.int .i64 (k + sumT (sumT cntSpan) xs)) ∧ PSpanss F w' v (marksTo markedSpan (sumT cntSpan) k xs.length xs) ∧ Chg F w w' := by
  obtain ⟨a, cap, rfl⟩ := hx.form
  have hlen : (xs.length : Int) ≤ 9223372036854775807 := by
    obtain ⟨_, _, hve, h1, h2, _⟩ := rd_pspanss hx
    simp only [Value.slice.injEq] at hve
    omega
  go_enter Try.func114, Try.ntmps114
  go_wp2
  go_loopw [1, 5] (fun kk i wr => ∃ j : Nat, j ≤ xs.length ∧ i = .int .i64 j ∧ kk = .int .i64 (k + sumT (sumT cntSpan) (xs.take j)) ∧ PSpanss F wr (.slice a xs.length cap) (marksTo markedSpan (sumT cntSpan) k j xs) ∧ Chg F w wr) (fun _ i _ => xs.length - (intOf i).toNat)
  case atStart => exact ⟨0, Nat.zero_le _, rfl, by simp [sumT], by rw [marksTo_zero]; exact hx, Chg.refl _ _⟩
  case round =>
    obtain ⟨j, hj, rfl, rfl, hp, hch⟩ := hrel
    by_cases hlt : j < xs.length
    · obtain ⟨cs, G, hrow, hparts⟩ := hp.parts
      rw [marksTo_len] at hrow
      have hjl : j < (marksTo markedSpan (sumT cntSpan) k j xs).length := by rw [marksTo_len]; exact hlt
      obtain ⟨g, rfl⟩ := row_ptr hrow (by omega)
      obtain ⟨hcl, hEl, hG, _⟩ := hparts.2 j hjl
      rw [marksTo_ge hlt (Nat.le_refl _) hjl] at hEl
      obtain ⟨u_, hcs, h_⟩ := hEl
      have hr0 : wr.ownsRow 0 75 1 (.slice (some ⟨g, 0, none⟩) xs.length cap) xs.length (flatC 1 xs.length (updC cs j [u_])) := by rw [← hcs, updC_same]; exact hrow
      have hgG : ∀ b, G j b → b ≠ g := fun b hb e => (hG b hb).2 (by subst e; rfl)
      have hsum := sumT_take (sumT cntSpan) xs j hlt
      have hle := sumT_le (sumT cntSpan) xs (j + 1)
      have hnn : 0 ≤ k + (sumT (sumT cntSpan) (xs.take j) : Int) := by omega
      have hkb : k + (sumT (sumT cntSpan) (xs.take j) : Int) + ((sumT cntSpan) xs[j] : Int) ≤ 4611686018427387904 := by omega
      obtain ⟨k0_0, f0_0⟩ := row_cell (j := 0) hr0 hlt (by rw [updC_at]; rfl) (by rw [updC_at]; rfl) (p := j) (by omega)
      have hc1 : Chg (fun b => G j b ∨ (Value.slice (some ⟨g, 0, none⟩) xs.length cap).ownBlock = some b) wr wr := (Chg.refl _ wr)
      replace h_ : PSpans (G j) wr u_ xs[j] := OSl.frame fr_span h_ (by repeat' (first | with_reducible exact Agree.refl _ _ | with_reducible refine Agree.setCell ?_ ?_ _ | exact fun b hb => hgG b (hb)))
      go_wp2_with fail
      refine (laws_markSpanS (G j) u_ xs[j] (k + (sumT (sumT cntSpan) (xs.take j) : Int)) _ h_ (by omega) (by (try simp only [cntI, cntCond, cntRow, cntSpan, cntVersion, cntQuery, Int.natCast_add, Int.natCast_one, Int.cast_ofNat_Int] at hkb); omega)).mono ?_
      rintro e w1 ⟨rfl, hn_, hd1⟩
      have hgs1 : w1.heap[g]? = wr.heap[g]? := hd1.block g (row_lt hr0 (by omega)) (fun hb => hgG g (hb) rfl)
      have hr1 : w1.ownsRow 0 75 1 (.slice (some ⟨g, 0, none⟩) xs.length cap) xs.length (flatC 1 xs.length (updC cs j [u_])) := ownsRow_agree hr0 fun g' hg' => by cases hg'; exact hgs1
      replace h_ := hn_
      obtain ⟨k1_0, f1_0⟩ := row_cell (j := 0) hr1 hlt (by rw [updC_at]; rfl) (by rw [updC_at]; rfl) (p := j) (by omega)
      have hcz : Chg (fun b => G j b ∨ (Value.slice (some ⟨g, 0, none⟩) xs.length cap).ownBlock = some b) wr w1 := (hc1.trans (hd1.mono fun b hb => Or.inl (hb)))
      have hy : (POf PSpans) (G j) w1 [u_] (markedSpan (k + (sumT (sumT cntSpan) (xs.take j) : Int)) xs[j]) := ⟨_, rfl, h_⟩
      have hup : PSpanss F w1 (.slice (some ⟨g, 0, none⟩) xs.length cap) (marksTo markedSpan (sumT cntSpan) k (j + 1) xs) := by
        rw [marksTo_succ hlt]
        exact hparts.upd (fr_of fr_span) hjl (by rw [marksTo_len]; exact hr1) rfl hy hcz
      have hch' := hch.trans (hparts.chgF hjl hcz)
      have HUP := Lib.hid hup
      have HCH := Lib.hid hch'
      have HS := Lib.hid hsum
      clear hup hch' hy hcz hparts hp hsum hle hrow
      have hkb' := hkb
      (try simp only [cntI, cntCond, cntRow, cntSpan, cntVersion, cntQuery, Int.natCast_add, Int.natCast_one, Int.cast_ofNat_Int] at hkb')
      go_wp2_with fail
      go_roundw
      case rel => exact ⟨j + 1, by omega, by go_num, by rw [HS.out]; (try simp only [cntI, cntCond, cntRow, cntSpan, cntVersion, cntQuery, Int.natCast_add, Int.natCast_one, Int.cast_ofNat_Int]); go_num, HUP.out, HCH.out⟩
      case measure => simp [intOf]; omega
    · obtain rfl : j = xs.length := by omega
      go_wp2
      go_ret
      exact ⟨ret_int (by rw [List.take_length]), hp, hch⟩
set_option maxRecDepth 100000 in
set_option maxHeartbeats 4000000 in
theorem laws_heldSpanSS (v : Value) (xs : List (List DSpan)) (k : Int) (w : World) (hx : RSpanss w v (marksTo markedSpan (sumT cntSpan) k xs.length xs)) (h0 : 0 ≤ k) (hb : k + sumT (sumT cntSpan) xs ≤ 4611686018427387904) :
    Calls Try.prog 116 #[v, .int .i64 k] w fun e w' => e = .returned (.int .i64 (k + sumT (sumT cntSpan) xs)) ∧ Gr w w' := by
  obtain ⟨a, cap, rfl, hl, hm, hx⟩ := hx
  simp only [marksTo_len] at hl hx ⊢
  go_enter Try.func116, Try.ntmps116
  go_wp2
  go_loopw [1, 5] (fun kk i wr => ∃ j : Nat, j ≤ xs.length ∧ i = .int .i64 j ∧ kk = .int .i64 (k + sumT (sumT cntSpan) (xs.take j)) ∧ Gr w wr) (fun _ i _ => xs.length - (intOf i).toNat)
  case atStart => exact ⟨0, Nat.zero_le _, rfl, by simp [sumT], Gr.refl _⟩
  case round =>
    obtain ⟨j, hj, rfl, rfl, hgr⟩ := hrel
    by_cases hlt : j < xs.length
    · obtain ⟨b, off, cs, rfl, hlen, hE, hc⟩ := hx j hlt
      rw [marksTo_lt hlt hlt] at hE
      obtain ⟨u_, rfl, h_⟩ := hE
      have c0 := hgr.cellv (hc 0 (by simp))
      simp only [Nat.add_zero, Nat.mul_one, List.getElem_cons_zero] at c0
      clear hc hlen
      have hsum := sumT_take (sumT cntSpan) xs j hlt
      have hle := sumT_le (sumT cntSpan) xs (j + 1)
      have hnn : 0 ≤ k + (sumT (sumT cntSpan) (xs.take j) : Int) := by omega
      have hkb : k + (sumT (sumT cntSpan) (xs.take j) : Int) + ((sumT cntSpan) xs[j] : Int) ≤ 4611686018427387904 := by omega
      have hkb' := hkb
      (try simp only [cntI, cntCond, cntRow, cntSpan, cntVersion, cntQuery, Int.natCast_add, Int.natCast_one, Int.cast_ofNat_Int] at hkb')
      have HS := Lib.hid hsum
      clear hsum hle
      have hh1 := (RSlice.mono keeps_span hgr h_)
      go_wp2_with fail
      refine (laws_heldSpanS u_ xs[j] (k + (sumT (sumT cntSpan) (xs.take j) : Int)) _ hh1 (by omega) (by omega)).mono ?_
      rintro e w1 ⟨rfl, g1⟩
      have gw1 := hgr.trans g1
      have hn1 : 0 ≤ ((k + (sumT (sumT cntSpan) (xs.take j) : Int)) + (sumT cntSpan xs[j] : Int)) := by omega
      replace c0 := g1.cellv c0
      go_wp2_with fail
      go_roundw
      case rel => exact ⟨j + 1, by omega, by go_num, by rw [HS.out]; (try simp only [cntI, cntCond, cntRow, cntSpan, cntVersion, cntQuery, Int.natCast_add, Int.natCast_one, Int.cast_ofNat_Int]); go_num, gw1⟩
      case measure => simp [intOf]; omega
    · obtain rfl : j = xs.length := by omega
      go_wp2
      go_ret
      exact ⟨ret_int (by rw [List.take_length]), hgr⟩
set_option maxRecDepth 100000 in
set_option maxHeartbeats 4000000 in
theorem laws_markIndex (F1 F2 : Nat → Prop) (x : DIndex) (u_queries : Value) (u_fields : Value) (k : Int) (w : World) (h_queries : PQueries F1 w u_queries x.queries) (hF_queries : ∀ b, F1 b → b < w.heap.size) (h_fields : PSpanss F2 w u_fields x.fields) (hF_fields : ∀ b, F2 b → b < w.heap.size) (hd : ∀ b, F1 b → ¬ F2 b) (h0 : 0 ≤ k) (hb : k + ((sumT cntQuery x.queries : Int) + (sumT (sumT cntSpan) x.fields : Int)) ≤ 4611686018427387904) :
    Calls Try.prog 62 #[.agg #[u_queries, u_fields], .int .i64 k] w fun e w' => e = .returned (.int .i64 (k + (sumT cntQuery x.queries : Int) + (sumT (sumT cntSpan) x.fields : Int))) ∧ PQueries F1 w' u_queries (marksTo mkQuery cntQuery k x.queries.length x.queries) ∧ PSpanss F2 w' u_fields (marksTo markedSpan (sumT cntSpan) (k + (sumT cntQuery x.queries : Int)) x.fields.length x.fields) ∧ Chg (fun b => F1 b ∨ F2 b) w w' := by
  obtain ⟨queries, fields⟩ := x
  dsimp only at *
  obtain ⟨a_queries, c_queries, rfl⟩ := h_queries.form
  obtain ⟨a_fields, c_fields, rfl⟩ := h_fields.form
  have gc : Chg (fun b => F1 b ∨ F2 b) w (w.alloc (.cells #[.slice a_queries queries.length c_queries, .slice a_fields fields.length c_fields] 87)) := (Chg.refl _ w).alloc _
  have p_queries := OSl.gr fr_query h_queries ((Gr.refl w).alloc (.cells #[.slice a_queries queries.length c_queries, .slice a_fields fields.length c_fields] 87))
  have p_fields := OSl.gr (fr_of fr_span) h_fields ((Gr.refl w).alloc (.cells #[.slice a_queries queries.length c_queries, .slice a_fields fields.length c_fields] 87))
  go_enter Try.func62, Try.ntmps62
  go_wp2_with fail
  refine (laws_markQueryS F1 _ queries k _ p_queries (by omega) (by omega)).mono ?_
  rintro e w1 ⟨rfl, q_queries, d1⟩
  replace gc := gc.trans (d1.mono fun b hb => Or.inl hb)
  replace p_queries := q_queries
  replace p_fields := OSl.frame (fr_of fr_span) p_fields (d1.agree fun b hb hc => hd b hc hb)
  have hblk1 : w1.heap[w.heap.size]? = (w.alloc (.cells #[.slice a_queries queries.length c_queries, .slice a_fields fields.length c_fields] 87)).heap[w.heap.size]? := d1.block _ (by simp) (fun hb => by have := hF_queries _ hb; omega)
  have c1_0 : w1.cell? ⟨w.heap.size, 0, none⟩ = some (.slice a_queries queries.length c_queries) := by rw [World.cell?_of_block (w := (w.alloc (.cells #[.slice a_queries queries.length c_queries, .slice a_fields fields.length c_fields] 87))) hblk1]; simp [go_sem]
  have c1_1 : w1.cell? ⟨w.heap.size, 1, none⟩ = some (.slice a_fields fields.length c_fields) := by rw [World.cell?_of_block (w := (w.alloc (.cells #[.slice a_queries queries.length c_queries, .slice a_fields fields.length c_fields] 87))) hblk1]; simp [go_sem]
  go_wp2_with fail
  refine (laws_markSpanSS F2 _ fields (k + (sumT cntQuery queries : Int)) _ p_fields (by omega) (by omega)).mono ?_
  rintro e w2 ⟨rfl, q_fields, d2⟩
  replace gc := gc.trans (d2.mono fun b hb => Or.inr hb)
  replace p_queries := OSl.frame fr_query p_queries (d2.agree fun b hb hc => hd b hb hc)
  replace p_fields := q_fields
  have hblk2 : w2.heap[w.heap.size]? = w1.heap[w.heap.size]? := d2.block _ (by exact Nat.lt_of_lt_of_le (show w.heap.size < (w.alloc (.cells #[.slice a_queries queries.length c_queries, .slice a_fields fields.length c_fields] 87)).heap.size from by simp) d1.size) (fun hb => by have := hF_fields _ hb; omega)
  have c2_0 : w2.cell? ⟨w.heap.size, 0, none⟩ = some (.slice a_queries queries.length c_queries) := by rw [World.cell?_of_block (w := w1) hblk2]; exact c1_0
  have c2_1 : w2.cell? ⟨w.heap.size, 1, none⟩ = some (.slice a_fields fields.length c_fields) := by rw [World.cell?_of_block (w := w1) hblk2]; exact c1_1
  go_wp2_with fail
  go_ret
  exact ⟨ret_int (by omega), p_queries, p_fields, gc⟩
set_option maxRecDepth 100000 in
set_option maxHeartbeats 4000000 in
theorem laws_heldIndex (x : DIndex) (u_queries : Value) (u_fields : Value) (k : Int) (w : World) (h_queries : RQueries w u_queries (marksTo mkQuery cntQuery k x.queries.length x.queries)) (h_fields : RSpanss w u_fields (marksTo markedSpan (sumT cntSpan) (k + (sumT cntQuery x.queries : Int)) x.fields.length x.fields)) (h0 : 0 ≤ k) (hb : k + ((sumT cntQuery x.queries : Int) + (sumT (sumT cntSpan) x.fields : Int)) ≤ 4611686018427387904) :
    Calls Try.prog 63 #[.agg #[u_queries, u_fields], .int .i64 k] w fun e w' => e = .returned (.int .i64 (k + (sumT cntQuery x.queries : Int) + (sumT (sumT cntSpan) x.fields : Int))) ∧ Gr w w' := by
  obtain ⟨queries, fields⟩ := x
  dsimp only at *
  have g0 : Gr w (w.alloc (.cells #[u_queries, u_fields] 87)) := (Gr.refl w).alloc _
  go_enter Try.func63, Try.ntmps63
  have hh0 := (RSlice.mono keeps_query g0 h_queries)
  go_wp2_with fail
  refine (laws_heldQueryS _ queries k _ hh0 (by omega) (by omega)).mono ?_
  rintro e w1 ⟨rfl, g1⟩
  have gw1 : Gr w w1 := g0.trans g1
  have hn1 : 0 ≤ (k + (sumT cntQuery queries : Int)) := by omega
  have k1_0 : w1.cell? ⟨w.heap.size, 0, none⟩ = some (u_queries) := g1.cellv (by simp [go_sem])
  have k1_1 : w1.cell? ⟨w.heap.size, 1, none⟩ = some (u_fields) := g1.cellv (by simp [go_sem])
  have hh1 := (RSlice.mono (keeps_of keeps_span) gw1 h_fields)
  go_wp2_with fail
  refine (laws_heldSpanSS _ fields (k + (sumT cntQuery queries : Int)) _ hh1 (by omega) (by omega)).mono ?_
  rintro e w2 ⟨rfl, g2⟩
  have gw2 : Gr w w2 := gw1.trans g2
  have hn2 : 0 ≤ (k + (sumT cntQuery queries : Int) + (sumT (sumT cntSpan) fields : Int)) := by omega
  have k2_0 : w2.cell? ⟨w.heap.size, 0, none⟩ = some (u_queries) := g2.cellv (by simp [k1_0])
  have k2_1 : w2.cell? ⟨w.heap.size, 1, none⟩ = some (u_fields) := g2.cellv (by simp [k1_1])
  go_wp2_with fail
  go_ret
  exact ⟨ret_int (by omega), gw2⟩
end Go.Proofs.Ytnnapjaggahjgaa
