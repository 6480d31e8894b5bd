/- BuildIndex: the program's walk. -/
import Derived.Test.YtnnapjaggahjgaaBuildQ
namespace Go.Proofs.Ytnnapjaggahjgaa
open Go.ChangeShapes Go.WideShapes Go.RowKit Go.Deep
set_option maxRecDepth 100000 in
set_option maxHeartbeats 1000000 in
theorem impl_copyQueries (v : Value) (xs : List DQuery) (w : World) (hv : RQueries w v xs) (hb : totL totQuery xs ≤ 4294967296) :
    Calls Try.prog 113 #[v] w fun e w' => ∃ u, e = .returned u ∧ Gr w w' ∧ PQueries (In w.heap.size w'.heap.size) w' u xs := by
  have hbs : xs.length ≤ 4294967296 ∧ ∀ k (h : k < xs.length), totQuery xs[k] ≤ 4294967296 := by
    refine ⟨by unfold totL at hb; omega, fun k h => ?_⟩
    have h2 := sumT_mem totQuery xs k h
    unfold totL at hb
    omega
  have HBS := Lib.hid hbs
  clear hbs
  obtain ⟨a, cap, rfl, hl, hm, hx3⟩ := hv
  have g0 : Gr w (w.alloc (.cells #[] 44)) := (Gr.refl w).alloc _
  have HST : Hid (PQueries (In w.heap.size (w.alloc (.cells #[] 44)).heap.size) (w.alloc (.cells #[] 44)) (.slice (some ⟨w.heap.size, 0, none⟩) 0 0) (qTo xs 0)) := Lib.hid (OSl.made w ⟨Nat.le_refl _, by simp⟩)
  go_enter Try.func113, Try.ntmps113
  go_wp2
  go_loopw [3, 9] (fun out i wr => ∃ (k : Nat) (b : Option Addr) (c : Nat), k ≤ xs.length ∧ i = .int .i64 k ∧ out = .slice b (qTo xs k).length c ∧ Hid (PQueries (In w.heap.size wr.heap.size) wr out (qTo xs k)) ∧ Gr w wr) (fun _ i _ => xs.length - (intOf i).toNat)
  case atStart => exact ⟨0, _, _, Nat.zero_le _, rfl, rfl, HST, g0⟩
  case round =>
    obtain ⟨k, bo, co, hk, rfl, rfl, ho, hgr⟩ := hrel
    by_cases hlt : k < xs.length
    · obtain ⟨b3, off3, cs3, rfl, hlen3, ⟨u_conds3, u_out3, rfl, i_id3, i_tenant3, h_conds3, h_out3⟩, hc3⟩ := hx3 k hlt
      have c0 := hgr.cellv (hc3 0 (by simp))
      have c1 := hgr.cellv (hc3 1 (by simp))
      have c2 := hgr.cellv (hc3 2 (by simp))
      have c3 := hgr.cellv (hc3 3 (by simp))
      simp only [Nat.add_zero, List.getElem_cons_zero, List.getElem_cons_succ] at c0 c1 c2 c3
      clear hc3 hlen3
      obtain ⟨va, vn, vc, rfl⟩ := RSlice.isSl h_conds3
      obtain ⟨xa, xn, xc, rfl⟩ := RSlice.isSl h_out3
      have gq : Gr wr (wr.alloc (.cells #[.int .i64 xs[k].id, .int .i64 xs[k].tenant, .slice va vn vc, .slice xa xn xc] 44)) := (Gr.refl _).alloc _
      have hgq := hgr.trans gq
      have HI3 := Lib.hid i_id3
      have HT3 := Lib.hid i_tenant3
      have HC3 := Lib.hid (RSlice.mono keeps_cond hgq h_conds3)
      have HO3 := Lib.hid (RSlice.mono keeps_int hgq h_out3)
      have HS := Lib.hid (qTo_succ hlt)
      have HB : Hid (((qTo xs k).length + 1) * 64 ≤ 140737488355328) := Lib.hid (by rw [qTo_len hk]; have := HBS.out.1; omega)
      have HSZ := Lib.hid hgr.size
      have HSQ := Lib.hid gq.size
      clear h_conds3 h_out3
      go_wp2_with fail
      refine (impl_copyQuery xs[k] _ _ _ HC3.out HO3.out (HBS.out.2 k hlt)).mono ?_
      rintro e w2 ⟨u2, x2, rfl, g2, m2, hm1, hm2, hc2, hp2⟩
      obtain ⟨ca, cc, rfl⟩ := hc2.form
      obtain ⟨pa, pc, rfl⟩ := hp2.form
      have HQ2 : Hid (PQuery (In (wr.alloc (.cells #[.int .i64 xs[k].id, .int .i64 xs[k].tenant, .slice va vn vc, .slice xa xn xc] 44)).heap.size w2.heap.size) w2 [.int .i64 xs[k].id, .int .i64 xs[k].tenant, .slice ca xs[k].conds.length cc, .slice pa xs[k].out.length pc] xs[k]) := Lib.hid ⟨_, _, _, _, rfl, HI3.out, HT3.out, hc2, hp2, fun b hb => ⟨⟨hb.1, Nat.lt_of_lt_of_le hb.2 hm2⟩, fun hc => by have := hb.2; have := hc.1; omega⟩, fun b hb => ⟨Nat.le_trans hm1 hb.1, hb.2⟩⟩
      have gr2 := gq.trans g2
      clear hc2 hp2 hm1 hm2 g2
      go_wp2_with (at_builtin; refine push_o (w0 := wr) (wr := w2) (la := (wr.alloc (.cells #[.int .i64 xs[k].id, .int .i64 xs[k].tenant, .slice va vn vc, .slice xa xn xc] 44)).heap.size) (hb := w2.heap.size) (lo := w.heap.size) 58 44 4 64 Try.underlying58 (z := .agg #[.int .i64 0, .int .i64 0, .slice none 0 0, .slice none 0 0]) (by kernel_rfl) rfl (by decide) (by decide) rfl _ _ rfl fr_query xs[k] [.int .i64 xs[k].id, .int .i64 xs[k].tenant, .slice ca xs[k].conds.length cc, .slice pa xs[k].out.length pc] rfl rfl rfl ho.out HSZ.out gr2 HQ2.out HSQ.out (Nat.le_refl _) rfl (by simp [Value.oneCell']) HB.out ?_; intro g4 cap4 w4 hown4 hb4)
      go_roundw
      case rel => exact ⟨k + 1, _, _, by omega, by go_num, by rw [HS.out, List.length_append, List.length_singleton], Lib.hid (by have h := hown4; rw [List.length_append, List.length_singleton] at h; rw [HS.out]; exact h), (hgr.trans gr2).trans' hb4⟩
      case measure => simp [intOf]; omega
    · obtain rfl : k = xs.length := by omega
      rw [qTo_all] at ho
      go_wp2_with fail
      go_ret
      exact ⟨_, rfl, hgr, by rw [qTo_all]; exact ho.out⟩
end Go.Proofs.Ytnnapjaggahjgaa
