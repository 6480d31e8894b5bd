/- MatchSet: the walks. Written by gen_probe3.py. -/
import Derived.Test.YtnnapjaggahjgaaProbe3
namespace Go.Proofs.Ytnnapjaggahjgaa
open Go.RowKit
set_option maxRecDepth 100000 in
set_option maxHeartbeats 1000000 in
theorem spec_MatchSet (x : DIndex) (u v : Value) (r : DRow) (t : Value) (w : World) (hu : RQueries w u x.queries) (hv : RSpanss w v x.fields) (ht : RInts w t r.vals) (hb : totIndex x ≤ 4294967296) :
    Calls Try.prog 69 #[.agg #[u, v], .agg #[.int .i64 r.id, t]] w fun e w' => ∃ q, e = .returned (q) ∧ RInts w' q (probeL x r [0, 1, 2]).1 ∧ Gr w w' := by
  obtain ⟨ua, un, uc, rfl⟩ := hu.isSl
  obtain ⟨fa, fn, fc, rfl⟩ := hv.isSl
  obtain ⟨ta, tn, tc, rfl⟩ := ht.isSl
  have g0 : Gr w (((w.alloc (.cells #[.slice ua un uc, .slice fa fn fc] 87)).alloc (.cells #[.int .i64 r.id, .slice ta tn tc] 46)).alloc (.cells #[.int .i64 0, .int .i64 1, .int .i64 2] 3)) := (((Gr.refl w).alloc _).alloc _).alloc _
  have hord : RInts (((w.alloc (.cells #[.slice ua un uc, .slice fa fn fc] 87)).alloc (.cells #[.int .i64 r.id, .slice ta tn tc] 46)).alloc (.cells #[.int .i64 0, .int .i64 1, .int .i64 2] 3)) (.slice (some ⟨w.heap.size + 1 + 1, 0, none⟩) 3 3) [0, 1, 2] := by
    refine ⟨some ⟨w.heap.size + 1 + 1, 0, none⟩, 3, rfl, by decide, by decide, fun i hi => ⟨w.heap.size + 1 + 1, 0, [.int .i64 ([0, 1, 2] : List Int)[i]], rfl, rfl, ⟨rfl, ?_⟩, fun j hj => ?_⟩⟩
    · rcases i with _ | _ | _ | i
      · simp [I64]
      · simp [I64]
      · simp [I64]
      · simp at hi; omega
    · have hj0 : j = 0 := by simpa using hj
      subst hj0
      rcases i with _ | _ | _ | i
      · simp [go_sem]
      · simp [go_sem]
      · simp [go_sem]
      · simp at hi; omega
  have HO := Lib.hid hord
  clear hord
  go_enter Try.func69, Try.ntmps69
  go_wp2_with fail
  refine (spec_ProbeSet x _ _ r _ _ [0, 1, 2] _ (RSlice.mono keeps_query g0 hu) (RSlice.mono (keeps_of keeps_span) g0 hv) (ht.mono g0) HO.out hb).mono ?_
  rintro e w1 ⟨q, rfl, hq, g1⟩
  obtain ⟨qa, qn, rfl⟩ := hq.form
  have HQ := Lib.hid hq
  clear hq
  go_wp2_with fail
  go_ret
  exact ⟨_, rfl, HQ.out, g0.trans g1⟩
set_option maxRecDepth 100000 in
set_option maxHeartbeats 1000000 in
theorem impl_MatchSet (x : DIndex) (u v : Value) (r : DRow) (t : Value) (w : World) (hu : RQueries w u x.queries) (hv : RSpanss w v x.fields) (ht : RInts w t r.vals) (hb : totIndex x ≤ 4294967296) :
    Calls Try.prog 70 #[.agg #[u, v], .agg #[.int .i64 r.id, t]] w fun e w' => ∃ q, e = .returned (q) ∧ Gr w w' ∧ PInts (In w.heap.size w'.heap.size) w' q (probeL x r [0, 1, 2]).1 := by
  obtain ⟨ua, un, uc, rfl⟩ := hu.isSl
  obtain ⟨fa, fn, fc, rfl⟩ := hv.isSl
  obtain ⟨ta, tn, tc, rfl⟩ := ht.isSl
  have g0 : Gr w (((w.alloc (.cells #[.slice ua un uc, .slice fa fn fc] 87)).alloc (.cells #[.int .i64 r.id, .slice ta tn tc] 46)).alloc (.cells #[.int .i64 0, .int .i64 1, .int .i64 2] 3)) := (((Gr.refl w).alloc _).alloc _).alloc _
  have hord : RInts (((w.alloc (.cells #[.slice ua un uc, .slice fa fn fc] 87)).alloc (.cells #[.int .i64 r.id, .slice ta tn tc] 46)).alloc (.cells #[.int .i64 0, .int .i64 1, .int .i64 2] 3)) (.slice (some ⟨w.heap.size + 1 + 1, 0, none⟩) 3 3) [0, 1, 2] := by
    refine ⟨some ⟨w.heap.size + 1 + 1, 0, none⟩, 3, rfl, by decide, by decide, fun i hi => ⟨w.heap.size + 1 + 1, 0, [.int .i64 ([0, 1, 2] : List Int)[i]], rfl, rfl, ⟨rfl, ?_⟩, fun j hj => ?_⟩⟩
    · rcases i with _ | _ | _ | i
      · simp [I64]
      · simp [I64]
      · simp [I64]
      · simp at hi; omega
    · have hj0 : j = 0 := by simpa using hj
      subst hj0
      rcases i with _ | _ | _ | i
      · simp [go_sem]
      · simp [go_sem]
      · simp [go_sem]
      · simp at hi; omega
  have HO := Lib.hid hord
  clear hord
  go_enter Try.func70, Try.ntmps70
  go_wp2_with fail
  refine (impl_ProbeSet x _ _ r _ _ [0, 1, 2] _ (RSlice.mono keeps_query g0 hu) (RSlice.mono (keeps_of keeps_span) g0 hv) (ht.mono g0) HO.out hb).mono ?_
  rintro e w1 ⟨q, rfl, g1, hq⟩
  obtain ⟨qa, qn, rfl⟩ := (rd_pints hq).form
  have HQ := Lib.hid (hq.wide (lo' := w.heap.size) (hi' := w1.heap.size) g0.size (Nat.le_refl _))
  clear hq
  go_wp2_with fail
  go_ret
  exact ⟨_, rfl, g0.trans g1, HQ.out⟩
end Go.Proofs.Ytnnapjaggahjgaa
