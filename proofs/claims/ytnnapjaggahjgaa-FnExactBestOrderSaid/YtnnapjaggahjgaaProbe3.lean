/- ProbeSet: the walks. Written by gen_probe3.py. -/
import Derived.Test.YtnnapjaggahjgaaProbe2
namespace Go.Proofs.Ytnnapjaggahjgaa
open Go.RowKit
set_option maxRecDepth 100000 in
set_option maxHeartbeats 1000000 in
theorem spec_ProbeSet (x : DIndex) (u v : Value) (r : DRow) (t : Value) (s : Value) (o : List Int) (w : World) (hu : RQueries w u x.queries) (hv : RSpanss w v x.fields) (ht : RInts w t r.vals) (hs : RInts w s o) (hb : totIndex x ≤ 4294967296) :
    Calls Try.prog 67 #[.agg #[u, v], .agg #[.int .i64 r.id, t], s] w fun e w' => ∃ q, e = .returned (.tuple #[q, .int .i64 (probeL x r o).2]) ∧ RInts w' q (probeL x r o).1 ∧ Gr w w' := by
  obtain ⟨ua, un, uc, rfl⟩ := hu.isSl
  obtain ⟨fa, fn, fc, rfl⟩ := hv.isSl
  obtain ⟨ta, tn, tc, rfl⟩ := ht.isSl
  obtain ⟨sa, sn, sc, rfl⟩ := hs.isSl
  have HU := Lib.hid hu
  have HV := Lib.hid hv
  have HT := Lib.hid ht
  have HS := Lib.hid hs
  clear hu hv ht hs
  have g0 : Gr w ((w.alloc (.cells #[.slice ua un uc, .slice fa fn fc] 87)).alloc (.cells #[.int .i64 r.id, .slice ta tn tc] 46)) := ((Gr.refl w).alloc _).alloc _
  cases h1 : isIndexB x with
  | false =>
    have HE := Lib.hid (probeL_no (probeOk_1 (r := r) (o := o) h1))
    have H1 := Lib.hid h1
    clear h1
    go_enter Try.func67, Try.ntmps67
    go_wp2_with fail
    refine (calls_b (spec_IsIndex x _ _ _ (RSlice.mono keeps_query g0 HU.out) (RSlice.mono (keeps_of keeps_span) g0 HV.out)) H1.out).mono ?_
    rintro e w1 ⟨rfl, g1⟩
    have gw1 := g0.trans g1
    go_wp2_with fail
    go_ret2
    exact ⟨.slice (some ⟨w1.heap.size, 0, none⟩) 0 0, by rw [HE.out]; rfl, by rw [HE.out]; exact rd_pints (OSl.made (F := fun _ => True) _ trivial), gw1.alloc _⟩
  | true =>
    cases h2 : isRowB r with
    | false =>
      have HE := Lib.hid (probeL_no (probeOk_2 (x := x) (o := o) h2))
      have H1 := Lib.hid h1
      have H2 := Lib.hid h2
      clear h1 h2
      go_enter Try.func67, Try.ntmps67
      go_wp2_with fail
      refine (calls_b (spec_IsIndex x _ _ _ (RSlice.mono keeps_query g0 HU.out) (RSlice.mono (keeps_of keeps_span) g0 HV.out)) H1.out).mono ?_
      rintro e w1 ⟨rfl, g1⟩
      have gw1 := g0.trans g1
      have p0 : w1.cell? ⟨w.heap.size, 0, none⟩ = some (.slice ua un uc) := g1.cellv (by simp [go_sem])
      have p1 : w1.cell? ⟨w.heap.size, 1, none⟩ = some (.slice fa fn fc) := g1.cellv (by simp [go_sem])
      have k0 : w1.cell? ⟨w.heap.size + 1, 0, none⟩ = some (.int .i64 r.id) := g1.cellv (by simp [go_sem])
      have k1 : w1.cell? ⟨w.heap.size + 1, 1, none⟩ = some (.slice ta tn tc) := g1.cellv (by simp [go_sem])
      go_wp2_with fail
      refine (calls_b (spec_IsRow r _ _ (HT.out.mono gw1)) H2.out).mono ?_
      rintro e w2 ⟨rfl, g2⟩
      have gw2 := gw1.trans g2
      go_wp2_with fail
      go_ret2
      exact ⟨.slice (some ⟨w2.heap.size, 0, none⟩) 0 0, by rw [HE.out]; rfl, by rw [HE.out]; exact rd_pints (OSl.made (F := fun _ => True) _ trivial), gw2.alloc _⟩
    | true =>
      cases h3 : isOrderB o with
      | false =>
        have HE := Lib.hid (probeL_no (probeOk_3 (x := x) (r := r) h3))
        have H1 := Lib.hid h1
        have H2 := Lib.hid h2
        have H3 := Lib.hid h3
        clear h1 h2 h3
        go_enter Try.func67, Try.ntmps67
        go_wp2_with fail
        refine (calls_b (spec_IsIndex x _ _ _ (RSlice.mono keeps_query g0 HU.out) (RSlice.mono (keeps_of keeps_span) g0 HV.out)) H1.out).mono ?_
        rintro e w1 ⟨rfl, g1⟩
        have gw1 := g0.trans g1
        have p0 : w1.cell? ⟨w.heap.size, 0, none⟩ = some (.slice ua un uc) := g1.cellv (by simp [go_sem])
        have p1 : w1.cell? ⟨w.heap.size, 1, none⟩ = some (.slice fa fn fc) := g1.cellv (by simp [go_sem])
        have k0 : w1.cell? ⟨w.heap.size + 1, 0, none⟩ = some (.int .i64 r.id) := g1.cellv (by simp [go_sem])
        have k1 : w1.cell? ⟨w.heap.size + 1, 1, none⟩ = some (.slice ta tn tc) := g1.cellv (by simp [go_sem])
        go_wp2_with fail
        refine (calls_b (spec_IsRow r _ _ (HT.out.mono gw1)) H2.out).mono ?_
        rintro e w2 ⟨rfl, g2⟩
        have gw2 := gw1.trans g2
        replace p0 := g2.cellv p0
        replace p1 := g2.cellv p1
        replace k0 := g2.cellv k0
        replace k1 := g2.cellv k1
        go_wp2_with fail
        refine (calls_b (spec_l6Order _ o _ (HS.out.mono gw2)) H3.out).mono ?_
        rintro e w3 ⟨rfl, g3⟩
        have gw3 := gw2.trans g3
        go_wp2_with fail
        go_ret2
        exact ⟨.slice (some ⟨w3.heap.size, 0, none⟩) 0 0, by rw [HE.out]; rfl, by rw [HE.out]; exact rd_pints (OSl.made (F := fun _ => True) _ trivial), gw3.alloc _⟩
      | true =>
        have HE := Lib.hid (probeL_yes (probeOk_yes h1 h2 h3))
        have H1 := Lib.hid h1
        have H2 := Lib.hid h2
        have H3 := Lib.hid h3
        clear h1 h2 h3
        go_enter Try.func67, Try.ntmps67
        go_wp2_with fail
        refine (calls_b (spec_IsIndex x _ _ _ (RSlice.mono keeps_query g0 HU.out) (RSlice.mono (keeps_of keeps_span) g0 HV.out)) H1.out).mono ?_
        rintro e w1 ⟨rfl, g1⟩
        have gw1 := g0.trans g1
        have p0 : w1.cell? ⟨w.heap.size, 0, none⟩ = some (.slice ua un uc) := g1.cellv (by simp [go_sem])
        have p1 : w1.cell? ⟨w.heap.size, 1, none⟩ = some (.slice fa fn fc) := g1.cellv (by simp [go_sem])
        have k0 : w1.cell? ⟨w.heap.size + 1, 0, none⟩ = some (.int .i64 r.id) := g1.cellv (by simp [go_sem])
        have k1 : w1.cell? ⟨w.heap.size + 1, 1, none⟩ = some (.slice ta tn tc) := g1.cellv (by simp [go_sem])
        go_wp2_with fail
        refine (calls_b (spec_IsRow r _ _ (HT.out.mono gw1)) H2.out).mono ?_
        rintro e w2 ⟨rfl, g2⟩
        have gw2 := gw1.trans g2
        replace p0 := g2.cellv p0
        replace p1 := g2.cellv p1
        replace k0 := g2.cellv k0
        replace k1 := g2.cellv k1
        go_wp2_with fail
        refine (calls_b (spec_l6Order _ o _ (HS.out.mono gw2)) H3.out).mono ?_
        rintro e w3 ⟨rfl, g3⟩
        have gw3 := gw2.trans g3
        replace p0 := g3.cellv p0
        replace p1 := g3.cellv p1
        replace k0 := g3.cellv k0
        replace k1 := g3.cellv k1
        go_wp2_with fail
        refine (spec_l6Probe x _ _ r _ _ o _ (RSlice.mono keeps_query gw3 HU.out) (RSlice.mono (keeps_of keeps_span) gw3 HV.out) (HT.out.mono gw3) (HS.out.mono gw3) H1.out H2.out H3.out hb).mono ?_
        rintro e w4 ⟨q, rfl, hq, g4⟩
        obtain ⟨qa, qn, rfl⟩ := hq.form
        have HQ := Lib.hid hq
        clear hq
        go_wp2_with fail
        go_ret2
        exact ⟨.slice qa (setTo x r o o.length).length qn, by rw [HE.out.2]; rfl, by rw [HE.out.1]; exact HQ.out, gw3.trans g4⟩
set_option maxRecDepth 100000 in
set_option maxHeartbeats 1000000 in
theorem impl_ProbeSet (x : DIndex) (u v : Value) (r : DRow) (t : Value) (s : Value) (o : List Int) (w : World) (hu : RQueries w u x.queries) (hv : RSpanss w v x.fields) (ht : RInts w t r.vals) (hs : RInts w s o) (hb : totIndex x ≤ 4294967296) :
    Calls Try.prog 68 #[.agg #[u, v], .agg #[.int .i64 r.id, t], s] w fun e w' => ∃ q, e = .returned (.tuple #[q, .int .i64 (probeL x r o).2]) ∧ Gr w w' ∧ PInts (In w.heap.size w'.heap.size) w' q (probeL x r o).1 := by
  obtain ⟨ua, un, uc, rfl⟩ := hu.isSl
  obtain ⟨fa, fn, fc, rfl⟩ := hv.isSl
  obtain ⟨ta, tn, tc, rfl⟩ := ht.isSl
  obtain ⟨sa, sn, sc, rfl⟩ := hs.isSl
  have HU := Lib.hid hu
  have HV := Lib.hid hv
  have HT := Lib.hid ht
  have HS := Lib.hid hs
  clear hu hv ht hs
  have g0 : Gr w ((w.alloc (.cells #[.slice ua un uc, .slice fa fn fc] 87)).alloc (.cells #[.int .i64 r.id, .slice ta tn tc] 46)) := ((Gr.refl w).alloc _).alloc _
  cases h1 : isIndexB x with
  | false =>
    have HE := Lib.hid (probeL_no (probeOk_1 (r := r) (o := o) h1))
    have H1 := Lib.hid h1
    clear h1
    go_enter Try.func68, Try.ntmps68
    go_wp2_with fail
    refine (calls_b (impl_IsIndex x _ _ _ (RSlice.mono keeps_query g0 HU.out) (RSlice.mono (keeps_of keeps_span) g0 HV.out)) H1.out).mono ?_
    rintro e w1 ⟨rfl, g1⟩
    have gw1 := g0.trans g1
    go_wp2_with fail
    go_ret2
    exact ⟨.slice none 0 0, by rw [HE.out]; rfl, gw1, by rw [HE.out]; exact OSl.nil _⟩
  | true =>
    cases h2 : isRowB r with
    | false =>
      have HE := Lib.hid (probeL_no (probeOk_2 (x := x) (o := o) h2))
      have H1 := Lib.hid h1
      have H2 := Lib.hid h2
      clear h1 h2
      go_enter Try.func68, Try.ntmps68
      go_wp2_with fail
      refine (calls_b (impl_IsIndex x _ _ _ (RSlice.mono keeps_query g0 HU.out) (RSlice.mono (keeps_of keeps_span) g0 HV.out)) H1.out).mono ?_
      rintro e w1 ⟨rfl, g1⟩
      have gw1 := g0.trans g1
      have p0 : w1.cell? ⟨w.heap.size, 0, none⟩ = some (.slice ua un uc) := g1.cellv (by simp [go_sem])
      have p1 : w1.cell? ⟨w.heap.size, 1, none⟩ = some (.slice fa fn fc) := g1.cellv (by simp [go_sem])
      have k0 : w1.cell? ⟨w.heap.size + 1, 0, none⟩ = some (.int .i64 r.id) := g1.cellv (by simp [go_sem])
      have k1 : w1.cell? ⟨w.heap.size + 1, 1, none⟩ = some (.slice ta tn tc) := g1.cellv (by simp [go_sem])
      go_wp2_with fail
      refine (calls_b (impl_IsRow r _ _ (HT.out.mono gw1)) H2.out).mono ?_
      rintro e w2 ⟨rfl, g2⟩
      have gw2 := gw1.trans g2
      go_wp2_with fail
      go_ret2
      exact ⟨.slice none 0 0, by rw [HE.out]; rfl, gw2, by rw [HE.out]; exact OSl.nil _⟩
    | true =>
      cases h3 : isOrderB o with
      | false =>
        have HE := Lib.hid (probeL_no (probeOk_3 (x := x) (r := r) h3))
        have H1 := Lib.hid h1
        have H2 := Lib.hid h2
        have H3 := Lib.hid h3
        clear h1 h2 h3
        go_enter Try.func68, Try.ntmps68
        go_wp2_with fail
        refine (calls_b (impl_IsIndex x _ _ _ (RSlice.mono keeps_query g0 HU.out) (RSlice.mono (keeps_of keeps_span) g0 HV.out)) H1.out).mono ?_
        rintro e w1 ⟨rfl, g1⟩
        have gw1 := g0.trans g1
        have p0 : w1.cell? ⟨w.heap.size, 0, none⟩ = some (.slice ua un uc) := g1.cellv (by simp [go_sem])
        have p1 : w1.cell? ⟨w.heap.size, 1, none⟩ = some (.slice fa fn fc) := g1.cellv (by simp [go_sem])
        have k0 : w1.cell? ⟨w.heap.size + 1, 0, none⟩ = some (.int .i64 r.id) := g1.cellv (by simp [go_sem])
        have k1 : w1.cell? ⟨w.heap.size + 1, 1, none⟩ = some (.slice ta tn tc) := g1.cellv (by simp [go_sem])
        go_wp2_with fail
        refine (calls_b (impl_IsRow r _ _ (HT.out.mono gw1)) H2.out).mono ?_
        rintro e w2 ⟨rfl, g2⟩
        have gw2 := gw1.trans g2
        replace p0 := g2.cellv p0
        replace p1 := g2.cellv p1
        replace k0 := g2.cellv k0
        replace k1 := g2.cellv k1
        go_wp2_with fail
        refine (calls_b (impl_isOrder _ o _ (HS.out.mono gw2)) H3.out).mono ?_
        rintro e w3 ⟨rfl, g3⟩
        have gw3 := gw2.trans g3
        go_wp2_with fail
        go_ret2
        exact ⟨.slice none 0 0, by rw [HE.out]; rfl, gw3, by rw [HE.out]; exact OSl.nil _⟩
      | true =>
        have HE := Lib.hid (probeL_yes (probeOk_yes h1 h2 h3))
        have H1 := Lib.hid h1
        have H2 := Lib.hid h2
        have H3 := Lib.hid h3
        clear h1 h2 h3
        go_enter Try.func68, Try.ntmps68
        go_wp2_with fail
        refine (calls_b (impl_IsIndex x _ _ _ (RSlice.mono keeps_query g0 HU.out) (RSlice.mono (keeps_of keeps_span) g0 HV.out)) H1.out).mono ?_
        rintro e w1 ⟨rfl, g1⟩
        have gw1 := g0.trans g1
        have p0 : w1.cell? ⟨w.heap.size, 0, none⟩ = some (.slice ua un uc) := g1.cellv (by simp [go_sem])
        have p1 : w1.cell? ⟨w.heap.size, 1, none⟩ = some (.slice fa fn fc) := g1.cellv (by simp [go_sem])
        have k0 : w1.cell? ⟨w.heap.size + 1, 0, none⟩ = some (.int .i64 r.id) := g1.cellv (by simp [go_sem])
        have k1 : w1.cell? ⟨w.heap.size + 1, 1, none⟩ = some (.slice ta tn tc) := g1.cellv (by simp [go_sem])
        go_wp2_with fail
        refine (calls_b (impl_IsRow r _ _ (HT.out.mono gw1)) H2.out).mono ?_
        rintro e w2 ⟨rfl, g2⟩
        have gw2 := gw1.trans g2
        replace p0 := g2.cellv p0
        replace p1 := g2.cellv p1
        replace k0 := g2.cellv k0
        replace k1 := g2.cellv k1
        go_wp2_with fail
        refine (calls_b (impl_isOrder _ o _ (HS.out.mono gw2)) H3.out).mono ?_
        rintro e w3 ⟨rfl, g3⟩
        have gw3 := gw2.trans g3
        replace p0 := g3.cellv p0
        replace p1 := g3.cellv p1
        replace k0 := g3.cellv k0
        replace k1 := g3.cellv k1
        go_wp2_with fail
        refine (impl_probe x _ _ r _ _ o _ (RSlice.mono keeps_query gw3 HU.out) (RSlice.mono (keeps_of keeps_span) gw3 HV.out) (HT.out.mono gw3) (HS.out.mono gw3) H1.out H2.out H3.out hb).mono ?_
        rintro e w4 ⟨q, rfl, g4, hq⟩
        obtain ⟨qa, qn, rfl⟩ := (rd_pints hq).form
        have HQ := Lib.hid (hq.wide (lo' := w.heap.size) (hi' := w4.heap.size) gw3.size (Nat.le_refl _))
        clear hq
        go_wp2_with fail
        go_ret2
        exact ⟨.slice qa (setTo x r o o.length).length qn, by rw [HE.out.2]; rfl, gw3.trans g4, by rw [HE.out.1]; exact HQ.out⟩
end Go.Proofs.Ytnnapjaggahjgaa
