/- FormatSpans: the law. -/
import Derived.Test.YtjeffagejbdjkaaDoorSpanI
import Derived.Test.YtjeffagejbdjkaaDoorMkSpan
namespace Go.Proofs.YtjeffagejbdjkaaDoor
open Go.RowKit
-- mgen FnExactFormatSpans FormatSpans+HQ0!tens str "⟨(spansText x0).toArray⟩" - SpanS
set_option maxRecDepth 100000 in
set_option maxHeartbeats 1500000 in
theorem law_FnExactFormatSpans (w : World) (hT : Tens Tryd.prog w) (v0 : Value) (x0 : List DSpan) (hv0 : RSpans w v0 x0) : Calls Tryd.prog 6 #[v0] w fun e w' => e = .returned (.bool true) ∧ Gr w w' := by
  have HTens := Lib.hid hT
  clear hT
  obtain ⟨a0, c0, hve0⟩ := hv0.form
  subst hve0
  by_cases hs0 : ((totL totSpan x0) : Int) ≤ (1048576 : Int)
  · have HZ0 := Lib.hid (szV_yes (t := (totL totSpan x0)) (left := (1048576 : Int)) (by omega))
    have HA0 := Lib.hid (show (0 : Int) ≤ (1048576 : Int) ∧ (1048576 : Int) ≤ 1048576 from by omega)
    have HB0 := Lib.hid (show (0 : Int) ≤ (1048576 : Int) - ((totL totSpan x0) : Int) ∧ (1048576 : Int) - ((totL totSpan x0) : Int) ≤ 1048576 from by omega)
    have HT0 := Lib.hid (show (totL totSpan x0) ≤ 4294967296 from by omega)
    have HQ0 : Hid ((totL totSpan x0) ≤ 1048576) := Lib.hid (by omega)
    clear hs0
    go_enter Tryd.func6, Tryd.ntmps6
    have Bhv0 := Lib.hid hv0
    replace hv0 := Lib.hid hv0
    go_wp2_with fail
    refine (laws_szSpanS _ _ x0 _ hv0.out HA0.out.1 HA0.out.2).mono ?_
    rintro e w1 ⟨rfl, g1⟩
    have Z1 : Hid (w.heap.size + 0 ≤ w1.heap.size) := Lib.hid (by have := g1.size; simpa using this)
    replace hv0 : Hid (RSpans w1 (.slice a0 x0.length c0) x0) := Lib.hid (RSlice.mono keeps_span g1 hv0.out)
    have gw : Hid (Gr w w1) := Lib.hid g1
    rw [HZ0.out]
    have hB0 := HB0.out.1
    have hC0 := HB0.out.2
    go_wp2_with fail
    refine (laws_toSpanS_own _ x0 _ hv0.out HT0.out).mono ?_
    rintro e w2 ⟨_, rfl, ⟨ap0, np0, cp0, rfl⟩, g2, r_hp0⟩
    have Z2 : Hid (w1.heap.size + 0 ≤ w2.heap.size) := Lib.hid (by have := g2.size; simpa using this)
    replace hv0 : Hid (RSpans w2 (.slice a0 x0.length c0) x0) := Lib.hid (RSlice.mono keeps_span g2 hv0.out)
    replace gw : Hid (Gr w w2) := Lib.hid (gw.out.trans g2)
    have hp0 : Hid (PSpans (In w1.heap.size w2.heap.size) w2 (.slice ap0 np0 cp0) x0) := Lib.hid (r_hp0.wide (by simp) (by omega))
    clear r_hp0
    go_wp2_with fail
    refine (spec_FormatSpans _ x0 _ (rd_pspans hp0.out) HQ0.out).mono ?_
    rintro e w3 ⟨rfl, g3⟩
    have Z3 : Hid (w2.heap.size + 0 ≤ w3.heap.size) := Lib.hid (by have := g3.size; simpa using this)
    replace hv0 : Hid (RSpans w3 (.slice a0 x0.length c0) x0) := Lib.hid (RSlice.mono keeps_span g3 hv0.out)
    replace hp0 : Hid (PSpans (In w1.heap.size w2.heap.size) w3 (.slice ap0 np0 cp0) x0) := Lib.hid (OSl.gr fr_span hp0.out g3)
    replace gw : Hid (Gr w w3) := Lib.hid (gw.out.trans g3)
    clear hp0
    have gv : Hid (Gr w3 w3) := Lib.hid (Gr.refl _)
    have ZV : Hid (w.heap.size ≤ w3.heap.size) := Lib.hid gw.out.size
    go_wp2_with fail
    refine (laws_toSpanS_own _ x0 _ hv0.out HT0.out).mono ?_
    rintro e w4 ⟨_, rfl, ⟨ax0, nx0, cx0, rfl⟩, g4, r_hx0⟩
    have Z4 : Hid (w3.heap.size + 0 ≤ w4.heap.size) := Lib.hid (by have := g4.size; simpa using this)
    replace hv0 : Hid (RSpans w4 (.slice a0 x0.length c0) x0) := Lib.hid (RSlice.mono keeps_span g4 hv0.out)
    replace gw : Hid (Gr w w4) := Lib.hid (gw.out.trans g4)
    replace gv : Hid (Gr w3 w4) := Lib.hid (gv.out.trans g4)
    have hx0 : Hid (PSpans (In w3.heap.size w4.heap.size) w4 (.slice ax0 nx0 cx0) x0) := Lib.hid (r_hx0.wide (by simp) (by omega))
    clear r_hx0
    go_wp2_with fail
    refine (impl_FormatSpans _ x0 _ (rd_pspans hx0.out) HQ0.out (tab_gr HTens.out (gw.out.trans (Gr.refl _)))).mono ?_
    rintro e w5 ⟨rfl, g5⟩
    have Z5 : Hid (w4.heap.size + 0 ≤ w5.heap.size) := Lib.hid (by have := g5.size; simpa using this)
    replace hv0 : Hid (RSpans w5 (.slice a0 x0.length c0) x0) := Lib.hid (RSlice.mono keeps_span g5 hv0.out)
    replace hx0 : Hid (PSpans (In w3.heap.size w4.heap.size) w5 (.slice ax0 nx0 cx0) x0) := Lib.hid (OSl.gr fr_span hx0.out g5)
    replace gw : Hid (Gr w w5) := Lib.hid (gw.out.trans g5)
    replace gv : Hid (Gr w3 w5) := Lib.hid (gv.out.trans g5)
    go_wp2_with fail
    refine (laws_toSpanS_own _ x0 _ hv0.out HT0.out).mono ?_
    rintro e w6 ⟨_, rfl, ⟨ay0, ny0, cy0, rfl⟩, g6, r_hy0⟩
    have Z6 : Hid (w5.heap.size + 0 ≤ w6.heap.size) := Lib.hid (by have := g6.size; simpa using this)
    replace hv0 : Hid (RSpans w6 (.slice a0 x0.length c0) x0) := Lib.hid (RSlice.mono keeps_span g6 hv0.out)
    replace hx0 : Hid (PSpans (In w3.heap.size w4.heap.size) w6 (.slice ax0 nx0 cx0) x0) := Lib.hid (OSl.gr fr_span hx0.out g6)
    replace gw : Hid (Gr w w6) := Lib.hid (gw.out.trans g6)
    replace gv : Hid (Gr w3 w6) := Lib.hid (gv.out.trans g6)
    have hy0 : Hid (PSpans (In w5.heap.size w6.heap.size) w6 (.slice ay0 ny0 cy0) x0) := Lib.hid (r_hy0.wide (by simp) (by omega))
    clear r_hy0
    go_wp2_with fail
    refine (laws_eqSpanS_same _ _ x0 _ (rd_pspans hx0.out) (rd_pspans hy0.out)).mono ?_
    rintro e w7 ⟨rfl, g7⟩
    have Z7 : Hid (w6.heap.size + 0 ≤ w7.heap.size) := Lib.hid (by have := g7.size; simpa using this)
    replace hv0 : Hid (RSpans w7 (.slice a0 x0.length c0) x0) := Lib.hid (RSlice.mono keeps_span g7 hv0.out)
    replace hx0 : Hid (PSpans (In w3.heap.size w4.heap.size) w7 (.slice ax0 nx0 cx0) x0) := Lib.hid (OSl.gr fr_span hx0.out g7)
    replace hy0 : Hid (PSpans (In w5.heap.size w6.heap.size) w7 (.slice ay0 ny0 cy0) x0) := Lib.hid (OSl.gr fr_span hy0.out g7)
    replace gw : Hid (Gr w w7) := Lib.hid (gw.out.trans g7)
    replace gv : Hid (Gr w3 w7) := Lib.hid (gv.out.trans g7)
    clear hy0
    go_wp2_with fail
    go_ret
    exact ⟨rfl, gw.out⟩
  · have HZ0 := Lib.hid (szV_no (t := (totL totSpan x0)) (left := (1048576 : Int)) (by omega))
    have HA0 := Lib.hid (show (0 : Int) ≤ (1048576 : Int) ∧ (1048576 : Int) ≤ 1048576 from by omega)
    clear hs0
    go_enter Tryd.func6, Tryd.ntmps6
    have Bhv0 := Lib.hid hv0
    replace hv0 := Lib.hid hv0
    go_wp2_with fail
    refine (laws_szSpanS _ _ x0 _ hv0.out HA0.out.1 HA0.out.2).mono ?_
    rintro e w1 ⟨rfl, g1⟩
    have Z1 : Hid (w.heap.size + 0 ≤ w1.heap.size) := Lib.hid (by have := g1.size; simpa using this)
    replace hv0 : Hid (RSpans w1 (.slice a0 x0.length c0) x0) := Lib.hid (RSlice.mono keeps_span g1 hv0.out)
    have gw : Hid (Gr w w1) := Lib.hid g1
    rw [HZ0.out]
    go_wp2_with fail
    go_ret
    exact ⟨rfl, gw.out⟩

-- endgen
end Go.Proofs.YtjeffagejbdjkaaDoor
