/- FormatSet: the law. -/
import Derived.Test.YtjeffagejbdjkaaDoorSetI
import Derived.Test.YtjeffagejbdjkaaDoorGenInt
import Derived.Test.YtjeffagejbdjkaaDoorMkInt
namespace Go.Proofs.YtjeffagejbdjkaaDoor
open Go.RowKit
theorem spec_FmtSet (v : Value) (xs : List Int) (w : World) (hv : RInts w v xs) (hb : xs.length ≤ 1048576) :
    Calls Tryd.prog 14 #[v] w fun e w' => e = .returned (.string ⟨(setText xs).toArray⟩) ∧ Gr w w' := spec_FormatSet v xs w hv hb
theorem impl_FmtSet (v : Value) (xs : List Int) (w : World) (hv : RInts w v xs) (hb : xs.length ≤ 1048576) (hT : Tens Tryd.prog w) :
    Calls Tryd.prog 16 #[v] w fun e w' => e = .returned (.string ⟨(setText xs).toArray⟩) ∧ Gr w w' := impl_FormatSet v xs w hT hv hb
-- mgen FnExactFormatSet FmtSet+HQ0!tens str "⟨(setText x0).toArray⟩" - IntS
set_option maxRecDepth 100000 in
set_option maxHeartbeats 1500000 in
theorem law_FnExactFormatSet (w : World) (hT : Tens Tryd.prog w) (v0 : Value) (x0 : List Int) (hv0 : RInts w v0 x0) : Calls Tryd.prog 4 #[v0] w fun e w' => e = .returned (.bool true) ∧ Gr w w' := by
  have HTens := Lib.hid hT
  clear hT
  obtain ⟨a0, c0, hve0⟩ := hv0.form
  subst hve0
  by_cases hs0 : (x0.length : Int) ≤ 1048576
  · have HT0 := Lib.hid (show x0.length ≤ 4294967296 from by omega)
    have HQ0 : Hid (x0.length ≤ 1048576) := Lib.hid (by omega)
    go_enter Tryd.func4, Tryd.ntmps4
    have Bhv0 := Lib.hid hv0
    replace hv0 := Lib.hid hv0
    go_wp2_with fail
    refine (laws_toIntS_own _ x0 _ hv0.out HT0.out).mono ?_
    rintro e w1 ⟨_, rfl, ⟨ap0, np0, cp0, rfl⟩, g1, r_hp0⟩
    have Z1 : Hid (w.heap.size + 0 ≤ w1.heap.size) := Lib.hid (by have := g1.size; simpa using this)
    replace hv0 : Hid (RInts w1 (.slice a0 x0.length c0) x0) := Lib.hid (RSlice.mono keeps_int g1 hv0.out)
    have gw : Hid (Gr w w1) := Lib.hid g1
    have hp0 : Hid (PInts (In w.heap.size w1.heap.size) w1 (.slice ap0 np0 cp0) x0) := Lib.hid (r_hp0.wide (by simp) (by omega))
    clear r_hp0
    go_wp2_with fail
    refine (spec_FmtSet _ x0 _ (rd_pints hp0.out) HQ0.out).mono ?_
    rintro e w2 ⟨rfl, g2⟩
    have Z2 : Hid (w1.heap.size + 0 ≤ w2.heap.size) := Lib.hid (by have := g2.size; simpa using this)
    replace hv0 : Hid (RInts w2 (.slice a0 x0.length c0) x0) := Lib.hid (RSlice.mono keeps_int g2 hv0.out)
    replace hp0 : Hid (PInts (In w.heap.size w1.heap.size) w2 (.slice ap0 np0 cp0) x0) := Lib.hid (OSl.gr fr_int hp0.out g2)
    replace gw : Hid (Gr w w2) := Lib.hid (gw.out.trans g2)
    clear hp0
    have gv : Hid (Gr w2 w2) := Lib.hid (Gr.refl _)
    have ZV : Hid (w.heap.size ≤ w2.heap.size) := Lib.hid gw.out.size
    go_wp2_with fail
    refine (laws_toIntS_own _ x0 _ hv0.out HT0.out).mono ?_
    rintro e w3 ⟨_, rfl, ⟨ax0, nx0, cx0, rfl⟩, g3, r_hx0⟩
    have Z3 : Hid (w2.heap.size + 0 ≤ w3.heap.size) := Lib.hid (by have := g3.size; simpa using this)
    replace hv0 : Hid (RInts w3 (.slice a0 x0.length c0) x0) := Lib.hid (RSlice.mono keeps_int g3 hv0.out)
    replace gw : Hid (Gr w w3) := Lib.hid (gw.out.trans g3)
    replace gv : Hid (Gr w2 w3) := Lib.hid (gv.out.trans g3)
    have hx0 : Hid (PInts (In w2.heap.size w3.heap.size) w3 (.slice ax0 nx0 cx0) x0) := Lib.hid (r_hx0.wide (by simp) (by omega))
    clear r_hx0
    go_wp2_with fail
    refine (impl_FmtSet _ x0 _ (rd_pints hx0.out) HQ0.out (tab_gr HTens.out (gw.out.trans (Gr.refl _)))).mono ?_
    rintro e w4 ⟨rfl, g4⟩
    have Z4 : Hid (w3.heap.size + 0 ≤ w4.heap.size) := Lib.hid (by have := g4.size; simpa using this)
    replace hv0 : Hid (RInts w4 (.slice a0 x0.length c0) x0) := Lib.hid (RSlice.mono keeps_int g4 hv0.out)
    replace hx0 : Hid (PInts (In w2.heap.size w3.heap.size) w4 (.slice ax0 nx0 cx0) x0) := Lib.hid (OSl.gr fr_int hx0.out g4)
    replace gw : Hid (Gr w w4) := Lib.hid (gw.out.trans g4)
    replace gv : Hid (Gr w2 w4) := Lib.hid (gv.out.trans g4)
    go_wp2_with fail
    refine (laws_toIntS_own _ x0 _ hv0.out HT0.out).mono ?_
    rintro e w5 ⟨_, rfl, ⟨ay0, ny0, cy0, rfl⟩, g5, r_hy0⟩
    have Z5 : Hid (w4.heap.size + 0 ≤ w5.heap.size) := Lib.hid (by have := g5.size; simpa using this)
    replace hv0 : Hid (RInts w5 (.slice a0 x0.length c0) x0) := Lib.hid (RSlice.mono keeps_int g5 hv0.out)
    replace hx0 : Hid (PInts (In w2.heap.size w3.heap.size) w5 (.slice ax0 nx0 cx0) x0) := Lib.hid (OSl.gr fr_int hx0.out g5)
    replace gw : Hid (Gr w w5) := Lib.hid (gw.out.trans g5)
    replace gv : Hid (Gr w2 w5) := Lib.hid (gv.out.trans g5)
    have hy0 : Hid (PInts (In w4.heap.size w5.heap.size) w5 (.slice ay0 ny0 cy0) x0) := Lib.hid (r_hy0.wide (by simp) (by omega))
    clear r_hy0
    go_wp2_with fail
    refine (laws_eqIntS_same _ _ x0 _ (rd_pints hx0.out) (rd_pints hy0.out)).mono ?_
    rintro e w6 ⟨rfl, g6⟩
    have Z6 : Hid (w5.heap.size + 0 ≤ w6.heap.size) := Lib.hid (by have := g6.size; simpa using this)
    replace hv0 : Hid (RInts w6 (.slice a0 x0.length c0) x0) := Lib.hid (RSlice.mono keeps_int g6 hv0.out)
    replace hx0 : Hid (PInts (In w2.heap.size w3.heap.size) w6 (.slice ax0 nx0 cx0) x0) := Lib.hid (OSl.gr fr_int hx0.out g6)
    replace hy0 : Hid (PInts (In w4.heap.size w5.heap.size) w6 (.slice ay0 ny0 cy0) x0) := Lib.hid (OSl.gr fr_int hy0.out g6)
    replace gw : Hid (Gr w w6) := Lib.hid (gw.out.trans g6)
    replace gv : Hid (Gr w2 w6) := Lib.hid (gv.out.trans g6)
    clear hy0
    go_wp2_with fail
    go_ret
    exact ⟨rfl, gw.out⟩
  · go_enter Tryd.func4, Tryd.ntmps4
    go_wp2_with fail
    go_ret
    exact ⟨rfl, Gr.refl _⟩

-- endgen
end Go.Proofs.YtjeffagejbdjkaaDoor
