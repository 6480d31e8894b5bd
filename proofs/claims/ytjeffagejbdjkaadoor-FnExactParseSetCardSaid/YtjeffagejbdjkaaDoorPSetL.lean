/- ParseSet: the law. -/
import Derived.Test.YtjeffagejbdjkaaDoorPSetJ
import Derived.Test.YtjeffagejbdjkaaDoorMkInt
namespace Go.Proofs.YtjeffagejbdjkaaDoor
open Go.RowKit
theorem setText_small (l : List UInt8) : ((implSet l).getD []).length ≤ 24 := by
  cases h : implSet l with
  | none => simp
  | some out =>
    show out.length ≤ 24
    unfold implSet at h
    split at h
    · injection h with h; subst h; simp
    · rename_i hn
      obtain ⟨_, h3⟩ := chk_some h
      by_cases h0 : l = []
      · subst h0; rw [impl_nil] at h; cases h
      · exact isSetB_len (good_out h3 hn h0).1
theorem spec_ParS (l : List UInt8) (w : World) (hl : l.length ≤ 1048576) : Calls Tryd.prog 39 #[.string ⟨l.toArray⟩] w fun e w' => ∃ r, e = .returned (.tuple #[r, .bool (implSet l).isSome]) ∧ RInts w' r ((implSet l).getD []) ∧ Gr w w' := by
  rw [← specSet_eq]; exact spec_ParseSet l w hl
theorem impl_ParS (l : List UInt8) (w : World) (hl : l.length ≤ 1048576) (hT : Tens Tryd.prog w) (hS : ErrS Tryd.prog w) (hR : ErrR Tryd.prog w) (hM : MaxL w) : Calls Tryd.prog 40 #[.string ⟨l.toArray⟩] w fun e w' => ∃ r, e = .returned (.tuple #[r, .bool (implSet l).isSome]) ∧ Gr w w' ∧ PInts (In w.heap.size w'.heap.size) w' r ((implSet l).getD []) := impl_ParseSet l w hl hT hS hR hM
-- mgen FnExactParseSet ParS+HQ0!parse IntS,bool "((implSet x0).getD []);((implSet x0).isSome)" "by have := setText_small x0; have := cnt_IntS ((implSet x0).getD []); omega" str
set_option maxRecDepth 100000 in
set_option maxHeartbeats 1500000 in
theorem lawl_FnExactParseSet (w : World) (hT : Tens Tryd.prog w) (hS : ErrS Tryd.prog w) (hR : ErrR Tryd.prog w) (hM : MaxL w) (x0 : List UInt8) : Calls Tryd.prog 10 #[.string ⟨x0.toArray⟩] w fun e w' => e = .returned (.bool true) ∧ Gr w w' := by
  have HTens := Lib.hid hT
  have HErS := Lib.hid hS
  have HErR := Lib.hid hR
  have HMx := Lib.hid hM
  clear hT hS hR hM
  by_cases hs0 : (x0.length : Int) ≤ 1048576
  · have HQ0 : Hid (x0.length ≤ 1048576) := Lib.hid (by omega)
    go_enter Tryd.func10, Tryd.ntmps10
    go_wp2_with fail
    refine (spec_ParS x0 _ HQ0.out).mono ?_
    rintro e w1 ⟨vw0, rfl, r_hw0, g1⟩
    have Z1 : Hid (w.heap.size + 0 ≤ w1.heap.size) := Lib.hid (by have := g1.size; simpa using this)
    have gw : Hid (Gr w w1) := Lib.hid g1
    obtain ⟨aw0, nw0, cw0, rfl⟩ := r_hw0.isSl
    have hw0 : Hid (RInts w1 (.slice aw0 nw0 cw0) ((implSet x0).getD [])) := Lib.hid r_hw0
    have Bhw0 := Lib.hid r_hw0
    clear r_hw0
    have gv : Hid (Gr w1 w1) := Lib.hid (Gr.refl _)
    have ZV : Hid (w.heap.size ≤ w1.heap.size) := Lib.hid gw.out.size
    go_wp2_with fail
    refine (impl_ParS x0 _ HQ0.out (tab_gr HTens.out (gw.out.trans (Gr.refl _))) (errS_gr HErS.out (gw.out.trans (Gr.refl _))) (errR_gr HErR.out (gw.out.trans (Gr.refl _))) (maxL_gr HMx.out (gw.out.trans (Gr.refl _)))).mono ?_
    rintro e w2 ⟨vg0, rfl, g2, r_hg0⟩
    have Z2 : Hid (w1.heap.size + 0 ≤ w2.heap.size) := Lib.hid (by have := g2.size; simpa using this)
    replace hw0 : Hid (RInts w2 (.slice aw0 nw0 cw0) ((implSet x0).getD [])) := Lib.hid (RSlice.mono keeps_int g2 hw0.out)
    replace gw : Hid (Gr w w2) := Lib.hid (gw.out.trans g2)
    replace gv : Hid (Gr w1 w2) := Lib.hid (gv.out.trans g2)
    obtain ⟨ag0, ng0, cg0, rfl⟩ := r_hg0.isSl
    have hg0 : Hid (PInts (In w1.heap.size w2.heap.size) w2 (.slice ag0 ng0 cg0) ((implSet x0).getD [])) := Lib.hid (r_hg0.wide (by simp) (by omega))
    clear r_hg0
    have ei1 : ((((implSet x0).isSome) : Bool) != ((implSet x0).isSome)) = false := by simp
    go_wp2_with fail
    refine (laws_eqIntS_same _ _ ((implSet x0).getD []) _ (rd_pints hg0.out) hw0.out).mono ?_
    rintro e w3 ⟨rfl, g3⟩
    have Z3 : Hid (w2.heap.size + 0 ≤ w3.heap.size) := Lib.hid (by have := g3.size; simpa using this)
    replace hw0 : Hid (RInts w3 (.slice aw0 nw0 cw0) ((implSet x0).getD [])) := Lib.hid (RSlice.mono keeps_int g3 hw0.out)
    replace hg0 : Hid (PInts (In w1.heap.size w2.heap.size) w3 (.slice ag0 ng0 cg0) ((implSet x0).getD [])) := Lib.hid (OSl.gr fr_int hg0.out g3)
    replace gw : Hid (Gr w w3) := Lib.hid (gw.out.trans g3)
    replace gv : Hid (Gr w1 w3) := Lib.hid (gv.out.trans g3)
    have HBR := Lib.hid (show (1 : Int) + (sumT cntI ((implSet x0).getD []) : Int) ≤ 4611686018427387904 from by have := setText_small x0; have := cnt_IntS ((implSet x0).getD []); omega)
    have hbr := HBR.out
    go_wp2_with fail
    refine (laws_markIntS (In w1.heap.size w2.heap.size) _ ((implSet x0).getD []) (1 : Int) _ hg0.out (by omega) (by omega)).mono ?_
    rintro e wg0 ⟨rfl, qhg0, dg0⟩
    have Z4 : Hid (w3.heap.size ≤ wg0.heap.size) := Lib.hid dg0.size
    replace gw : Hid (Gr w wg0) := Lib.hid (Gr.trans' gw.out (dg0.below (fun b hb => by have := Z1.out; have := ZV.out; have := Z2.out; have := Z3.out; have := Z4.out; have := hb.1; omega) (gw.out.size)))
    replace gv : Hid (Gr w1 wg0) := Lib.hid (Gr.trans' gv.out (dg0.below (fun b hb => by have := Z1.out; have := ZV.out; have := Z2.out; have := Z3.out; have := Z4.out; have := hb.1; omega) (gv.out.size)))
    replace hw0 : Hid (RInts wg0 (.slice aw0 nw0 cw0) ((implSet x0).getD [])) := Lib.hid (RSlice.mono keeps_int gv.out Bhw0.out)
    clear hg0
    have Mhg0 : Hid (RInts wg0 (.slice ag0 ng0 cg0) (marksTo mkI cntI (1 : Int) ((implSet x0).getD []).length ((implSet x0).getD []))) := Lib.hid (rd_pints qhg0)
    clear qhg0
    have hcg0 : 0 ≤ ((1 : Int) + (sumT cntI ((implSet x0).getD []) : Int)) := by omega
    have ef : (((1 : Int) + (sumT cntI ((implSet x0).getD []) : Int)) != ((1 : Int) + (sumT cntI ((implSet x0).getD []) : Int))) = false := by simp
    go_wp2_with fail
    refine (laws_heldIntS _ ((implSet x0).getD []) (1 : Int) _ Mhg0.out (by omega) (by omega)).mono ?_
    rintro e w5 ⟨rfl, g5⟩
    have Z5 : Hid (wg0.heap.size + 0 ≤ w5.heap.size) := Lib.hid (by have := g5.size; simpa using this)
    replace hw0 : Hid (RInts w5 (.slice aw0 nw0 cw0) ((implSet x0).getD [])) := Lib.hid (RSlice.mono keeps_int g5 hw0.out)
    replace Mhg0 : Hid (RInts w5 (.slice ag0 ng0 cg0) (marksTo mkI cntI (1 : Int) ((implSet x0).getD []).length ((implSet x0).getD []))) := Lib.hid (RSlice.mono keeps_int g5 Mhg0.out)
    replace gw : Hid (Gr w w5) := Lib.hid (gw.out.trans g5)
    replace gv : Hid (Gr w1 w5) := Lib.hid (gv.out.trans g5)
    go_wp2_with fail
    refine (impl_ParS x0 _ HQ0.out (tab_gr HTens.out (gw.out.trans (Gr.refl _))) (errS_gr HErS.out (gw.out.trans (Gr.refl _))) (errR_gr HErR.out (gw.out.trans (Gr.refl _))) (maxL_gr HMx.out (gw.out.trans (Gr.refl _)))).mono ?_
    rintro e w6 ⟨vh0, rfl, g6, r_hh0⟩
    have Z6 : Hid (w5.heap.size + 0 ≤ w6.heap.size) := Lib.hid (by have := g6.size; simpa using this)
    replace hw0 : Hid (RInts w6 (.slice aw0 nw0 cw0) ((implSet x0).getD [])) := Lib.hid (RSlice.mono keeps_int g6 hw0.out)
    replace Mhg0 : Hid (RInts w6 (.slice ag0 ng0 cg0) (marksTo mkI cntI (1 : Int) ((implSet x0).getD []).length ((implSet x0).getD []))) := Lib.hid (RSlice.mono keeps_int g6 Mhg0.out)
    replace gw : Hid (Gr w w6) := Lib.hid (gw.out.trans g6)
    replace gv : Hid (Gr w1 w6) := Lib.hid (gv.out.trans g6)
    obtain ⟨ah0, nh0, ch0, rfl⟩ := r_hh0.isSl
    have hh0 : Hid (PInts (In w5.heap.size w6.heap.size) w6 (.slice ah0 nh0 ch0) ((implSet x0).getD [])) := Lib.hid (r_hh0.wide (by simp) (by omega))
    clear r_hh0
    go_wp2_with fail
    refine (laws_eqIntS_same _ _ ((implSet x0).getD []) _ (rd_pints hh0.out) hw0.out).mono ?_
    rintro e w7 ⟨rfl, g7⟩
    have Z7 : Hid (w6.heap.size + 0 ≤ w7.heap.size) := Lib.hid (by have := g7.size; simpa using this)
    replace hw0 : Hid (RInts w7 (.slice aw0 nw0 cw0) ((implSet x0).getD [])) := Lib.hid (RSlice.mono keeps_int g7 hw0.out)
    replace Mhg0 : Hid (RInts w7 (.slice ag0 ng0 cg0) (marksTo mkI cntI (1 : Int) ((implSet x0).getD []).length ((implSet x0).getD []))) := Lib.hid (RSlice.mono keeps_int g7 Mhg0.out)
    replace hh0 : Hid (PInts (In w5.heap.size w6.heap.size) w7 (.slice ah0 nh0 ch0) ((implSet x0).getD [])) := Lib.hid (OSl.gr fr_int hh0.out g7)
    replace gw : Hid (Gr w w7) := Lib.hid (gw.out.trans g7)
    replace gv : Hid (Gr w1 w7) := Lib.hid (gv.out.trans g7)
    go_wp2_with fail
    refine (laws_heldIntS _ ((implSet x0).getD []) (1 : Int) _ Mhg0.out (by omega) (by omega)).mono ?_
    rintro e w8 ⟨rfl, g8⟩
    have Z8 : Hid (w7.heap.size + 0 ≤ w8.heap.size) := Lib.hid (by have := g8.size; simpa using this)
    replace hw0 : Hid (RInts w8 (.slice aw0 nw0 cw0) ((implSet x0).getD [])) := Lib.hid (RSlice.mono keeps_int g8 hw0.out)
    replace Mhg0 : Hid (RInts w8 (.slice ag0 ng0 cg0) (marksTo mkI cntI (1 : Int) ((implSet x0).getD []).length ((implSet x0).getD []))) := Lib.hid (RSlice.mono keeps_int g8 Mhg0.out)
    replace hh0 : Hid (PInts (In w5.heap.size w6.heap.size) w8 (.slice ah0 nh0 ch0) ((implSet x0).getD [])) := Lib.hid (OSl.gr fr_int hh0.out g8)
    replace gw : Hid (Gr w w8) := Lib.hid (gw.out.trans g8)
    replace gv : Hid (Gr w1 w8) := Lib.hid (gv.out.trans g8)
    go_wp2_with fail
    go_ret
    exact ⟨rfl, gw.out⟩
  · go_enter Tryd.func10, Tryd.ntmps10
    go_wp2_with fail
    go_ret
    exact ⟨rfl, Gr.refl _⟩

-- endgen
theorem law_FnExactParseSet (w : World) (hT : Tens Tryd.prog w) (hS : ∃ p, w.var? Tryd.prog "strconv.ErrSyntax" = some #[.iface 147 p]) (hR : ∃ p, w.var? Tryd.prog "strconv.ErrRange" = some #[.iface 147 p]) (hSh : w.ShapedOpen Tryd.prog) (s : ByteArray) (_ : s.size ≤ 9223372036854775807) : Calls Tryd.prog 10 #[.string s] w fun e w' => e = .returned (.bool true) ∧ Gr w w' := by
  obtain ⟨l, rfl⟩ : ∃ l : List UInt8, s = ⟨l.toArray⟩ := ⟨_, ba_list s⟩
  exact lawl_FnExactParseSet w hT (by obtain ⟨p, h⟩ := hS; exact ⟨_, p, h⟩) (by obtain ⟨p, h⟩ := hR; exact ⟨_, p, h⟩) (Tryd.laysM146.s1_3 w hSh) l
end Go.Proofs.YtjeffagejbdjkaaDoor
