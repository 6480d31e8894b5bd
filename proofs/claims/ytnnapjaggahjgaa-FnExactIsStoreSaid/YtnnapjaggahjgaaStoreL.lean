/- IsStore: the walk of the law. -/
import Derived.Test.YtnnapjaggahjgaaStoreR
namespace Go.Proofs.Ytnnapjaggahjgaa
open Go.RowKit
-- mgen FnExactIsStore IsStore+HT0 bool "(isStoreB x0)" - Store
set_option maxRecDepth 100000 in
set_option maxHeartbeats 1500000 in
theorem law_FnExactIsStore (w : World) (x0 : DStore) (u0_segs : Value) (h0_segs : RVersionss w u0_segs x0.segs) (_ : I64 x0.now) : Calls Try.prog 3 #[.agg #[u0_segs, .int .i64 x0.now]] w fun e w' => e = .returned (.bool true) ∧ Gr w w' := by
  by_cases hs0 : ((totStore x0) : Int) ≤ (1048576 : Int)
  · have HZ0 := Lib.hid (szV_yes (t := (totStore x0)) (left := (1048576 : Int)) (by omega))
    have HA0 := Lib.hid (show (0 : Int) ≤ (1048576 : Int) ∧ (1048576 : Int) ≤ 1048576 from by omega)
    have HB0 := Lib.hid (show (0 : Int) ≤ (1048576 : Int) - ((totStore x0) : Int) ∧ (1048576 : Int) - ((totStore x0) : Int) ≤ 1048576 from by omega)
    have HT0 := Lib.hid (show (totStore x0) ≤ 4294967296 from by omega)
    have HQ0 : Hid ((totStore x0) ≤ 1048576) := Lib.hid (by omega)
    clear hs0
    go_enter Try.func3, Try.ntmps3
    have Bh0_segs := Lib.hid h0_segs
    replace h0_segs := Lib.hid h0_segs
    go_wp2_with fail
    refine (laws_szStore x0 u0_segs _ _ (RSlice.mono (keeps_of keeps_version) ((Gr.refl w).alloc _) h0_segs.out) HA0.out.1 HA0.out.2).mono ?_
    rintro e w1 ⟨rfl, g1⟩
    have gs1 : Gr w w1 := ((Gr.refl w).alloc _).trans g1
    have Z1 : Hid (w.heap.size + 1 ≤ w1.heap.size) := Lib.hid (by have := g1.size; simpa using this)
    replace h0_segs : Hid (RVersionss w1 u0_segs x0.segs) := Lib.hid (RSlice.mono (keeps_of keeps_version) gs1 h0_segs.out)
    have gw : Hid (Gr w w1) := Lib.hid gs1
    have kb0_0 : w1.cell? ⟨w.heap.size, 0, none⟩ = some (u0_segs) := g1.cellv (by simp [go_sem])
    have kb0_1 : w1.cell? ⟨w.heap.size, 1, none⟩ = some (.int .i64 x0.now) := g1.cellv (by simp [go_sem])
    have bkb0_0 : Hid (w.heap.size < w1.heap.size) := Lib.hid (by have := Z1.out; omega)
    rw [HZ0.out]
    have hB0 := HB0.out.1
    have hC0 := HB0.out.2
    go_wp2_with fail
    refine (laws_toStore_own x0 u0_segs _ h0_segs.out HT0.out).mono ?_
    rintro e w2 ⟨vp0_segs, rfl, g2, r_hp0_segs⟩
    have Z2 : Hid (w1.heap.size + 0 ≤ w2.heap.size) := Lib.hid (by have := g2.size; simpa using this)
    replace h0_segs : Hid (RVersionss w2 u0_segs x0.segs) := Lib.hid (RSlice.mono (keeps_of keeps_version) g2 h0_segs.out)
    replace kb0_0 : w2.cell? ⟨w.heap.size, 0, none⟩ = some (u0_segs) := g2.cellv kb0_0
    replace kb0_1 : w2.cell? ⟨w.heap.size, 1, none⟩ = some (.int .i64 x0.now) := g2.cellv kb0_1
    replace gw : Hid (Gr w w2) := Lib.hid (gw.out.trans g2)
    obtain ⟨ap0_segs, np0_segs, cp0_segs, rfl⟩ := r_hp0_segs.isSl
    have hp0_segs : Hid (PVersionss (In w1.heap.size w2.heap.size) w2 (.slice ap0_segs np0_segs cp0_segs) x0.segs) := Lib.hid (r_hp0_segs.wide (by simp) (by omega))
    clear r_hp0_segs
    go_wp2_with fail
    refine (spec_IsStore x0 _ _ (rd_pversionss hp0_segs.out) HT0.out).mono ?_
    rintro e w3 ⟨rfl, g3⟩
    have Z3 : Hid (w2.heap.size + 0 ≤ w3.heap.size) := Lib.hid (by have := g3.size; simpa using this)
    replace h0_segs : Hid (RVersionss w3 u0_segs x0.segs) := Lib.hid (RSlice.mono (keeps_of keeps_version) g3 h0_segs.out)
    replace hp0_segs : Hid (PVersionss (In w1.heap.size w2.heap.size) w3 (.slice ap0_segs np0_segs cp0_segs) x0.segs) := Lib.hid (OSl.gr (fr_of fr_version) hp0_segs.out g3)
    replace kb0_0 : w3.cell? ⟨w.heap.size, 0, none⟩ = some (u0_segs) := g3.cellv kb0_0
    replace kb0_1 : w3.cell? ⟨w.heap.size, 1, none⟩ = some (.int .i64 x0.now) := g3.cellv kb0_1
    replace gw : Hid (Gr w w3) := Lib.hid (gw.out.trans g3)
    clear hp0_segs
    have gv : Hid (Gr w3 w3) := Lib.hid (Gr.refl _)
    have ZV : Hid (w.heap.size ≤ w3.heap.size) := Lib.hid gw.out.size
    go_wp2_with fail
    refine (laws_toStore_own x0 u0_segs _ h0_segs.out HT0.out).mono ?_
    rintro e w4 ⟨vx0_segs, rfl, g4, r_hx0_segs⟩
    have Z4 : Hid (w3.heap.size + 0 ≤ w4.heap.size) := Lib.hid (by have := g4.size; simpa using this)
    replace h0_segs : Hid (RVersionss w4 u0_segs x0.segs) := Lib.hid (RSlice.mono (keeps_of keeps_version) g4 h0_segs.out)
    replace kb0_0 : w4.cell? ⟨w.heap.size, 0, none⟩ = some (u0_segs) := g4.cellv kb0_0
    replace kb0_1 : w4.cell? ⟨w.heap.size, 1, none⟩ = some (.int .i64 x0.now) := g4.cellv kb0_1
    replace gw : Hid (Gr w w4) := Lib.hid (gw.out.trans g4)
    replace gv : Hid (Gr w3 w4) := Lib.hid (gv.out.trans g4)
    obtain ⟨ax0_segs, nx0_segs, cx0_segs, rfl⟩ := r_hx0_segs.isSl
    have hx0_segs : Hid (PVersionss (In w3.heap.size w4.heap.size) w4 (.slice ax0_segs nx0_segs cx0_segs) x0.segs) := Lib.hid (r_hx0_segs.wide (by simp) (by omega))
    clear r_hx0_segs
    have Lkb0_0 := ((Gr.refl w4).alloc (.cells #[.slice ax0_segs nx0_segs cx0_segs, .int .i64 x0.now] 29)).cellv kb0_0
    have Lkb0_1 := ((Gr.refl w4).alloc (.cells #[.slice ax0_segs nx0_segs cx0_segs, .int .i64 x0.now] 29)).cellv kb0_1
    go_wp2_with fail
    refine (impl_IsStore x0 _ _ (RSlice.mono (keeps_of keeps_version) ((Gr.refl w4).alloc _) (rd_pversionss hx0_segs.out)) HT0.out).mono ?_
    rintro e w5 ⟨rfl, g5⟩
    have gs5 : Gr w4 w5 := ((Gr.refl w4).alloc _).trans g5
    have Z5 : Hid (w4.heap.size + 1 ≤ w5.heap.size) := Lib.hid (by have := g5.size; simpa using this)
    replace h0_segs : Hid (RVersionss w5 u0_segs x0.segs) := Lib.hid (RSlice.mono (keeps_of keeps_version) gs5 h0_segs.out)
    replace hx0_segs : Hid (PVersionss (In w3.heap.size w4.heap.size) w5 (.slice ax0_segs nx0_segs cx0_segs) x0.segs) := Lib.hid (OSl.gr (fr_of fr_version) hx0_segs.out gs5)
    replace kb0_0 : w5.cell? ⟨w.heap.size, 0, none⟩ = some (u0_segs) := gs5.cellv kb0_0
    replace kb0_1 : w5.cell? ⟨w.heap.size, 1, none⟩ = some (.int .i64 x0.now) := gs5.cellv kb0_1
    replace gw : Hid (Gr w w5) := Lib.hid (gw.out.trans gs5)
    replace gv : Hid (Gr w3 w5) := Lib.hid (gv.out.trans gs5)
    have kx0_0 : w5.cell? ⟨w4.heap.size, 0, none⟩ = some (.slice ax0_segs nx0_segs cx0_segs) := g5.cellv (by simp [go_sem])
    have kx0_1 : w5.cell? ⟨w4.heap.size, 1, none⟩ = some (.int .i64 x0.now) := g5.cellv (by simp [go_sem])
    have bkx0_0 : Hid (w4.heap.size < w5.heap.size) := Lib.hid (by have := Z5.out; omega)
    clear Lkb0_0 Lkb0_1
    have ei0 : (((isStoreB x0) : Bool) != (isStoreB x0)) = false := by simp
    go_wp2
    go_region_held3 (fun w' => w'.cell? ⟨w.heap.size, 0, none⟩ = some (u0_segs) ∧ w'.cell? ⟨w.heap.size, 1, none⟩ = some (.int .i64 x0.now) ∧ w'.cell? ⟨w4.heap.size, 0, none⟩ = some (.slice ax0_segs nx0_segs cx0_segs) ∧ w'.cell? ⟨w4.heap.size, 1, none⟩ = some (.int .i64 x0.now) ∧ RVersionss w' u0_segs x0.segs ∧ RVersionss w' (.slice ax0_segs nx0_segs cx0_segs) x0.segs ∧ Gr w5 w')
      (first | exact ⟨kb0_0, kb0_1, kx0_0, kx0_1, h0_segs.out, (rd_pversionss hx0_segs.out), Gr.refl _⟩ | exact ⟨kb0_0, kb0_1, kx0_0, kx0_1, h0_segs.out, (rd_pversionss hx0_segs.out), (Gr.refl _).drew⟩ | (go_split_ands; exact ⟨Gr.cellv gb0 (by assumption), Gr.cellv gb0 (by assumption), Gr.cellv gb0 (by assumption), Gr.cellv gb0 (by assumption), (RSlice.mono (keeps_of keeps_version) gb0 (by assumption)), (RSlice.mono (keeps_of keeps_version) gb0 (by assumption)), Gr.trans (by assumption) gb0⟩) | (go_split_ands; exact ⟨Gr.cellv ga0 (by assumption), Gr.cellv ga0 (by assumption), Gr.cellv ga0 (by assumption), Gr.cellv ga0 (by assumption), (RSlice.mono (keeps_of keeps_version) ga0 (by assumption)), (RSlice.mono (keeps_of keeps_version) ga0 (by assumption)), Gr.trans (by assumption) ga0⟩))
      (first | (go_at_call 17; go_split_ands; refine (laws_toStore_gr x0 u0_segs _ (by assumption) HT0.out).mono ?_; rintro e wa0 ⟨vy0_segs, rfl, ⟨ay0_segs, ny0_segs, cy0_segs, rfl⟩, ry0_segs, ga0⟩) | (go_at_call 19; go_split_ands; refine (laws_eqStore x0 _ _ _ (by assumption) (ry0_segs _ (Loc.refl _ _))).mono ?_; rintro e wb0 ⟨rfl, gb0⟩))
    have gs6 : Gr w5 wb0 := ((Gr.refl w5).drew.trans ga0).trans gb0
    have Z6 : Hid (w5.heap.size ≤ wb0.heap.size) := Lib.hid gs6.size
    replace h0_segs : Hid (RVersionss wb0 u0_segs x0.segs) := Lib.hid (RSlice.mono (keeps_of keeps_version) gs6 h0_segs.out)
    replace hx0_segs : Hid (PVersionss (In w3.heap.size w4.heap.size) wb0 (.slice ax0_segs nx0_segs cx0_segs) x0.segs) := Lib.hid (OSl.gr (fr_of fr_version) hx0_segs.out gs6)
    replace kb0_0 : wb0.cell? ⟨w.heap.size, 0, none⟩ = some (u0_segs) := gs6.cellv kb0_0
    replace kb0_1 : wb0.cell? ⟨w.heap.size, 1, none⟩ = some (.int .i64 x0.now) := gs6.cellv kb0_1
    replace kx0_0 : wb0.cell? ⟨w4.heap.size, 0, none⟩ = some (.slice ax0_segs nx0_segs cx0_segs) := gs6.cellv kx0_0
    replace kx0_1 : wb0.cell? ⟨w4.heap.size, 1, none⟩ = some (.int .i64 x0.now) := gs6.cellv kx0_1
    replace gw : Hid (Gr w wb0) := Lib.hid (gw.out.trans gs6)
    replace gv : Hid (Gr w3 wb0) := Lib.hid (gv.out.trans gs6)
    go_wp2_with fail
    go_ret
    exact ⟨rfl, gw.out⟩
  · have HZ0 := Lib.hid (szV_no (t := (totStore x0)) (left := (1048576 : Int)) (by omega))
    have HA0 := Lib.hid (show (0 : Int) ≤ (1048576 : Int) ∧ (1048576 : Int) ≤ 1048576 from by omega)
    clear hs0
    go_enter Try.func3, Try.ntmps3
    have Bh0_segs := Lib.hid h0_segs
    replace h0_segs := Lib.hid h0_segs
    go_wp2_with fail
    refine (laws_szStore x0 u0_segs _ _ (RSlice.mono (keeps_of keeps_version) ((Gr.refl w).alloc _) h0_segs.out) HA0.out.1 HA0.out.2).mono ?_
    rintro e w1 ⟨rfl, g1⟩
    have gs1 : Gr w w1 := ((Gr.refl w).alloc _).trans g1
    have Z1 : Hid (w.heap.size + 1 ≤ w1.heap.size) := Lib.hid (by have := g1.size; simpa using this)
    replace h0_segs : Hid (RVersionss w1 u0_segs x0.segs) := Lib.hid (RSlice.mono (keeps_of keeps_version) gs1 h0_segs.out)
    have gw : Hid (Gr w w1) := Lib.hid gs1
    have kb0_0 : w1.cell? ⟨w.heap.size, 0, none⟩ = some (u0_segs) := g1.cellv (by simp [go_sem])
    have kb0_1 : w1.cell? ⟨w.heap.size, 1, none⟩ = some (.int .i64 x0.now) := g1.cellv (by simp [go_sem])
    have bkb0_0 : Hid (w.heap.size < w1.heap.size) := Lib.hid (by have := Z1.out; omega)
    rw [HZ0.out]
    go_wp2_with fail
    go_ret
    exact ⟨rfl, gw.out⟩

-- endgen
end Go.Proofs.Ytnnapjaggahjgaa
