/- EqualStores: the law. -/
import Derived.Test.YtgadgidhomijpaaLawN
import Derived.Test.YtgadgidhomijpaaMkStore
namespace Go.Proofs.Ytgadgidhomijpaa
open Go.RowKit
-- mgen FnExactEqualStores EqualStores bool "(eqStoreB x0 x1)" - Store Store
set_option maxRecDepth 100000 in
set_option maxHeartbeats 1500000 in
theorem law_FnExactEqualStores (w : World) (x0 : DStore) (u0_segs : Value) (h0_segs : RVersionss w u0_segs x0.segs) (_ : I64 x0.now) (x1 : DStore) (u1_segs : Value) (h1_segs : RVersionss w u1_segs x1.segs) (_ : I64 x1.now) : Calls Try.prog 13 #[.agg #[u0_segs, .int .i64 x0.now], .agg #[u1_segs, .int .i64 x1.now]] w fun e w' => e = .returned (.bool true) ∧ Gr w w' := by
  by_cases hs0 : ((totStore x0) : Int) ≤ (1048576 : Int)
  · by_cases hs1 : ((totStore x1) : Int) ≤ (1048576 - ((totStore x0) : Int))
    · have HZ0 := Lib.hid (szV_yes (t := (totStore x0)) (left := (1048576 : Int)) (by omega))
      have HA0 := Lib.hid (show (0 : Int) ≤ (1048576 : Int) ∧ (1048576 : Int) ≤ 1048576 from by omega)
      have HB0 := Lib.hid (show (0 : Int) ≤ (1048576 : Int) - ((totStore x0) : Int) ∧ (1048576 : Int) - ((totStore x0) : Int) ≤ 1048576 from by omega)
      have HZ1 := Lib.hid (szV_yes (t := (totStore x1)) (left := (1048576 - ((totStore x0) : Int))) (by omega))
      have HA1 := Lib.hid (show (0 : Int) ≤ (1048576 - ((totStore x0) : Int)) ∧ (1048576 - ((totStore x0) : Int)) ≤ 1048576 from by omega)
      have HB1 := Lib.hid (show (0 : Int) ≤ (1048576 - ((totStore x0) : Int)) - ((totStore x1) : Int) ∧ (1048576 - ((totStore x0) : Int)) - ((totStore x1) : Int) ≤ 1048576 from by omega)
      have HT0 := Lib.hid (show (totStore x0) ≤ 4294967296 from by omega)
      have HT1 := Lib.hid (show (totStore x1) ≤ 4294967296 from by omega)
      have HQ0 : Hid ((totStore x0) ≤ 1048576) := Lib.hid (by omega)
      have HQ1 : Hid ((totStore x1) ≤ 1048576) := Lib.hid (by omega)
      clear hs0 hs1
      go_enter Try.func13, Try.ntmps13
      have Bh0_segs := Lib.hid h0_segs
      replace h0_segs := Lib.hid h0_segs
      have Bh1_segs := Lib.hid h1_segs
      replace h1_segs := Lib.hid h1_segs
      go_wp2_with fail
      refine (laws_szStore x0 u0_segs _ _ (RSlice.mono (keeps_of keeps_version) (((Gr.refl w).alloc _).alloc _) h0_segs.out) HA0.out.1 HA0.out.2).mono ?_
      rintro e w1 ⟨rfl, g1⟩
      have gs1 : Gr w w1 := (((Gr.refl w).alloc _).alloc _).trans g1
      have Z1 : Hid (w.heap.size + 2 ≤ w1.heap.size) := Lib.hid (by have := g1.size; simpa using this)
      replace h0_segs : Hid (RVersionss w1 u0_segs x0.segs) := Lib.hid (RSlice.mono (keeps_of keeps_version) gs1 h0_segs.out)
      replace h1_segs : Hid (RVersionss w1 u1_segs x1.segs) := Lib.hid (RSlice.mono (keeps_of keeps_version) gs1 h1_segs.out)
      have gw : Hid (Gr w w1) := Lib.hid gs1
      have kb0_0 : w1.cell? ⟨w.heap.size, 0, none⟩ = some (u0_segs) := g1.cellv (by simp [go_sem])
      have kb0_1 : w1.cell? ⟨w.heap.size, 1, none⟩ = some (.int .i64 x0.now) := g1.cellv (by simp [go_sem])
      have kb1_0 : w1.cell? ⟨w.heap.size + 1, 0, none⟩ = some (u1_segs) := g1.cellv (by simp [go_sem])
      have kb1_1 : w1.cell? ⟨w.heap.size + 1, 1, none⟩ = some (.int .i64 x1.now) := g1.cellv (by simp [go_sem])
      have bkb0_0 : Hid (w.heap.size < w1.heap.size) := Lib.hid (by have := Z1.out; omega)
      have bkb1_0 : Hid (w.heap.size + 1 < w1.heap.size) := Lib.hid (by have := Z1.out; omega)
      rw [HZ0.out]
      have hB0 := HB0.out.1
      have hC0 := HB0.out.2
      go_wp2_with fail
      refine (laws_szStore x1 u1_segs _ _ h1_segs.out HA1.out.1 HA1.out.2).mono ?_
      rintro e w2 ⟨rfl, g2⟩
      have Z2 : Hid (w1.heap.size + 0 ≤ w2.heap.size) := Lib.hid (by have := g2.size; simpa using this)
      replace h0_segs : Hid (RVersionss w2 u0_segs x0.segs) := Lib.hid (RSlice.mono (keeps_of keeps_version) g2 h0_segs.out)
      replace h1_segs : Hid (RVersionss w2 u1_segs x1.segs) := Lib.hid (RSlice.mono (keeps_of keeps_version) g2 h1_segs.out)
      replace kb0_0 : w2.cell? ⟨w.heap.size, 0, none⟩ = some (u0_segs) := g2.cellv kb0_0
      replace kb0_1 : w2.cell? ⟨w.heap.size, 1, none⟩ = some (.int .i64 x0.now) := g2.cellv kb0_1
      replace kb1_0 : w2.cell? ⟨w.heap.size + 1, 0, none⟩ = some (u1_segs) := g2.cellv kb1_0
      replace kb1_1 : w2.cell? ⟨w.heap.size + 1, 1, none⟩ = some (.int .i64 x1.now) := g2.cellv kb1_1
      replace gw : Hid (Gr w w2) := Lib.hid (gw.out.trans g2)
      rw [HZ1.out]
      have hB1 := HB1.out.1
      have hC1 := HB1.out.2
      -- drawn
      go_wp2
      go_region_held3 (fun w' => w'.cell? ⟨w.heap.size, 0, none⟩ = some (u0_segs) ∧ w'.cell? ⟨w.heap.size, 1, none⟩ = some (.int .i64 x0.now) ∧ w'.cell? ⟨w.heap.size + 1, 0, none⟩ = some (u1_segs) ∧ w'.cell? ⟨w.heap.size + 1, 1, none⟩ = some (.int .i64 x1.now) ∧ RVersionss w' u0_segs x0.segs ∧ RVersionss w' u1_segs x1.segs ∧ Gr w2 w')
        (first | exact ⟨kb0_0, kb0_1, kb1_0, kb1_1, h0_segs.out, h1_segs.out, Gr.refl _⟩ | exact ⟨kb0_0, kb0_1, kb1_0, kb1_1, h0_segs.out, h1_segs.out, (Gr.refl _).drew⟩ | (go_split_ands; exact ⟨Gr.cellv gpf (by assumption), Gr.cellv gpf (by assumption), Gr.cellv gpf (by assumption), Gr.cellv gpf (by assumption), (RSlice.mono (keeps_of keeps_version) gpf (by assumption)), (RSlice.mono (keeps_of keeps_version) gpf (by assumption)), Gr.trans (by assumption) gpf⟩) | (go_split_ands; exact ⟨Gr.cellv gp1 (by assumption), Gr.cellv gp1 (by assumption), Gr.cellv gp1 (by assumption), Gr.cellv gp1 (by assumption), (RSlice.mono (keeps_of keeps_version) gp1 (by assumption)), (RSlice.mono (keeps_of keeps_version) gp1 (by assumption)), Gr.trans (by assumption) gp1⟩) | (go_split_ands; exact ⟨Gr.cellv gp0 (by assumption), Gr.cellv gp0 (by assumption), Gr.cellv gp0 (by assumption), Gr.cellv gp0 (by assumption), (RSlice.mono (keeps_of keeps_version) gp0 (by assumption)), (RSlice.mono (keeps_of keeps_version) gp0 (by assumption)), Gr.trans (by assumption) gp0⟩))
        (first | (go_at_call 47; go_split_ands; with_reducible refine (laws_toStore_own x0 u0_segs _ (by assumption) HT0.out).mono ?_; rintro e wp0 ⟨vp0_segs, rfl, gp0, r_hp0_segs⟩) | (go_at_call 47; go_split_ands; with_reducible refine (laws_toStore_own x1 u1_segs _ (by assumption) HT1.out).mono ?_; rintro e wp1 ⟨vp1_segs, rfl, gp1, r_hp1_segs⟩) | (go_at_call 55; refine (spec_EqualStores x0 _ x1 _ _ (RSlice.mono (keeps_of keeps_version) gp1 (rd_pversionss r_hp0_segs)) (rd_pversionss r_hp1_segs)).mono ?_; rintro e wpf ⟨rfl, gpf⟩))
      have hdr3 : Gr w2 w2.drew := (Gr.refl w2).drew
      have gs3 : Gr w2 wpf := (((hdr3.trans gp0).trans gp1).trans gpf)
      have Z3 : Hid (w2.heap.size + 0 ≤ wpf.heap.size) := Lib.hid gs3.size
      have ZZp0 : Hid (w2.heap.size ≤ wp0.heap.size) := Lib.hid (by have := gp0.size; simpa using this)
      have ZZp1 : Hid (wp0.heap.size ≤ wp1.heap.size) := Lib.hid (by have := gp1.size; simpa using this)
      replace h0_segs : Hid (RVersionss wpf u0_segs x0.segs) := Lib.hid (RSlice.mono (keeps_of keeps_version) gs3 h0_segs.out)
      replace h1_segs : Hid (RVersionss wpf u1_segs x1.segs) := Lib.hid (RSlice.mono (keeps_of keeps_version) gs3 h1_segs.out)
      replace kb0_0 : wpf.cell? ⟨w.heap.size, 0, none⟩ = some (u0_segs) := gs3.cellv kb0_0
      replace kb0_1 : wpf.cell? ⟨w.heap.size, 1, none⟩ = some (.int .i64 x0.now) := gs3.cellv kb0_1
      replace kb1_0 : wpf.cell? ⟨w.heap.size + 1, 0, none⟩ = some (u1_segs) := gs3.cellv kb1_0
      replace kb1_1 : wpf.cell? ⟨w.heap.size + 1, 1, none⟩ = some (.int .i64 x1.now) := gs3.cellv kb1_1
      replace gw : Hid (Gr w wpf) := Lib.hid (gw.out.trans gs3)
      have gv : Hid (Gr wpf wpf) := Lib.hid (Gr.refl _)
      have ZV : Hid (w.heap.size ≤ wpf.heap.size) := Lib.hid gw.out.size
      go_wp2_with fail
      refine (laws_toStore_own x0 u0_segs _ h0_segs.out HT0.out).mono ?_
      rintro e w4 ⟨vx0_segs, rfl, g4, r_hx0_segs⟩
      have Z4 : Hid (wpf.heap.size + 0 ≤ w4.heap.size) := Lib.hid (by have := g4.size; simpa using this)
      replace h0_segs : Hid (RVersionss w4 u0_segs x0.segs) := Lib.hid (RSlice.mono (keeps_of keeps_version) g4 h0_segs.out)
      replace h1_segs : Hid (RVersionss w4 u1_segs x1.segs) := Lib.hid (RSlice.mono (keeps_of keeps_version) g4 h1_segs.out)
      replace kb0_0 : w4.cell? ⟨w.heap.size, 0, none⟩ = some (u0_segs) := g4.cellv kb0_0
      replace kb0_1 : w4.cell? ⟨w.heap.size, 1, none⟩ = some (.int .i64 x0.now) := g4.cellv kb0_1
      replace kb1_0 : w4.cell? ⟨w.heap.size + 1, 0, none⟩ = some (u1_segs) := g4.cellv kb1_0
      replace kb1_1 : w4.cell? ⟨w.heap.size + 1, 1, none⟩ = some (.int .i64 x1.now) := g4.cellv kb1_1
      replace gw : Hid (Gr w w4) := Lib.hid (gw.out.trans g4)
      replace gv : Hid (Gr wpf w4) := Lib.hid (gv.out.trans g4)
      obtain ⟨ax0_segs, nx0_segs, cx0_segs, rfl⟩ := r_hx0_segs.isSl
      have hx0_segs : Hid (PVersionss (In wpf.heap.size w4.heap.size) w4 (.slice ax0_segs nx0_segs cx0_segs) x0.segs) := Lib.hid (r_hx0_segs.wide (by simp) (by omega))
      clear r_hx0_segs
      have Lkb0_0 := ((Gr.refl w4).alloc (.cells #[.slice ax0_segs nx0_segs cx0_segs, .int .i64 x0.now] 62)).cellv kb0_0
      have Lkb0_1 := ((Gr.refl w4).alloc (.cells #[.slice ax0_segs nx0_segs cx0_segs, .int .i64 x0.now] 62)).cellv kb0_1
      have Lkb1_0 := ((Gr.refl w4).alloc (.cells #[.slice ax0_segs nx0_segs cx0_segs, .int .i64 x0.now] 62)).cellv kb1_0
      have Lkb1_1 := ((Gr.refl w4).alloc (.cells #[.slice ax0_segs nx0_segs cx0_segs, .int .i64 x0.now] 62)).cellv kb1_1
      go_wp2_with fail
      refine (laws_toStore_own x1 u1_segs _ (RSlice.mono (keeps_of keeps_version) ((Gr.refl w4).alloc _) h1_segs.out) HT1.out).mono ?_
      rintro e w5 ⟨vx1_segs, rfl, g5, r_hx1_segs⟩
      have gs5 : Gr w4 w5 := ((Gr.refl w4).alloc _).trans g5
      have Z5 : Hid (w4.heap.size + 1 ≤ w5.heap.size) := Lib.hid (by have := g5.size; simpa using this)
      replace h0_segs : Hid (RVersionss w5 u0_segs x0.segs) := Lib.hid (RSlice.mono (keeps_of keeps_version) gs5 h0_segs.out)
      replace h1_segs : Hid (RVersionss w5 u1_segs x1.segs) := Lib.hid (RSlice.mono (keeps_of keeps_version) gs5 h1_segs.out)
      replace hx0_segs : Hid (PVersionss (In wpf.heap.size w4.heap.size) w5 (.slice ax0_segs nx0_segs cx0_segs) x0.segs) := Lib.hid (OSl.gr (fr_of fr_version) hx0_segs.out gs5)
      replace kb0_0 : w5.cell? ⟨w.heap.size, 0, none⟩ = some (u0_segs) := gs5.cellv kb0_0
      replace kb0_1 : w5.cell? ⟨w.heap.size, 1, none⟩ = some (.int .i64 x0.now) := gs5.cellv kb0_1
      replace kb1_0 : w5.cell? ⟨w.heap.size + 1, 0, none⟩ = some (u1_segs) := gs5.cellv kb1_0
      replace kb1_1 : w5.cell? ⟨w.heap.size + 1, 1, none⟩ = some (.int .i64 x1.now) := gs5.cellv kb1_1
      replace gw : Hid (Gr w w5) := Lib.hid (gw.out.trans gs5)
      replace gv : Hid (Gr wpf w5) := Lib.hid (gv.out.trans gs5)
      have kx0_0 : w5.cell? ⟨w4.heap.size, 0, none⟩ = some (.slice ax0_segs nx0_segs cx0_segs) := g5.cellv (by simp [go_sem])
      have kx0_1 : w5.cell? ⟨w4.heap.size, 1, none⟩ = some (.int .i64 x0.now) := g5.cellv (by simp [go_sem])
      have bkx0_0 : Hid (w4.heap.size < w5.heap.size) := Lib.hid (by have := Z5.out; omega)
      clear Lkb0_0 Lkb0_1 Lkb1_0 Lkb1_1
      obtain ⟨ax1_segs, nx1_segs, cx1_segs, rfl⟩ := r_hx1_segs.isSl
      have hx1_segs : Hid (PVersionss (In (w4.heap.size + 1) w5.heap.size) w5 (.slice ax1_segs nx1_segs cx1_segs) x1.segs) := Lib.hid (r_hx1_segs.wide (by simp) (by omega))
      clear r_hx1_segs
      have Lkb0_0 := ((Gr.refl w5).alloc (.cells #[.slice ax1_segs nx1_segs cx1_segs, .int .i64 x1.now] 62)).cellv kb0_0
      have Lkb0_1 := ((Gr.refl w5).alloc (.cells #[.slice ax1_segs nx1_segs cx1_segs, .int .i64 x1.now] 62)).cellv kb0_1
      have Lkb1_0 := ((Gr.refl w5).alloc (.cells #[.slice ax1_segs nx1_segs cx1_segs, .int .i64 x1.now] 62)).cellv kb1_0
      have Lkb1_1 := ((Gr.refl w5).alloc (.cells #[.slice ax1_segs nx1_segs cx1_segs, .int .i64 x1.now] 62)).cellv kb1_1
      have Lkx0_0 := ((Gr.refl w5).alloc (.cells #[.slice ax1_segs nx1_segs cx1_segs, .int .i64 x1.now] 62)).cellv kx0_0
      have Lkx0_1 := ((Gr.refl w5).alloc (.cells #[.slice ax1_segs nx1_segs cx1_segs, .int .i64 x1.now] 62)).cellv kx0_1
      go_wp2_with fail
      refine (impl_EqualStores x0 _ x1 _ _ (RSlice.mono (keeps_of keeps_version) ((Gr.refl w5).alloc _) (rd_pversionss hx0_segs.out)) (RSlice.mono (keeps_of keeps_version) ((Gr.refl w5).alloc _) (rd_pversionss hx1_segs.out))).mono ?_
      rintro e w6 ⟨rfl, g6⟩
      have gs6 : Gr w5 w6 := ((Gr.refl w5).alloc _).trans g6
      have Z6 : Hid (w5.heap.size + 1 ≤ w6.heap.size) := Lib.hid (by have := g6.size; simpa using this)
      replace h0_segs : Hid (RVersionss w6 u0_segs x0.segs) := Lib.hid (RSlice.mono (keeps_of keeps_version) gs6 h0_segs.out)
      replace h1_segs : Hid (RVersionss w6 u1_segs x1.segs) := Lib.hid (RSlice.mono (keeps_of keeps_version) gs6 h1_segs.out)
      replace hx0_segs : Hid (PVersionss (In wpf.heap.size w4.heap.size) w6 (.slice ax0_segs nx0_segs cx0_segs) x0.segs) := Lib.hid (OSl.gr (fr_of fr_version) hx0_segs.out gs6)
      replace hx1_segs : Hid (PVersionss (In (w4.heap.size + 1) w5.heap.size) w6 (.slice ax1_segs nx1_segs cx1_segs) x1.segs) := Lib.hid (OSl.gr (fr_of fr_version) hx1_segs.out gs6)
      replace kb0_0 : w6.cell? ⟨w.heap.size, 0, none⟩ = some (u0_segs) := gs6.cellv kb0_0
      replace kb0_1 : w6.cell? ⟨w.heap.size, 1, none⟩ = some (.int .i64 x0.now) := gs6.cellv kb0_1
      replace kb1_0 : w6.cell? ⟨w.heap.size + 1, 0, none⟩ = some (u1_segs) := gs6.cellv kb1_0
      replace kb1_1 : w6.cell? ⟨w.heap.size + 1, 1, none⟩ = some (.int .i64 x1.now) := gs6.cellv kb1_1
      replace kx0_0 : w6.cell? ⟨w4.heap.size, 0, none⟩ = some (.slice ax0_segs nx0_segs cx0_segs) := gs6.cellv kx0_0
      replace kx0_1 : w6.cell? ⟨w4.heap.size, 1, none⟩ = some (.int .i64 x0.now) := gs6.cellv kx0_1
      replace gw : Hid (Gr w w6) := Lib.hid (gw.out.trans gs6)
      replace gv : Hid (Gr wpf w6) := Lib.hid (gv.out.trans gs6)
      have kx1_0 : w6.cell? ⟨w5.heap.size, 0, none⟩ = some (.slice ax1_segs nx1_segs cx1_segs) := g6.cellv (by simp [go_sem])
      have kx1_1 : w6.cell? ⟨w5.heap.size, 1, none⟩ = some (.int .i64 x1.now) := g6.cellv (by simp [go_sem])
      have bkx1_0 : Hid (w5.heap.size < w6.heap.size) := Lib.hid (by have := Z6.out; omega)
      clear Lkb0_0 Lkb0_1 Lkb1_0 Lkb1_1 Lkx0_0 Lkx0_1
      have ei0 : (((eqStoreB x0 x1) : Bool) != (eqStoreB x0 x1)) = false := by simp
      go_wp2
      go_region_held3 (fun w' => w'.cell? ⟨w.heap.size, 0, none⟩ = some (u0_segs) ∧ w'.cell? ⟨w.heap.size, 1, none⟩ = some (.int .i64 x0.now) ∧ w'.cell? ⟨w4.heap.size, 0, none⟩ = some (.slice ax0_segs nx0_segs cx0_segs) ∧ w'.cell? ⟨w4.heap.size, 1, none⟩ = some (.int .i64 x0.now) ∧ RVersionss w' u0_segs x0.segs ∧ RVersionss w' (.slice ax0_segs nx0_segs cx0_segs) x0.segs ∧ Gr w6 w')
        (first | exact ⟨kb0_0, kb0_1, kx0_0, kx0_1, h0_segs.out, (rd_pversionss hx0_segs.out), Gr.refl _⟩ | exact ⟨kb0_0, kb0_1, kx0_0, kx0_1, h0_segs.out, (rd_pversionss hx0_segs.out), (Gr.refl _).drew⟩ | (go_split_ands; exact ⟨Gr.cellv gb0 (by assumption), Gr.cellv gb0 (by assumption), Gr.cellv gb0 (by assumption), Gr.cellv gb0 (by assumption), (RSlice.mono (keeps_of keeps_version) gb0 (by assumption)), (RSlice.mono (keeps_of keeps_version) gb0 (by assumption)), Gr.trans (by assumption) gb0⟩) | (go_split_ands; exact ⟨Gr.cellv ga0 (by assumption), Gr.cellv ga0 (by assumption), Gr.cellv ga0 (by assumption), Gr.cellv ga0 (by assumption), (RSlice.mono (keeps_of keeps_version) ga0 (by assumption)), (RSlice.mono (keeps_of keeps_version) ga0 (by assumption)), Gr.trans (by assumption) ga0⟩))
        (first | (go_at_call 47; go_split_ands; refine (laws_toStore_gr x0 u0_segs _ (by assumption) HT0.out).mono ?_; rintro e wa0 ⟨vy0_segs, rfl, ⟨ay0_segs, ny0_segs, cy0_segs, rfl⟩, ry0_segs, ga0⟩) | (go_at_call 49; go_split_ands; refine (laws_eqStore x0 _ _ _ (by assumption) (ry0_segs _ (Loc.refl _ _))).mono ?_; rintro e wb0 ⟨rfl, gb0⟩))
      have gs7 : Gr w6 wb0 := ((Gr.refl w6).drew.trans ga0).trans gb0
      have Z7 : Hid (w6.heap.size ≤ wb0.heap.size) := Lib.hid gs7.size
      replace h0_segs : Hid (RVersionss wb0 u0_segs x0.segs) := Lib.hid (RSlice.mono (keeps_of keeps_version) gs7 h0_segs.out)
      replace h1_segs : Hid (RVersionss wb0 u1_segs x1.segs) := Lib.hid (RSlice.mono (keeps_of keeps_version) gs7 h1_segs.out)
      replace hx0_segs : Hid (PVersionss (In wpf.heap.size w4.heap.size) wb0 (.slice ax0_segs nx0_segs cx0_segs) x0.segs) := Lib.hid (OSl.gr (fr_of fr_version) hx0_segs.out gs7)
      replace hx1_segs : Hid (PVersionss (In (w4.heap.size + 1) w5.heap.size) wb0 (.slice ax1_segs nx1_segs cx1_segs) x1.segs) := Lib.hid (OSl.gr (fr_of fr_version) hx1_segs.out gs7)
      replace kb0_0 : wb0.cell? ⟨w.heap.size, 0, none⟩ = some (u0_segs) := gs7.cellv kb0_0
      replace kb0_1 : wb0.cell? ⟨w.heap.size, 1, none⟩ = some (.int .i64 x0.now) := gs7.cellv kb0_1
      replace kb1_0 : wb0.cell? ⟨w.heap.size + 1, 0, none⟩ = some (u1_segs) := gs7.cellv kb1_0
      replace kb1_1 : wb0.cell? ⟨w.heap.size + 1, 1, none⟩ = some (.int .i64 x1.now) := gs7.cellv kb1_1
      replace kx0_0 : wb0.cell? ⟨w4.heap.size, 0, none⟩ = some (.slice ax0_segs nx0_segs cx0_segs) := gs7.cellv kx0_0
      replace kx0_1 : wb0.cell? ⟨w4.heap.size, 1, none⟩ = some (.int .i64 x0.now) := gs7.cellv kx0_1
      replace kx1_0 : wb0.cell? ⟨w5.heap.size, 0, none⟩ = some (.slice ax1_segs nx1_segs cx1_segs) := gs7.cellv kx1_0
      replace kx1_1 : wb0.cell? ⟨w5.heap.size, 1, none⟩ = some (.int .i64 x1.now) := gs7.cellv kx1_1
      replace gw : Hid (Gr w wb0) := Lib.hid (gw.out.trans gs7)
      replace gv : Hid (Gr wpf wb0) := Lib.hid (gv.out.trans gs7)
      go_wp2
      go_region_held3 (fun w' => w'.cell? ⟨w.heap.size + 1, 0, none⟩ = some (u1_segs) ∧ w'.cell? ⟨w.heap.size + 1, 1, none⟩ = some (.int .i64 x1.now) ∧ w'.cell? ⟨w5.heap.size, 0, none⟩ = some (.slice ax1_segs nx1_segs cx1_segs) ∧ w'.cell? ⟨w5.heap.size, 1, none⟩ = some (.int .i64 x1.now) ∧ RVersionss w' u1_segs x1.segs ∧ RVersionss w' (.slice ax1_segs nx1_segs cx1_segs) x1.segs ∧ Gr wb0 w')
        (first | exact ⟨kb1_0, kb1_1, kx1_0, kx1_1, h1_segs.out, (rd_pversionss hx1_segs.out), Gr.refl _⟩ | exact ⟨kb1_0, kb1_1, kx1_0, kx1_1, h1_segs.out, (rd_pversionss hx1_segs.out), (Gr.refl _).drew⟩ | (go_split_ands; exact ⟨Gr.cellv gb1 (by assumption), Gr.cellv gb1 (by assumption), Gr.cellv gb1 (by assumption), Gr.cellv gb1 (by assumption), (RSlice.mono (keeps_of keeps_version) gb1 (by assumption)), (RSlice.mono (keeps_of keeps_version) gb1 (by assumption)), Gr.trans (by assumption) gb1⟩) | (go_split_ands; exact ⟨Gr.cellv ga1 (by assumption), Gr.cellv ga1 (by assumption), Gr.cellv ga1 (by assumption), Gr.cellv ga1 (by assumption), (RSlice.mono (keeps_of keeps_version) ga1 (by assumption)), (RSlice.mono (keeps_of keeps_version) ga1 (by assumption)), Gr.trans (by assumption) ga1⟩))
        (first | (go_at_call 47; go_split_ands; refine (laws_toStore_gr x1 u1_segs _ (by assumption) HT1.out).mono ?_; rintro e wa1 ⟨vy1_segs, rfl, ⟨ay1_segs, ny1_segs, cy1_segs, rfl⟩, ry1_segs, ga1⟩) | (go_at_call 49; go_split_ands; refine (laws_eqStore x1 _ _ _ (by assumption) (ry1_segs _ (Loc.refl _ _))).mono ?_; rintro e wb1 ⟨rfl, gb1⟩))
      have gs8 : Gr wb0 wb1 := ((Gr.refl wb0).drew.trans ga1).trans gb1
      have Z8 : Hid (wb0.heap.size ≤ wb1.heap.size) := Lib.hid gs8.size
      replace h0_segs : Hid (RVersionss wb1 u0_segs x0.segs) := Lib.hid (RSlice.mono (keeps_of keeps_version) gs8 h0_segs.out)
      replace h1_segs : Hid (RVersionss wb1 u1_segs x1.segs) := Lib.hid (RSlice.mono (keeps_of keeps_version) gs8 h1_segs.out)
      replace hx0_segs : Hid (PVersionss (In wpf.heap.size w4.heap.size) wb1 (.slice ax0_segs nx0_segs cx0_segs) x0.segs) := Lib.hid (OSl.gr (fr_of fr_version) hx0_segs.out gs8)
      replace hx1_segs : Hid (PVersionss (In (w4.heap.size + 1) w5.heap.size) wb1 (.slice ax1_segs nx1_segs cx1_segs) x1.segs) := Lib.hid (OSl.gr (fr_of fr_version) hx1_segs.out gs8)
      replace kb0_0 : wb1.cell? ⟨w.heap.size, 0, none⟩ = some (u0_segs) := gs8.cellv kb0_0
      replace kb0_1 : wb1.cell? ⟨w.heap.size, 1, none⟩ = some (.int .i64 x0.now) := gs8.cellv kb0_1
      replace kb1_0 : wb1.cell? ⟨w.heap.size + 1, 0, none⟩ = some (u1_segs) := gs8.cellv kb1_0
      replace kb1_1 : wb1.cell? ⟨w.heap.size + 1, 1, none⟩ = some (.int .i64 x1.now) := gs8.cellv kb1_1
      replace kx0_0 : wb1.cell? ⟨w4.heap.size, 0, none⟩ = some (.slice ax0_segs nx0_segs cx0_segs) := gs8.cellv kx0_0
      replace kx0_1 : wb1.cell? ⟨w4.heap.size, 1, none⟩ = some (.int .i64 x0.now) := gs8.cellv kx0_1
      replace kx1_0 : wb1.cell? ⟨w5.heap.size, 0, none⟩ = some (.slice ax1_segs nx1_segs cx1_segs) := gs8.cellv kx1_0
      replace kx1_1 : wb1.cell? ⟨w5.heap.size, 1, none⟩ = some (.int .i64 x1.now) := gs8.cellv kx1_1
      replace gw : Hid (Gr w wb1) := Lib.hid (gw.out.trans gs8)
      replace gv : Hid (Gr wpf wb1) := Lib.hid (gv.out.trans gs8)
      go_wp2_with fail
      go_ret
      exact ⟨rfl, gw.out⟩
    · have HZ0 := Lib.hid (szV_yes (t := (totStore x0)) (left := (1048576 : Int)) (by omega))
      have HA0 := Lib.hid (show (0 : Int) ≤ (1048576 : Int) ∧ (1048576 : Int) ≤ 1048576 from by omega)
      have HB0 := Lib.hid (show (0 : Int) ≤ (1048576 : Int) - ((totStore x0) : Int) ∧ (1048576 : Int) - ((totStore x0) : Int) ≤ 1048576 from by omega)
      have HZ1 := Lib.hid (szV_no (t := (totStore x1)) (left := (1048576 - ((totStore x0) : Int))) (by omega))
      have HA1 := Lib.hid (show (0 : Int) ≤ (1048576 - ((totStore x0) : Int)) ∧ (1048576 - ((totStore x0) : Int)) ≤ 1048576 from by omega)
      clear hs0 hs1
      go_enter Try.func13, Try.ntmps13
      have Bh0_segs := Lib.hid h0_segs
      replace h0_segs := Lib.hid h0_segs
      have Bh1_segs := Lib.hid h1_segs
      replace h1_segs := Lib.hid h1_segs
      go_wp2_with fail
      refine (laws_szStore x0 u0_segs _ _ (RSlice.mono (keeps_of keeps_version) (((Gr.refl w).alloc _).alloc _) h0_segs.out) HA0.out.1 HA0.out.2).mono ?_
      rintro e w1 ⟨rfl, g1⟩
      have gs1 : Gr w w1 := (((Gr.refl w).alloc _).alloc _).trans g1
      have Z1 : Hid (w.heap.size + 2 ≤ w1.heap.size) := Lib.hid (by have := g1.size; simpa using this)
      replace h0_segs : Hid (RVersionss w1 u0_segs x0.segs) := Lib.hid (RSlice.mono (keeps_of keeps_version) gs1 h0_segs.out)
      replace h1_segs : Hid (RVersionss w1 u1_segs x1.segs) := Lib.hid (RSlice.mono (keeps_of keeps_version) gs1 h1_segs.out)
      have gw : Hid (Gr w w1) := Lib.hid gs1
      have kb0_0 : w1.cell? ⟨w.heap.size, 0, none⟩ = some (u0_segs) := g1.cellv (by simp [go_sem])
      have kb0_1 : w1.cell? ⟨w.heap.size, 1, none⟩ = some (.int .i64 x0.now) := g1.cellv (by simp [go_sem])
      have kb1_0 : w1.cell? ⟨w.heap.size + 1, 0, none⟩ = some (u1_segs) := g1.cellv (by simp [go_sem])
      have kb1_1 : w1.cell? ⟨w.heap.size + 1, 1, none⟩ = some (.int .i64 x1.now) := g1.cellv (by simp [go_sem])
      have bkb0_0 : Hid (w.heap.size < w1.heap.size) := Lib.hid (by have := Z1.out; omega)
      have bkb1_0 : Hid (w.heap.size + 1 < w1.heap.size) := Lib.hid (by have := Z1.out; omega)
      rw [HZ0.out]
      have hB0 := HB0.out.1
      have hC0 := HB0.out.2
      go_wp2_with fail
      refine (laws_szStore x1 u1_segs _ _ h1_segs.out HA1.out.1 HA1.out.2).mono ?_
      rintro e w2 ⟨rfl, g2⟩
      have Z2 : Hid (w1.heap.size + 0 ≤ w2.heap.size) := Lib.hid (by have := g2.size; simpa using this)
      replace h0_segs : Hid (RVersionss w2 u0_segs x0.segs) := Lib.hid (RSlice.mono (keeps_of keeps_version) g2 h0_segs.out)
      replace h1_segs : Hid (RVersionss w2 u1_segs x1.segs) := Lib.hid (RSlice.mono (keeps_of keeps_version) g2 h1_segs.out)
      replace kb0_0 : w2.cell? ⟨w.heap.size, 0, none⟩ = some (u0_segs) := g2.cellv kb0_0
      replace kb0_1 : w2.cell? ⟨w.heap.size, 1, none⟩ = some (.int .i64 x0.now) := g2.cellv kb0_1
      replace kb1_0 : w2.cell? ⟨w.heap.size + 1, 0, none⟩ = some (u1_segs) := g2.cellv kb1_0
      replace kb1_1 : w2.cell? ⟨w.heap.size + 1, 1, none⟩ = some (.int .i64 x1.now) := g2.cellv kb1_1
      replace gw : Hid (Gr w w2) := Lib.hid (gw.out.trans g2)
      rw [HZ1.out]
      go_wp2_with fail
      go_ret
      exact ⟨rfl, gw.out⟩
  · have HZ0 := Lib.hid (szV_no (t := (totStore x0)) (left := (1048576 : Int)) (by omega))
    have HA0 := Lib.hid (show (0 : Int) ≤ (1048576 : Int) ∧ (1048576 : Int) ≤ 1048576 from by omega)
    clear hs0
    go_enter Try.func13, Try.ntmps13
    have Bh0_segs := Lib.hid h0_segs
    replace h0_segs := Lib.hid h0_segs
    have Bh1_segs := Lib.hid h1_segs
    replace h1_segs := Lib.hid h1_segs
    go_wp2_with fail
    refine (laws_szStore x0 u0_segs _ _ (RSlice.mono (keeps_of keeps_version) (((Gr.refl w).alloc _).alloc _) h0_segs.out) HA0.out.1 HA0.out.2).mono ?_
    rintro e w1 ⟨rfl, g1⟩
    have gs1 : Gr w w1 := (((Gr.refl w).alloc _).alloc _).trans g1
    have Z1 : Hid (w.heap.size + 2 ≤ w1.heap.size) := Lib.hid (by have := g1.size; simpa using this)
    replace h0_segs : Hid (RVersionss w1 u0_segs x0.segs) := Lib.hid (RSlice.mono (keeps_of keeps_version) gs1 h0_segs.out)
    replace h1_segs : Hid (RVersionss w1 u1_segs x1.segs) := Lib.hid (RSlice.mono (keeps_of keeps_version) gs1 h1_segs.out)
    have gw : Hid (Gr w w1) := Lib.hid gs1
    have kb0_0 : w1.cell? ⟨w.heap.size, 0, none⟩ = some (u0_segs) := g1.cellv (by simp [go_sem])
    have kb0_1 : w1.cell? ⟨w.heap.size, 1, none⟩ = some (.int .i64 x0.now) := g1.cellv (by simp [go_sem])
    have kb1_0 : w1.cell? ⟨w.heap.size + 1, 0, none⟩ = some (u1_segs) := g1.cellv (by simp [go_sem])
    have kb1_1 : w1.cell? ⟨w.heap.size + 1, 1, none⟩ = some (.int .i64 x1.now) := g1.cellv (by simp [go_sem])
    have bkb0_0 : Hid (w.heap.size < w1.heap.size) := Lib.hid (by have := Z1.out; omega)
    have bkb1_0 : Hid (w.heap.size + 1 < w1.heap.size) := Lib.hid (by have := Z1.out; omega)
    rw [HZ0.out]
    go_wp2_with fail
    go_ret
    exact ⟨rfl, gw.out⟩

-- endgen
end Go.Proofs.Ytgadgidhomijpaa
