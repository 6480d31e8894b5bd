/- FormatRow: the walks. -/
import Derived.Test.YtjeffagejbdjkaaDoorNumT
import Derived.Test.YtjeffagejbdjkaaDoorLawD
import Derived.Test.YtjeffagejbdjkaaDoorExt
namespace Go.Proofs.YtjeffagejbdjkaaDoor
open Go.RowKit
def rowText (x : DRow) : List UInt8 := if isRowB x then Lib.itoa x.id ++ [58] ++ numsText x.vals else []
theorem rowText_yes {x : DRow} (h : isRowB x = true) : rowText x = Lib.itoa x.id ++ [58] ++ numsText x.vals := by unfold rowText; rw [h]; rfl
theorem rowText_no {x : DRow} (h : isRowB x = false) : rowText x = [] := by unfold rowText; rw [h]; rfl
theorem calls_bb {P : Program} {f : FuncId} {args : Array Value} {w : World} {c b : Bool} {R : World → Prop} (h : Calls P f args w fun e w' => e = .returned (.bool c) ∧ R w') (hb : c = b) :
    Calls P f args w fun e w' => e = .returned (.bool b) ∧ R w' := hb ▸ h
set_option maxRecDepth 100000 in
set_option maxHeartbeats 1000000 in
theorem spec_FormatRow (x : DRow) (u : Value) (w : World) (hx : RInts w u x.vals) (hb : totRow x ≤ 1048576) (hi : I64 x.id) :
    Calls Tryd.prog 19 #[.agg #[.int .i64 x.id, u]] w fun e w' => e = .returned (.string ⟨(rowText x).toArray⟩) ∧ Gr w w' := by
  have HU := Lib.hid hx
  have HI := Lib.hid hi
  have HB : Hid (x.vals.length ≤ 1048576) := Lib.hid hb
  have HN : Hid ((numsText x.vals).length ≤ 22 * x.vals.length) := Lib.hid (numsText_len (fun i h => by obtain ⟨a, c, _, _, _, hx⟩ := hx.open; obtain ⟨_, _, _, _, h⟩ := hx i h; exact h))
  obtain ⟨ua, un, uc, rfl⟩ := hx.isSl
  have g0 : Gr w (w.alloc (.cells #[.int .i64 x.id, .slice ua un uc] 33)) := (Gr.refl w).alloc _
  clear hx hi hb
  cases h1 : isRowB x with
  | false =>
    have H1 := Lib.hid h1
    have HR := Lib.hid (rowText_no h1)
    clear h1
    go_enter Tryd.func19, Tryd.ntmps19
    go_wp2_with fail
    refine (calls_bb (spec_IsRow x _ _ (RSlice.mono keeps_int g0 HU.out)) H1.out).mono ?_
    rintro e w1 ⟨rfl, g1⟩
    go_wp2_with fail
    go_ret
    exact ⟨ret_str (by rw [HR.out]), g0.trans g1⟩
  | true =>
    have H1 := Lib.hid h1
    have HR := Lib.hid (rowText_yes h1)
    clear h1
    go_enter Tryd.func19, Tryd.ntmps19
    go_wp2_with fail
    refine (calls_bb (spec_IsRow x _ _ (RSlice.mono keeps_int g0 HU.out)) H1.out).mono ?_
    rintro e w1 ⟨rfl, g1⟩
    have b0 : w1.cell? ⟨w.heap.size, 0, none⟩ = some (.int .i64 x.id) := g1.cellv (by simp [go_sem])
    have b1 : w1.cell? ⟨w.heap.size, 1, none⟩ = some (.slice ua un uc) := g1.cellv (by simp [go_sem])
    have RU := Lib.hid (RSlice.mono keeps_int (g0.trans g1) HU.out)
    have n1 := itoa_len HI.out
    have n2 : (numsText x.vals).length ≤ 23068672 := by have := HN.out; have := HB.out; omega
    have l1 : ¬ 9223372036854775807 < (Lib.itoa x.id).length + 1 := by omega
    have l2 : ¬ 9223372036854775807 < (Lib.itoa x.id).length + 1 + (numsText x.vals).length := by omega
    clear n1 n2
    have G1 := Lib.hid (g0.trans g1)
    clear g0 g1
    go_wp2_with fail
    have q0 := fun q : Ext w1 => Ext.cell b0 q
    have q1 := fun q : Ext w1 => Ext.cell b1 q
    refine wp_region_ext (by kernel_rfl) (by kernel_rfl) ?_
    repeat (go_big_quiet_step (first | (go_at_call 12; exact quiet_ext (spec_FormatInt x.id _ HI.out)) | (go_at_call 53; exact quiet_ext (spec_l3List _ x.vals _ (RSlice.mono keeps_int (Ext.gr _) RU.out) HB.out))))
    refine wpQuiet_nil ?_
    intro w2 hw2
    have g2 := Ext.out hw2
    clear hw2 q0 q1
    go_wp2_with fail
    go_ret
    exact ⟨ret_str (by rw [HR.out]; exact cat3 _ [58] _), G1.out.trans g2⟩
set_option maxRecDepth 100000 in
set_option maxHeartbeats 1000000 in
theorem impl_FormatRow (x : DRow) (u : Value) (w : World) (hx : RInts w u x.vals) (hb : totRow x ≤ 1048576) (hi : I64 x.id) (hT : Tens Tryd.prog w) :
    Calls Tryd.prog 21 #[.agg #[.int .i64 x.id, u]] w fun e w' => e = .returned (.string ⟨(rowText x).toArray⟩) ∧ Gr w w' := by
  have HT := Lib.hid hT
  have HU := Lib.hid hx
  have HI := Lib.hid hi
  have HB : Hid (x.vals.length ≤ 1048576) := Lib.hid hb
  have HN : Hid ((numsText x.vals).length ≤ 22 * x.vals.length) := Lib.hid (numsText_len (fun i h => by obtain ⟨a, c, _, _, _, hx⟩ := hx.open; obtain ⟨_, _, _, _, h⟩ := hx i h; exact h))
  obtain ⟨ua, un, uc, rfl⟩ := hx.isSl
  have g0 : Gr w (w.alloc (.cells #[.int .i64 x.id, .slice ua un uc] 33)) := (Gr.refl w).alloc _
  clear hx hi hb hT
  cases h1 : isRowB x with
  | false =>
    have H1 := Lib.hid h1
    have HR := Lib.hid (rowText_no h1)
    clear h1
    go_enter Tryd.func21, Tryd.ntmps21
    go_wp2_with fail
    refine (calls_bb (impl_IsRow x _ _ (RSlice.mono keeps_int g0 HU.out)) H1.out).mono ?_
    rintro e w1 ⟨rfl, g1⟩
    go_wp2_with fail
    go_ret
    exact ⟨ret_str (by rw [HR.out]), g0.trans g1⟩
  | true =>
    have H1 := Lib.hid h1
    have HR := Lib.hid (rowText_yes h1)
    clear h1
    go_enter Tryd.func21, Tryd.ntmps21
    go_wp2_with fail
    refine (calls_bb (impl_IsRow x _ _ (RSlice.mono keeps_int g0 HU.out)) H1.out).mono ?_
    rintro e w1 ⟨rfl, g1⟩
    have b0 : w1.cell? ⟨w.heap.size, 0, none⟩ = some (.int .i64 x.id) := g1.cellv (by simp [go_sem])
    have b1 : w1.cell? ⟨w.heap.size, 1, none⟩ = some (.slice ua un uc) := g1.cellv (by simp [go_sem])
    have RU := Lib.hid (RSlice.mono keeps_int (g0.trans g1) HU.out)
    have n1 := itoa_len HI.out
    have n2 : (numsText x.vals).length ≤ 23068672 := by have := HN.out; have := HB.out; omega
    have l1 : ¬ 9223372036854775807 < (Lib.itoa x.id).length + 1 := by omega
    have l2 : ¬ 9223372036854775807 < (Lib.itoa x.id).length + 1 + (numsText x.vals).length := by omega
    clear n1 n2
    have G1 := Lib.hid (g0.trans g1)
    have HT1 := Lib.hid (tab_gr HT.out (g0.trans g1))
    clear g0 g1
    go_wp2_with fail
    have q0 := fun q : Ext w1 => Ext.cell b0 q
    have q1 := fun q : Ext w1 => Ext.cell b1 q
    refine wp_region_ext (by kernel_rfl) (by kernel_rfl) ?_
    repeat (go_big_quiet_step (first | (go_at_call 13; exact quiet_ext (impl_FormatInt x.id _ HI.out (tab_gr HT1.out (Ext.gr _)))) | (go_at_call 55; exact quiet_ext (impl_numbersText _ x.vals _ (tab_gr HT1.out (Ext.gr _)) (RSlice.mono keeps_int (Ext.gr _) RU.out) HB.out))))
    refine wpQuiet_nil ?_
    intro w2 hw2
    have g2 := Ext.out hw2
    clear hw2 q0 q1
    go_wp2_with fail
    go_ret
    exact ⟨ret_str (by rw [HR.out]; exact cat3 _ [58] _), G1.out.trans g2⟩
end Go.Proofs.YtjeffagejbdjkaaDoor
