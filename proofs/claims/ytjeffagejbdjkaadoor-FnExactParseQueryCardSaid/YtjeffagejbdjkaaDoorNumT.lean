/- A list of numbers as text: both walks. -/
import Derived.Test.YtjeffagejbdjkaaDoorFmt
import Derived.Test.YtjeffagejbdjkaaDoorSetF
import Derived.Test.YtjeffagejbdjkaaDoorStrS
import Derived.Test.YtjeffagejbdjkaaDoorSetI
namespace Go.Proofs.YtjeffagejbdjkaaDoor
open Go.RowKit
def numsText (xs : List Int) : List UInt8 := Lib.join (xs.map Lib.itoa) [44]
/-- What the first i make. -/
def NSt (xs : List Int) (i : Nat) (S : List UInt8) : Prop := S = Lib.join ((xs.take i).map Lib.itoa) [44] ∧ S.length ≤ 22 * i
theorem NSt.zero (xs : List Int) : NSt xs 0 [] := ⟨by simp [Lib.join_nil], by simp⟩
theorem NSt.next {xs : List Int} {i : Nat} {S : List UInt8} (h : NSt xs i S) (hi : i < xs.length) (h0 : i ≠ 0) (hx : I64 xs[i]) : NSt xs (i + 1) (S ++ [44] ++ Lib.itoa xs[i]) := by
  obtain ⟨rfl, h2⟩ := h
  have hn := itoa_len hx
  refine ⟨?_, by rw [List.length_append, List.length_append]; simp only [List.length_cons, List.length_nil]; omega⟩
  rw [List.take_succ_eq_append_getElem hi, List.map_append, List.map_cons, List.map_nil, join_snoc]
  intro e
  have h3 := congrArg List.length e
  rw [List.length_map, List.length_take, Nat.min_eq_left (Nat.le_of_lt hi)] at h3
  exact h0 h3
theorem NSt.first {xs : List Int} (hi : 0 < xs.length) (hx : I64 xs[0]) : NSt xs 1 (Lib.itoa xs[0]) := by
  refine ⟨?_, Nat.le_trans (itoa_len hx) (by omega)⟩
  rw [List.take_succ_eq_append_getElem hi]
  simp [Lib.join_one]
theorem NSt.all {xs : List Int} {S : List UInt8} (h : NSt xs xs.length S) : S = numsText xs := by rw [h.1, List.take_length]; rfl
theorem numsText_len {xs : List Int} (hx : ∀ i (h : i < xs.length), I64 xs[i]) : (numsText xs).length ≤ 22 * xs.length := by
  have h : ∀ i, i ≤ xs.length → ∃ S, NSt xs i S := by
    intro i
    induction i with
    | zero => exact fun _ => ⟨_, NSt.zero xs⟩
    | succ i ih =>
      intro hi
      obtain ⟨S, h⟩ := ih (by omega)
      by_cases h0 : i = 0
      · subst h0; exact ⟨_, NSt.first hi (hx 0 hi)⟩
      · exact ⟨_, h.next hi h0 (hx i hi)⟩
  obtain ⟨S, h⟩ := h xs.length (Nat.le_refl _)
  rw [← h.all]; exact h.2
set_option maxRecDepth 100000 in
set_option maxHeartbeats 1000000 in
theorem spec_l3List (v : Value) (xs : List Int) (w : World) (hv : RInts w v xs) (hb : xs.length ≤ 1048576) :
    Calls Tryd.prog 53 #[v] w fun e w' => e = .returned (.string ⟨(numsText xs).toArray⟩) ∧ Gr w w' := by
  obtain ⟨a, cap, rfl, hl, hm, hx⟩ := hv.open
  have HX := Lib.hid hx
  have HB := Lib.hid hb
  clear hv hx hb
  go_enter Tryd.func53, Tryd.ntmps53
  go_wp2_with fail
  go_loopw [3, 4] (fun sv iv wr => ∃ (i : Nat) (S : List UInt8), i ≤ xs.length ∧ iv = .int .i64 i ∧ sv = .string ⟨S.toArray⟩ ∧ Hid (NSt xs i S) ∧ Gr w wr) (fun _ i _ => xs.length - (intOf i).toNat)
  case atStart => exact ⟨0, [], Nat.zero_le _, rfl, rfl, Lib.hid (NSt.zero xs), Gr.refl _⟩
  case round =>
    obtain ⟨i, S, hi, rfl, rfl, hst, hg⟩ := hrel
    by_cases hlt : i < xs.length
    · obtain ⟨b, off, rfl, hc, h64⟩ := HX.out i hlt
      have gc := hg.cellv hc
      have HL := Lib.hid hlt
      have H64 := Lib.hid h64
      obtain ⟨x, HXi⟩ : ∃ x, Hid (x = xs[i]) := ⟨_, Lib.hid rfl⟩
      replace gc : wr.cell? ⟨b, off + i, none⟩ = some (.int .i64 x) := by rw [HXi.out]; exact gc
      have IX : Hid (I64 x) := Lib.hid (by rw [HXi.out]; exact h64)
      have n1 := itoa_len IX.out
      have n3 : S.length ≤ 23068672 := by have := hst.out.2; have := HL.out; have := HB.out; omega
      have p0 : (0 : Int) ≤ (i : Int) := Int.natCast_nonneg _
      have p1 : (i : Int) < (xs.length : Int) := by have := HL.out; omega
      have l1 : ¬ 9223372036854775807 < S.length + 1 := by omega
      have l2 : ¬ 9223372036854775807 < S.length + 1 + (Lib.itoa x).length := by omega
      have l5 : ¬ 9223372036854775807 < (Lib.itoa x).length := by omega
      clear n1 n3 hc hi
      by_cases h0 : i = 0
      · have hS : S = [] := by have := hst.out.1; rw [h0] at this; simpa [Lib.join_nil] using this
        subst hS
        have hnx : Hid (NSt xs (i + 1) (Lib.itoa x)) := Lib.hid (by subst h0; rw [HXi.out]; exact NSt.first HL.out H64.out)
        have hz : ¬ (0 : Int) < (i : Int) := by omega
        clear h0
        go_wp2_with fail
        refine (spec_FormatInt x _ IX.out).mono ?_
        rintro e w2 ⟨rfl, g2⟩
        go_wp2_with fail
        refine ⟨⟨i + 1, _, HL.out, rfl, congrArg Value.string (cat2 [] (Lib.itoa x)), Lib.hid (by have h := hnx.out; simpa using h), hg.trans g2⟩, ?_⟩
        have z1 := HL.out
        simp only [intOf]
        omega
      · have hnx : Hid (NSt xs (i + 1) (S ++ [44] ++ Lib.itoa x)) := Lib.hid (by rw [HXi.out]; exact hst.out.next HL.out h0 H64.out)
        have hz : (0 : Int) < (i : Int) := by omega
        clear h0
        go_wp2_with fail
        refine (spec_FormatInt x _ IX.out).mono ?_
        rintro e w2 ⟨rfl, g2⟩
        go_wp2_with fail
        refine ⟨⟨i + 1, _, HL.out, rfl, congrArg Value.string (cat3 S [44] (Lib.itoa x)), Lib.hid (by have h := hnx.out; simpa using h), hg.trans g2⟩, ?_⟩
        have z1 := HL.out
        simp only [intOf]
        omega
    · obtain rfl : i = xs.length := by omega
      have HE := Lib.hid hst.out.all
      clear hi hlt
      go_wp2_with fail
      go_ret
      exact ⟨ret_str (by rw [← HE.out]), hg⟩
theorem join_any {w : World} {base : Nat} {v : Value} {ws : List (List UInt8)} (hown : w.ownsRow base 9 1 v (ws.map bsOf).length ((ws.map bsOf).map Value.string)) (sep : List UInt8) (h1 : ws.length ≤ 140737488355328)
    (h2 : (Lib.join ws sep).length ≤ 140737488355328) : Calls Tryd.prog 50 #[v, .string ⟨sep.toArray⟩] w fun e w' => e = .returned (.string ⟨(Lib.join ws sep).toArray⟩) ∧ Gr w w' := by
  by_cases hne : ws = []
  · subst hne
    obtain ⟨a, c, rfl⟩ := ownsRow_form hown
    refine (Any.strings_Join_none Tryd.lays156 Tryd.Builder_Extra_156 a c ⟨sep.toArray⟩ w).mono ?_
    rintro e w' ⟨rfl, rfl⟩
    exact ⟨rfl, Gr.refl _⟩
  · exact join_own hown sep hne h1 h2
set_option maxRecDepth 100000 in
set_option maxHeartbeats 1000000 in
theorem impl_numbersText (v : Value) (xs : List Int) (w : World) (hT : Tens Tryd.prog w) (hv : RInts w v xs) (hb : xs.length ≤ 1048576) :
    Calls Tryd.prog 55 #[v] w fun e w' => e = .returned (.string ⟨(numsText xs).toArray⟩) ∧ Gr w w' := by
  obtain ⟨a, cap, rfl, hl, hm, hx⟩ := hv.open
  have HT := Lib.hid hT
  have HX := Lib.hid hx
  have HB := Lib.hid hb
  have HJ := Lib.hid (numsText_len (fun i h => (hx i h).elim fun _ ⟨_, _, _, h⟩ => h))
  clear hv hx hb hT
  have hown0 := own_empty w 9 1 w.heap.size (Nat.le_refl _)
  have g0 : Gr w (w.alloc (.cells #[] 9)) := (Gr.refl w).alloc _
  go_enter Tryd.func55, Tryd.ntmps55
  go_wp2_with fail
  go_loopw [3, 9] (fun sv iv wr => ∃ (i : Nat) (sa : Option Addr) (sc : Nat), i ≤ xs.length ∧ iv = .int .i64 i ∧ sv = .slice sa i sc ∧ wr.ownsRow w.heap.size 9 1 sv (((xs.take i).map Lib.itoa).map bsOf).length ((((xs.take i).map Lib.itoa).map bsOf).map Value.string) ∧ Gr w wr) (fun _ i _ => xs.length - (intOf i).toNat)
  case atStart => exact ⟨0, _, _, Nat.zero_le _, rfl, rfl, by simpa using hown0, g0⟩
  case round =>
    obtain ⟨i, sa, sc, hi, rfl, rfl, hown, hg⟩ := hrel
    by_cases hlt : i < xs.length
    · obtain ⟨b, off, rfl, hc, h64⟩ := HX.out i hlt
      have gc := hg.cellv hc
      have HL := Lib.hid hlt
      obtain ⟨x, HXi⟩ : ∃ x, Hid (x = xs[i]) := ⟨_, Lib.hid rfl⟩
      replace gc : wr.cell? ⟨b, off + i, none⟩ = some (.int .i64 x) := by rw [HXi.out]; exact gc
      have IX : Hid (I64 x) := Lib.hid (by rw [HXi.out]; exact h64)
      obtain ⟨bs, HBS⟩ : ∃ bs, Hid (bs = ((xs.take i).map Lib.itoa).map bsOf) := ⟨_, Lib.hid rfl⟩
      have hbl : bs.length = i := by rw [HBS.out]; simp; omega
      rw [← HBS.out] at hown
      have HN : Hid (bs.length + 1 ≤ 8796093022208) := Lib.hid (by rw [hbl]; have := HB.out; omega)
      have HBL := Lib.hid hbl
      have p0 : (0 : Int) ≤ (i : Int) := Int.natCast_nonneg _
      have p1 : (i : Int) < (xs.length : Int) := by omega
      clear hc h64 hi hlt hbl
      go_wp2_with fail
      refine (impl_FormatInt x _ IX.out (tab_gr HT.out hg)).mono ?_
      rintro e w2 ⟨rfl, g2⟩
      have G2 := Lib.hid (hg.trans g2)
      have hown2 := ownsRow_gr hown g2
      go_wp2_with (at_builtin; refine push_s rfl _ _ rfl bs _ rfl rfl rfl hown2 HN.out G2.out.size ?_; intro g4 cap4 w4 hown4 hb4)
      have hE : Hid ((((xs.take (i + 1)).map Lib.itoa).map bsOf) = bs ++ [bsOf (Lib.itoa x)]) := Lib.hid (by rw [List.take_succ_eq_append_getElem HL.out, List.map_append, List.map_append, HBS.out, HXi.out]; rfl)
      go_roundw
      case rel => exact ⟨i + 1, some ⟨g4, 0, none⟩, cap4, HL.out, rfl, by rw [HBL.out], by rw [hE.out]; exact own_len hown4, G2.out.trans' hb4⟩
      case measure => have := HL.out; simp only [intOf]; omega
    · obtain rfl : i = xs.length := by omega
      rw [List.take_length] at hown
      clear hi hlt
      have HO := Lib.hid hown
      clear hown
      go_wp2_with fail
      refine (join_any (ws := xs.map Lib.itoa) HO.out [44] (by have := HB.out; simp; omega) (Nat.le_trans HJ.out (by have := HB.out; omega))).mono ?_
      rintro e w2 ⟨rfl, g2⟩
      go_wp2_with fail
      go_ret
      exact ⟨rfl, hg.trans g2⟩
end Go.Proofs.YtjeffagejbdjkaaDoor
