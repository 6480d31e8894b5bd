/- A text cut at a byte: the reference's walk, the library's contracts. -/
import Derived.Test.YtjeffagejbdjkaaDoorCutP
import Derived.Test.YtjeffagejbdjkaaDoorParseI
import Derived.Test.YtjeffagejbdjkaaDoorStrS
import Derived.Test.YtjeffagejbdjkaaDoorPSetP
namespace Go.Proofs.YtjeffagejbdjkaaDoor
open Go.RowKit
/-- A row of strings in block g. -/
def StrsAt (w : World) (g : Nat) (ps : List (List UInt8)) : Prop := ∀ j (h : j < ps.length), w.cell? ⟨g, j, none⟩ = some (.string ⟨ps[j].toArray⟩)
theorem StrsAt.gr {w w' : World} {g : Nat} {ps : List (List UInt8)} (h : StrsAt w g ps) (k : Gr w w') : StrsAt w' g ps := fun j hj => k.cellv (h j hj)
theorem strs_of_own {w : World} {lo g n cap : Nat} {ws : List (List UInt8)} (h : w.ownsRow lo 9 1 (.slice (some ⟨g, 0, none⟩) n cap) (ws.map bsOf).length ((ws.map bsOf).map Value.string)) : StrsAt w g ws := fun j hj => by
  rcases h.2 with ⟨h0, _⟩ | ⟨b, cp, cur, hv, _, hg, hnc, hm, hcs, ht⟩
  · cases h0
  · cases hv
    have h4 : (cur.toList.take ((ws.map bsOf).length * 1))[j]? = ((ws.map bsOf).map Value.string)[j]? := by rw [ht]
    have hj' : j < (ws.map bsOf).length := by simpa using hj
    rw [List.getElem?_take, if_pos (by omega)] at h4
    have h5 : cur[j]? = some (.string ⟨ws[j].toArray⟩) := by simpa [hj] using h4
    simp [World.cell?, hg, h5]
/-- The library's bound lies in its variable. -/
abbrev MaxL (w : World) : Prop := ∃ m, w.cell? ⟨2, 0, none⟩ = some (.int .i64 m)
theorem maxL_gr {w w' : World} (h : MaxL w) (g : Gr w w') : MaxL w' := by obtain ⟨m, h⟩ := h; exact ⟨m, g.cellv h⟩
theorem impl_split (l : List UInt8) (c : UInt8) (w : World) (hM : MaxL w) (hl : l.length ≤ 1048576) : Calls Tryd.prog 70 #[.string ⟨l.toArray⟩, .string ⟨#[c]⟩] w fun e w' => ∃ g n, e = .returned (.slice (some ⟨g, 0, none⟩) (cutL c l).length n) ∧ Gr w w' ∧ Hid (StrsAt w' g (cutL c l) ∧ w.heap.size ≤ g) := by
  obtain ⟨m, hm⟩ := hM
  have hsz : (⟨l.toArray⟩ : ByteArray).size < 4294967281 := by simp only [ByteArray.size, List.size_toArray]; omega
  have hb : (Lib.splitB ⟨#[c]⟩ 0 (Lib.countB ⟨l.toArray⟩ ⟨#[c]⟩) ⟨l.toArray⟩) = (cutL c l).map bsOf := by
    have h1 := Lib.splitB_data ⟨#[c]⟩ 0 (Lib.countB ⟨l.toArray⟩ ⟨#[c]⟩) ⟨l.toArray⟩
    have h2 : Lib.splitK [c] 0 (Lib.countB ⟨l.toArray⟩ ⟨#[c]⟩) l = cutL c l := split_cut c l
    have h3 : (Lib.splitB ⟨#[c]⟩ 0 (Lib.countB ⟨l.toArray⟩ ⟨#[c]⟩) ⟨l.toArray⟩).map (·.data.toList) = cutL c l := h1.trans h2
    rw [← h3, List.map_map]
    conv => lhs; rw [← List.map_id (Lib.splitB ⟨#[c]⟩ 0 (Lib.countB ⟨l.toArray⟩ ⟨#[c]⟩) ⟨l.toArray⟩)]
    exact List.map_congr_left fun x _ => ba_list x
  have hn : Lib.countB ⟨l.toArray⟩ ⟨#[c]⟩ + 1 = (cutL c l).length := by
    have h1 := Lib.splitB_all ⟨#[c]⟩ (Nat.le_refl 1) 0 (Lib.countB ⟨l.toArray⟩ ⟨#[c]⟩) ⟨l.toArray⟩ rfl
    rw [hb, List.length_map] at h1
    exact h1.symm
  refine (Tryd.strings_Split ⟨l.toArray⟩ ⟨#[c]⟩ m w hsz hm (Nat.le_refl 1)).mono ?_
  rintro e w' ⟨rfl, rfl⟩
  rw [hn, hb]
  refine ⟨_, _, rfl, (Gr.refl w).alloc _, Lib.hid ⟨fun j hj => ?_, Nat.le_refl _⟩⟩
  have := heap_alloc_new w (.cells ((((cutL c l).map bsOf).map Value.string).toArray) 9)
  simp only [World.cell?, this]
  simp [hj]
theorem impl_cut (l : List UInt8) (c : UInt8) (w : World) (hM : MaxL w) (hl : l.length ≤ 1048576) : Calls Tryd.prog 68 #[.string ⟨l.toArray⟩, .string ⟨#[c]⟩] w fun e w' => e = .returned (.tuple #[.string ⟨(Lib.cut l [c]).1.toArray⟩, .string ⟨(Lib.cut l [c]).2.1.toArray⟩, .bool (Lib.cut l [c]).2.2]) ∧ Gr w w' := by
  obtain ⟨m, hm⟩ := hM
  have hsz : (⟨l.toArray⟩ : ByteArray).size < 4294967281 := by simp only [ByteArray.size, List.size_toArray]; omega
  refine (Tryd.strings_Cut ⟨l.toArray⟩ ⟨#[c]⟩ m w hsz hm).mono ?_
  rintro e w' ⟨rfl, n, rfl⟩
  exact ⟨rfl, (Gr.refl w).drewN n⟩
/-- append(out, n), integers: what else stands. -/
theorem push_ik {ops : Array Oper} {rest : List Oper} {o : Oper} {a : Act} {Q : Exit → Act → World → Prop} {w wr : World} (hgd : o.guard = none) (s x : Operand)
    (ho : o.op = .call { callee := .builtin .append, args := #[s, x], argTypes := #[24, 24] }) {base : Nat} {v : Value} (ns : List Int) (y : Int)
    (hs : a.eval s = v) (hx : a.eval x = .slice (some ⟨wr.heap.size, 0, none⟩) 1 1) (hw : w = wr.alloc (.cells #[.int .i64 y] 3)) (hown : wr.ownsRow base 3 1 v ns.length (ns.map (Value.int .i64)))
    (hn : ns.length + 1 ≤ 17592186044416) (hbase : base ≤ wr.heap.size)
    (h : ∀ g cap w', w'.ownsRow base 3 1 (.slice (some ⟨g, 0, none⟩) (ns.length + 1) cap) (ns.length + 1) ((ns ++ [y]).map (Value.int .i64)) → Below base wr w' → (v.ownBlock = some g ∨ g = wr.heap.size + 1) → (∀ k, k < wr.heap.size → v.ownBlock ≠ some k → w'.heap[k]? = wr.heap[k]?) → wpList Tryd.prog ops Q rest (a.put o.dst (.slice (some ⟨g, 0, none⟩) (ns.length + 1) cap)) w') :
    wpList Tryd.prog ops Q (o :: rest) a w :=
  push1 24 3 8 Tryd.underlying24 (z := .int .i64 0) (by kernel_rfl) rfl (by decide) (Value.int .i64) (fun _ => rfl) hgd s x ho ns y hs hx hw hown (by omega) hbase fun g cap w' h1 h2 h3 h4 => h g cap w' h1 h2 h3 h4
theorem spec_l2Num (l : List UInt8) (hl : l.length ≤ 1048576) (w : World) : Calls Tryd.prog 67 #[.string ⟨l.toArray⟩] w fun e w' => e = .returned (.int .i64 (numV l)) ∧ Gr w w' := by
  have HL := Lib.hid hl
  clear hl
  cases hp : parseI l with
  | none =>
    have HP := Lib.hid hp
    have HE : Hid (numV l = -100000) := Lib.hid (by unfold numV; rw [hp]; rfl)
    clear hp
    go_enter Tryd.func67, Tryd.ntmps67
    go_wp2_with fail
    refine (spec_ParseInt l HL.out _).mono ?_
    rintro e w1 ⟨rfl, g1⟩
    rw [HP.out]
    simp only [pairI]
    go_wp2_with fail
    go_ret
    exact ⟨by rw [HE.out]; rfl, g1⟩
  | some n =>
    have HP := Lib.hid hp
    have HE : Hid (numV l = n) := Lib.hid (by unfold numV; rw [hp]; rfl)
    clear hp
    go_enter Tryd.func67, Tryd.ntmps67
    go_wp2_with fail
    refine (spec_ParseInt l HL.out _).mono ?_
    rintro e w1 ⟨rfl, g1⟩
    rw [HP.out]
    simp only [pairI]
    go_wp2_with fail
    go_ret
    exact ⟨by rw [HE.out]; rfl, g1⟩
set_option maxRecDepth 100000 in
set_option maxHeartbeats 1000000 in
theorem spec_l2Cut (l : List UInt8) (c : UInt8) (hl : l.length ≤ 1048576) (w : World) : Calls Tryd.prog 66 #[.string ⟨l.toArray⟩, .int .u8 c.toNat] w fun e w' => ∃ g n, e = .returned (.slice (some ⟨g, 0, none⟩) (cutL c l).length n) ∧ Gr w w' ∧ Hid (StrsAt w' g (cutL c l) ∧ w.heap.size ≤ g) := by
  have HL := Lib.hid hl
  clear hl
  have hown0 := own_empty w 9 1 w.heap.size (Nat.le_refl _)
  have g0 : Gr w (w.alloc (.cells #[] 9)) := (Gr.refl w).alloc _
  go_enter Tryd.func66, Tryd.ntmps66
  go_wp2_with fail
  go_loopw [5, 6, 7] (fun ov pv iv wr => ∃ (i : Nat) (bs : List ByteArray) (part : List UInt8) (sa : Option Addr) (sc : Nat), i ≤ l.length ∧ iv = .int .i64 i ∧ ov = .slice sa bs.length sc ∧ pv = .string ⟨part.toArray⟩ ∧ wr.ownsRow w.heap.size 9 1 ov bs.length (bs.map Value.string) ∧ Hid (∃ ws, bs = ws.map bsOf ∧ ws ++ glue part (cutL c (l.drop i)) = cutL c l ∧ part.length ≤ i ∧ ws.length ≤ i) ∧ Gr w wr) (fun _ _ i _ => l.length - (intOf i).toNat)
  case atStart => exact ⟨0, [], [], _, _, Nat.zero_le _, rfl, rfl, rfl, hown0, Lib.hid ⟨[], rfl, by rw [List.drop_zero, glue_nil]; rfl, by simp, by simp⟩, g0⟩
  case round =>
    obtain ⟨i, bs, part, sa, sc, hi, rfl, rfl, rfl, hown, hst, hg⟩ := hrel
    by_cases hlt : i < l.length
    · have i0 : (0 : Int) ≤ (i : Int) := Int.natCast_nonneg _
      have i1 : (i : Int) < (l.length : Int) := by omega
      have i2 : (l.length : Int) ≤ 1048576 := by have := HL.out; omega
      have i3 : (i : Int) + 1 ≤ (l.length : Int) := by omega
      have hb : ((⟨l.toArray⟩ : ByteArray)[i]'(by simpa [ByteArray.size] using hlt)).toNat = l[i].toNat := rfl
      have HLT := Lib.hid hlt
      have hdr : l.drop i = l[i] :: l.drop (i + 1) := List.drop_eq_getElem_cons hlt
      by_cases hc : l[i] = c
      · have h1 : ((l[i].toNat : Int) == (c.toNat : Int)) = true := by rw [hc]; simp
        have HN := Lib.hid (show bs.length + 1 ≤ 8796093022208 by obtain ⟨ws, e, _, _, h⟩ := hst.out; rw [e, List.length_map]; have := HL.out; omega)
        have hst2 : Hid (∃ ws, bs ++ [bsOf part] = ws.map bsOf ∧ ws ++ glue [] (cutL c (l.drop (i + 1))) = cutL c l ∧ ([] : List UInt8).length ≤ i + 1 ∧ ws.length ≤ i + 1) := Lib.hid (by
          obtain ⟨ws, e, h2, h3, h4⟩ := hst.out
          refine ⟨ws ++ [part], by rw [e]; simp, ?_, by simp, by simp; omega⟩
          rw [← h2, hdr, hc, cutL_hit, glue_nil]; simp [glue])
        have HO := Lib.hid hown
        clear hst hdr hc hown hi
        go_wp2_with (at_builtin; refine push_s rfl _ _ rfl bs _ rfl rfl rfl HO.out HN.out hg.size ?_; intro g4 cap4 w4 hown4 hb4)
        go_roundw
        case rel => exact ⟨i + 1, bs ++ [bsOf part], [], some ⟨g4, 0, none⟩, cap4, HLT.out, rfl, by simp, rfl, own_len hown4, hst2, hg.trans' hb4⟩
        case measure => have := HLT.out; simp only [intOf]; omega
      · have h1 : ((l[i].toNat : Int) == (c.toNat : Int)) = false := by
          simp only [beq_eq_false_iff_ne, ne_eq, Int.natCast_inj]
          intro h; exact hc (UInt8.toNat_inj.1 h)
        have hln : ¬ 9223372036854775807 < part.length + 1 := by obtain ⟨_, _, _, h, _⟩ := hst.out; have := HL.out; omega
        have hst2 : Hid (∃ ws, bs = ws.map bsOf ∧ ws ++ glue (part ++ [l[i]]) (cutL c (l.drop (i + 1))) = cutL c l ∧ (part ++ [l[i]]).length ≤ i + 1 ∧ ws.length ≤ i + 1) := Lib.hid (by
          obtain ⟨ws, e, h2, h3, h4⟩ := hst.out
          refine ⟨ws, e, ?_, by simp; omega, by omega⟩
          rw [← h2, hdr, cutL_other hc, glue_glue])
        have hex : ({ data := l.toArray } : ByteArray).extract i (i + 1) = ⟨[l[i]].toArray⟩ := by
          rw [ba_list (({ data := l.toArray } : ByteArray).extract i (i + 1)), Lib.extract_data]
          simp only [hdr, show i + 1 - i = 1 from by omega, List.take_succ_cons, List.take_zero]
        have HEX := Lib.hid hex
        clear hex hst hdr hc hi
        go_wp2_with fail
        refine ⟨⟨i + 1, bs, part ++ [l[i]], sa, sc, HLT.out, rfl, rfl, congrArg Value.string (by rw [HEX.out]; exact cat2 _ _), hown, hst2, hg⟩, ?_⟩
        have := HLT.out
        simp only [intOf]
        omega
    · obtain rfl : i = l.length := by omega
      have HN := Lib.hid (show bs.length + 1 ≤ 8796093022208 by obtain ⟨ws, e, _, _, h⟩ := hst.out; rw [e, List.length_map]; have := HL.out; omega)
      have HE : Hid (bs ++ [bsOf part] = (cutL c l).map bsOf) := Lib.hid (by
        obtain ⟨ws, e, h2, _, _⟩ := hst.out
        rw [← h2, List.drop_length, e]; simp [cutL, glue])
      have HO := Lib.hid hown
      clear hlt hi hst hown
      go_wp2_with (at_builtin; refine push_s rfl _ _ rfl bs _ rfl rfl rfl HO.out HN.out hg.size ?_; intro g4 cap4 w4 hown4 hb4)
      have h5 := own_len hown4
      rw [HE.out] at h5
      have hlen : bs.length + 1 = (cutL c l).length := by have := congrArg List.length HE.out; simpa using this
      have HH : Hid (StrsAt w4 g4 (cutL c l) ∧ w.heap.size ≤ g4) := Lib.hid ⟨strs_of_own h5, (h5.lt g4 rfl).1⟩
      go_ret
      exact ⟨g4, cap4, by rw [← hlen]; rfl, hg.trans' hb4, HH⟩
end Go.Proofs.YtjeffagejbdjkaaDoor
