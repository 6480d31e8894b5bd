/- A text cut at a byte: the reference's walk, the library's contracts. -/
import Derived.Test.YtcdcpfcmhmhdjaaDoorCutP
import Derived.Test.YtcdcpfcmhmhdjaaDoorParseI
import Derived.Test.YtcdcpfcmhmhdjaaDoorStrS
import Derived.Test.YtcdcpfcmhmhdjaaDoorPSetP
namespace Go.Proofs.YtcdcpfcmhmhdjaaDoor
open Go.RowKit
/-- A row of strings in block g. -/
def StrsAt (w : World) (g : Nat) (ps : List (List UInt8)) : Prop := ∀ j (h : j < ps.length), w.cell? ⟨g, j, none⟩ = some (.string ⟨ps[j].toArray⟩)
theorem StrsAt.gr {w w' : World} {g : Nat} {ps : List (List UInt8)} (h : StrsAt w g ps) (k : Gr w w') : StrsAt w' g ps := fun j hj => k.cellv (h j hj)
theorem strs_of_own {w : World} {lo g n cap : Nat} {ws : List (List UInt8)} (h : w.ownsRow lo 9 1 (.slice (some ⟨g, 0, none⟩) n cap) (ws.map bsOf).length ((ws.map bsOf).map Value.string)) : StrsAt w g ws := fun j hj => by
  rcases h.2 with ⟨h0, _⟩ | ⟨b, cp, cur, hv, _, hg, hnc, hm, hcs, ht⟩
  · cases h0
  · cases hv
    have h4 : (cur.toList.take ((ws.map bsOf).length * 1))[j]? = ((ws.map bsOf).map Value.string)[j]? := by rw [ht]
    have hj' : j < (ws.map bsOf).length := by simpa using hj
    rw [List.getElem?_take, if_pos (by omega)] at h4
    have h5 : cur[j]? = some (.string ⟨ws[j].toArray⟩) := by simpa [hj] using h4
    simp [World.cell?, hg, h5]
/-- The library's bound lies in its variable. -/
abbrev MaxL (w : World) : Prop := ∃ m, w.cell? ⟨0, 0, none⟩ = some (.int .i64 m)
theorem maxL_gr {w w' : World} (h : MaxL w) (g : Gr w w') : MaxL w' := by obtain ⟨m, h⟩ := h; exact ⟨m, g.cellv h⟩
theorem impl_split (l : List UInt8) (c : UInt8) (w : World) (hM : MaxL w) (hl : l.length ≤ 1048576) : Calls Tryd.prog 55 #[.string ⟨l.toArray⟩, .string ⟨#[c]⟩] w fun e w' => ∃ g n, e = .returned (.slice (some ⟨g, 0, none⟩) (cutL c l).length n) ∧ Gr w w' ∧ Hid (StrsAt w' g (cutL c l) ∧ w.heap.size ≤ g) := by
  obtain ⟨m, hm⟩ := hM
  have hsz : (⟨l.toArray⟩ : ByteArray).size < 4294967281 := by simp only [ByteArray.size, List.size_toArray]; omega
  have hb : (Lib.splitB ⟨#[c]⟩ 0 (Lib.countB ⟨l.toArray⟩ ⟨#[c]⟩) ⟨l.toArray⟩) = (cutL c l).map bsOf := by
    have h1 := Lib.splitB_data ⟨#[c]⟩ 0 (Lib.countB ⟨l.toArray⟩ ⟨#[c]⟩) ⟨l.toArray⟩
    have h2 : Lib.splitK [c] 0 (Lib.countB ⟨l.toArray⟩ ⟨#[c]⟩) l = cutL c l := split_cut c l
    have h3 : (Lib.splitB ⟨#[c]⟩ 0 (Lib.countB ⟨l.toArray⟩ ⟨#[c]⟩) ⟨l.toArray⟩).map (·.data.toList) = cutL c l := h1.trans h2
    rw [← h3, List.map_map]
    conv => lhs; rw [← List.map_id (Lib.splitB ⟨#[c]⟩ 0 (Lib.countB ⟨l.toArray⟩ ⟨#[c]⟩) ⟨l.toArray⟩)]
    exact List.map_congr_left fun x _ => ba_list x
  have hn : Lib.countB ⟨l.toArray⟩ ⟨#[c]⟩ + 1 = (cutL c l).length := by
    have h1 := Lib.splitB_all ⟨#[c]⟩ (Nat.le_refl 1) 0 (Lib.countB ⟨l.toArray⟩ ⟨#[c]⟩) ⟨l.toArray⟩ rfl
    rw [hb, List.length_map] at h1
    exact h1.symm
  refine (Tryd.strings_Split ⟨l.toArray⟩ ⟨#[c]⟩ m w hsz hm (Nat.le_refl 1)).mono ?_
  rintro e w' ⟨rfl, rfl⟩
  rw [hn, hb]
  refine ⟨_, _, rfl, (Gr.refl w).alloc _, Lib.hid ⟨fun j hj => ?_, Nat.le_refl _⟩⟩
  have := heap_alloc_new w (.cells ((((cutL c l).map bsOf).map Value.string).toArray) 9)
  simp only [World.cell?, this]
  simp [hj]
theorem impl_cut (l : List UInt8) (c : UInt8) (w : World) (hM : MaxL w) (hl : l.length ≤ 1048576) : Calls Tryd.prog 56 #[.string ⟨l.toArray⟩, .string ⟨#[c]⟩] w fun e w' => e = .returned (.tuple #[.string ⟨(Lib.cut l [c]).1.toArray⟩, .string ⟨(Lib.cut l [c]).2.1.toArray⟩, .bool (Lib.cut l [c]).2.2]) ∧ Gr w w' := by
  obtain ⟨m, hm⟩ := hM
  have hsz : (⟨l.toArray⟩ : ByteArray).size < 4294967281 := by simp only [ByteArray.size, List.size_toArray]; omega
  refine (Tryd.strings_Cut ⟨l.toArray⟩ ⟨#[c]⟩ m w hsz hm).mono ?_
  rintro e w' ⟨rfl, n, rfl⟩
  exact ⟨rfl, (Gr.refl w).drewN n⟩
/-- append(out, n), integers: what else stands. -/
theorem push_ik {ops : Array Oper} {rest : List Oper} {o : Oper} {a : Act} {Q : Exit → Act → World → Prop} {w wr : World} (hgd : o.guard = none) (s x : Operand)
    (ho : o.op = .call { callee := .builtin .append, args := #[s, x], argTypes := #[24, 24] }) {base : Nat} {v : Value} (ns : List Int) (y : Int)
    (hs : a.eval s = v) (hx : a.eval x = .slice (some ⟨wr.heap.size, 0, none⟩) 1 1) (hw : w = wr.alloc (.cells #[.int .i64 y] 3)) (hown : wr.ownsRow base 3 1 v ns.length (ns.map (Value.int .i64)))
    (hn : ns.length + 1 ≤ 17592186044416) (hbase : base ≤ wr.heap.size)
    (h : ∀ g cap w', w'.ownsRow base 3 1 (.slice (some ⟨g, 0, none⟩) (ns.length + 1) cap) (ns.length + 1) ((ns ++ [y]).map (Value.int .i64)) → Below base wr w' → (v.ownBlock = some g ∨ g = wr.heap.size + 1) → (∀ k, k < wr.heap.size → v.ownBlock ≠ some k → w'.heap[k]? = wr.heap[k]?) → wpList Tryd.prog ops Q rest (a.put o.dst (.slice (some ⟨g, 0, none⟩) (ns.length + 1) cap)) w') :
    wpList Tryd.prog ops Q (o :: rest) a w :=
  push1 24 3 8 Tryd.underlying24 (z := .int .i64 0) (by kernel_rfl) rfl (by decide) (Value.int .i64) (fun _ => rfl) hgd s x ho ns y hs hx hw hown (by omega) hbase fun g cap w' h1 h2 h3 h4 => h g cap w' h1 h2 h3 h4
end Go.Proofs.YtcdcpfcmhmhdjaaDoor
