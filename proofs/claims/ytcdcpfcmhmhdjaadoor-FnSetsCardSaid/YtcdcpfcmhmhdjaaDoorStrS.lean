/- Rows of strings of the call's own, and strings.Join. -/
import Derived.Test.YtcdcpfcmhmhdjaaDoorOwn
import Derived.Test.YtcdcpfcmhmhdjaaDoorDoorW
import Derived.Test.YtcdcpfcmhmhdjaaDoorShelf
import Derived.Lib.Join
namespace Go.Proofs.YtcdcpfcmhmhdjaaDoor
open Go.ChangeShapes Go.WideShapes Go.RowKit Go.Deep
theorem ownsRow_gr {lo t sz n : Nat} {v : Value} {l : List Value} {w w' : World} (h : w.ownsRow lo t sz v n l) (g : Gr w w') : w'.ownsRow lo t sz v n l := by
  refine ⟨h.1, ?_⟩
  rcases h.2 with h0 | ⟨b, cap, cur, hv, hb, hgg, r⟩
  · exact Or.inl h0
  · exact Or.inr ⟨b, cap, cur, hv, hb, by rw [g.block b (h.lt b (by rw [hv]; rfl)).2]; exact hgg, r⟩
theorem ownsRow_form {lo t n : Nat} {v : Value} {l : List Value} {w : World} (h : w.ownsRow lo t 1 v n l) : ∃ a c, v = .slice a n c := by
  rcases h.2 with ⟨rfl, h0⟩ | ⟨g, cap, cur, rfl, _⟩
  · exact ⟨none, 0, by rw [h0]⟩
  · exact ⟨_, _, rfl⟩
/-- A list of bytes as a string. -/
abbrev bsOf (x : List UInt8) : ByteArray := ⟨x.toArray⟩
theorem push_s {ops : Array Oper} {rest : List Oper} {o : Oper} {a : Act} {Q : Exit → Act → World → Prop} {w wr : World} (hgd : o.guard = none) (s x : Operand)
    (ho : o.op = .call { callee := .builtin .append, args := #[s, x], argTypes := #[63, 63] }) {base : Nat} {v : Value} (ns : List ByteArray) (y : ByteArray)
    (hs : a.eval s = v) (hx : a.eval x = .slice (some ⟨wr.heap.size, 0, none⟩) 1 1) (hw : w = wr.alloc (.cells #[.string y] 9)) (hown : wr.ownsRow base 9 1 v ns.length (ns.map Value.string))
    (hn : ns.length + 1 ≤ 8796093022208) (hbase : base ≤ wr.heap.size)
    (h : ∀ g cap w', w'.ownsRow base 9 1 (.slice (some ⟨g, 0, none⟩) (ns.length + 1) cap) (ns.length + 1) ((ns ++ [y]).map Value.string) → Below base wr w' → wpList Tryd.prog ops Q rest (a.put o.dst (.slice (some ⟨g, 0, none⟩) (ns.length + 1) cap)) w') :
    wpList Tryd.prog ops Q (o :: rest) a w :=
  push1 63 9 16 Tryd.underlying63 (z := .string ByteArray.empty) (by kernel_rfl) rfl (by decide) Value.string (fun _ => rfl) hgd s x ho ns y hs hx hw hown (by omega) hbase fun g cap w' h1 h2 _ _ => h g cap w' h1 h2
theorem join_own {w : World} {base : Nat} {v : Value} {ws : List (List UInt8)} (hown : w.ownsRow base 9 1 v (ws.map bsOf).length ((ws.map bsOf).map Value.string)) (sep : List UInt8) (hne : ws ≠ []) (h1 : ws.length ≤ 140737488355328)
    (h2 : (Lib.join ws sep).length ≤ 140737488355328) : Calls Tryd.prog 54 #[v, .string ⟨sep.toArray⟩] w fun e w' => e = .returned (.string ⟨(Lib.join ws sep).toArray⟩) ∧ Gr w w' := by
  rcases hown.2 with ⟨rfl, h0⟩ | ⟨g, cap, cur, rfl, _, hg, hnc, hm, hcs, ht⟩
  · exact absurd (List.eq_nil_of_length_eq_zero (by simpa using h0)) hne
  · have e : (ws.map bsOf).map (fun b : ByteArray => b.data.toList) = ws := by rw [List.map_map]; exact (List.map_congr_left fun x _ => rfl).trans (List.map_id ws)
    have c := Tryd.strings_Join g 0 cap (ws.map bsOf) ⟨sep.toArray⟩ w (fun j x hx => by
      have h4 : (cur.toList.take ((ws.map bsOf).length * 1))[j]? = ((ws.map bsOf).map Value.string)[j]? := by rw [ht]
      have hj : j < (ws.map bsOf).length := (List.getElem?_eq_some_iff.1 hx).1
      rw [List.getElem?_take, if_pos (by omega), List.getElem?_map, hx] at h4
      have h5 : cur[j]? = some (.string x) := by simpa using h4
      simp [World.cell?, hg, h5]) (Array.getElem?_eq_some_iff.1 hg).1 (by simpa using h1) hnc (by rw [e]; simpa using h2)
    rw [e] at c
    exact c.mono fun e w' ⟨he, hb⟩ => ⟨by rw [he], hb⟩
end Go.Proofs.YtcdcpfcmhmhdjaaDoor
