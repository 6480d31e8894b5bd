/- A list of numbers as text: both walks. -/
import Derived.Test.YtcdcpfcmhmhdjaaDoorFmt
import Derived.Test.YtcdcpfcmhmhdjaaDoorSetF
import Derived.Test.YtcdcpfcmhmhdjaaDoorStrS
import Derived.Test.YtcdcpfcmhmhdjaaDoorSetI
namespace Go.Proofs.YtcdcpfcmhmhdjaaDoor
open Go.RowKit
def numsText (xs : List Int) : List UInt8 := Lib.join (xs.map Lib.itoa) [44]
/-- What the first i make. -/
def NSt (xs : List Int) (i : Nat) (S : List UInt8) : Prop := S = Lib.join ((xs.take i).map Lib.itoa) [44] ∧ S.length ≤ 22 * i
theorem NSt.zero (xs : List Int) : NSt xs 0 [] := ⟨by simp [Lib.join_nil], by simp⟩
theorem NSt.next {xs : List Int} {i : Nat} {S : List UInt8} (h : NSt xs i S) (hi : i < xs.length) (h0 : i ≠ 0) (hx : I64 xs[i]) : NSt xs (i + 1) (S ++ [44] ++ Lib.itoa xs[i]) := by
  obtain ⟨rfl, h2⟩ := h
  have hn := itoa_len hx
  refine ⟨?_, by rw [List.length_append, List.length_append]; simp only [List.length_cons, List.length_nil]; omega⟩
  rw [List.take_succ_eq_append_getElem hi, List.map_append, List.map_cons, List.map_nil, join_snoc]
  intro e
  have h3 := congrArg List.length e
  rw [List.length_map, List.length_take, Nat.min_eq_left (Nat.le_of_lt hi)] at h3
  exact h0 h3
theorem NSt.first {xs : List Int} (hi : 0 < xs.length) (hx : I64 xs[0]) : NSt xs 1 (Lib.itoa xs[0]) := by
  refine ⟨?_, Nat.le_trans (itoa_len hx) (by omega)⟩
  rw [List.take_succ_eq_append_getElem hi]
  simp [Lib.join_one]
theorem NSt.all {xs : List Int} {S : List UInt8} (h : NSt xs xs.length S) : S = numsText xs := by rw [h.1, List.take_length]; rfl
theorem numsText_len {xs : List Int} (hx : ∀ i (h : i < xs.length), I64 xs[i]) : (numsText xs).length ≤ 22 * xs.length := by
  have h : ∀ i, i ≤ xs.length → ∃ S, NSt xs i S := by
    intro i
    induction i with
    | zero => exact fun _ => ⟨_, NSt.zero xs⟩
    | succ i ih =>
      intro hi
      obtain ⟨S, h⟩ := ih (by omega)
      by_cases h0 : i = 0
      · subst h0; exact ⟨_, NSt.first hi (hx 0 hi)⟩
      · exact ⟨_, h.next hi h0 (hx i hi)⟩
  obtain ⟨S, h⟩ := h xs.length (Nat.le_refl _)
  rw [← h.all]; exact h.2
theorem join_any {w : World} {base : Nat} {v : Value} {ws : List (List UInt8)} (hown : w.ownsRow base 9 1 v (ws.map bsOf).length ((ws.map bsOf).map Value.string)) (sep : List UInt8) (h1 : ws.length ≤ 140737488355328)
    (h2 : (Lib.join ws sep).length ≤ 140737488355328) : Calls Tryd.prog 54 #[v, .string ⟨sep.toArray⟩] w fun e w' => e = .returned (.string ⟨(Lib.join ws sep).toArray⟩) ∧ Gr w w' := by
  by_cases hne : ws = []
  · subst hne
    obtain ⟨a, c, rfl⟩ := ownsRow_form hown
    refine (Any.strings_Join_none Tryd.lays156 Tryd.Builder_Extra_156 a c ⟨sep.toArray⟩ w).mono ?_
    rintro e w' ⟨rfl, rfl⟩
    exact ⟨rfl, Gr.refl _⟩
  · exact join_own hown sep hne h1 h2
end Go.Proofs.YtcdcpfcmhmhdjaaDoor
