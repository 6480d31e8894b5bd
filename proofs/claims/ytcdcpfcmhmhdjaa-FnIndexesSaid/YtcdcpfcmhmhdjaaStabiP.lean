/- StabIndex: the plain law. Written by gen_stabi.py. -/
import Derived.Test.YtcdcpfcmhmhdjaaStab
import Derived.Test.YtcdcpfcmhmhdjaaOwnPush
import Derived.Test.YtcdcpfcmhmhdjaaLawH
namespace Go.Proofs.Ytcdcpfcmhmhdjaa
open Go.RowKit
def lastS (ys : List DSpan) : DSpan := ys.getD (ys.length - 1) ⟨0, 0, []⟩
def stepSpan (ys : List DSpan) (v : Int) (s : List Int) : List DSpan := if decide (0 < ys.length) && eqL (lastS ys).set s then ys.set (ys.length - 1) ⟨(lastS ys).lo, v, (lastS ys).set⟩ else ys ++ [⟨v, v, s⟩]
def idxTo (xs : List DQuery) (f : Int) : Nat → List DSpan
  | 0 => []
  | k + 1 => stepSpan (idxTo xs f k) (k : Int) (stabL xs f (k : Int))
def idxOk (xs : List DQuery) (f : Int) : Bool := areQueriesB xs && inB f 0 2
def idxL (xs : List DQuery) (f : Int) : List DSpan := if idxOk xs f then idxTo xs f 100 else []
theorem stepSpan_len (ys : List DSpan) (v : Int) (s : List Int) : (stepSpan ys v s).length ≤ ys.length + 1 := by unfold stepSpan; split <;> simp
theorem idxTo_len (xs : List DQuery) (f : Int) : ∀ k, (idxTo xs f k).length ≤ k
  | 0 => Nat.le_refl _
  | k + 1 => by have := stepSpan_len (idxTo xs f k) (k : Int) (stabL xs f (k : Int)); have := idxTo_len xs f k; unfold idxTo; omega
theorem step_empty {ys : List DSpan} {v : Int} {s : List Int} (h : ys.length = 0) : stepSpan ys v s = ys ++ [⟨v, v, s⟩] := by unfold stepSpan; simp [h]
theorem lastS_at {ys : List DSpan} {m : Nat} (h : ys.length = m + 1) (hm : m < ys.length) : lastS ys = ys[m] := by unfold lastS; rw [h, Nat.add_sub_cancel, getD_lt hm]
theorem step_new {ys : List DSpan} {v : Int} {s : List Int} {m : Nat} (h : ys.length = m + 1) (hm : m < ys.length) (he : eqL ys[m].set s = false) : stepSpan ys v s = ys ++ [⟨v, v, s⟩] := by
  unfold stepSpan; rw [lastS_at h hm, he, Bool.and_false]; rfl
theorem step_old {ys : List DSpan} {v : Int} {s : List Int} {m : Nat} (h : ys.length = m + 1) (hm : m < ys.length) (he : eqL ys[m].set s = true) : stepSpan ys v s = ys.set m ⟨ys[m].lo, v, ys[m].set⟩ := by
  unfold stepSpan; rw [lastS_at h hm, he, h, Nat.add_sub_cancel]; simp
theorem idxL_yes {xs : List DQuery} {f : Int} (h1 : areQueriesB xs = true) (h2 : inB f 0 2 = true) : idxL xs f = idxTo xs f 100 := by unfold idxL idxOk; rw [h1, h2]; exact if_pos rfl
theorem idxL_no1 {xs : List DQuery} {f : Int} (h1 : areQueriesB xs = false) : idxL xs f = [] := by unfold idxL idxOk; rw [h1]; rfl
theorem idxL_no2 {xs : List DQuery} {f : Int} (h1 : inB f 0 2 = false) : idxL xs f = [] := by unfold idxL idxOk; rw [h1, Bool.and_false]; rfl
/-- How much the spans' sets hold. -/
theorem stepSpan_tot (ys : List DSpan) (v : Int) (s : List Int) (h : ∀ y ∈ ys, y.set.length ≤ 24) (hs : s.length ≤ 24) : ∀ y ∈ stepSpan ys v s, y.set.length ≤ 24 := by
  intro y hy
  unfold stepSpan at hy
  split at hy
  · rename_i hc
    rw [Bool.and_eq_true, decide_eq_true_eq] at hc
    rcases List.mem_or_eq_of_mem_set hy with h1 | h1
    · exact h y h1
    · subst h1
      have hm : ys.length - 1 < ys.length := by omega
      unfold lastS
      rw [getD_lt hm]
      exact h ys[ys.length - 1] (List.getElem_mem hm)
  · rcases List.mem_append.1 hy with h1 | h1
    · exact h y h1
    · rw [List.mem_singleton.1 h1]; exact hs
theorem idxTo_set {xs : List DQuery} (f : Int) (hl : xs.length ≤ 24) : ∀ k, ∀ y ∈ idxTo xs f k, y.set.length ≤ 24
  | 0 => fun y hy => by simp [idxTo] at hy
  | k + 1 => by
    unfold idxTo
    exact stepSpan_tot _ _ _ (idxTo_set f hl k) (by have := stabTo_len xs f (k : Int) xs.length; unfold stabL; omega)
theorem sumT_const {α : Type} {g : α → Nat} {c : Nat} : ∀ (xs : List α), (∀ x ∈ xs, g x ≤ c) → sumT g xs ≤ c * xs.length
  | [], _ => by simp [sumT]
  | x :: xs, h => by
    have h1 := h x (List.mem_cons_self ..)
    have h2 := sumT_const xs fun y hy => h y (List.mem_cons_of_mem _ hy)
    simp only [sumT, List.map_cons, List.sum_cons, List.length_cons] at *
    rw [Nat.mul_add]; omega
theorem idxL_len (xs : List DQuery) (f : Int) : (idxL xs f).length ≤ 100 := by
  unfold idxL; split
  · exact idxTo_len xs f 100
  · simp
theorem idxL_tot (xs : List DQuery) (f : Int) : totL totSpan (idxL xs f) ≤ 2500 := by
  have hl := idxL_len xs f
  have h : sumT totSpan (idxL xs f) ≤ 24 * (idxL xs f).length := by
    refine sumT_const _ fun y hy => ?_
    unfold idxL at hy
    split at hy
    · rename_i h
      unfold idxOk at h
      rw [Bool.and_eq_true] at h
      exact idxTo_set f (areQueriesB_len h.1) 100 y hy
    · simp at hy
  unfold totL; omega
theorem idxL_small (xs : List DQuery) (f : Int) : sumT cntSpan (idxL xs f) ≤ 7500 := by
  have := cnt_SpanS (idxL xs f); have := idxL_tot xs f; omega
end Go.Proofs.Ytcdcpfcmhmhdjaa
