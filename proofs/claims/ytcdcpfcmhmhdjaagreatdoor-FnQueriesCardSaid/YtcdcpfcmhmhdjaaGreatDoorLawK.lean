/- AreQueries: the walks. -/
import Derived.Test.YtcdcpfcmhmhdjaaGreatDoorLawJ
namespace Go.Proofs.YtcdcpfcmhmhdjaaGreatDoor
open Go.RowKit
def qOk (xs : List DQuery) (j : Nat) : Bool := isQueryB (xs.getD j ⟨0, 0, [], []⟩)
def qOrdAt (xs : List DQuery) (j : Nat) : Bool := decide (j = 0) || decide ((xs.getD (j - 1) ⟨0, 0, [], []⟩).id < (xs.getD j ⟨0, 0, [], []⟩).id)
def areQueriesB (xs : List DQuery) : Bool := allB xs.length (qOrdAt xs) && (decide (xs.length ≤ 24) && allB xs.length (qOk xs))
theorem qOk_eq {xs : List DQuery} {k : Nat} (h : k < xs.length) : qOk xs k = isQueryB xs[k] := by unfold qOk; rw [getD_lt h]
theorem qOrd_zero {xs : List DQuery} {k : Nat} (h : k = 0) : qOrdAt xs k = true := by simp [qOrdAt, h]
theorem qOrd_yes {xs : List DQuery} {k : Nat} (h : k < xs.length) (h1 : k - 1 < xs.length) (h2 : xs[k-1].id < xs[k].id) : qOrdAt xs k = true := by
  unfold qOrdAt; rw [getD_lt h, getD_lt h1]; simp [h2]
theorem qOrd_no {xs : List DQuery} {k : Nat} (h : k < xs.length) (h1 : k - 1 < xs.length) (h0 : 0 < k) (h2 : xs[k].id ≤ xs[k-1].id) : qOrdAt xs k = false := by
  unfold qOrdAt; rw [getD_lt h, getD_lt h1]; simp; omega
theorem areQueriesB_ord {xs : List DQuery} {k : Nat} (h : k < xs.length) (h1 : qOrdAt xs k = false) : areQueriesB xs = false := by
  unfold areQueriesB; rw [allB_false k h h1]; rfl
theorem areQueriesB_row {xs : List DQuery} {k : Nat} (h : k < xs.length) (h1 : isQueryB xs[k] = false) : areQueriesB xs = false := by
  unfold areQueriesB; rw [allB_false (p := qOk xs) k h (by rw [qOk_eq h]; exact h1)]; simp
theorem areQueriesB_end {xs : List DQuery} (h : ∀ j, j < xs.length → (qOrdAt xs j = true ∧ qOk xs j = true)) : areQueriesB xs = decide (xs.length ≤ 24) := by
  unfold areQueriesB; rw [allB_true (fun j hj => (h j hj).1), allB_true (fun j hj => (h j hj).2)]; simp
theorem spec_IsQuery_of {x : DQuery} {b : Bool} (h : isQueryB x = b) (u u' : Value) (w : World) (hu : RConds w u x.conds) (hu' : RInts w u' x.out) : Calls Tryz.prog 15 #[.agg #[.int .i64 x.id, .int .i64 x.tenant, u, u']] w fun e w' => e = .returned (.bool b) ∧ Gr w w' := h ▸ spec_IsQuery x u u' w hu hu'
theorem impl_IsQuery_of {x : DQuery} {b : Bool} (h : isQueryB x = b) (u u' : Value) (w : World) (hu : RConds w u x.conds) (hu' : RInts w u' x.out) : Calls Tryz.prog 28 #[.agg #[.int .i64 x.id, .int .i64 x.tenant, u, u']] w fun e w' => e = .returned (.bool b) ∧ Gr w w' := h ▸ impl_IsQuery x u u' w hu hu'
-- gen FnExactAreQueries AreQueries QueryS
-- endgen
end Go.Proofs.YtcdcpfcmhmhdjaaGreatDoor
