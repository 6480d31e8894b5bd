/- The drawing of values: queries. -/
import Derived.Test.YtcdcpfcmhmhdjaaGreatDoorDrawQ
import Derived.Test.YtcdcpfcmhmhdjaaGreatDoorOwnPush
import Derived.Test.YtcdcpfcmhmhdjaaGreatDoorLawK
namespace Go.Proofs.YtcdcpfcmhmhdjaaGreatDoor
open Go.RowKit Go.ChangeShapes Go.WideShapes Go.Deep
/-- A world without its blocks from m on. -/
def trunc (w : World) (m : Nat) : World := { w with heap := w.heap.extract 0 m }
theorem trunc_size {w : World} {m : Nat} (h : m ≤ w.heap.size) : (trunc w m).heap.size = m := by simp [trunc]; omega
theorem trunc_get {w : World} {m b : Nat} (h : b < m) (hm : m ≤ w.heap.size) : (trunc w m).heap[b]? = w.heap[b]? := by
  simp only [trunc]
  rw [Array.getElem?_extract]
  simp; omega
theorem gr_trunc {w : World} {m : Nat} (h : m ≤ w.heap.size) : Gr (trunc w m) w := ⟨rfl, rfl, rfl, by rw [trunc_size h]; exact h, fun b hb => by rw [trunc_size h] at hb; exact (trunc_get hb h).symm⟩
theorem osl_trunc {α : Type} {O : (Nat → Prop) → World → List Value → α → Prop} (hO : FramedE O) {t sz lo m : Nat} {w : World} {v : Value} {xs : List α} (h : OSl t sz O (In lo m) w v xs) (hm : m ≤ w.heap.size) : OSl t sz O (In lo (trunc w m).heap.size) (trunc w m) v xs := by
  rw [trunc_size hm]; exact h.frame hO fun b hb _ => trunc_get hb.2 hm
theorem osl_dr {α : Type} {O : (Nat → Prop) → World → List Value → α → Prop} (hO : FramedE O) {t sz lo hi g : Nat} {w w' : World} {v : Value} {xs : List α} (h : OSl t sz O (In lo hi) w v xs) (hg : g < lo) (k : Dr g w w') : OSl t sz O (In lo hi) w' v xs :=
  h.frame hO (k.agree fun b hb => by have := hb.1; omega)
theorem TwoRow.form {lo : Nat} {w : World} {u x : Value} {cs : List DCond} {os : List Int} (h : TwoRow lo w u x cs os) : ∃ a c a' c', u = .slice a cs.length c ∧ x = .slice a' os.length c' := by
  obtain ⟨F1, F2, h1, h2, _⟩ := h
  obtain ⟨a, c, e⟩ := h1.form
  obtain ⟨a', c', e'⟩ := h2.form
  exact ⟨a, c, a', c', e, e'⟩
theorem TwoRow.query {lo : Nat} {w : World} {u x : Value} {q : DQuery} (h : TwoRow lo w u x q.conds q.out) (h1 : I64 q.id) (h2 : I64 q.tenant) : PQuery (In lo w.heap.size) w [.int .i64 q.id, .int .i64 q.tenant, u, x] q := by
  obtain ⟨F1, F2, k1, k2, k3, k4⟩ := h
  exact ⟨u, x, F1, F2, rfl, h1, h2, k1, k2, k3, k4⟩
def QsTo (qs : List DQuery) (y : Int) : Prop := (∀ q ∈ qs, isQueryB q = true ∧ q.id < y) ∧ qs.Pairwise (fun a b => a.id < b.id)
theorem QsTo.nil (y : Int) : QsTo [] y := ⟨by simp, List.Pairwise.nil⟩
theorem QsTo.push {qs : List DQuery} {y z : Int} (h : QsTo qs y) {q : DQuery} (hq : isQueryB q = true) (e : q.id = y) (hz : y < z) : QsTo (qs ++ [q]) z := by
  refine ⟨fun p hp => ?_, ?_⟩
  · rcases List.mem_append.1 hp with h1 | h1
    · exact ⟨(h.1 p h1).1, by have := (h.1 p h1).2; omega⟩
    · rw [List.mem_singleton.1 h1]; exact ⟨hq, by omega⟩
  · rw [List.pairwise_append]
    exact ⟨h.2, List.pairwise_singleton _ _, fun a ha b hb => by rw [List.mem_singleton.1 hb, e]; exact (h.1 a ha).2⟩
theorem QsTo.are {qs : List DQuery} {y : Int} (h : QsTo qs y) (hl : qs.length ≤ 24) : areQueriesB qs = true := by
  unfold areQueriesB
  rw [decide_eq_true hl, allB_true, allB_true]
  · rfl
  · intro j hj
    unfold qOk
    rw [getD_lt hj]; exact (h.1 _ (List.getElem_mem hj)).1
  · intro j hj
    unfold qOrdAt
    by_cases e : j = 0
    · rw [decide_eq_true e]; rfl
    · rw [getD_lt hj, getD_lt (show j - 1 < qs.length by omega), decide_eq_true (List.pairwise_iff_getElem.1 h.2 (j - 1) j (by omega) hj (by omega)), Bool.or_true]
theorem query_ids {q : DQuery} (h : isQueryB q = true) : 0 ≤ q.tenant ∧ q.tenant ≤ 3 ∧ q.conds.length ≤ 3 ∧ q.out.length ≤ 3 := by
  unfold isQueryB fieldsB at h
  simp only [Bool.and_eq_true, decide_eq_true_eq] at h
  obtain ⟨_, _, h2, h3, _, h5⟩ := h
  have a := inB_true h2
  have b := inB_true h5
  exact ⟨a.1, a.2, h3, by omega⟩
end Go.Proofs.YtcdcpfcmhmhdjaaGreatDoor
