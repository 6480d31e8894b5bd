/- FormatSpans: the plain law, and a row of strings that is appended to inside a region. -/
import Derived.Test.YtcdcpfcmhmhdjaaDoorNumT
import Derived.Test.YtcdcpfcmhmhdjaaDoorPlain
import Derived.Test.YtcdcpfcmhmhdjaaDoorStepN
namespace Go.Proofs.YtcdcpfcmhmhdjaaDoor
open Go.ChangeShapes Go.WideShapes Go.RowKit Go.Deep
theorem setSt_end {xs : List Int} (hx : ∀ k, k < xs.length → I64 (xs.getD k 0)) : ∀ (n i : Nat) (S : List UInt8), xs.length - i ≤ n → i ≤ xs.length → SetSt xs i S → ∃ S', SetSt xs xs.length S'
  | 0, i, S, hn, hi, h => by obtain rfl : i = xs.length := by omega
                             exact ⟨S, h⟩
  | n + 1, i, S, hn, hi, h => by
    by_cases h1 : i < xs.length
    · have h2 := endOf_lt xs i h1
      have h3 := endOf_ge xs i
      by_cases h0 : i = 0
      · subst h0
        exact setSt_end hx n _ _ (by omega) (by omega) (h.first hx h1)
      · exact setSt_end hx n _ _ (by omega) (by omega) (h.next hx h1 h0)
    · obtain rfl : i = xs.length := by omega
      exact ⟨S, h⟩
theorem setText_len {xs : List Int} : (setText xs).length ≤ 1204 := by
  cases h : isSetB xs with
  | false => rw [setText_no h]; simp
  | true =>
    by_cases hn : xs = []
    · subst hn; rw [setText_nil]; simp
    · have hb := isSet_bound h
      obtain ⟨S, hS⟩ := setSt_end (xs := xs) (fun k hk => by rw [getD_lt hk]; have := hb k hk; unfold I64; omega) xs.length 0 [] (by omega) (by omega) (SetSt.zero xs)
      rw [hS.done (by omega) h hn]
      have := hS.len
      have := isSetB_len h
      omega
theorem setText_ne {xs : List Int} (h : isSetB xs = true) : setText xs ≠ [] := by
  by_cases hn : xs = []
  · subst hn; rw [setText_nil]; simp
  · have hb := isSet_bound h
    obtain ⟨S, hS⟩ := setSt_end (xs := xs) (fun k hk => by rw [getD_lt hk]; have := hb k hk; unfold I64; omega) xs.length 0 [] (by omega) (by omega) (SetSt.zero xs)
    rw [hS.done (by omega) h hn]
    intro e
    exact hn (List.eq_nil_of_length_eq_zero (hS.empty.1 e))
def spanOk (s : DSpan) : Bool := isSetB s.set && (inB s.lo 0 s.hi && decide (s.hi ≤ 99))
def spanWord (s : DSpan) : List UInt8 := Lib.itoa s.lo ++ [46, 46] ++ Lib.itoa s.hi ++ [32] ++ setText s.set
def spansText (l : List DSpan) : List UInt8 := if l.all spanOk then (if l = [] then [110, 111, 110, 101] else Lib.join (l.map spanWord) [59, 32]) else []
theorem spanOk_no1 {s : DSpan} (h : isSetB s.set = false) : spanOk s = false := by unfold spanOk; rw [h]; rfl
theorem spanOk_no2 {s : DSpan} (h : inB s.lo 0 s.hi = false) : spanOk s = false := by unfold spanOk; rw [h]; simp
theorem spanOk_no3 {s : DSpan} (h : ¬ s.hi ≤ 99) : spanOk s = false := by unfold spanOk; rw [decide_eq_false h]; simp
theorem spanOk_yes {s : DSpan} (h1 : isSetB s.set = true) (h2 : inB s.lo 0 s.hi = true) (h3 : s.hi ≤ 99) : spanOk s = true := by unfold spanOk; rw [h1, h2, decide_eq_true h3]; rfl
theorem spansText_bad {l : List DSpan} {k : Nat} (h : k < l.length) (hb : spanOk l[k] = false) : spansText l = [] := by
  unfold spansText
  rw [if_neg]
  rw [List.all_eq_true]
  intro h2
  rw [h2 _ (List.getElem_mem h)] at hb; cases hb
/-- What the first i make. -/
def PSt (l : List DSpan) (i : Nat) (S : List UInt8) : Prop := S = Lib.join ((l.take i).map spanWord) [59, 32] ∧ S.length ≤ 1300 * i ∧ ∀ j (h : j < l.length), j < i → spanOk l[j] = true
theorem spanWord_len {s : DSpan} (h1 : I64 s.lo) (h2 : I64 s.hi) : (spanWord s).length ≤ 1249 := by
  have a := itoa_len h1; have b := itoa_len h2; have c := setText_len (xs := s.set)
  unfold spanWord
  simp only [List.length_append, List.length_cons, List.length_nil]
  omega
theorem spanWord_ne (s : DSpan) : spanWord s ≠ [] := by
  unfold spanWord
  intro h
  simp at h
theorem PSt.zero (l : List DSpan) : PSt l 0 [] := ⟨by simp [Lib.join_nil], by simp, fun _ _ h => absurd h (Nat.not_lt_zero _)⟩
theorem PSt.ok {l : List DSpan} {i : Nat} {S : List UInt8} (h : PSt l i S) (hi : i < l.length) (hk : spanOk l[i] = true) : ∀ j (h : j < l.length), j < i + 1 → spanOk l[j] = true := fun j hj hjk => by
  rcases Nat.lt_succ_iff_lt_or_eq.1 hjk with h' | rfl
  · exact h.2.2 j hj h'
  · exact hk
theorem PSt.next {l : List DSpan} {i : Nat} {S : List UInt8} (h : PSt l i S) (hi : i < l.length) (h0 : i ≠ 0) (hk : spanOk l[i] = true) (h1 : I64 l[i].lo) (h2 : I64 l[i].hi) : PSt l (i + 1) (S ++ [59, 32] ++ spanWord l[i]) := by
  have hok := h.ok hi hk
  obtain ⟨rfl, h3, _⟩ := h
  have hn := spanWord_len h1 h2
  refine ⟨?_, by rw [List.length_append, List.length_append]; simp only [List.length_cons, List.length_nil]; omega, hok⟩
  rw [List.take_succ_eq_append_getElem hi, List.map_append, List.map_cons, List.map_nil, join_snoc]
  intro e
  have h3 := congrArg List.length e
  rw [List.length_map, List.length_take, Nat.min_eq_left (Nat.le_of_lt hi)] at h3
  exact h0 h3
theorem PSt.first {l : List DSpan} {S : List UInt8} (h : PSt l 0 S) (hi : 0 < l.length) (hk : spanOk l[0] = true) (h1 : I64 l[0].lo) (h2 : I64 l[0].hi) : PSt l 1 (spanWord l[0]) := by
  refine ⟨?_, Nat.le_trans (spanWord_len h1 h2) (by omega), h.ok hi hk⟩
  rw [List.take_succ_eq_append_getElem hi]
  simp [Lib.join_one]
theorem PSt.empty {l : List DSpan} {i : Nat} {S : List UInt8} (h : PSt l i S) (hi : i ≤ l.length) : S = [] ↔ i = 0 := by
  obtain ⟨rfl, _, _⟩ := h
  constructor
  · intro h
    by_cases h0 : i = 0
    · exact h0
    · refine absurd h (join_ne ?_ ?_)
      · intro e
        have h3 := congrArg List.length e
        rw [List.length_map, List.length_take, Nat.min_eq_left hi] at h3
        exact h0 h3
      · intro x hx
        obtain ⟨s, _, rfl⟩ := List.mem_map.1 hx
        exact spanWord_ne s
  · rintro rfl; simp [Lib.join_nil]
theorem PSt.all {l : List DSpan} {S : List UInt8} (h : PSt l l.length S) (hn : l ≠ []) : S = spansText l := by
  unfold spansText
  rw [if_pos, if_neg hn, h.1, List.take_length]
  rw [List.all_eq_true]
  intro s hs
  obtain ⟨j, hj, rfl⟩ := List.getElem_of_mem hs
  exact h.2.2 j hj hj
/-- append(out, x, ..) of strings inside a region that draws its order. -/
theorem step_push_s {ops : Array Oper} {o : Oper} {a : Act} {K : Act → World → Prop} {Q : Exit → Act → World → Prop} {E : Prop} {w wr : World} (hgd : o.guard = none) (s x : Operand)
    (ho : o.op = .call { callee := .builtin .append, args := #[s, x], argTypes := #[63, 63] }) {base : Nat} {v : Value} (ns ys : List ByteArray) (hys : ys ≠ [])
    (hs : a.eval s = v) (hx : a.eval x = .slice (some ⟨wr.heap.size, 0, none⟩) ys.length ys.length) (hw : w = wr.alloc (.cells (ys.map Value.string).toArray 9) ∨ w = (wr.alloc (.cells (ys.map Value.string).toArray 9)).drew) (hown : wr.ownsRow base 9 1 v ns.length (ns.map Value.string))
    (hn : ns.length + ys.length ≤ 8796093022208) (hbase : base ≤ wr.heap.size)
    (h : ∀ g cap w', w'.ownsRow base 9 1 (.slice (some ⟨g, 0, none⟩) (ns.length + ys.length) cap) (ns.length + ys.length) ((ns ++ ys).map Value.string) → Below base wr w' → (∀ k, k < wr.heap.size → v.ownBlock ≠ some k → w'.heap[k]? = wr.heap[k]?) → K (a.put o.dst (.slice (some ⟨g, 0, none⟩) (ns.length + ys.length) cap)) w') :
    if Region.wanted o (yielded ops a.tmps) = true then Oper.wp Tryd.prog o a w K Q else E := by
  have hpos : 0 < ys.length := List.length_pos_iff.2 hys
  rcases hw with hw | hw
  · exact step_push_n 63 9 1 16 Tryd.underlying63 (z := .string ByteArray.empty) (by kernel_rfl) rfl (by decide) (by decide) hgd s x ho ys.length hpos (ys.map Value.string) hs hx hw hown (by simp) (by simp [Value.oneCell']) (by omega) hbase fun g cap w' h1 h2 _ h4 => h g cap w' (by rw [List.map_append]; exact h1) h2 h4
  · exact step_push 63 9 1 16 Tryd.underlying63 (z := .string ByteArray.empty) (by kernel_rfl) rfl (by decide) (by decide) hgd s x ho ys.length hpos (ys.map Value.string) hs hx hw hown (by simp) (by simp [Value.oneCell']) (by omega) hbase fun g cap w' h1 h2 _ h4 => h g cap w' (by rw [List.map_append]; exact h1) h2 h4
end Go.Proofs.YtcdcpfcmhmhdjaaDoor
