/- A list of numbers as text: both walks. -/
import Derived.Test.YtcdcpfcmhmhdjaaDoorMg2
import Derived.Test.YtcdcpfcmhmhdjaaDoorMg3
import Derived.Test.YtcdcpfcmhmhdjaaDoorStepN
import Derived.Test.YtcdcpfcmhmhdjaaDoorExt
import Derived.Test.YtcdcpfcmhmhdjaaDoorSc
import Derived.Test.YtcdcpfcmhmhdjaaDoorGenSpan
namespace Go.Proofs.YtcdcpfcmhmhdjaaDoor
open Go.RowKit
def numsText (xs : List Int) : List UInt8 := Lib.join (xs.map Lib.itoa) [44]
/-- What the first i make. -/
def NSt (xs : List Int) (i : Nat) (S : List UInt8) : Prop := S = Lib.join ((xs.take i).map Lib.itoa) [44] ∧ S.length ≤ 22 * i
theorem NSt.zero (xs : List Int) : NSt xs 0 [] := ⟨by simp [Lib.join_nil], by simp⟩
theorem NSt.next {xs : List Int} {i : Nat} {S : List UInt8} (h : NSt xs i S) (hi : i < xs.length) (h0 : i ≠ 0) (hx : I64 xs[i]) : NSt xs (i + 1) (S ++ [44] ++ Lib.itoa xs[i]) := by
  obtain ⟨rfl, h2⟩ := h
  have hn := itoa_len hx
  refine ⟨?_, by rw [List.length_append, List.length_append]; simp only [List.length_cons, List.length_nil]; omega⟩
  rw [List.take_succ_eq_append_getElem hi, List.map_append, List.map_cons, List.map_nil, join_snoc]
  intro e
  have h3 := congrArg List.length e
  rw [List.length_map, List.length_take, Nat.min_eq_left (Nat.le_of_lt hi)] at h3
  exact h0 h3
theorem NSt.first {xs : List Int} (hi : 0 < xs.length) (hx : I64 xs[0]) : NSt xs 1 (Lib.itoa xs[0]) := by
  refine ⟨?_, Nat.le_trans (itoa_len hx) (by omega)⟩
  rw [List.take_succ_eq_append_getElem hi]
  simp [Lib.join_one]
theorem NSt.all {xs : List Int} {S : List UInt8} (h : NSt xs xs.length S) : S = numsText xs := by rw [h.1, List.take_length]; rfl
theorem numsText_len {xs : List Int} (hx : ∀ i (h : i < xs.length), I64 xs[i]) : (numsText xs).length ≤ 22 * xs.length := by
  have h : ∀ i, i ≤ xs.length → ∃ S, NSt xs i S := by
    intro i
    induction i with
    | zero => exact fun _ => ⟨_, NSt.zero xs⟩
    | succ i ih =>
      intro hi
      obtain ⟨S, h⟩ := ih (by omega)
      by_cases h0 : i = 0
      · subst h0; exact ⟨_, NSt.first hi (hx 0 hi)⟩
      · exact ⟨_, h.next hi h0 (hx i hi)⟩
  obtain ⟨S, h⟩ := h xs.length (Nat.le_refl _)
  rw [← h.all]; exact h.2
theorem join_any {w : World} {base : Nat} {v : Value} {ws : List (List UInt8)} (hown : w.ownsRow base 9 1 v (ws.map bsOf).length ((ws.map bsOf).map Value.string)) (sep : List UInt8) (h1 : ws.length ≤ 140737488355328)
    (h2 : (Lib.join ws sep).length ≤ 140737488355328) : Calls Tryd.prog 54 #[v, .string ⟨sep.toArray⟩] w fun e w' => e = .returned (.string ⟨(Lib.join ws sep).toArray⟩) ∧ Gr w w' := by
  by_cases hne : ws = []
  · subst hne
    obtain ⟨a, c, rfl⟩ := ownsRow_form hown
    refine (Any.strings_Join_none Tryd.lays156 Tryd.Builder_Extra_156 a c ⟨sep.toArray⟩ w).mono ?_
    rintro e w' ⟨rfl, rfl⟩
    exact ⟨rfl, Gr.refl _⟩
  · exact join_own hown sep hne h1 h2
end Go.Proofs.YtcdcpfcmhmhdjaaDoor

/- FormatSpans: the plain law, and a row of strings that is appended to inside a region. -/
namespace Go.Proofs.YtcdcpfcmhmhdjaaDoor
open Go.ChangeShapes Go.WideShapes Go.RowKit Go.Deep
theorem setSt_end {xs : List Int} (hx : ∀ k, k < xs.length → I64 (xs.getD k 0)) : ∀ (n i : Nat) (S : List UInt8), xs.length - i ≤ n → i ≤ xs.length → SetSt xs i S → ∃ S', SetSt xs xs.length S'
  | 0, i, S, hn, hi, h => by obtain rfl : i = xs.length := by omega
                             exact ⟨S, h⟩
  | n + 1, i, S, hn, hi, h => by
    by_cases h1 : i < xs.length
    · have h2 := endOf_lt xs i h1
      have h3 := endOf_ge xs i
      by_cases h0 : i = 0
      · subst h0
        exact setSt_end hx n _ _ (by omega) (by omega) (h.first hx h1)
      · exact setSt_end hx n _ _ (by omega) (by omega) (h.next hx h1 h0)
    · obtain rfl : i = xs.length := by omega
      exact ⟨S, h⟩
theorem setText_len {xs : List Int} : (setText xs).length ≤ 1204 := by
  cases h : isSetB xs with
  | false => rw [setText_no h]; simp
  | true =>
    by_cases hn : xs = []
    · subst hn; rw [setText_nil]; simp
    · have hb := isSet_bound h
      obtain ⟨S, hS⟩ := setSt_end (xs := xs) (fun k hk => by rw [getD_lt hk]; have := hb k hk; unfold I64; omega) xs.length 0 [] (by omega) (by omega) (SetSt.zero xs)
      rw [hS.done (by omega) h hn]
      have := hS.len
      have := isSetB_len h
      omega
theorem setText_ne {xs : List Int} (h : isSetB xs = true) : setText xs ≠ [] := by
  by_cases hn : xs = []
  · subst hn; rw [setText_nil]; simp
  · have hb := isSet_bound h
    obtain ⟨S, hS⟩ := setSt_end (xs := xs) (fun k hk => by rw [getD_lt hk]; have := hb k hk; unfold I64; omega) xs.length 0 [] (by omega) (by omega) (SetSt.zero xs)
    rw [hS.done (by omega) h hn]
    intro e
    exact hn (List.eq_nil_of_length_eq_zero (hS.empty.1 e))
def spanOk (s : DSpan) : Bool := isSetB s.set && (inB s.lo 0 s.hi && decide (s.hi ≤ 99))
def spanWord (s : DSpan) : List UInt8 := Lib.itoa s.lo ++ [46, 46] ++ Lib.itoa s.hi ++ [32] ++ setText s.set
def spansText (l : List DSpan) : List UInt8 := if l.all spanOk then (if l = [] then [110, 111, 110, 101] else Lib.join (l.map spanWord) [59, 32]) else []
theorem spanOk_no1 {s : DSpan} (h : isSetB s.set = false) : spanOk s = false := by unfold spanOk; rw [h]; rfl
theorem spanOk_no2 {s : DSpan} (h : inB s.lo 0 s.hi = false) : spanOk s = false := by unfold spanOk; rw [h]; simp
theorem spanOk_no3 {s : DSpan} (h : ¬ s.hi ≤ 99) : spanOk s = false := by unfold spanOk; rw [decide_eq_false h]; simp
theorem spanOk_yes {s : DSpan} (h1 : isSetB s.set = true) (h2 : inB s.lo 0 s.hi = true) (h3 : s.hi ≤ 99) : spanOk s = true := by unfold spanOk; rw [h1, h2, decide_eq_true h3]; rfl
theorem spansText_bad {l : List DSpan} {k : Nat} (h : k < l.length) (hb : spanOk l[k] = false) : spansText l = [] := by
  unfold spansText
  rw [if_neg]
  rw [List.all_eq_true]
  intro h2
  rw [h2 _ (List.getElem_mem h)] at hb; cases hb
/-- What the first i make. -/
def PSt (l : List DSpan) (i : Nat) (S : List UInt8) : Prop := S = Lib.join ((l.take i).map spanWord) [59, 32] ∧ S.length ≤ 1300 * i ∧ ∀ j (h : j < l.length), j < i → spanOk l[j] = true
theorem spanWord_len {s : DSpan} (h1 : I64 s.lo) (h2 : I64 s.hi) : (spanWord s).length ≤ 1249 := by
  have a := itoa_len h1; have b := itoa_len h2; have c := setText_len (xs := s.set)
  unfold spanWord
  simp only [List.length_append, List.length_cons, List.length_nil]
  omega
theorem spanWord_ne (s : DSpan) : spanWord s ≠ [] := by
  unfold spanWord
  intro h
  simp at h
theorem PSt.zero (l : List DSpan) : PSt l 0 [] := ⟨by simp [Lib.join_nil], by simp, fun _ _ h => absurd h (Nat.not_lt_zero _)⟩
theorem PSt.ok {l : List DSpan} {i : Nat} {S : List UInt8} (h : PSt l i S) (hi : i < l.length) (hk : spanOk l[i] = true) : ∀ j (h : j < l.length), j < i + 1 → spanOk l[j] = true := fun j hj hjk => by
  rcases Nat.lt_succ_iff_lt_or_eq.1 hjk with h' | rfl
  · exact h.2.2 j hj h'
  · exact hk
theorem PSt.next {l : List DSpan} {i : Nat} {S : List UInt8} (h : PSt l i S) (hi : i < l.length) (h0 : i ≠ 0) (hk : spanOk l[i] = true) (h1 : I64 l[i].lo) (h2 : I64 l[i].hi) : PSt l (i + 1) (S ++ [59, 32] ++ spanWord l[i]) := by
  have hok := h.ok hi hk
  obtain ⟨rfl, h3, _⟩ := h
  have hn := spanWord_len h1 h2
  refine ⟨?_, by rw [List.length_append, List.length_append]; simp only [List.length_cons, List.length_nil]; omega, hok⟩
  rw [List.take_succ_eq_append_getElem hi, List.map_append, List.map_cons, List.map_nil, join_snoc]
  intro e
  have h3 := congrArg List.length e
  rw [List.length_map, List.length_take, Nat.min_eq_left (Nat.le_of_lt hi)] at h3
  exact h0 h3
theorem PSt.first {l : List DSpan} {S : List UInt8} (h : PSt l 0 S) (hi : 0 < l.length) (hk : spanOk l[0] = true) (h1 : I64 l[0].lo) (h2 : I64 l[0].hi) : PSt l 1 (spanWord l[0]) := by
  refine ⟨?_, Nat.le_trans (spanWord_len h1 h2) (by omega), h.ok hi hk⟩
  rw [List.take_succ_eq_append_getElem hi]
  simp [Lib.join_one]
theorem PSt.empty {l : List DSpan} {i : Nat} {S : List UInt8} (h : PSt l i S) (hi : i ≤ l.length) : S = [] ↔ i = 0 := by
  obtain ⟨rfl, _, _⟩ := h
  constructor
  · intro h
    by_cases h0 : i = 0
    · exact h0
    · refine absurd h (join_ne ?_ ?_)
      · intro e
        have h3 := congrArg List.length e
        rw [List.length_map, List.length_take, Nat.min_eq_left hi] at h3
        exact h0 h3
      · intro x hx
        obtain ⟨s, _, rfl⟩ := List.mem_map.1 hx
        exact spanWord_ne s
  · rintro rfl; simp [Lib.join_nil]
theorem PSt.all {l : List DSpan} {S : List UInt8} (h : PSt l l.length S) (hn : l ≠ []) : S = spansText l := by
  unfold spansText
  rw [if_pos, if_neg hn, h.1, List.take_length]
  rw [List.all_eq_true]
  intro s hs
  obtain ⟨j, hj, rfl⟩ := List.getElem_of_mem hs
  exact h.2.2 j hj hj
/-- append(out, x, ..) of strings inside a region that draws its order. -/
theorem step_push_s {ops : Array Oper} {o : Oper} {a : Act} {K : Act → World → Prop} {Q : Exit → Act → World → Prop} {E : Prop} {w wr : World} (hgd : o.guard = none) (s x : Operand)
    (ho : o.op = .call { callee := .builtin .append, args := #[s, x], argTypes := #[63, 63] }) {base : Nat} {v : Value} (ns ys : List ByteArray) (hys : ys ≠ [])
    (hs : a.eval s = v) (hx : a.eval x = .slice (some ⟨wr.heap.size, 0, none⟩) ys.length ys.length) (hw : w = wr.alloc (.cells (ys.map Value.string).toArray 9) ∨ w = (wr.alloc (.cells (ys.map Value.string).toArray 9)).drew) (hown : wr.ownsRow base 9 1 v ns.length (ns.map Value.string))
    (hn : ns.length + ys.length ≤ 8796093022208) (hbase : base ≤ wr.heap.size)
    (h : ∀ g cap w', w'.ownsRow base 9 1 (.slice (some ⟨g, 0, none⟩) (ns.length + ys.length) cap) (ns.length + ys.length) ((ns ++ ys).map Value.string) → Below base wr w' → (∀ k, k < wr.heap.size → v.ownBlock ≠ some k → w'.heap[k]? = wr.heap[k]?) → K (a.put o.dst (.slice (some ⟨g, 0, none⟩) (ns.length + ys.length) cap)) w') :
    if Region.wanted o (yielded ops a.tmps) = true then Oper.wp Tryd.prog o a w K Q else E := by
  have hpos : 0 < ys.length := List.length_pos_iff.2 hys
  rcases hw with hw | hw
  · exact step_push_n 63 9 1 16 Tryd.underlying63 (z := .string ByteArray.empty) (by kernel_rfl) rfl (by decide) (by decide) hgd s x ho ys.length hpos (ys.map Value.string) hs hx hw hown (by simp) (by simp [Value.oneCell']) (by omega) hbase fun g cap w' h1 h2 _ h4 => h g cap w' (by rw [List.map_append]; exact h1) h2 h4
  · exact step_push 63 9 1 16 Tryd.underlying63 (z := .string ByteArray.empty) (by kernel_rfl) rfl (by decide) (by decide) hgd s x ho ys.length hpos (ys.map Value.string) hs hx hw hown (by simp) (by simp [Value.oneCell']) (by omega) hbase fun g cap w' h1 h2 _ h4 => h g cap w' (by rw [List.map_append]; exact h1) h2 h4
end Go.Proofs.YtcdcpfcmhmhdjaaDoor

/- FormatSpans: the walks. -/
namespace Go.Proofs.YtcdcpfcmhmhdjaaDoor
open Go.RowKit
theorem calls_str {P : Program} {f : FuncId} {args : Array Value} {w : World} {c b : List UInt8} {R : World → Prop} (h : Calls P f args w fun e w' => e = .returned (.string ⟨c.toArray⟩) ∧ R w') (hb : c = b) :
    Calls P f args w fun e w' => e = .returned (.string ⟨b.toArray⟩) ∧ R w' := hb ▸ h
theorem cat6 (a b c d e f : List UInt8) : (⟨a.toArray⟩ : ByteArray) ++ ⟨b.toArray⟩ ++ ⟨c.toArray⟩ ++ ⟨d.toArray⟩ ++ ⟨e.toArray⟩ ++ ⟨f.toArray⟩ = ⟨(a ++ b ++ c ++ d ++ e ++ f).toArray⟩ := by rw [cat5, ba_append]
theorem cat7 (a b c d e f g : List UInt8) : (⟨a.toArray⟩ : ByteArray) ++ ⟨b.toArray⟩ ++ ⟨c.toArray⟩ ++ ⟨d.toArray⟩ ++ ⟨e.toArray⟩ ++ ⟨f.toArray⟩ ++ ⟨g.toArray⟩ = ⟨(a ++ b ++ c ++ d ++ e ++ f ++ g).toArray⟩ := by rw [cat6, ba_append]
set_option maxRecDepth 100000 in
set_option maxHeartbeats 2000000 in
theorem spec_FormatSpans (v : Value) (xs : List DSpan) (w : World) (hv : RSpans w v xs) (hb : totL totSpan xs ≤ 1048576) :
    Calls Tryd.prog 41 #[v] w fun e w' => e = .returned (.string ⟨(spansText xs).toArray⟩) ∧ Gr w w' := by
  obtain ⟨a, cap, rfl, hl, hm, hx⟩ := hv
  have HB : Hid (∀ k (h : k < xs.length), xs[k].set.length ≤ 1048576) := Lib.hid fun k h => by
    have := sumT_mem totSpan xs k h; unfold totL at hb; have e : totSpan xs[k] = xs[k].set.length := rfl; omega
  have HBL : Hid (xs.length ≤ 1048576) := Lib.hid (by unfold totL at hb; omega)
  have HX := Lib.hid hx
  clear hx hb
  go_enter Tryd.func41, Tryd.ntmps41
  go_wp2_with fail
  go_loopw [3, 4] (fun sv iv wr => ∃ (k : Nat) (S : List UInt8), k ≤ xs.length ∧ iv = .int .i64 k ∧ sv = .string ⟨S.toArray⟩ ∧ Hid (PSt xs k S) ∧ Gr w wr) (fun _ i _ => xs.length - (intOf i).toNat)
  case atStart => exact ⟨0, [], Nat.zero_le _, rfl, rfl, Lib.hid (PSt.zero xs), Gr.refl _⟩
  case round =>
    obtain ⟨k, S, hk, rfl, rfl, hst, hgr⟩ := hrel
    by_cases hlt : k < xs.length
    · have hx := HX.out
      obtain ⟨b, off, cs, rfl, hlen, ⟨u_set, rfl, i_lo, i_hi, h_set⟩, hc⟩ := hx k hlt
      have c0 := hgr.cellv (hc 0 (by simp))
      have c1 := hgr.cellv (hc 1 (by simp))
      have c2 := hgr.cellv (hc 2 (by simp))
      simp only [Nat.add_zero, List.getElem_cons_zero, List.getElem_cons_succ] at c0 c1 c2
      clear hc hlen
      clear hx
      obtain ⟨ua, un, uc, rfl⟩ := RSlice.isSl h_set
      obtain ⟨s, hs⟩ : ∃ s, s = xs[k] := ⟨_, rfl⟩
      rw [← hs] at c0 c1 i_lo i_hi h_set
      have HSL : Hid (s.set.length ≤ 1048576) := Lib.hid (by rw [hs]; exact HB.out k hlt)
      have HS := Lib.hid hs
      have HL := Lib.hid hlt
      have ILO := Lib.hid i_lo
      have IHI := Lib.hid i_hi
      have HSET := Lib.hid (RSlice.mono keeps_int hgr h_set)
      have p0 : (0 : Int) ≤ (k : Int) := Int.natCast_nonneg _
      have p1 : (k : Int) < (xs.length : Int) := by omega
      clear hs h_set i_lo i_hi hk
      cases hset : isSetB s.set with
      | false =>
        have HF := Lib.hid (spansText_bad HL.out (HS.out ▸ spanOk_no1 hset))
        have HT := Lib.hid (setText_no hset)
        clear hset
        go_wp2_with fail
        refine (calls_str (spec_FormatSet _ s.set _ HSET.out HSL.out) HT.out).mono ?_
        rintro e w1 ⟨rfl, g1⟩
        go_wp2_with fail
        go_quiet (fail)
        go_wp2_with fail
        go_ret
        exact ⟨ret_str (by rw [HF.out]), (hgr.trans g1).drewN _⟩
      | true =>
        obtain ⟨T, hTe, HT, hTl⟩ : ∃ T : List UInt8, T.isEmpty = false ∧ Hid (setText s.set = T) ∧ Hid (T.length ≤ 1204) := ⟨setText s.set, by
          have := setText_ne hset
          cases h : setText s.set with
          | nil => exact absurd h this
          | cons _ _ => rfl, Lib.hid rfl, Lib.hid setText_len⟩
        cases hin : inB s.lo 0 s.hi with
        | false =>
          have HF := Lib.hid (spansText_bad HL.out (HS.out ▸ spanOk_no2 hin))
          have HI := Lib.hid hin
          clear hset hin
          go_wp2_with fail
          refine (calls_str (spec_FormatSet _ s.set _ HSET.out HSL.out) HT.out).mono ?_
          rintro e w1 ⟨rfl, g1⟩
          have d0 := g1.cellv c0
          have d1 := g1.cellv c1
          have hin := HI.out
          go_wp2_with fail
          go_quiet ((go_at_call 53; exact Calls.quiet_of_same ((spec_l1In _ _ _ _).mono (fun e w' h => ⟨h.1, h.2.symm⟩))))
          go_wp2_with fail
          go_ret
          exact ⟨ret_str (by rw [HF.out]), (hgr.trans g1).drewN _⟩
        | true =>
          by_cases h99 : s.hi ≤ 99
          · have HK := Lib.hid (HS.out ▸ spanOk_yes hset hin h99 : spanOk xs[k] = true)
            have HI := Lib.hid hin
            have hn99 : ¬ 99 < s.hi := by omega
            have n1 := itoa_len ILO.out
            have n2 := itoa_len IHI.out
            have n3 : S.length ≤ 1363148800 := by have := hst.out.2.1; have := HL.out; have := HBL.out; omega
            have n4 := hTl.out
            have l0 : ¬ 9223372036854775807 < S.length + 2 := by omega
            have l1 : ¬ 9223372036854775807 < S.length + 2 + (Lib.itoa s.lo).length := by omega
            have l2 : ¬ 9223372036854775807 < S.length + 2 + (Lib.itoa s.lo).length + 2 := by omega
            have l3 : ¬ 9223372036854775807 < S.length + 2 + (Lib.itoa s.lo).length + 2 + (Lib.itoa s.hi).length := by omega
            have l4 : ¬ 9223372036854775807 < S.length + 2 + (Lib.itoa s.lo).length + 2 + (Lib.itoa s.hi).length + 1 := by omega
            have l5 : ¬ 9223372036854775807 < S.length + 2 + (Lib.itoa s.lo).length + 2 + (Lib.itoa s.hi).length + 1 + T.length := by omega
            have m1 : ¬ 9223372036854775807 < (Lib.itoa s.lo).length := by omega
            have m2 : ¬ 9223372036854775807 < (Lib.itoa s.lo).length + 2 := by omega
            have m3 : ¬ 9223372036854775807 < (Lib.itoa s.lo).length + 2 + (Lib.itoa s.hi).length := by omega
            have m4 : ¬ 9223372036854775807 < (Lib.itoa s.lo).length + 2 + (Lib.itoa s.hi).length + 1 := by omega
            have m5 : ¬ 9223372036854775807 < (Lib.itoa s.lo).length + 2 + (Lib.itoa s.hi).length + 1 + T.length := by omega
            have HW : Hid (spanWord s = Lib.itoa s.lo ++ [46, 46] ++ Lib.itoa s.hi ++ [32] ++ T) := Lib.hid (by unfold spanWord; rw [HT.out])
            clear n1 n2 n3 n4 hset hin h99
            by_cases h0 : k = 0
            · obtain rfl : S = [] := (hst.out.empty (Nat.le_of_lt HL.out)).2 h0
              have hnx : Hid (PSt xs (k + 1) (Lib.itoa s.lo ++ [46, 46] ++ Lib.itoa s.hi ++ [32] ++ T)) := Lib.hid (by
                rw [← HW.out, HS.out]; subst h0; exact hst.out.first HL.out HK.out (HS.out ▸ ILO.out) (HS.out ▸ IHI.out))
              have hz : ¬ (0 : Int) < (k : Int) := by omega
              clear h0
              go_wp2_with fail
              refine (calls_str (spec_FormatSet _ s.set _ HSET.out HSL.out) HT.out).mono ?_
              rintro e w1 ⟨rfl, g1⟩
              have d0 := g1.cellv c0
              have d1 := g1.cellv c1
              have hin := HI.out
              go_wp2_with fail
              go_quiet ((go_at_call 53; exact Calls.quiet_of_same ((spec_l1In _ _ _ _).mono (fun e w' h => ⟨h.1, h.2.symm⟩))))
              go_wp2_with fail
              have q0 := fun q : Ext (w1.drewN nq) => Ext.cell (w := w1.drewN nq) d0 q
              have q1 := fun q : Ext (w1.drewN nq) => Ext.cell (w := w1.drewN nq) d1 q
              refine wp_region_ext (by kernel_rfl) (by kernel_rfl) ?_
              repeat (go_big_quiet_step ((go_at_call 34; first | with_reducible exact quiet_ext (spec_FormatInt s.lo _ ILO.out) | with_reducible exact quiet_ext (spec_FormatInt s.hi _ IHI.out))))
              refine wpQuiet_nil ?_
              intro w2 hw2
              have g2 := Ext.out hw2
              clear hw2 q0 q1
              go_wp2_with fail
              go_roundw
              case rel => exact ⟨k + 1, _, HL.out, rfl, congrArg Value.string (cat6 [] _ [46, 46] _ [32] _), Lib.hid (by have h := hnx.out; simpa using h), (hgr.trans (g1.drewN _)).trans g2⟩
              case measure => have := HL.out; simp only [intOf]; omega
            · have hnx : Hid (PSt xs (k + 1) (S ++ [59, 32] ++ (Lib.itoa s.lo ++ [46, 46] ++ Lib.itoa s.hi ++ [32] ++ T))) := Lib.hid (by
                rw [← HW.out, HS.out]; exact hst.out.next HL.out h0 HK.out (HS.out ▸ ILO.out) (HS.out ▸ IHI.out))
              have hz : (0 : Int) < (k : Int) := by omega
              clear h0
              go_wp2_with fail
              refine (calls_str (spec_FormatSet _ s.set _ HSET.out HSL.out) HT.out).mono ?_
              rintro e w1 ⟨rfl, g1⟩
              have d0 := g1.cellv c0
              have d1 := g1.cellv c1
              have hin := HI.out
              go_wp2_with fail
              go_quiet ((go_at_call 53; exact Calls.quiet_of_same ((spec_l1In _ _ _ _).mono (fun e w' h => ⟨h.1, h.2.symm⟩))))
              go_wp2_with fail
              have q0 := fun q : Ext (w1.drewN nq) => Ext.cell (w := w1.drewN nq) d0 q
              have q1 := fun q : Ext (w1.drewN nq) => Ext.cell (w := w1.drewN nq) d1 q
              refine wp_region_ext (by kernel_rfl) (by kernel_rfl) ?_
              repeat (go_big_quiet_step ((go_at_call 34; first | with_reducible exact quiet_ext (spec_FormatInt s.lo _ ILO.out) | with_reducible exact quiet_ext (spec_FormatInt s.hi _ IHI.out))))
              refine wpQuiet_nil ?_
              intro w2 hw2
              have g2 := Ext.out hw2
              clear hw2 q0 q1
              go_wp2_with fail
              go_roundw
              case rel => exact ⟨k + 1, _, HL.out, rfl, congrArg Value.string (cat7 S [59, 32] _ [46, 46] _ [32] _), Lib.hid (by have h := hnx.out; simpa using h), (hgr.trans (g1.drewN _)).trans g2⟩
              case measure => have := HL.out; simp only [intOf]; omega
          · have HF := Lib.hid (spansText_bad HL.out (HS.out ▸ spanOk_no3 h99))
            have HI := Lib.hid hin
            have hn99 : 99 < s.hi := by omega
            clear hset hin h99
            go_wp2_with fail
            refine (calls_str (spec_FormatSet _ s.set _ HSET.out HSL.out) HT.out).mono ?_
            rintro e w1 ⟨rfl, g1⟩
            have d0 := g1.cellv c0
            have d1 := g1.cellv c1
            have hin := HI.out
            go_wp2_with fail
            go_quiet ((go_at_call 53; exact Calls.quiet_of_same ((spec_l1In _ _ _ _).mono (fun e w' h => ⟨h.1, h.2.symm⟩))))
            go_wp2_with fail
            go_ret
            exact ⟨ret_str (by rw [HF.out]), (hgr.trans g1).drewN _⟩
    · obtain rfl : k = xs.length := by omega
      by_cases hn : xs = []
      · subst hn
        obtain rfl : S = [] := (hst.out.empty (Nat.le_refl _)).2 rfl
        go_wp2_with fail
        go_ret
        exact ⟨ret_str rfl, hgr⟩
      · have hne : S.isEmpty = false := by
          cases S with
          | nil => exact absurd ((hst.out.empty (Nat.le_refl _)).1 rfl) (fun e => hn (List.eq_nil_of_length_eq_zero e))
          | cons _ _ => rfl
        have HE := Lib.hid (hst.out.all hn)
        clear hn hlt hk
        go_wp2_with fail
        go_ret
        exact ⟨ret_str (by rw [HE.out]), hgr⟩
end Go.Proofs.YtcdcpfcmhmhdjaaDoor

/- FormatSpans: the program's walk. -/
namespace Go.Proofs.YtcdcpfcmhmhdjaaDoor
open Go.RowKit
theorem cell_kept {w w' : World} {o : Option Nat} {X i : Nat} {val : Value} (hk : ∀ k, k < w.heap.size → o ≠ some k → w'.heap[k]? = w.heap[k]?) (hne : o ≠ some X) (hc : w.cell? ⟨X, i, none⟩ = some val) : w'.cell? ⟨X, i, none⟩ = some val := by
  rw [World.cell?_of_block (w := w) (hk X (World.block_lt_of_cell? w _ hc) hne)]; exact hc
set_option maxRecDepth 100000 in
set_option maxHeartbeats 2000000 in
theorem impl_FormatSpans (v : Value) (xs : List DSpan) (w : World) (hv : RSpans w v xs) (hb : totL totSpan xs ≤ 1048576) (hT : Tens Tryd.prog w) :
    Calls Tryd.prog 40 #[v] w fun e w' => e = .returned (.string ⟨(spansText xs).toArray⟩) ∧ Gr w w' := by
  obtain ⟨a, cap, rfl, hl, hm, hx⟩ := hv
  have HB : Hid (∀ k (h : k < xs.length), xs[k].set.length ≤ 1048576) := Lib.hid fun k h => by
    have := sumT_mem totSpan xs k h; unfold totL at hb; have e : totSpan xs[k] = xs[k].set.length := rfl; omega
  have HBL : Hid (xs.length ≤ 1048576) := Lib.hid (by unfold totL at hb; omega)
  have HTen := Lib.hid hT
  have HX := Lib.hid hx
  clear hx hb hT
  have hown0 := own_empty w 9 1 w.heap.size (Nat.le_refl _)
  have g0 : Gr w (w.alloc (.cells #[] 9)) := (Gr.refl w).alloc _
  go_enter Tryd.func40, Tryd.ntmps40
  go_wp2_with fail
  go_loopw [3, 9] (fun sv iv wr => ∃ (k : Nat) (sa : Option Addr) (sc : Nat), k ≤ xs.length ∧ iv = .int .i64 k ∧ sv = .slice sa k sc ∧ wr.ownsRow w.heap.size 9 1 sv (((xs.take k).map spanWord).map bsOf).length ((((xs.take k).map spanWord).map bsOf).map Value.string) ∧ Hid (∃ S, PSt xs k S) ∧ Gr w wr) (fun _ i _ => xs.length - (intOf i).toNat)
  case atStart => exact ⟨0, _, _, Nat.zero_le _, rfl, rfl, by simpa using hown0, Lib.hid ⟨_, PSt.zero xs⟩, g0⟩
  case round =>
    obtain ⟨k, sa, sc, hk, rfl, rfl, hown, hst, hgr⟩ := hrel
    by_cases hlt : k < xs.length
    · have hx := HX.out
      obtain ⟨b, off, cs, rfl, hlen, ⟨u_set, rfl, i_lo, i_hi, h_set⟩, hc⟩ := hx k hlt
      have c0 := hgr.cellv (hc 0 (by simp))
      have c1 := hgr.cellv (hc 1 (by simp))
      have c2 := hgr.cellv (hc 2 (by simp))
      simp only [Nat.add_zero, List.getElem_cons_zero, List.getElem_cons_succ] at c0 c1 c2
      clear hc hlen
      clear hx
      obtain ⟨ua, un, uc, rfl⟩ := RSlice.isSl h_set
      obtain ⟨s, hs⟩ : ∃ s, s = xs[k] := ⟨_, rfl⟩
      rw [← hs] at c0 c1 i_lo i_hi h_set
      have HSL : Hid (s.set.length ≤ 1048576) := Lib.hid (by rw [hs]; exact HB.out k hlt)
      have HS := Lib.hid hs
      have HL := Lib.hid hlt
      have ILO := Lib.hid i_lo
      have IHI := Lib.hid i_hi
      have HSET0 := Lib.hid h_set
      have gb : Gr w (wr.alloc (.cells #[.int .i64 s.lo, .int .i64 s.hi, .slice ua un uc] 56)) := hgr.alloc _
      have p0 : (0 : Int) ≤ (k : Int) := Int.natCast_nonneg _
      have p1 : (k : Int) < (xs.length : Int) := by omega
      clear hs h_set i_lo i_hi hk
      cases hset : isSetB s.set with
      | false =>
        have HF := Lib.hid (spansText_bad HL.out (HS.out ▸ spanOk_no1 hset))
        have HC := Lib.hid hset
        clear hset
        go_wp2_with fail
        refine (impl_IsSet_of HC.out _ _ (RSlice.mono keeps_int gb HSET0.out)).mono ?_
        rintro e w1 ⟨rfl, g1⟩
        go_wp2_with fail
        go_ret
        exact ⟨ret_str (by rw [HF.out]), gb.trans g1⟩
      | true =>
        have HC := Lib.hid hset
        by_cases h1 : s.lo < 0
        · have HF := Lib.hid (spansText_bad HL.out (HS.out ▸ spanOk_no2 (inB_no (by omega))))
          clear hset
          go_wp2_with fail
          refine (impl_IsSet_of HC.out _ _ (RSlice.mono keeps_int gb HSET0.out)).mono ?_
          rintro e w1 ⟨rfl, g1⟩
          have b0 : w1.cell? ⟨wr.heap.size, 0, none⟩ = some (.int .i64 s.lo) := g1.cellv (by simp [go_sem])
          go_wp2_with fail
          go_ret
          exact ⟨ret_str (by rw [HF.out]), gb.trans g1⟩
        · by_cases h2 : s.hi < s.lo
          · have HF := Lib.hid (spansText_bad HL.out (HS.out ▸ spanOk_no2 (inB_no (by omega))))
            clear hset
            go_wp2_with fail
            refine (impl_IsSet_of HC.out _ _ (RSlice.mono keeps_int gb HSET0.out)).mono ?_
            rintro e w1 ⟨rfl, g1⟩
            have b0 : w1.cell? ⟨wr.heap.size, 0, none⟩ = some (.int .i64 s.lo) := g1.cellv (by simp [go_sem])
            have b1 : w1.cell? ⟨wr.heap.size, 1, none⟩ = some (.int .i64 s.hi) := g1.cellv (by simp [go_sem])
            go_wp2_with fail
            go_ret
            exact ⟨ret_str (by rw [HF.out]), gb.trans g1⟩
          · have hin : inB s.lo 0 s.hi = true := inB_mk (by omega) (by omega)
            by_cases h99 : s.hi ≤ 99
            · have HK := Lib.hid (HS.out ▸ spanOk_yes hset hin h99 : spanOk xs[k] = true)
              have hn99 : ¬ 99 < s.hi := by omega
              obtain ⟨T, HT, hTl⟩ : ∃ T : List UInt8, Hid (setText s.set = T) ∧ Hid (T.length ≤ 1204) := ⟨setText s.set, Lib.hid rfl, Lib.hid setText_len⟩
              have n1 := itoa_len ILO.out
              have n2 := itoa_len IHI.out
              have n4 := hTl.out
              have m2 : ¬ 9223372036854775807 < (Lib.itoa s.lo).length + 2 := by omega
              have m3 : ¬ 9223372036854775807 < (Lib.itoa s.lo).length + 2 + (Lib.itoa s.hi).length := by omega
              have m4 : ¬ 9223372036854775807 < (Lib.itoa s.lo).length + 2 + (Lib.itoa s.hi).length + 1 := by omega
              have m5 : ¬ 9223372036854775807 < (Lib.itoa s.lo).length + 2 + (Lib.itoa s.hi).length + 1 + T.length := by omega
              have HW : Hid (spanWord s = Lib.itoa s.lo ++ [46, 46] ++ Lib.itoa s.hi ++ [32] ++ T) := Lib.hid (by unfold spanWord; rw [HT.out])
              obtain ⟨bs, HBS⟩ : ∃ bs, Hid (bs = ((xs.take k).map spanWord).map bsOf) := ⟨_, Lib.hid rfl⟩
              have hbl : bs.length = k := by rw [HBS.out]; simp; omega
              rw [← HBS.out] at hown
              have HN : Hid (bs.length + 1 ≤ 8796093022208) := Lib.hid (by rw [hbl]; have := HBL.out; omega)
              have HBN := Lib.hid hbl
              have HNE : Hid ((Value.slice sa k sc).ownBlock ≠ some wr.heap.size) := Lib.hid fun e => by have := (hown.lt _ e).2; omega
              have HO := Lib.hid hown
              have hE : Hid ((((xs.take (k + 1)).map spanWord).map bsOf) = bs ++ [bsOf (Lib.itoa s.lo ++ [46, 46] ++ Lib.itoa s.hi ++ [32] ++ T)]) := Lib.hid (by
                rw [List.take_succ_eq_append_getElem HL.out, List.map_append, List.map_append, HBS.out, ← HW.out, HS.out]; rfl)
              have hst2 : Hid (∃ S, PSt xs (k + 1) S) := Lib.hid (by
                obtain ⟨S, hS⟩ := hst.out
                by_cases h0 : k = 0
                · subst h0; exact ⟨_, hS.first HL.out HK.out (HS.out ▸ ILO.out) (HS.out ▸ IHI.out)⟩
                · exact ⟨_, hS.next HL.out h0 HK.out (HS.out ▸ ILO.out) (HS.out ▸ IHI.out)⟩)
              clear n1 n2 n4 hset hin h99 hbl hown
              go_wp2_with fail
              refine (impl_IsSet_of HC.out _ _ (RSlice.mono keeps_int gb HSET0.out)).mono ?_
              rintro e w1 ⟨rfl, g1⟩
              have b0 : w1.cell? ⟨wr.heap.size, 0, none⟩ = some (.int .i64 s.lo) := g1.cellv (by simp [go_sem])
              have b1 : w1.cell? ⟨wr.heap.size, 1, none⟩ = some (.int .i64 s.hi) := g1.cellv (by simp [go_sem])
              have b2 : w1.cell? ⟨wr.heap.size, 2, none⟩ = some (.slice ua un uc) := g1.cellv (by simp [go_sem])
              have G1 : Gr w w1 := gb.trans g1
              have HO1 := Lib.hid (ownsRow_gr HO.out ((Gr.refl wr).alloc (.cells #[.int .i64 s.lo, .int .i64 s.hi, .slice ua un uc] 56) |>.trans g1))
              clear gb g1 c0 c1 c2 hgr
              go_wp2
              (go_region_held3 (fun w' => w'.cell? ⟨wr.heap.size, 0, none⟩ = some (.int .i64 s.lo) ∧ w'.cell? ⟨wr.heap.size, 1, none⟩ = some (.int .i64 s.hi) ∧ w'.cell? ⟨wr.heap.size, 2, none⟩ = some (.slice ua un uc) ∧ Gr w w')
                (first | exact ⟨b0, b1, b2, G1⟩ | exact ⟨b0, b1, b2, G1.drew⟩ | (go_split_ands; exact ⟨Gr.cellv gc (by assumption), Gr.cellv gc (by assumption), Gr.cellv gc (by assumption), Gr.trans (by assumption) gc⟩) | (go_split_ands; exact ⟨Gr.cellv gb (by assumption), Gr.cellv gb (by assumption), Gr.cellv gb (by assumption), Gr.trans (by assumption) gb⟩) | (go_split_ands; exact ⟨Gr.cellv ga (by assumption), Gr.cellv ga (by assumption), Gr.cellv ga (by assumption), Gr.trans (by assumption) ga⟩) | (go_split_ands; exact ⟨cell_kept hk4 HNE.out (Gr.cellv ((Gr.refl w1).drew.trans (ga.trans (gb.trans gc))) b0), cell_kept hk4 HNE.out (Gr.cellv ((Gr.refl w1).drew.trans (ga.trans (gb.trans gc))) b1), cell_kept hk4 HNE.out (Gr.cellv ((Gr.refl w1).drew.trans (ga.trans (gb.trans gc))) b2), (G1.trans ((Gr.refl w1).drew.trans (ga.trans (gb.trans gc)))).trans' hb4⟩) | (go_split_ands; exact ⟨Gr.cellv (Gr.alloc (Gr.refl _) _) (by assumption), Gr.cellv (Gr.alloc (Gr.refl _) _) (by assumption), Gr.cellv (Gr.alloc (Gr.refl _) _) (by assumption), Gr.alloc (by assumption) _⟩) | (go_split_ands; exact ⟨Gr.cellv (Gr.alloc (Gr.refl _) _).drew (by assumption), Gr.cellv (Gr.alloc (Gr.refl _) _).drew (by assumption), Gr.cellv (Gr.alloc (Gr.refl _) _).drew (by assumption), (Gr.alloc (by assumption) _).drew⟩))
                (first | (go_at_call 32; go_split_ands; with_reducible refine (impl_FormatInt s.lo _ ILO.out (tab_gr HTen.out (by assumption))).mono ?_; rintro e wa ⟨rfl, ga⟩) | (go_at_call 32; go_split_ands; with_reducible refine (impl_FormatInt s.hi _ IHI.out (tab_gr HTen.out (by assumption))).mono ?_; rintro e wb ⟨rfl, gb⟩) | (go_at_call 17; go_split_ands; refine (calls_str (impl_FormatSet _ s.set _ (tab_gr HTen.out (by assumption)) (RSlice.mono keeps_int (by assumption) HSET0.out) HSL.out) HT.out).mono ?_; rintro e wc ⟨rfl, gc⟩) | (refine step_push_s (wr := wc) rfl _ _ rfl bs [_] (by simp) rfl rfl (by first | exact Or.inl rfl | exact Or.inr rfl) (ownsRow_gr HO1.out ((Gr.refl w1).drew.trans (ga.trans (gb.trans gc)))) HN.out (G1.trans ((Gr.refl w1).drew.trans (ga.trans (gb.trans gc)))).size ?_; intro g4 cap4 w4 hown4 hb4 hk4)))
              have h5 := hown4
              rw [cat5 (Lib.itoa s.lo) [46, 46] (Lib.itoa s.hi) [32] T] at h5
              have HG := Lib.hid ((G1.trans ((Gr.refl w1).drew.trans (ga.trans (gb.trans gc)))).trans' hb4)
              clear hown4 hk4 hb4 ga gb gc b0 b1 b2
              go_wp2
              go_roundw
              case rel => exact ⟨k + 1, some ⟨g4, 0, none⟩, cap4, HL.out, rfl, by rw [HBN.out], by rw [hE.out]; exact own_len h5, hst2, HG.out⟩
              case measure => have := HL.out; simp only [intOf]; omega
            · have HF := Lib.hid (spansText_bad HL.out (HS.out ▸ spanOk_no3 h99))
              have h98 : 99 < s.hi := by omega
              clear hset hin h99
              go_wp2_with fail
              refine (impl_IsSet_of HC.out _ _ (RSlice.mono keeps_int gb HSET0.out)).mono ?_
              rintro e w1 ⟨rfl, g1⟩
              have b0 : w1.cell? ⟨wr.heap.size, 0, none⟩ = some (.int .i64 s.lo) := g1.cellv (by simp [go_sem])
              have b1 : w1.cell? ⟨wr.heap.size, 1, none⟩ = some (.int .i64 s.hi) := g1.cellv (by simp [go_sem])
              go_wp2_with fail
              go_ret
              exact ⟨ret_str (by rw [HF.out]), gb.trans g1⟩
    · obtain rfl : k = xs.length := by omega
      by_cases hn : xs = []
      · subst hn
        go_wp2_with fail
        go_ret
        exact ⟨ret_str rfl, hgr⟩
      · have hlen : xs.length ≠ 0 := fun e => hn (List.eq_nil_of_length_eq_zero e)
        have hb0 : ((xs.length : Int) == 0) = false := by simp; exact hn
        obtain ⟨S, hS⟩ := hst.out
        have HE := Lib.hid (hS.all hn)
        rw [List.take_length] at hown
        have HO := Lib.hid hown
        have HJ : Hid ((Lib.join (xs.map spanWord) [59, 32]).length ≤ 140737488355328) := Lib.hid (by
          have h1 := hS.1; have h2 := hS.2.1
          rw [List.take_length] at h1
          rw [← h1]; have := HBL.out; omega)
        have HE2 : Hid (Lib.join (xs.map spanWord) [59, 32] = spansText xs) := Lib.hid (by
          have h1 := hS.1
          rw [List.take_length] at h1
          rw [← h1]; exact HE.out)
        clear hn hlt hk hown hlen
        go_wp2_with fail
        refine (join_any (ws := xs.map spanWord) HO.out [59, 32] (by have := HBL.out; simp; omega) HJ.out).mono ?_
        rintro e w2 ⟨rfl, g2⟩
        go_wp2_with fail
        go_ret
        exact ⟨ret_str (by rw [HE2.out]), hgr.trans g2⟩
end Go.Proofs.YtcdcpfcmhmhdjaaDoor
