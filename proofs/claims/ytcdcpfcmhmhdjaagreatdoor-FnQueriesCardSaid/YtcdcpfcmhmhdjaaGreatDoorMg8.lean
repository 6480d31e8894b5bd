/- FormatSpans: the plain law, and a row of strings that is appended to inside a region. -/
import Derived.Test.YtcdcpfcmhmhdjaaGreatDoorMg7
import Derived.Test.YtcdcpfcmhmhdjaaGreatDoorStepN
import Derived.Test.YtcdcpfcmhmhdjaaGreatDoorLawD
import Derived.Test.YtcdcpfcmhmhdjaaGreatDoorExt
import Derived.Test.YtcdcpfcmhmhdjaaGreatDoorLawJ
import Derived.Test.YtcdcpfcmhmhdjaaGreatDoorMg1
import Derived.Test.YtcdcpfcmhmhdjaaGreatDoorMg5
import Derived.Test.YtcdcpfcmhmhdjaaGreatDoorSc
import Derived.Test.YtcdcpfcmhmhdjaaGreatDoorLawK
namespace Go.Proofs.YtcdcpfcmhmhdjaaGreatDoor
open Go.ChangeShapes Go.WideShapes Go.RowKit Go.Deep
theorem setSt_end {xs : List Int} (hx : ∀ k, k < xs.length → I64 (xs.getD k 0)) : ∀ (n i : Nat) (S : List UInt8), xs.length - i ≤ n → i ≤ xs.length → SetSt xs i S → ∃ S', SetSt xs xs.length S'
  | 0, i, S, hn, hi, h => by obtain rfl : i = xs.length := by omega
                             exact ⟨S, h⟩
  | n + 1, i, S, hn, hi, h => by
    by_cases h1 : i < xs.length
    · have h2 := endOf_lt xs i h1
      have h3 := endOf_ge xs i
      by_cases h0 : i = 0
      · subst h0
        exact setSt_end hx n _ _ (by omega) (by omega) (h.first hx h1)
      · exact setSt_end hx n _ _ (by omega) (by omega) (h.next hx h1 h0)
    · obtain rfl : i = xs.length := by omega
      exact ⟨S, h⟩
theorem setText_len {xs : List Int} : (setText xs).length ≤ 1204 := by
  cases h : isSetB xs with
  | false => rw [setText_no h]; simp
  | true =>
    by_cases hn : xs = []
    · subst hn; rw [setText_nil]; simp
    · have hb := isSet_bound h
      obtain ⟨S, hS⟩ := setSt_end (xs := xs) (fun k hk => by rw [getD_lt hk]; have := hb k hk; unfold I64; omega) xs.length 0 [] (by omega) (by omega) (SetSt.zero xs)
      rw [hS.done (by omega) h hn]
      have := hS.len
      have := isSetB_len h
      omega
theorem setText_ne {xs : List Int} (h : isSetB xs = true) : setText xs ≠ [] := by
  by_cases hn : xs = []
  · subst hn; rw [setText_nil]; simp
  · have hb := isSet_bound h
    obtain ⟨S, hS⟩ := setSt_end (xs := xs) (fun k hk => by rw [getD_lt hk]; have := hb k hk; unfold I64; omega) xs.length 0 [] (by omega) (by omega) (SetSt.zero xs)
    rw [hS.done (by omega) h hn]
    intro e
    exact hn (List.eq_nil_of_length_eq_zero (hS.empty.1 e))
def spanOk (s : DSpan) : Bool := isSetB s.set && (inB s.lo 0 s.hi && decide (s.hi ≤ 99))
def spanWord (s : DSpan) : List UInt8 := Lib.itoa s.lo ++ [46, 46] ++ Lib.itoa s.hi ++ [32] ++ setText s.set
def spansText (l : List DSpan) : List UInt8 := if l.all spanOk then (if l = [] then [110, 111, 110, 101] else Lib.join (l.map spanWord) [59, 32]) else []
theorem spanOk_no1 {s : DSpan} (h : isSetB s.set = false) : spanOk s = false := by unfold spanOk; rw [h]; rfl
theorem spanOk_no2 {s : DSpan} (h : inB s.lo 0 s.hi = false) : spanOk s = false := by unfold spanOk; rw [h]; simp
theorem spanOk_no3 {s : DSpan} (h : ¬ s.hi ≤ 99) : spanOk s = false := by unfold spanOk; rw [decide_eq_false h]; simp
theorem spanOk_yes {s : DSpan} (h1 : isSetB s.set = true) (h2 : inB s.lo 0 s.hi = true) (h3 : s.hi ≤ 99) : spanOk s = true := by unfold spanOk; rw [h1, h2, decide_eq_true h3]; rfl
theorem spansText_bad {l : List DSpan} {k : Nat} (h : k < l.length) (hb : spanOk l[k] = false) : spansText l = [] := by
  unfold spansText
  rw [if_neg]
  rw [List.all_eq_true]
  intro h2
  rw [h2 _ (List.getElem_mem h)] at hb; cases hb
/-- What the first i make. -/
def PSt (l : List DSpan) (i : Nat) (S : List UInt8) : Prop := S = Lib.join ((l.take i).map spanWord) [59, 32] ∧ S.length ≤ 1300 * i ∧ ∀ j (h : j < l.length), j < i → spanOk l[j] = true
theorem spanWord_len {s : DSpan} (h1 : I64 s.lo) (h2 : I64 s.hi) : (spanWord s).length ≤ 1249 := by
  have a := itoa_len h1; have b := itoa_len h2; have c := setText_len (xs := s.set)
  unfold spanWord
  simp only [List.length_append, List.length_cons, List.length_nil]
  omega
theorem spanWord_ne (s : DSpan) : spanWord s ≠ [] := by
  unfold spanWord
  intro h
  simp at h
theorem PSt.zero (l : List DSpan) : PSt l 0 [] := ⟨by simp [Lib.join_nil], by simp, fun _ _ h => absurd h (Nat.not_lt_zero _)⟩
theorem PSt.ok {l : List DSpan} {i : Nat} {S : List UInt8} (h : PSt l i S) (hi : i < l.length) (hk : spanOk l[i] = true) : ∀ j (h : j < l.length), j < i + 1 → spanOk l[j] = true := fun j hj hjk => by
  rcases Nat.lt_succ_iff_lt_or_eq.1 hjk with h' | rfl
  · exact h.2.2 j hj h'
  · exact hk
theorem PSt.next {l : List DSpan} {i : Nat} {S : List UInt8} (h : PSt l i S) (hi : i < l.length) (h0 : i ≠ 0) (hk : spanOk l[i] = true) (h1 : I64 l[i].lo) (h2 : I64 l[i].hi) : PSt l (i + 1) (S ++ [59, 32] ++ spanWord l[i]) := by
  have hok := h.ok hi hk
  obtain ⟨rfl, h3, _⟩ := h
  have hn := spanWord_len h1 h2
  refine ⟨?_, by rw [List.length_append, List.length_append]; simp only [List.length_cons, List.length_nil]; omega, hok⟩
  rw [List.take_succ_eq_append_getElem hi, List.map_append, List.map_cons, List.map_nil, join_snoc]
  intro e
  have h3 := congrArg List.length e
  rw [List.length_map, List.length_take, Nat.min_eq_left (Nat.le_of_lt hi)] at h3
  exact h0 h3
theorem PSt.first {l : List DSpan} {S : List UInt8} (h : PSt l 0 S) (hi : 0 < l.length) (hk : spanOk l[0] = true) (h1 : I64 l[0].lo) (h2 : I64 l[0].hi) : PSt l 1 (spanWord l[0]) := by
  refine ⟨?_, Nat.le_trans (spanWord_len h1 h2) (by omega), h.ok hi hk⟩
  rw [List.take_succ_eq_append_getElem hi]
  simp [Lib.join_one]
theorem PSt.empty {l : List DSpan} {i : Nat} {S : List UInt8} (h : PSt l i S) (hi : i ≤ l.length) : S = [] ↔ i = 0 := by
  obtain ⟨rfl, _, _⟩ := h
  constructor
  · intro h
    by_cases h0 : i = 0
    · exact h0
    · refine absurd h (join_ne ?_ ?_)
      · intro e
        have h3 := congrArg List.length e
        rw [List.length_map, List.length_take, Nat.min_eq_left hi] at h3
        exact h0 h3
      · intro x hx
        obtain ⟨s, _, rfl⟩ := List.mem_map.1 hx
        exact spanWord_ne s
  · rintro rfl; simp [Lib.join_nil]
theorem PSt.all {l : List DSpan} {S : List UInt8} (h : PSt l l.length S) (hn : l ≠ []) : S = spansText l := by
  unfold spansText
  rw [if_pos, if_neg hn, h.1, List.take_length]
  rw [List.all_eq_true]
  intro s hs
  obtain ⟨j, hj, rfl⟩ := List.getElem_of_mem hs
  exact h.2.2 j hj hj
/-- append(out, x, ..) of strings inside a region that draws its order. -/
theorem step_push_s {ops : Array Oper} {o : Oper} {a : Act} {K : Act → World → Prop} {Q : Exit → Act → World → Prop} {E : Prop} {w wr : World} (hgd : o.guard = none) (s x : Operand)
    (ho : o.op = .call { callee := .builtin .append, args := #[s, x], argTypes := #[55, 55] }) {base : Nat} {v : Value} (ns ys : List ByteArray) (hys : ys ≠ [])
    (hs : a.eval s = v) (hx : a.eval x = .slice (some ⟨wr.heap.size, 0, none⟩) ys.length ys.length) (hw : w = wr.alloc (.cells (ys.map Value.string).toArray 9) ∨ w = (wr.alloc (.cells (ys.map Value.string).toArray 9)).drew) (hown : wr.ownsRow base 9 1 v ns.length (ns.map Value.string))
    (hn : ns.length + ys.length ≤ 8796093022208) (hbase : base ≤ wr.heap.size)
    (h : ∀ g cap w', w'.ownsRow base 9 1 (.slice (some ⟨g, 0, none⟩) (ns.length + ys.length) cap) (ns.length + ys.length) ((ns ++ ys).map Value.string) → Below base wr w' → (∀ k, k < wr.heap.size → v.ownBlock ≠ some k → w'.heap[k]? = wr.heap[k]?) → K (a.put o.dst (.slice (some ⟨g, 0, none⟩) (ns.length + ys.length) cap)) w') :
    if Region.wanted o (yielded ops a.tmps) = true then Oper.wp Tryz.prog o a w K Q else E := by
  have hpos : 0 < ys.length := List.length_pos_iff.2 hys
  rcases hw with hw | hw
  · exact step_push_n 55 9 1 16 Tryz.underlying55 (z := .string ByteArray.empty) (by kernel_rfl) rfl (by decide) (by decide) hgd s x ho ys.length hpos (ys.map Value.string) hs hx hw hown (by simp) (by simp [Value.oneCell']) (by omega) hbase fun g cap w' h1 h2 _ h4 => h g cap w' (by rw [List.map_append]; exact h1) h2 h4
  · exact step_push 55 9 1 16 Tryz.underlying55 (z := .string ByteArray.empty) (by kernel_rfl) rfl (by decide) (by decide) hgd s x ho ys.length hpos (ys.map Value.string) hs hx hw hown (by simp) (by simp [Value.oneCell']) (by omega) hbase fun g cap w' h1 h2 _ h4 => h g cap w' (by rw [List.map_append]; exact h1) h2 h4
end Go.Proofs.YtcdcpfcmhmhdjaaGreatDoor

/- ParseSet: the plain law: what the two readers make is one and the same. No program in sight. -/
namespace Go.Proofs.YtcdcpfcmhmhdjaaGreatDoor
open Go.RowKit
theorem dg_all (u : Nat) : ∀ b ∈ Lib.decDigits u, isDg b = true := by
  refine dec_ind (p := fun u => ∀ b ∈ Lib.decDigits u, isDg b = true) (fun u h => ?_) (fun u h ih => ?_) u
  · rw [decDigits_small h]; intro b hb; rw [List.mem_singleton.1 hb]; exact (isDg_of h).1
  · rw [decDigits_big h]
    intro b hb
    rcases List.mem_append.1 hb with h1 | h1
    · exact ih b h1
    · rw [List.mem_singleton.1 h1]; exact (isDg_of (show u % 10 < 10 from by omega)).1
theorem itoa_dg {n : Int} (h : 0 ≤ n) : ∀ b ∈ Lib.itoa n, isDg b = true := by
  obtain ⟨u, rfl⟩ : ∃ u : Nat, n = (u : Int) := ⟨n.natAbs, by omega⟩
  rw [itoa_nn]; exact dg_all u
theorem dg_ne {b c : UInt8} (h : isDg b = true) (hc : isDg c = false) : b ≠ c := by rintro rfl; rw [h] at hc; cases hc
def numV (p : List UInt8) : Int := (parseI p).getD (-100000)
theorem numV_itoa {n : Int} (h : -999999999 ≤ n) (h' : n ≤ 999999999) : numV (Lib.itoa n) = n := by unfold numV; rw [parseI_itoa h h']; rfl
/-- The numbers from a to b. -/
def rng (a b : Int) : List Int := (List.range (b - a + 1).toNat).map fun k : Nat => a + (k : Int)
theorem rng_len (a b : Int) : (rng a b).length = (b - a + 1).toNat := by simp [rng]
theorem rng_none {a b : Int} (h : b < a) : rng a b = [] := List.eq_nil_of_length_eq_zero (by rw [rng_len]; omega)
theorem rng_get {a b : Int} {k : Nat} (h : k < (rng a b).length) : (rng a b)[k] = a + (k : Int) := by simp [rng]
/-- What the first k of them are. -/
def rngK (a : Int) (k : Nat) : List Int := (List.range k).map fun k : Nat => a + (k : Int)
theorem rngK_snoc (a : Int) (k : Nat) : rngK a (k + 1) = rngK a k ++ [a + (k : Int)] := by simp [rngK, List.range_succ]
theorem rngK_all (a b : Int) : rngK a (b - a + 1).toNat = rng a b := rfl
def wA (p : List UInt8) : Int := numV ((cutL 45 p).getD 0 [])
def wB (p : List UInt8) : Int := if (cutL 45 p).length = 2 then numV ((cutL 45 p).getD 1 []) else wA p
def wOk (p : List UInt8) : Bool := decide ((cutL 45 p).length ≤ 2) && (inB (wA p) 0 23 && inB (wB p) (wA p) 23)
def specAll : List (List UInt8) → List Int → Option (List Int)
  | [], acc => some acc
  | p :: ps, acc => if wOk p then specAll ps (acc ++ rng (wA p) (wB p)) else none
def implWord (p : List UInt8) : Option (Int × Int) := match Lib.cut p [45] with
  | (f, r, is) => match parseI f with
    | none => none
    | some a => if is then (match parseI r with | none => none | some b => some (a, b)) else some (a, a)
def implAll : List (List UInt8) → List Int → Option (List Int)
  | [], acc => some acc
  | p :: ps, acc => match implWord p with
    | none => none
    | some (a, b) => if 0 ≤ a ∧ b < 24 ∧ acc.length ≤ 24 then implAll ps (acc ++ rng a b) else none
def noneT : List UInt8 := [110, 111, 110, 101]
def chk (l : List UInt8) : Option (List Int) → Option (List Int)
  | some out => if setText out = l then some out else none
  | none => none
def specSet (l : List UInt8) : Option (List Int) := if l = noneT then some [] else chk l (specAll (cutL 32 l) [])
def implSet (l : List UInt8) : Option (List Int) := if l = noneT then some [] else chk l (implAll (cutL 32 l) [])
theorem word_spec {a b : Int} (h0 : 0 ≤ a) (h1 : a ≤ b) (h2 : b ≤ 23) {p : List UInt8} (hp : (p = Lib.itoa a ∧ a = b) ∨ p = Lib.itoa a ++ 45 :: Lib.itoa b) : wOk p = true ∧ wA p = a ∧ wB p = b ∧ implWord p = some (a, b) := by
  have hd : isDg 45 = false := by decide
  have ha : ∀ x ∈ Lib.itoa a, x ≠ 45 := fun x hx => dg_ne (itoa_dg h0 x hx) hd
  have hb : ∀ x ∈ Lib.itoa b, x ≠ 45 := fun x hx => dg_ne (itoa_dg (by omega) x hx) hd
  have na := numV_itoa (n := a) (by omega) (by omega)
  have nb := numV_itoa (n := b) (by omega) (by omega)
  have pa := parseI_itoa (n := a) (by omega) (by omega)
  have pb := parseI_itoa (n := b) (by omega) (by omega)
  rcases hp with ⟨rfl, rfl⟩ | rfl
  · have hc := cutL_lone ha
    have e1 : wA (Lib.itoa a) = a := by unfold wA; rw [hc]; exact na
    have e2 : wB (Lib.itoa a) = a := by unfold wB; rw [hc, if_neg (by simp)]; exact e1
    refine ⟨?_, e1, e2, ?_⟩
    · unfold wOk; rw [hc, e1, e2, inB_mk (by omega) (by omega), inB_mk (by omega) (by omega)]; rfl
    · rcases cut_cut 45 (Lib.itoa a) with ⟨_, h⟩ | ⟨x, y, h, _, _, _⟩
      · unfold implWord; rw [h]; simp only [pa]; rfl
      · exact absurd rfl (ha 45 (by rw [h]; simp))
  · have hc : cutL 45 (Lib.itoa a ++ 45 :: Lib.itoa b) = [Lib.itoa a, Lib.itoa b] := by rw [cutL_two ha, cutL_lone hb]
    have e1 : wA (Lib.itoa a ++ 45 :: Lib.itoa b) = a := by unfold wA; rw [hc]; exact na
    have e2 : wB (Lib.itoa a ++ 45 :: Lib.itoa b) = b := by unfold wB; rw [hc]; exact nb
    refine ⟨?_, e1, e2, ?_⟩
    · unfold wOk; rw [hc, e1, e2, inB_mk (by omega) (by omega), inB_mk (by omega) (by omega)]; rfl
    · rcases cut_cut 45 (Lib.itoa a ++ 45 :: Lib.itoa b) with ⟨h, _⟩ | ⟨x, y, h, hx, h3, h4⟩
      · rw [hc] at h; simp at h
      · rw [hc] at h3
        have e3 := List.cons.inj h3
        have e4 : x = Lib.itoa a := e3.1.symm
        subst e4
        have e5 : y = Lib.itoa b := by
          have := List.append_cancel_left h
          exact ((List.cons.inj this).2).symm
        subst e5
        unfold implWord; rw [h4]; simp only [pa, pb]; rfl
theorem run_val (l : List Int) (i : Nat) : ∀ j, i ≤ j → j ≤ endOf l i → l.getD j 0 = l.getD i 0 + ((j - i : Nat) : Int) := by
  intro j h1 h2
  by_cases hij : i = j
  · subst hij; simp
  · by_cases hc : i + 1 < l.length ∧ l.getD (i + 1) 0 = l.getD i 0 + 1
    · rw [endOf_go hc.1 hc.2] at h2
      rw [run_val l (i + 1) j (by omega) h2, hc.2]
      omega
    · rw [endOf_stop hc] at h2; omega
termination_by l.length - i
decreasing_by omega
theorem take_run {l : List Int} {i : Nat} (hi : i < l.length) : l.take i ++ rng (l.getD i 0) (l.getD (endOf l i) 0) = l.take (endOf l i + 1) := by
  have he := endOf_lt l i hi
  have hg := endOf_ge l i
  have hv := run_val l i (endOf l i) hg (Nat.le_refl _)
  have hr : (rng (l.getD i 0) (l.getD (endOf l i) 0)).length = endOf l i + 1 - i := by rw [rng_len, hv]; omega
  apply List.ext_getElem
  · rw [List.length_append, hr, List.length_take, List.length_take]; omega
  · intro k h1 h2
    have hk : k < endOf l i + 1 := by rw [List.length_take] at h2; omega
    rw [List.getElem_take]
    by_cases h3 : k < i
    · rw [List.getElem_append_left (by rw [List.length_take]; omega), List.getElem_take]
    · have h4 : (l.take i).length ≤ k := by rw [List.length_take]; omega
      rw [List.getElem_append_right h4, rng_get]
      have h5 := run_val l i k (by omega) (by omega)
      rw [getD_lt (by omega : k < l.length)] at h5
      rw [h5, List.length_take]
      have : min i l.length = i := by omega
      rw [this]
theorem word_of {l : List Int} (hs : isSetB l = true) {i : Nat} (hi : i < l.length) : 0 ≤ l.getD i 0 ∧ l.getD i 0 ≤ l.getD (endOf l i) 0 ∧ l.getD (endOf l i) 0 ≤ 23 ∧ ((wordOf l i (endOf l i) = Lib.itoa (l.getD i 0) ∧ l.getD i 0 = l.getD (endOf l i) 0) ∨ wordOf l i (endOf l i) = Lib.itoa (l.getD i 0) ++ 45 :: Lib.itoa (l.getD (endOf l i) 0)) := by
  have he := endOf_lt l i hi
  have hg := endOf_ge l i
  have hv := run_val l i (endOf l i) hg (Nat.le_refl _)
  have hb := isSet_bound hs
  have b1 := hb i hi
  have b2 := hb (endOf l i) he
  rw [← getD_lt hi (d := 0)] at b1
  rw [← getD_lt he (d := 0)] at b2
  refine ⟨b1.1, by omega, b2.2, ?_⟩
  by_cases h : i < endOf l i
  · right; exact wordOf_run h
  · left
    have : endOf l i = i := by omega
    exact ⟨wordOf_lone h, by rw [this]⟩
theorem specAll_words {l : List Int} (hs : isSetB l = true) (i : Nat) (hi : i ≤ l.length) : specAll (wordsFrom l i) (l.take i) = some l := by
  by_cases h : i < l.length
  · obtain ⟨h0, h1, h2, hw⟩ := word_of hs h
    obtain ⟨k1, k2, k3, _⟩ := word_spec h0 h1 h2 hw
    rw [wordsFrom_go h, specAll, if_pos k1, k2, k3, take_run h]
    exact specAll_words hs (endOf l i + 1) (endOf_lt l i h)
  · have : i = l.length := by omega
    subst this
    rw [wordsFrom_end h, List.take_length]; rfl
termination_by l.length - i
decreasing_by have := endOf_ge l i; omega
theorem implAll_words {l : List Int} (hs : isSetB l = true) (i : Nat) (hi : i ≤ l.length) : implAll (wordsFrom l i) (l.take i) = some l := by
  by_cases h : i < l.length
  · obtain ⟨h0, h1, h2, hw⟩ := word_of hs h
    obtain ⟨_, _, _, k4⟩ := word_spec h0 h1 h2 hw
    have hl := isSetB_len hs
    rw [wordsFrom_go h, implAll, k4]
    simp only
    rw [if_pos ⟨h0, by omega, by rw [List.length_take]; omega⟩, take_run h]
    exact implAll_words hs (endOf l i + 1) (endOf_lt l i h)
  · have : i = l.length := by omega
    subst this
    rw [wordsFrom_end h, List.take_length]; rfl
termination_by l.length - i
decreasing_by have := endOf_ge l i; omega
theorem words_sp {l : List Int} (hs : isSetB l = true) (i : Nat) : ∀ w ∈ wordsFrom l i, ∀ b ∈ w, b ≠ 32 := by
  by_cases h : i < l.length
  · rw [wordsFrom_go h]
    intro w hw
    rcases List.mem_cons.1 hw with rfl | hw
    · obtain ⟨h0, h1, h2, hw⟩ := word_of hs h
      have hd : isDg 32 = false := by decide
      have ha : ∀ x ∈ Lib.itoa (l.getD i 0), x ≠ 32 := fun x hx => dg_ne (itoa_dg h0 x hx) hd
      have hb : ∀ x ∈ Lib.itoa (l.getD (endOf l i) 0), x ≠ 32 := fun x hx => dg_ne (itoa_dg (by omega) x hx) hd
      rcases hw with ⟨e, _⟩ | e
      · rw [e]; exact ha
      · rw [e]
        intro x hx
        rcases List.mem_append.1 hx with h3 | h3
        · exact ha x h3
        · rcases List.mem_cons.1 h3 with rfl | h3
          · decide
          · exact hb x h3
    · exact words_sp hs (endOf l i + 1) w hw
  · rw [wordsFrom_end h]; intro w hw; simp at hw
termination_by l.length - i
decreasing_by have := endOf_ge l i; omega
theorem cut_setText {l : List Int} (hs : isSetB l = true) (hn : l ≠ []) : cutL 32 (setText l) = wordsFrom l 0 := by
  rw [setText_yes hs hn]
  refine cutL_join _ ?_ (words_sp hs 0)
  rw [wordsFrom_go (List.length_pos_iff.2 hn)]; simp
theorem chk_some {l : List UInt8} {o : Option (List Int)} {out : List Int} (h : chk l o = some out) : o = some out ∧ setText out = l := by
  unfold chk at h
  split at h
  · split at h
    · rename_i hc; injection h with h; subst h; exact ⟨rfl, hc⟩
    · cases h
  · cases h
theorem chk_pos {l : List UInt8} {out : List Int} (h : setText out = l) : chk l (some out) = some out := if_pos h
theorem good_out {l : List UInt8} {out : List Int} (h : setText out = l) (hl : l ≠ noneT) (h0 : l ≠ []) : isSetB out = true ∧ out ≠ [] := by
  constructor
  · cases hs : isSetB out with
    | true => rfl
    | false => rw [setText_no hs] at h; exact absurd h.symm h0
  · rintro rfl; rw [setText_nil] at h; exact hl h.symm
theorem spec_nil (acc : List Int) : specAll (cutL 32 []) acc = none := by
  have : wOk [] = false := by decide +kernel
  simp [cutL, specAll, this]
theorem impl_nil (acc : List Int) : implAll (cutL 32 []) acc = none := by
  have : implWord [] = none := by decide +kernel
  simp [cutL, implAll, this]
theorem specSet_eq (l : List UInt8) : specSet l = implSet l := by
  unfold specSet implSet
  by_cases hl : l = noneT
  · rw [if_pos hl, if_pos hl]
  · rw [if_neg hl, if_neg hl]
    by_cases h0 : l = []
    · subst h0; rw [spec_nil, impl_nil]
    · cases h1 : chk l (specAll (cutL 32 l) []) with
      | some out =>
        obtain ⟨_, h3⟩ := chk_some h1
        obtain ⟨h4, h5⟩ := good_out h3 hl h0
        have h6 := implAll_words h4 0 (Nat.zero_le _)
        rw [← cut_setText h4 h5, h3] at h6
        simp only [List.take_zero] at h6
        rw [h6]; exact (chk_pos h3).symm
      | none =>
        cases h2 : chk l (implAll (cutL 32 l) []) with
        | none => rfl
        | some out =>
          obtain ⟨_, h3⟩ := chk_some h2
          obtain ⟨h4, h5⟩ := good_out h3 hl h0
          have h6 := specAll_words h4 0 (Nat.zero_le _)
          rw [← cut_setText h4 h5, h3] at h6
          simp only [List.take_zero] at h6
          rw [h6, chk_pos h3] at h1; cases h1
end Go.Proofs.YtcdcpfcmhmhdjaaGreatDoor

/- FormatRow: the walks. -/
namespace Go.Proofs.YtcdcpfcmhmhdjaaGreatDoor
open Go.RowKit
def rowText (x : DRow) : List UInt8 := if isRowB x then Lib.itoa x.id ++ [58] ++ numsText x.vals else []
theorem rowText_yes {x : DRow} (h : isRowB x = true) : rowText x = Lib.itoa x.id ++ [58] ++ numsText x.vals := by unfold rowText; rw [h]; rfl
theorem rowText_no {x : DRow} (h : isRowB x = false) : rowText x = [] := by unfold rowText; rw [h]; rfl
theorem calls_bb {P : Program} {f : FuncId} {args : Array Value} {w : World} {c b : Bool} {R : World → Prop} (h : Calls P f args w fun e w' => e = .returned (.bool c) ∧ R w') (hb : c = b) :
    Calls P f args w fun e w' => e = .returned (.bool b) ∧ R w' := hb ▸ h
end Go.Proofs.YtcdcpfcmhmhdjaaGreatDoor

/- ParseRow: the plain law: what the two readers make is one and the same. No program in sight. -/
namespace Go.Proofs.YtcdcpfcmhmhdjaaGreatDoor
open Go.RowKit
/-- All pieces read as numbers. -/
def parseAll : List (List UInt8) → Option (List Int)
  | [] => some []
  | p :: ps => match parseI p with
    | none => none
    | some n => match parseAll ps with
      | none => none
      | some r => some (n :: r)
theorem parseAll_map {xs : List Int} (h : ∀ x ∈ xs, -999999999 ≤ x ∧ x ≤ 999999999) : parseAll (xs.map Lib.itoa) = some xs := by
  induction xs with
  | nil => rfl
  | cons x r ih =>
    have hx := h x (by simp)
    rw [List.map_cons, parseAll, parseI_itoa hx.1 hx.2, ih (fun y hy => h y (by simp [hy]))]
theorem numV_map {xs : List Int} (h : ∀ x ∈ xs, -999999999 ≤ x ∧ x ≤ 999999999) : (xs.map Lib.itoa).map numV = xs := by
  induction xs with
  | nil => rfl
  | cons x r ih =>
    have hx := h x (by simp)
    rw [List.map_cons, List.map_cons, numV_itoa hx.1 hx.2, ih (fun y hy => h y (by simp [hy]))]
def rowId (l : List UInt8) : Int := numV ((cutL 58 l).getD 0 [])
def rowVals (l : List UInt8) : List Int := if (cutL 58 l).length = 2 then (cutL 44 ((cutL 58 l).getD 1 [])).map numV else []
def specRow (l : List UInt8) : Option DRow := if l ≠ [] ∧ rowText ⟨rowId l, rowVals l⟩ = l then some ⟨rowId l, rowVals l⟩ else none
def implRow (l : List UInt8) : Option DRow := match parseI (Lib.cut l [58]).1, parseAll (cutL 44 (Lib.cut l [58]).2.1) with
  | some i, some vs => if isRowB ⟨i, vs⟩ = true ∧ rowText ⟨i, vs⟩ = l then some ⟨i, vs⟩ else none
  | _, _ => none
theorem isRow_parts {r : DRow} (h : isRowB r = true) : (∀ x ∈ r.vals, 0 ≤ x ∧ x ≤ 99) ∧ (0 ≤ r.id ∧ r.id ≤ 999) ∧ r.vals.length = 3 := by
  unfold isRowB at h
  simp only [Bool.and_eq_true, decide_eq_true_eq] at h
  refine ⟨fun x hx => ?_, by have := h.2.1; simpa [inB] using this, h.2.2⟩
  obtain ⟨j, hj, rfl⟩ := List.getElem_of_mem hx
  have := allB_iff.1 h.1 j hj
  unfold valAt at this
  rw [getD_lt hj] at this
  simpa [inB] using this
theorem digits_no {c : UInt8} (hc : isDg c = false) {n : Int} (h : 0 ≤ n) : ∀ b ∈ Lib.itoa n, b ≠ c := fun b hb => dg_ne (itoa_dg h b hb) hc
theorem join_no {c s : UInt8} (hs : s ≠ c) : ∀ {ws : List (List UInt8)}, (∀ w ∈ ws, ∀ b ∈ w, b ≠ c) → ∀ b ∈ Lib.join ws [s], b ≠ c
  | [], _, b, hb => by simp [Lib.join_nil] at hb
  | x :: r, h, b, hb => by
    rw [Lib.join_cons] at hb
    rcases List.mem_append.1 hb with h1 | h1
    · exact h x (by simp) b h1
    · unfold Lib.joinTail at h1
      obtain ⟨y, hy, hb2⟩ := List.mem_flatten.1 h1
      obtain ⟨z, hz, rfl⟩ := List.mem_map.1 hy
      rcases List.mem_append.1 hb2 with h3 | h3
      · rw [List.mem_singleton.1 h3]; exact hs
      · exact h z (by simp [hz]) b h3
theorem row_cut {r : DRow} (h : isRowB r = true) : cutL 58 (rowText r) = [Lib.itoa r.id, numsText r.vals] ∧ Lib.cut (rowText r) [58] = (Lib.itoa r.id, numsText r.vals, true) ∧ cutL 44 (numsText r.vals) = r.vals.map Lib.itoa := by
  obtain ⟨h1, h2, h3⟩ := isRow_parts h
  have hne : r.vals.map Lib.itoa ≠ [] := by intro e; have := congrArg List.length e; rw [List.length_map, h3] at this; simp at this
  have d58 : ∀ b ∈ Lib.itoa r.id, b ≠ 58 := digits_no (by decide) h2.1
  have v44 : ∀ w ∈ r.vals.map Lib.itoa, ∀ b ∈ w, b ≠ 44 := by
    intro w hw; obtain ⟨x, hx, rfl⟩ := List.mem_map.1 hw; exact digits_no (by decide) (h1 x hx).1
  have v58 : ∀ w ∈ r.vals.map Lib.itoa, ∀ b ∈ w, b ≠ 58 := by
    intro w hw; obtain ⟨x, hx, rfl⟩ := List.mem_map.1 hw; exact digits_no (by decide) (h1 x hx).1
  have n58 : ∀ b ∈ numsText r.vals, b ≠ 58 := join_no (by decide) v58
  have e : rowText r = Lib.itoa r.id ++ 58 :: numsText r.vals := by rw [rowText_yes h]; simp
  have hc : cutL 58 (rowText r) = [Lib.itoa r.id, numsText r.vals] := by rw [e, cutL_two d58, cutL_lone n58]
  refine ⟨hc, ?_, cutL_join _ hne v44⟩
  rcases cut_cut 58 (rowText r) with ⟨h5, _⟩ | ⟨x, y, h5, h6, h7, h8⟩
  · rw [hc] at h5; simp at h5
  · rw [hc] at h7
    have e3 := List.cons.inj h7
    have e4 : x = Lib.itoa r.id := e3.1.symm
    subst e4
    rw [e] at h5
    have e5 : y = numsText r.vals := ((List.cons.inj (List.append_cancel_left h5)).2).symm
    rw [h8, e5]
theorem row_read {r : DRow} (h : isRowB r = true) : rowId (rowText r) = r.id ∧ rowVals (rowText r) = r.vals ∧ implRow (rowText r) = some r := by
  obtain ⟨h1, h2, h3⟩ := isRow_parts h
  obtain ⟨c1, c2, c3⟩ := row_cut h
  have hb : ∀ x ∈ r.vals, -999999999 ≤ x ∧ x ≤ 999999999 := fun x hx => by have := h1 x hx; omega
  refine ⟨?_, ?_, ?_⟩
  · unfold rowId; rw [c1]; exact numV_itoa (by omega) (by omega)
  · unfold rowVals; rw [c1]
    show (cutL 44 (numsText r.vals)).map numV = r.vals
    rw [c3, numV_map hb]
  · unfold implRow; rw [c2]
    simp only
    rw [parseI_itoa (by omega) (by omega), c3, parseAll_map hb]
    exact if_pos ⟨h, rfl⟩
theorem implRow_some {l : List UInt8} {r : DRow} (h : implRow l = some r) : isRowB r = true ∧ rowText r = l := by
  unfold implRow at h
  split at h
  · split at h
    · rename_i hc; injection h with h; subst h; exact hc
    · cases h
  · cases h
theorem specRow_eq (l : List UInt8) : specRow l = implRow l := by
  unfold specRow
  by_cases hc : l ≠ [] ∧ rowText ⟨rowId l, rowVals l⟩ = l
  · rw [if_pos hc]
    have hr : isRowB ⟨rowId l, rowVals l⟩ = true := by
      cases h : isRowB ⟨rowId l, rowVals l⟩ with
      | true => rfl
      | false => have := hc.2; rw [rowText_no h] at this; exact absurd this.symm hc.1
    have := (row_read hr).2.2
    rw [hc.2] at this
    exact this.symm
  · rw [if_neg hc]
    cases h : implRow l with
    | none => rfl
    | some r =>
      obtain ⟨h1, h2⟩ := implRow_some h
      obtain ⟨k1, k2, _⟩ := row_read h1
      rw [h2] at k1 k2
      refine absurd ⟨?_, ?_⟩ hc
      · intro e
        rw [e, rowText_yes h1] at h2
        simp at h2
      · rw [k1, k2]; exact h2
theorem implRow_len {l : List UInt8} {r : DRow} (h : implRow l = some r) : r.vals.length = 3 := (isRow_parts (implRow_some h).1).2.2
end Go.Proofs.YtcdcpfcmhmhdjaaGreatDoor

/- FormatQuery: the plain law; two strings appended in one statement. -/
namespace Go.Proofs.YtcdcpfcmhmhdjaaGreatDoor
open Go.ChangeShapes Go.WideShapes Go.RowKit Go.Deep
def fWord (c : DCond) : List UInt8 := [102] ++ Lib.itoa c.field
def rWord (c : DCond) : List UInt8 := Lib.itoa c.low ++ [46, 46] ++ Lib.itoa c.high
def condWord (c : DCond) : List UInt8 := [32, 102] ++ Lib.itoa c.field ++ [32] ++ Lib.itoa c.low ++ [46, 46] ++ Lib.itoa c.high
def headText (q : DQuery) : List UInt8 := [113] ++ Lib.itoa q.id ++ [32, 116] ++ Lib.itoa q.tenant
def condsText (cs : List DCond) : List UInt8 := (cs.map condWord).flatten
def queryText (q : DQuery) : List UInt8 := if isQueryB q then headText q ++ condsText q.conds ++ [32, 111, 117, 116, 32] ++ numsText q.out else []
theorem queryText_yes {q : DQuery} (h : isQueryB q = true) : queryText q = headText q ++ condsText q.conds ++ [32, 111, 117, 116, 32] ++ numsText q.out := by unfold queryText; rw [h]; rfl
theorem queryText_no {q : DQuery} (h : isQueryB q = false) : queryText q = [] := by unfold queryText; rw [h]; rfl
/-- The words of the first i conditions. -/
def condWords (cs : List DCond) : List (List UInt8) := (cs.map fun c => [fWord c, rWord c]).flatten
theorem condWords_tail (cs : List DCond) : Lib.joinTail [32] (condWords cs) = condsText cs := by
  induction cs with
  | nil => rfl
  | cons c r ih =>
    unfold condWords condsText at *
    unfold Lib.joinTail at *
    rw [List.map_cons, List.flatten_cons, List.map_append, List.flatten_append, ih, List.map_cons, List.flatten_cons]
    simp [condWord, fWord, rWord]
def queryWords (q : DQuery) : List (List UInt8) := [[113] ++ Lib.itoa q.id, [116] ++ Lib.itoa q.tenant] ++ condWords q.conds ++ [[111, 117, 116], numsText q.out]
theorem queryWords_join (q : DQuery) : Lib.join (queryWords q) [32] = headText q ++ condsText q.conds ++ [32, 111, 117, 116, 32] ++ numsText q.out := by
  rw [← condWords_tail]
  unfold queryWords headText
  rw [List.cons_append, List.cons_append, Lib.join_cons]
  simp [Lib.joinTail]
theorem condWord_len {c : DCond} (h1 : I64 c.field) (h2 : I64 c.low) (h3 : I64 c.high) : (condWord c).length ≤ 68 := by
  have a := itoa_len h1; have b := itoa_len h2; have d := itoa_len h3
  unfold condWord
  simp only [List.length_append, List.length_cons, List.length_nil]
  omega
theorem condsText_snoc {cs : List DCond} {i : Nat} (h : i < cs.length) : condsText (cs.take (i + 1)) = condsText (cs.take i) ++ condWord cs[i] := by
  unfold condsText
  rw [List.take_succ_eq_append_getElem h, List.map_append, List.flatten_append]; simp
theorem condWords_snoc {cs : List DCond} {i : Nat} (h : i < cs.length) : condWords (cs.take (i + 1)) = condWords (cs.take i) ++ [fWord cs[i], rWord cs[i]] := by
  unfold condWords
  rw [List.take_succ_eq_append_getElem h, List.map_append, List.flatten_append]; simp
theorem condWords_len (cs : List DCond) : (condWords cs).length = 2 * cs.length := by
  induction cs with
  | nil => rfl
  | cons c r ih => unfold condWords at *; simp only [List.map_cons, List.flatten_cons, List.length_append, ih, List.length_cons, List.length_nil]; omega
theorem condsText_len {cs : List DCond} (h : ∀ i (h : i < cs.length), I64 cs[i].field ∧ I64 cs[i].low ∧ I64 cs[i].high) : ∀ i, i ≤ cs.length → (condsText (cs.take i)).length ≤ 68 * i := by
  intro i
  induction i with
  | zero => intro _; simp [condsText]
  | succ i ih =>
    intro hi
    have h1 := ih (by omega)
    obtain ⟨a, b, c⟩ := h i hi
    have h2 := condWord_len a b c
    rw [condsText_snoc hi, List.length_append]
    omega
/-- append(out, x, y), strings. -/
theorem push_s2 {ops : Array Oper} {rest : List Oper} {o : Oper} {a : Act} {Q : Exit → Act → World → Prop} {w wr : World} (hgd : o.guard = none) (s x : Operand)
    (ho : o.op = .call { callee := .builtin .append, args := #[s, x], argTypes := #[55, 55] }) {base : Nat} {v : Value} (ns ys : List ByteArray) (hys : ys ≠ [])
    (hs : a.eval s = v) (hx : a.eval x = .slice (some ⟨wr.heap.size, 0, none⟩) ys.length ys.length) (hw : w = wr.alloc (.cells (ys.map Value.string).toArray 9)) (hown : wr.ownsRow base 9 1 v ns.length (ns.map Value.string))
    (hn : ns.length + ys.length ≤ 8796093022208) (hbase : base ≤ wr.heap.size)
    (h : ∀ g cap w', w'.ownsRow base 9 1 (.slice (some ⟨g, 0, none⟩) (ns.length + ys.length) cap) (ns.length + ys.length) ((ns ++ ys).map Value.string) → Below base wr w' → wpList Tryz.prog ops Q rest (a.put o.dst (.slice (some ⟨g, 0, none⟩) (ns.length + ys.length) cap)) w') :
    wpList Tryz.prog ops Q (o :: rest) a w := by
  have hpos : 0 < ys.length := List.length_pos_iff.2 hys
  have hi : (Tryz.prog.info? 9).map (fun i => (i.zero, i.size, i.bytes)) = some (some (.string ByteArray.empty), 1, 16) := by kernel_rfl
  obtain ⟨i, hi, hz, hs', hb'⟩ := info_parts hi
  subst hw
  have hn1 : ns.length + ys.length ≤ maxLen := by simp only [maxLen]; omega
  refine wpList_append_lies _ hgd s x 55 ho base 9 i (.string ByteArray.empty) 1 16 Tryz.underlying55 hi hz hs' hb' rfl (by decide) v ns.length (ns.map Value.string) hs (hown.alloc _) ⟨wr.heap.size, 0, none⟩ ys.length ys.length (ys.map Value.string) hx (by simp) (World.news_of_block (heap_alloc_new wr _)) (by simp [Value.oneCell']) hpos hn1 (by omega) (by simp; omega) (wr.heap.size + 1) (by simp) ?_
  intro g cap w' ho' hg hlie _
  exact h g cap w' (by rw [List.map_append]; exact ho') (((Below.refl _ _).alloc hbase _).grown hg (by simp; omega) fun k hk => (hown.lt k hk).1)
/-- A row that was made whole. -/
theorem own_made (wr : World) (bs : List ByteArray) (base : Nat) (hb : base ≤ wr.heap.size) (hm : bs.length ≤ 1000000) : (wr.alloc (.cells (bs.map Value.string).toArray 9)).ownsRow base 9 1 (.slice (some ⟨wr.heap.size, 0, none⟩) bs.length bs.length) bs.length (bs.map Value.string) :=
  ⟨by simp, .inr ⟨wr.heap.size, bs.length, _, rfl, hb, heap_alloc_new wr _, Nat.le_refl _, by simp only [maxLen]; omega, by simp, by simp only [Nat.mul_one]; exact List.take_of_length_le (by simp)⟩⟩
end Go.Proofs.YtcdcpfcmhmhdjaaGreatDoor

/- ParseQuery: the plain law: what the two readers make is one and the same. No program in sight. -/
namespace Go.Proofs.YtcdcpfcmhmhdjaaGreatDoor
open Go.RowKit
def aftS (c : UInt8) (p : List UInt8) : Int := if p.length < 2 ∨ p.head? ≠ some c then -100000 else numV (p.drop 1)
def rngS (p : List UInt8) : Int × Int := if (Lib.cut p [46, 46]).2.2 then (numV (Lib.cut p [46, 46]).1, numV (Lib.cut p [46, 46]).2.1) else (-100000, -100000)
def atW (P : List (List UInt8)) (k : Nat) : List UInt8 := P.getD k []
def qn (P : List (List UInt8)) : Nat := (P.length - 4) / 2
def qcS (P : List (List UInt8)) (k : Nat) : DCond := ⟨aftS 102 (atW P (2 + 2 * k)), (rngS (atW P (3 + 2 * k))).1, (rngS (atW P (3 + 2 * k))).2⟩
def qcsS (P : List (List UInt8)) (k : Nat) : List DCond := (List.range k).map (qcS P)
def outS3 (P : List (List UInt8)) : List Int := (cutL 44 (atW P (P.length - 1))).map numV
def qS (P : List (List UInt8)) : DQuery := ⟨aftS 113 (atW P 0), aftS 116 (atW P 1), qcsS P (qn P), outS3 P⟩
def specQuery (l : List UInt8) : Option DQuery := if 4 ≤ (cutL 32 l).length ∧ queryText (qS (cutL 32 l)) = l then some (qS (cutL 32 l)) else none
def pV (p : List UInt8) : Int := (parseI p).getD 0
def pB (p : List UInt8) : Bool := (parseI p).isSome
def aV (c : UInt8) (p : List UInt8) : Int := pV (Lib.trimPrefix p [c])
def aB (c : UInt8) (p : List UInt8) : Bool := Lib.hasPrefix p [c] && pB (Lib.trimPrefix p [c])
def qcI (P : List (List UInt8)) (k : Nat) : DCond := ⟨aV 102 (atW P (2 + 2 * k)), pV (Lib.cut (atW P (3 + 2 * k)) [46, 46]).1, pV (Lib.cut (atW P (3 + 2 * k)) [46, 46]).2.1⟩
def qcB (P : List (List UInt8)) (k : Nat) : Bool := aB 102 (atW P (2 + 2 * k)) && (pB (Lib.cut (atW P (3 + 2 * k)) [46, 46]).1 && pB (Lib.cut (atW P (3 + 2 * k)) [46, 46]).2.1)
def qcsI (P : List (List UInt8)) (k : Nat) : List DCond := (List.range k).map (qcI P)
def okC (P : List (List UInt8)) (k : Nat) : Bool := (List.range k).all (qcB P)
def outI (P : List (List UInt8)) : Option (List Int) := parseAll (cutL 44 (atW P (P.length - 1)))
def hdB (P : List (List UInt8)) : Bool := aB 113 (atW P 0) && (aB 116 (atW P 1) && (outI P).isSome)
def qI (P : List (List UInt8)) : DQuery := ⟨aV 113 (atW P 0), aV 116 (atW P 1), qcsI P (qn P), (outI P).getD []⟩
def okI (P : List (List UInt8)) : Bool := hdB P && okC P (qn P)
def fitB (P : List (List UInt8)) : Bool := decide (4 ≤ P.length ∧ P.length % 2 = 0 ∧ P.length ≤ 10)
def implQuery (l : List UInt8) : Option DQuery := if fitB (cutL 32 l) = true ∧ okI (cutL 32 l) = true ∧ isQueryB (qI (cutL 32 l)) = true ∧ queryText (qI (cutL 32 l)) = l then some (qI (cutL 32 l)) else none
theorem aft_read {c : UInt8} {n : Int} (h : -999999999 ≤ n) (h' : n ≤ 999999999) : aftS c (c :: Lib.itoa n) = n ∧ aV c (c :: Lib.itoa n) = n ∧ aB c (c :: Lib.itoa n) = true := by
  have hp := parseI_itoa h h'
  have hne : Lib.itoa n ≠ [] := by
    intro e
    have := (parseI_some hp)
    by_cases k : n < 0
    · obtain ⟨u, rfl⟩ : ∃ u : Nat, n = -(u : Int) := ⟨n.natAbs, by omega⟩
      rw [itoa_neg (by omega)] at e; cases e
    · obtain ⟨u, rfl⟩ : ∃ u : Nat, n = (u : Int) := ⟨n.natAbs, by omega⟩
      rw [itoa_nn] at e; exact decDigits_ne u e
  have hl : 0 < (Lib.itoa n).length := List.length_pos_iff.2 hne
  have ht : Lib.trimPrefix (c :: Lib.itoa n) [c] = Lib.itoa n := by unfold Lib.trimPrefix Lib.hasPrefix; simp [List.isPrefixOf]
  have hh : Lib.hasPrefix (c :: Lib.itoa n) [c] = true := by unfold Lib.hasPrefix; simp [List.isPrefixOf]
  refine ⟨?_, ?_, ?_⟩
  · unfold aftS
    rw [if_neg (by simp; omega)]
    show numV (Lib.itoa n) = n
    exact numV_itoa h h'
  · unfold aV pV; rw [ht, hp]; rfl
  · unfold aB pB; rw [ht, hp, hh]; rfl
theorem dots_index {b : List UInt8} : ∀ {a : List UInt8}, (∀ x ∈ a, x ≠ 46) → Lib.index (a ++ 46 :: 46 :: b) [46, 46] = (a.length : Int)
  | [], _ => by rw [List.nil_append, Lib.index]; simp [List.isPrefixOf]
  | x :: a, h => by
    have ih := dots_index (b := b) (a := a) (fun y hy => h y (by simp [hy]))
    have hx : x ≠ 46 := h x (by simp)
    rw [List.cons_append, Lib.index, if_neg (by simp [List.isPrefixOf]; exact fun e => absurd e.symm hx), ih, if_neg (by simp)]
    simp
theorem dots_cut {a b : List UInt8} (h : ∀ x ∈ a, x ≠ 46) : Lib.cut (a ++ 46 :: 46 :: b) [46, 46] = (a, b, true) := by
  unfold Lib.cut
  rw [dots_index h, if_pos (Int.natCast_nonneg _)]
  simp [List.drop_append]
theorem rng_read {x y : Int} (h1 : 0 ≤ x) (_ : x ≤ 999999999) (_ : 0 ≤ y) (_ : y ≤ 999999999) : Lib.cut (Lib.itoa x ++ [46, 46] ++ Lib.itoa y) [46, 46] = (Lib.itoa x, Lib.itoa y, true) := by
  have e : Lib.itoa x ++ [46, 46] ++ Lib.itoa y = Lib.itoa x ++ 46 :: 46 :: Lib.itoa y := by simp
  rw [e]; exact dots_cut (digits_no (by decide) h1)
theorem cw_get : ∀ (cs : List DCond) (t : List (List UInt8)) (k : Nat) (h : k < cs.length), (condWords cs ++ t).getD (2 * k) [] = fWord cs[k] ∧ (condWords cs ++ t).getD (2 * k + 1) [] = rWord cs[k]
  | [], _, _, h => absurd h (Nat.not_lt_zero _)
  | c :: r, t, k, h => by
    have e : condWords (c :: r) ++ t = fWord c :: rWord c :: (condWords r ++ t) := by unfold condWords; simp
    rw [e]
    cases k with
    | zero => exact ⟨rfl, rfl⟩
    | succ k =>
      have ih := cw_get r t k (by simpa using h)
      have e2 : 2 * (k + 1) = 2 * k + 1 + 1 := by omega
      rw [e2]
      exact ⟨ih.1, ih.2⟩
theorem qw_len (q : DQuery) : (queryWords q).length = 4 + 2 * q.conds.length := by unfold queryWords; simp [condWords_len]; omega
theorem qw_get (q : DQuery) : atW (queryWords q) 0 = 113 :: Lib.itoa q.id ∧ atW (queryWords q) 1 = 116 :: Lib.itoa q.tenant ∧ atW (queryWords q) ((queryWords q).length - 1) = numsText q.out ∧ ∀ k (h : k < q.conds.length), atW (queryWords q) (2 + 2 * k) = fWord q.conds[k] ∧ atW (queryWords q) (3 + 2 * k) = rWord q.conds[k] := by
  refine ⟨rfl, rfl, ?_, fun k h => ?_⟩
  · rw [qw_len]
    unfold atW queryWords
    rw [List.getD_eq_getElem?_getD, List.getElem?_append_right (by simp [condWords_len]; omega)]
    have e : 4 + 2 * q.conds.length - 1 - ([[113] ++ Lib.itoa q.id, [116] ++ Lib.itoa q.tenant] ++ condWords q.conds).length = 1 := by simp [condWords_len]; omega
    rw [e]; rfl
  · have e : queryWords q = ([113] ++ Lib.itoa q.id) :: ([116] ++ Lib.itoa q.tenant) :: (condWords q.conds ++ [[111, 117, 116], numsText q.out]) := by unfold queryWords; simp
    have e1 : 2 + 2 * k = 2 * k + 1 + 1 := by omega
    have e2 : 3 + 2 * k = 2 * k + 1 + 1 + 1 := by omega
    unfold atW
    rw [e, e1, e2]
    exact cw_get q.conds _ k h
theorem qw_no {q : DQuery} (h : isQueryB q = true) : ∀ w ∈ queryWords q, ∀ b ∈ w, b ≠ 32 := by
  obtain ⟨h1, h2, _, h4, _, _⟩ := isQueryB_parts h
  have ht : 0 ≤ q.tenant := by
    unfold isQueryB at h
    simp only [Bool.and_eq_true] at h
    have := inB_true h.2.2.1; omega
  have hd : ∀ {n : Int}, 0 ≤ n → ∀ b ∈ Lib.itoa n, b ≠ 32 := fun h => digits_no (by decide) h
  intro w hw b hb
  unfold queryWords at hw
  simp only [List.mem_append, List.mem_cons, List.not_mem_nil, or_false] at hw
  rcases hw with (hw | hw) | hw
  · rcases hw with rfl | rfl
    · rcases List.mem_append.1 hb with k | k
      · rw [List.mem_singleton.1 k]; decide
      · exact hd h2.1 b k
    · rcases List.mem_append.1 hb with k | k
      · rw [List.mem_singleton.1 k]; decide
      · exact hd ht b k
  · unfold condWords at hw
    obtain ⟨z, hz, hwz⟩ := List.mem_flatten.1 hw
    obtain ⟨c, hc, rfl⟩ := List.mem_map.1 hz
    obtain ⟨j, hj, rfl⟩ := List.getElem_of_mem hc
    have hp := isCondB_parts (h1 j hj)
    simp only [List.mem_cons, List.not_mem_nil, or_false] at hwz
    rcases hwz with rfl | rfl
    · unfold fWord at hb
      rcases List.mem_append.1 hb with k | k
      · rw [List.mem_singleton.1 k]; decide
      · exact hd hp.1 b k
    · unfold rWord at hb
      simp only [List.mem_append, List.mem_cons, List.not_mem_nil, or_false] at hb
      rcases hb with (k | k | k) | k
      · exact hd hp.2.2.1 b k
      · rw [k]; decide
      · rw [k]; decide
      · exact hd (by omega) b k
  · rcases hw with rfl | rfl
    · simp only [List.mem_cons, List.not_mem_nil, or_false] at hb
      rcases hb with rfl | rfl | rfl <;> decide
    · refine join_no (by decide) (fun w hw => ?_) b hb
      obtain ⟨x, hx, rfl⟩ := List.mem_map.1 hw
      obtain ⟨j, hj, rfl⟩ := List.getElem_of_mem hx
      exact hd (h4 j hj).1
theorem query_cut {q : DQuery} (h : isQueryB q = true) : cutL 32 (queryText q) = queryWords q := by
  rw [queryText_yes h, ← queryWords_join]
  exact cutL_join _ (by unfold queryWords; simp) (qw_no h)
theorem query_read {q : DQuery} (h : isQueryB q = true) : qS (queryWords q) = q ∧ qI (queryWords q) = q ∧ okI (queryWords q) = true ∧ fitB (queryWords q) = true := by
  obtain ⟨h1, h2, h3, h4, h5, h6⟩ := isQueryB_parts h
  have ht : 0 ≤ q.tenant ∧ q.tenant ≤ 3 := by
    unfold isQueryB at h
    simp only [Bool.and_eq_true] at h
    exact inB_true h.2.2.1
  obtain ⟨g0, g1, gz, gk⟩ := qw_get q
  have hn : qn (queryWords q) = q.conds.length := by unfold qn; rw [qw_len]; omega
  have hb : ∀ x ∈ q.out, -999999999 ≤ x ∧ x ≤ 999999999 := fun x hx => by
    obtain ⟨j, hj, rfl⟩ := List.getElem_of_mem hx
    have := h4 j hj; omega
  have hc : cutL 44 (numsText q.out) = q.out.map Lib.itoa := by
    refine cutL_join _ (by intro e; have := congrArg List.length e; rw [List.length_map] at this; simp at this; rw [this] at h5; simp at h5) ?_
    intro w hw; obtain ⟨x, hx, rfl⟩ := List.mem_map.1 hw
    obtain ⟨j, hj, rfl⟩ := List.getElem_of_mem hx
    exact digits_no (by decide) (h4 j hj).1
  have ho1 : outS3 (queryWords q) = q.out := by unfold outS3; rw [gz, hc, numV_map hb]
  have ho2 : outI (queryWords q) = some q.out := by unfold outI; rw [gz, hc, parseAll_map hb]
  obtain ⟨i1, i2, i3⟩ := aft_read (c := 113) (n := q.id) (by omega) (by omega)
  obtain ⟨t1, t2, t3⟩ := aft_read (c := 116) (n := q.tenant) (by omega) (by omega)
  have hk : ∀ k (hk : k < q.conds.length), qcS (queryWords q) k = q.conds[k] ∧ qcI (queryWords q) k = q.conds[k] ∧ qcB (queryWords q) k = true := fun k hk => by
    obtain ⟨f, r⟩ := gk k hk
    have hp := isCondB_parts (h1 k hk)
    obtain ⟨a1, a2, a3⟩ := aft_read (c := 102) (n := q.conds[k].field) (by omega) (by omega)
    have hr := rng_read (x := q.conds[k].low) (y := q.conds[k].high) (by omega) (by omega) (by omega) (by omega)
    have n1 := numV_itoa (n := q.conds[k].low) (by omega) (by omega)
    have n2 := numV_itoa (n := q.conds[k].high) (by omega) (by omega)
    have p1 := parseI_itoa (n := q.conds[k].low) (by omega) (by omega)
    have p2 := parseI_itoa (n := q.conds[k].high) (by omega) (by omega)
    have ef : fWord q.conds[k] = 102 :: Lib.itoa q.conds[k].field := rfl
    refine ⟨?_, ?_, ?_⟩
    · unfold qcS rngS; rw [f, r, ef, a1]; unfold rWord; rw [hr]; simp [n1, n2]
    · unfold qcI pV; rw [f, r, ef, a2]; unfold rWord; rw [hr]; simp [p1, p2]
    · unfold qcB pB; rw [f, r, ef, a3]; unfold rWord; rw [hr]; simp [p1, p2]
  have hs : qcsS (queryWords q) (qn (queryWords q)) = q.conds := by
    unfold qcsS; rw [hn]
    apply List.ext_getElem
    · simp
    · intro k a b; rw [List.getElem_map, List.getElem_range]; exact (hk k b).1
  have hi : qcsI (queryWords q) (qn (queryWords q)) = q.conds := by
    unfold qcsI; rw [hn]
    apply List.ext_getElem
    · simp
    · intro k a b; rw [List.getElem_map, List.getElem_range]; exact (hk k b).2.1
  have hok : okC (queryWords q) (qn (queryWords q)) = true := by
    unfold okC; rw [hn, List.all_eq_true]
    intro k hk2
    exact (hk k (List.mem_range.1 hk2)).2.2
  refine ⟨?_, ?_, ?_, ?_⟩
  · unfold qS; rw [g0, g1, i1, t1, hs, ho1]
  · unfold qI; rw [g0, g1, i2, t2, hi, ho2]; rfl
  · unfold okI hdB; rw [g0, g1, i3, t3, hok, ho2]; rfl
  · unfold fitB; rw [qw_len]; exact decide_eq_true (by omega)
theorem implQuery_some {l : List UInt8} {q : DQuery} (h : implQuery l = some q) : isQueryB q = true ∧ queryText q = l := by
  unfold implQuery at h
  split at h
  · rename_i hc; injection h with h; subst h; exact ⟨hc.2.2.1, hc.2.2.2⟩
  · cases h
theorem specQuery_eq (l : List UInt8) : specQuery l = implQuery l := by
  unfold specQuery
  by_cases hc : 4 ≤ (cutL 32 l).length ∧ queryText (qS (cutL 32 l)) = l
  · rw [if_pos hc]
    have hr : isQueryB (qS (cutL 32 l)) = true := by
      cases h : isQueryB (qS (cutL 32 l)) with
      | true => rfl
      | false =>
        have h2 := hc.2
        rw [queryText_no h] at h2
        have h3 := hc.1
        rw [← h2] at h3
        simp [cutL] at h3
    have hcut := query_cut hr
    rw [hc.2] at hcut
    obtain ⟨_, k2, k3, k4⟩ := query_read hr
    rw [← hcut] at k2 k3 k4
    unfold implQuery
    rw [k2, if_pos ⟨k4, k3, hr, hc.2⟩]
  · rw [if_neg hc]
    cases h : implQuery l with
    | none => rfl
    | some q =>
      obtain ⟨h1, h2⟩ := implQuery_some h
      have hcut := query_cut h1
      rw [h2] at hcut
      obtain ⟨k1, _, _, _⟩ := query_read h1
      refine absurd ⟨?_, ?_⟩ hc
      · rw [hcut, qw_len]; omega
      · rw [hcut, k1]; exact h2
end Go.Proofs.YtcdcpfcmhmhdjaaGreatDoor

/- A query alone gets what matches, in order; its text is read back: the plain laws. No program in sight. -/
namespace Go.Proofs.YtcdcpfcmhmhdjaaGreatDoor
open Go.RowKit
theorem query_back (q : DQuery) : (implQuery (queryText q)).isSome = isQueryB q := by
  cases h : isQueryB q with
  | true =>
    obtain ⟨_, h2, h3, h4⟩ := query_read h
    unfold implQuery
    rw [query_cut h, h2, if_pos ⟨h4, h3, h, rfl⟩]; rfl
  | false =>
    cases hp : implQuery (queryText q) with
    | none => rfl
    | some r =>
      obtain ⟨h1, h2⟩ := implQuery_some hp
      have e : queryText q = [] := by unfold queryText; rw [h]; rfl
      rw [e] at h2
      have := query_cut h1
      rw [h2] at this
      have hl := congrArg List.length this
      rw [qw_len] at hl
      simp [cutL] at hl
      omega
theorem query_text {q r : DQuery} (h : implQuery (queryText q) = some r) : queryText r = queryText q := (implQuery_some h).2
theorem sortR_sorted {l : List DRow} (h : UpR l) : sortR l = l := (sortR_eq (List.Perm.refl l) h).symm
theorem answer_sorted (q : DQuery) (xs : List DRow) : sortR (answerL q xs) = answerL q xs := sortR_sorted (sortR_up _)
theorem answer_len (q : DQuery) (xs : List DRow) : (answerL q xs).length = (ansTo q xs xs.length).length := sortR_len _
/-- How many of the first k rows match. -/
def cntTo (q : DQuery) (xs : List DRow) (k : Nat) : Nat := (ansTo q xs k).length
theorem cntTo_yes {q : DQuery} {xs : List DRow} {k : Nat} (h : k < xs.length) (hm : matchB q xs[k] = true) : cntTo q xs (k + 1) = cntTo q xs k + 1 := by
  unfold cntTo; rw [ansTo_yes h hm]; simp
theorem cntTo_no {q : DQuery} {xs : List DRow} {k : Nat} (h : k < xs.length) (hm : matchB q xs[k] = false) : cntTo q xs (k + 1) = cntTo q xs k := by
  unfold cntTo; rw [ansTo_no h hm]
theorem cntTo_le (q : DQuery) (xs : List DRow) (k : Nat) : cntTo q xs k ≤ xs.length := ansTo_len q xs k
end Go.Proofs.YtcdcpfcmhmhdjaaGreatDoor

/- FormatSpans: the walks. -/
namespace Go.Proofs.YtcdcpfcmhmhdjaaGreatDoor
open Go.RowKit
theorem calls_str {P : Program} {f : FuncId} {args : Array Value} {w : World} {c b : List UInt8} {R : World → Prop} (h : Calls P f args w fun e w' => e = .returned (.string ⟨c.toArray⟩) ∧ R w') (hb : c = b) :
    Calls P f args w fun e w' => e = .returned (.string ⟨b.toArray⟩) ∧ R w' := hb ▸ h
theorem cat6 (a b c d e f : List UInt8) : (⟨a.toArray⟩ : ByteArray) ++ ⟨b.toArray⟩ ++ ⟨c.toArray⟩ ++ ⟨d.toArray⟩ ++ ⟨e.toArray⟩ ++ ⟨f.toArray⟩ = ⟨(a ++ b ++ c ++ d ++ e ++ f).toArray⟩ := by rw [cat5, ba_append]
theorem cat7 (a b c d e f g : List UInt8) : (⟨a.toArray⟩ : ByteArray) ++ ⟨b.toArray⟩ ++ ⟨c.toArray⟩ ++ ⟨d.toArray⟩ ++ ⟨e.toArray⟩ ++ ⟨f.toArray⟩ ++ ⟨g.toArray⟩ = ⟨(a ++ b ++ c ++ d ++ e ++ f ++ g).toArray⟩ := by rw [cat6, ba_append]
end Go.Proofs.YtcdcpfcmhmhdjaaGreatDoor

/- FormatSpans: the program's walk. -/
namespace Go.Proofs.YtcdcpfcmhmhdjaaGreatDoor
open Go.RowKit
theorem cell_kept {w w' : World} {o : Option Nat} {X i : Nat} {val : Value} (hk : ∀ k, k < w.heap.size → o ≠ some k → w'.heap[k]? = w.heap[k]?) (hne : o ≠ some X) (hc : w.cell? ⟨X, i, none⟩ = some val) : w'.cell? ⟨X, i, none⟩ = some val := by
  rw [World.cell?_of_block (w := w) (hk X (World.block_lt_of_cell? w _ hc) hne)]; exact hc
end Go.Proofs.YtcdcpfcmhmhdjaaGreatDoor

/- FormatQuery: the walks. -/
namespace Go.Proofs.YtcdcpfcmhmhdjaaGreatDoor
open Go.RowKit
set_option maxRecDepth 100000 in
set_option maxHeartbeats 2000000 in
theorem spec_FormatQuery (x : DQuery) (u u' : Value) (w : World) (hu : RConds w u x.conds) (hu' : RInts w u' x.out) (hb : totQuery x ≤ 1048576) (hi : I64 x.id ∧ I64 x.tenant) :
    Calls Tryz.prog 14 #[.agg #[.int .i64 x.id, .int .i64 x.tenant, u, u']] w fun e w' => e = .returned (.string ⟨(queryText x).toArray⟩) ∧ Gr w w' := by
  have HU := Lib.hid hu
  have HO := Lib.hid hu'
  have HI := Lib.hid hi.1
  have HT := Lib.hid hi.2
  have HBO : Hid (x.out.length ≤ 1048576) := Lib.hid (by unfold totQuery at hb; omega)
  have HBC : Hid (x.conds.length ≤ 1048576) := Lib.hid (by unfold totQuery at hb; omega)
  have HN : Hid ((numsText x.out).length ≤ 22 * x.out.length) := Lib.hid (numsText_len (fun i h => by obtain ⟨a, c, _, _, _, hx⟩ := hu'.open; obtain ⟨_, _, _, _, h⟩ := hx i h; exact h))
  have HC64 : Hid (∀ i (h : i < x.conds.length), I64 x.conds[i].field ∧ I64 x.conds[i].low ∧ I64 x.conds[i].high) := Lib.hid (fun i h => by
    obtain ⟨_, _, _, _, _, hx⟩ := hu
    obtain ⟨_, _, _, _, _, ⟨_, h1, h2, h3⟩, _⟩ := hx i h
    exact ⟨h1, h2, h3⟩)
  obtain ⟨ua, uc, rfl, hl, hm, hx⟩ := hu
  obtain ⟨oa, on, oc, rfl⟩ := hu'.isSl
  have g0 : Gr w (w.alloc (.cells #[.int .i64 x.id, .int .i64 x.tenant, .slice ua x.conds.length uc, .slice oa on oc] 27)) := (Gr.refl w).alloc _
  have HX := Lib.hid hx
  clear hi hb hu' hx
  cases h1 : isQueryB x with
  | false =>
    have H1 := Lib.hid h1
    have HR := Lib.hid (queryText_no h1)
    clear h1
    go_enter Tryz.func14, Tryz.ntmps14
    go_wp2_with fail
    refine (spec_IsQuery_of H1.out _ _ _ (RSlice.mono keeps_cond g0 HU.out) (RSlice.mono keeps_int g0 HO.out)).mono ?_
    rintro e w1 ⟨rfl, g1⟩
    go_wp2_with fail
    go_ret
    exact ⟨ret_str (by rw [HR.out]), g0.trans g1⟩
  | true =>
    have H1 := Lib.hid h1
    have HR := Lib.hid (queryText_yes h1)
    clear h1
    go_enter Tryz.func14, Tryz.ntmps14
    go_wp2_with fail
    refine (spec_IsQuery_of H1.out _ _ _ (RSlice.mono keeps_cond g0 HU.out) (RSlice.mono keeps_int g0 HO.out)).mono ?_
    rintro e w1 ⟨rfl, g1⟩
    have b0 : w1.cell? ⟨w.heap.size, 0, none⟩ = some (.int .i64 x.id) := g1.cellv (by simp [go_sem])
    have b1 : w1.cell? ⟨w.heap.size, 1, none⟩ = some (.int .i64 x.tenant) := g1.cellv (by simp [go_sem])
    have b2 : w1.cell? ⟨w.heap.size, 2, none⟩ = some (.slice ua x.conds.length uc) := g1.cellv (by simp [go_sem])
    have b3 : w1.cell? ⟨w.heap.size, 3, none⟩ = some (.slice oa on oc) := g1.cellv (by simp [go_sem])
    have n1 := itoa_len HI.out
    have n2 := itoa_len HT.out
    have l1 : ¬ 9223372036854775807 < 1 + (Lib.itoa x.id).length := by omega
    have l2 : ¬ 9223372036854775807 < 1 + (Lib.itoa x.id).length + 2 := by omega
    have l3 : ¬ 9223372036854775807 < 1 + (Lib.itoa x.id).length + 2 + (Lib.itoa x.tenant).length := by omega
    have HHL : Hid ((headText x).length ≤ 45) := Lib.hid (by unfold headText; simp only [List.length_append, List.length_cons, List.length_nil]; omega)
    clear n1 n2
    have G1 := Lib.hid (g0.trans g1)
    clear g0 g1
    go_wp2_with fail
    have q0 := fun q : Ext w1 => Ext.cell b0 q
    have q1 := fun q : Ext w1 => Ext.cell b1 q
    refine wp_region_ext (by kernel_rfl) (by kernel_rfl) ?_
    repeat (go_big_quiet_step ((go_at_call 40; first | with_reducible exact quiet_ext (spec_FormatInt x.id _ HI.out) | with_reducible exact quiet_ext (spec_FormatInt x.tenant _ HT.out))))
    refine wpQuiet_nil ?_
    intro w2 hw2
    have g2 := Ext.out hw2
    clear hw2 q0 q1 l1 l2 l3
    have d2 := g2.cellv b2
    have d3 := g2.cellv b3
    have G2 := Lib.hid (G1.out.trans g2)
    clear b0 b1 b2 b3 g2
    go_wp2_with fail
    go_loopw [3, 4] (fun sv iv wr => ∃ (k : Nat) (S : List UInt8), k ≤ x.conds.length ∧ iv = .int .i64 k ∧ sv = .string ⟨S.toArray⟩ ∧ Hid (S = headText x ++ condsText (x.conds.take k)) ∧ Gr w2 wr) (fun _ i _ => x.conds.length - (intOf i).toNat)
    case atStart => exact ⟨0, _, Nat.zero_le _, rfl, congrArg Value.string (cat4 [113] _ [32, 116] _), Lib.hid (by unfold headText condsText; simp), Gr.refl _⟩
    case round =>
      obtain ⟨k, S, hk, rfl, rfl, hst, hg⟩ := hrel
      have hgr := Lib.hid (G2.out.trans hg)
      have e2 := hg.cellv d2
      have e3 := hg.cellv d3
      have n5 : S.length ≤ 45 + 68 * k := by
        have h1 := condsText_len HC64.out k hk
        have h2 := HHL.out
        rw [hst.out, List.length_append]; omega
      by_cases hlt : k < x.conds.length
      · obtain ⟨b, off, cs, rfl, hlen, ⟨rfl, i_field, i_low, i_high⟩, hc⟩ := HX.out k hlt
        have c0 := hgr.out.cellv (hc 0 (by simp))
        have c1 := hgr.out.cellv (hc 1 (by simp))
        have c2 := hgr.out.cellv (hc 2 (by simp))
        simp only [Nat.add_zero, List.getElem_cons_zero, List.getElem_cons_succ] at c0 c1 c2
        obtain ⟨s, hs⟩ : ∃ s, s = x.conds[k] := ⟨_, rfl⟩
        rw [← hs] at c0 c1 c2 i_field i_low i_high
        have I1 := Lib.hid i_field
        have I2 := Lib.hid i_low
        have I3 := Lib.hid i_high
        have HS := Lib.hid hs
        have HL := Lib.hid hlt
        have n1 := itoa_len I1.out
        have n2 := itoa_len I2.out
        have n3 := itoa_len I3.out
        have n6 : S.length ≤ 71303213 := by have := HBC.out; omega
        have m1 : ¬ 9223372036854775807 < S.length + 2 := by omega
        have m2 : ¬ 9223372036854775807 < S.length + 2 + (Lib.itoa s.field).length := by omega
        have m3 : ¬ 9223372036854775807 < S.length + 2 + (Lib.itoa s.field).length + 1 := by omega
        have m4 : ¬ 9223372036854775807 < S.length + 2 + (Lib.itoa s.field).length + 1 + (Lib.itoa s.low).length := by omega
        have m5 : ¬ 9223372036854775807 < S.length + 2 + (Lib.itoa s.field).length + 1 + (Lib.itoa s.low).length + 2 := by omega
        have m6 : ¬ 9223372036854775807 < S.length + 2 + (Lib.itoa s.field).length + 1 + (Lib.itoa s.low).length + 2 + (Lib.itoa s.high).length := by omega
        have p0 : (0 : Int) ≤ (k : Int) := Int.natCast_nonneg _
        have p1 : (k : Int) < (x.conds.length : Int) := by omega
        have hnx : Hid (S ++ ([32, 102] ++ Lib.itoa s.field ++ [32] ++ Lib.itoa s.low ++ [46, 46] ++ Lib.itoa s.high) = headText x ++ condsText (x.conds.take (k + 1))) := Lib.hid (by
          rw [condsText_snoc hlt, hst.out, hs]; unfold condWord; simp)
        clear hs i_field i_low i_high n1 n2 n3 n5 n6 hc hlen hk
        go_wp2_with fail
        have q2 := fun q : Ext wr => Ext.cell e2 q
        have r0 := fun q : Ext wr => Ext.cell c0 q
        have r1 := fun q : Ext wr => Ext.cell c1 q
        have r2 := fun q : Ext wr => Ext.cell c2 q
        refine wp_region_ext (by kernel_rfl) (by kernel_rfl) ?_
        repeat (go_big_quiet_step ((go_at_call 40; first | with_reducible exact quiet_ext (spec_FormatInt s.field _ I1.out) | with_reducible exact quiet_ext (spec_FormatInt s.low _ I2.out) | with_reducible exact quiet_ext (spec_FormatInt s.high _ I3.out))))
        refine wpQuiet_nil ?_
        intro w3 hw3
        have g3 := Ext.out hw3
        clear hw3 q2 r0 r1 r2
        go_wp2_with fail
        go_roundw
        case rel => exact ⟨k + 1, _, HL.out, rfl, congrArg Value.string (cat7 S [32, 102] _ [32] _ [46, 46] _), Lib.hid (by have h := hnx.out; simpa using h), hg.trans g3⟩
        case measure => have := HL.out; simp only [intOf]; omega
      · obtain rfl : k = x.conds.length := by omega
        have n6 : S.length ≤ 71303213 := by have := HBC.out; omega
        have n7 : (numsText x.out).length ≤ 23068672 := by have := HN.out; have := HBO.out; omega
        have m1 : ¬ 9223372036854775807 < S.length + 5 := by omega
        have m2 : ¬ 9223372036854775807 < S.length + 5 + (numsText x.out).length := by omega
        have HE : Hid (queryText x = S ++ [32, 111, 117, 116, 32] ++ numsText x.out) := Lib.hid (by rw [HR.out, hst.out, List.take_length])
        clear n5 n6 n7 hlt hk
        go_wp2_with fail
        refine (spec_l3List _ x.out _ (RSlice.mono keeps_int hgr.out HO.out) HBO.out).mono ?_
        rintro e w3 ⟨rfl, g3⟩
        go_wp2_with fail
        go_ret
        exact ⟨ret_str (by rw [HE.out]; exact cat3 S [32, 111, 117, 116, 32] _), hgr.out.trans g3⟩
end Go.Proofs.YtcdcpfcmhmhdjaaGreatDoor
