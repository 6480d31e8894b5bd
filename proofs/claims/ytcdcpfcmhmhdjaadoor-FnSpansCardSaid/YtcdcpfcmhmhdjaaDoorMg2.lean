/- FormatInt: the reference's walk; the program's is the library's contract. -/
import Derived.Test.YtcdcpfcmhmhdjaaDoorMg0
import Derived.Test.YtcdcpfcmhmhdjaaDoorOwn
import Derived.Test.YtcdcpfcmhmhdjaaDoorMg1
import Derived.Test.YtcdcpfcmhmhdjaaDoorInts
import Derived.Lib.Join
import Derived.Test.YtcdcpfcmhmhdjaaDoorPriv
namespace Go.Proofs.YtcdcpfcmhmhdjaaDoor
open Go.RowKit
theorem tmod_cases (m : Int) : m.tmod 10 = ((m.natAbs % 10 : Nat) : Int) ∨ (m.tmod 10 = -((m.natAbs % 10 : Nat) : Int) ∧ 0 < m.natAbs % 10) := by
  by_cases h : m < 0
  · obtain ⟨u, rfl⟩ : ∃ u : Nat, m = -(u : Int) := ⟨m.natAbs, by omega⟩
    have e : (-(u : Int)).tmod 10 = -((u % 10 : Nat) : Int) := by rw [Int.neg_tmod]; rfl
    rw [e, Int.natAbs_neg, Int.natAbs_natCast]
    by_cases h0 : u % 10 = 0
    · left; rw [h0]; rfl
    · right; exact ⟨rfl, by omega⟩
  · obtain ⟨u, rfl⟩ : ∃ u : Nat, m = (u : Int) := ⟨m.natAbs, by omega⟩
    left; rfl
theorem tdiv_natAbs (m : Int) : (m.tdiv 10).natAbs = m.natAbs / 10 := by rw [Int.natAbs_tdiv]; rfl
theorem str_cons (d : Nat) (out : List UInt8) : strOfNums [48 + (d : Int)] ++ ⟨out.toArray⟩ = (⟨(dgB d :: out).toArray⟩ : ByteArray) := by
  have e : (48 + (d : Int)).toNat = 48 + d := by omega
  have h := ba_append [dgB d] out
  rw [← show strOfNums [48 + (d : Int)] = ⟨[dgB d].toArray⟩ by simp only [strOfNums, List.map_cons, List.map_nil, e]; rfl] at h
  exact h
theorem tdiv_i64 {m : Int} (h : I64 m) : I64 (m.tdiv 10) := by
  have := tdiv_natAbs m
  unfold I64 at *
  omega
theorem impl_FormatInt (n : Int) (w : World) (hn : I64 n) (hT : Tens Tryd.prog w) : Calls Tryd.prog 32 #[.int .i64 n] w fun e w' => e = .returned (.string ⟨(Lib.itoa n).toArray⟩) ∧ Gr w w' := by
  have HT := Lib.hid hT
  have HN := Lib.hid hn
  go_enter Tryd.func32, Tryd.ntmps32
  go_wp2_with fail
  refine (Tryd.strconv_Itoa n HN.out.1 HN.out.2 w HT.out).mono ?_
  rintro e w1 ⟨rfl, k, os, rfl⟩
  go_wp2_with fail
  go_ret
  exact ⟨rfl, grown_gr w k os⟩
set_option maxRecDepth 100000 in
theorem spec_FormatInt (n : Int) (w : World) (hn : I64 n) : Calls Tryd.prog 34 #[.int .i64 n] w fun e w' => e = .returned (.string ⟨(Lib.itoa n).toArray⟩) ∧ Gr w w' := by
  by_cases h0 : n = 0
  · subst h0
    go_enter Tryd.func34, Tryd.ntmps34
    go_wp2_with fail
    go_ret
    exact ⟨ret_str (by decide +kernel), Gr.refl w⟩
  · have hd0 : (n == 0) = false := by simpa using h0
    have HI := Lib.hid hn
    have H0 := Lib.hid h0
    clear h0
    go_enter Tryd.func34, Tryd.ntmps34
    go_wp2_with fail
    go_loopw [0, 3] (fun v o wr => ∃ (m : Int) (out : List UInt8), v = .int .i64 m ∧ o = .string ⟨out.toArray⟩ ∧ Hid (I64 m ∧ Lib.decDigits n.natAbs = decNZ m.natAbs ++ out) ∧ Gr w wr) (fun v _ _ => (intOf v).natAbs)
    case atStart => exact ⟨n, [], rfl, rfl, Lib.hid ⟨HI.out, by rw [decNZ_pos (by have := H0.out; omega)]; simp⟩, Gr.refl _⟩
    case round =>
      obtain ⟨m, out, rfl, rfl, hh, hg⟩ := hrel
      by_cases hm : m = 0
      · subst hm
        have H1 := Lib.hid (show Lib.decDigits n.natAbs = out by have := hh.out.2; simpa [decNZ] using this)
        clear hh
        by_cases hneg : n < 0
        · have HN := Lib.hid hneg
          have hlen : ¬ 9223372036854775807 < 1 + out.length := by
            have h1 := congrArg List.length H1.out
            rw [Lib.decDigits_length] at h1
            have h2 := Lib.nDigits_le20 n.natAbs (by have := HI.out; unfold I64 at this; omega)
            omega
          go_wp2_with fail
          go_ret
          exact ⟨ret_str (by rw [← H1.out]; unfold Lib.itoa; rw [if_pos HN.out]; exact ba_append [45] _), hg⟩
        · have HN := Lib.hid hneg
          go_wp2_with fail
          go_ret
          exact ⟨ret_str (by rw [← H1.out]; unfold Lib.itoa; rw [if_neg (by have := HN.out; omega), show n.toNat = n.natAbs from by have := HN.out; omega]), hg⟩
      · have hm0 : (m == 0) = false := by simpa using hm
        have hr := hh.out.1
        unfold I64 at hr
        obtain ⟨D, hD⟩ : ∃ D, D = m.natAbs % 10 := ⟨_, rfl⟩
        have hD9 : D < 10 := by omega
        have hst := Lib.hid (show Lib.decDigits n.natAbs = decNZ (m.natAbs / 10) ++ (dgB D :: out) by have := hh.out.2; rw [decNZ_step (by omega), ← hD] at this; simpa using this)
        have hcv := fun x => conv_b (w := wr.alloc (.cells #[.int .u8 x] 5)) (lo := wr.heap.size) (n := 1) (ns := [x]) ⟨by simp, Or.inr ⟨wr.heap.size, 1, #[.int .u8 x], rfl, Nat.le_refl _, heap_alloc_new wr _, Nat.le_refl _, by simp [maxLen], by simp, by simp⟩⟩ rfl
        have hnm := Lib.hid (tdiv_natAbs m)
        have hlen : ¬ 9223372036854775807 < (strOfNums [48 + (D : Int)]).size + out.length := by
          have h1 := congrArg List.length hst.out
          rw [Lib.decDigits_length] at h1
          have h2 := Lib.nDigits_le20 n.natAbs (by have := HI.out; unfold I64 at this; omega)
          rw [strOfNums_size]
          simp at h1 ⊢
          omega
        rcases tmod_cases m with h10 | ⟨h10, hp⟩
        · rw [← hD] at h10
          have HM := Lib.hid hm
          clear hm hD
          go_wp2_with fail
          refine ⟨⟨m.tdiv 10, dgB D :: out, rfl, by rw [str_cons], Lib.hid ⟨tdiv_i64 hh.out.1, by rw [hnm.out]; exact hst.out⟩, hg.alloc _⟩, ?_⟩
          have h1 := hnm.out
          have h2 := HM.out
          simp only [intOf]
          omega
        · rw [← hD] at h10 hp
          have HM := Lib.hid hm
          clear hm hD
          go_wp2_with fail
          refine ⟨⟨m.tdiv 10, dgB D :: out, rfl, by rw [str_cons], Lib.hid ⟨tdiv_i64 hh.out.1, by rw [hnm.out]; exact hst.out⟩, hg.alloc _⟩, ?_⟩
          have h1 := hnm.out
          have h2 := HM.out
          simp only [intOf]
          omega
end Go.Proofs.YtcdcpfcmhmhdjaaDoor

/- The laws of IsSet and IsCond. -/
namespace Go.Proofs.YtcdcpfcmhmhdjaaDoor
open Go.RowKit
def okAt (xs : List Int) (i : Nat) : Bool := inB (xs.getD i 0) 0 23 && (i == 0 || decide (xs.getD (i - 1) 0 < xs.getD i 0))
theorem isSetB_eq (xs : List Int) : isSetB xs = allB xs.length (okAt xs) := rfl
theorem okAt_no1 {xs : List Int} {k : Nat} (hk : k < xs.length) (h : inB xs[k] 0 23 = false) : okAt xs k = false := by unfold okAt; rw [getD_lt hk, h]; rfl
theorem okAt_no2 {xs : List Int} {k : Nat} (hk : k < xs.length) (h0 : 0 < k) (h : xs[k] ≤ xs[k-1]) : okAt xs k = false := by
  unfold okAt
  rw [getD_lt hk, getD_lt (show k - 1 < xs.length by omega)]
  simp; intro _; omega
theorem okAt_yes {xs : List Int} {k : Nat} (hk : k < xs.length) (h : inB xs[k] 0 23 = true) (h2 : k = 0 ∨ ∃ h0 : 0 < k, xs[k-1] < xs[k]) : okAt xs k = true := by
  unfold okAt
  rw [getD_lt hk, h]
  rcases h2 with rfl | ⟨h0, h2⟩
  · simp
  · rw [getD_lt (show k - 1 < xs.length by omega)]
    simp [h2]
set_option maxRecDepth 100000 in
set_option maxHeartbeats 1000000 in
theorem impl_IsSet (v : Value) (xs : List Int) (w : World) (hx : RInts w v xs) :
    Calls Tryd.prog 15 #[v] w fun e w' => e = .returned (.bool (isSetB xs)) ∧ Gr w w' := by
  obtain ⟨a, cap, rfl, hl, hm, hx⟩ := hx.open
  go_enter Tryd.func15, Tryd.ntmps15
  go_wp2
  go_loopw [7] (fun i wr => ∃ k : Nat, k ≤ xs.length ∧ i = .int .i64 k ∧ Hid (∀ j, j < k → okAt xs j = true) ∧ Gr w wr) (fun i _ => xs.length - (intOf i).toNat)
  case atStart => exact ⟨0, Nat.zero_le _, rfl, Lib.hid (fun _ h => absurd h (Nat.not_lt_zero _)), Gr.refl _⟩
  case round =>
    obtain ⟨k, hk, rfl, hn, hgr⟩ := hrel
    by_cases hlt : k < xs.length
    · obtain ⟨b, off, rfl, hc, _⟩ := hx k hlt
      have gc := hgr.cellv hc
      clear hc
      by_cases h1 : xs[k] < 0
      · go_wp2
        go_ret
        exact ⟨ret_bool (allB_false k hlt (okAt_no1 hlt (inB_no (by omega)))).symm, hgr⟩
      · by_cases h2 : 24 ≤ xs[k]
        · go_wp2
          go_ret
          exact ⟨ret_bool (allB_false k hlt (okAt_no1 hlt (inB_no (by omega)))).symm, hgr⟩
        · have hin : Hid (inB xs[k] 0 23 = true) := inB_mk (by omega) (by omega)
          by_cases h3 : k = 0
          · have hk0 : k ≤ 0 := by omega
            have H3 := Lib.hid h3
            clear h3
            go_wp2
            go_roundw
            case rel => exact ⟨k + 1, by omega, by go_num, Lib.hid (below_succ hn.out (okAt_yes hlt hin.out (Or.inl H3.out))), hgr⟩
            case measure => simp [intOf]; omega
          · have hk1 : k - 1 < xs.length := by omega
            obtain ⟨b', off', e', hc', _⟩ := hx (k - 1) hk1
            simp only [Option.some.injEq, Addr.mk.injEq] at e'
            obtain ⟨rfl, rfl, -⟩ := e'
            have gc' := hgr.cellv hc'
            clear hc'
            have hk0 : 0 < k := by omega
            clear h3
            by_cases h4 : xs[k] ≤ xs[k-1]
            · go_wp2
              go_ret
              exact ⟨ret_bool (allB_false k hlt (okAt_no2 hlt hk0 h4)).symm, hgr⟩
            · have H4 := Lib.hid h4
              go_wp2
              go_roundw
              case rel => exact ⟨k + 1, by omega, by go_num, Lib.hid (below_succ hn.out (okAt_yes hlt hin.out (Or.inr ⟨hk0, by have := H4.out; omega⟩))), hgr⟩
              case measure => simp [intOf]; omega
    · go_wp2
      go_ret
      exact ⟨ret_bool (allB_true (fun j hj => hn.out j (by omega))).symm, hgr⟩
set_option maxRecDepth 100000 in
set_option maxHeartbeats 1000000 in
theorem spec_IsSet (v : Value) (xs : List Int) (w : World) (hx : RInts w v xs) :
    Calls Tryd.prog 16 #[v] w fun e w' => e = .returned (.bool (isSetB xs)) ∧ Gr w w' := by
  obtain ⟨a, cap, rfl, hl, hm, hx⟩ := hx.open
  go_enter Tryd.func16, Tryd.ntmps16
  go_wp2
  go_loopw [3] (fun i wr => ∃ k : Nat, k ≤ xs.length ∧ i = .int .i64 k ∧ Hid (∀ j, j < k → okAt xs j = true) ∧ Gr w wr) (fun i _ => xs.length - (intOf i).toNat)
  case atStart => exact ⟨0, Nat.zero_le _, rfl, Lib.hid (fun _ h => absurd h (Nat.not_lt_zero _)), Gr.refl _⟩
  case round =>
    obtain ⟨k, hk, rfl, hn, hgr⟩ := hrel
    by_cases hlt : k < xs.length
    · obtain ⟨b, off, rfl, hc, _⟩ := hx k hlt
      have gc := hgr.cellv hc
      clear hc
      have i0 : (0 : Int) ≤ (k : Int) := Int.natCast_nonneg _
      have i1 : (k : Int) < (xs.length : Int) := by omega
      by_cases h1 : inB xs[k] 0 23 = false
      · go_wp2
        go_quiet ((go_at_call 53; exact Calls.quiet_of_same ((spec_l1In _ _ _ _).mono (fun e w' h => ⟨h.1, h.2.symm⟩))))
        go_wp2
        go_ret
        exact ⟨ret_bool (allB_false k hlt (okAt_no1 hlt h1)).symm, hgr.drewN _⟩
      · have hin : inB xs[k] 0 23 = true := by simpa using h1
        clear h1
        by_cases h3 : k = 0
        · have hk0 : decide ((0 : Int) < (k : Int)) = false := by simp; omega
          have hk0' : decide (0 < k) = false := by simp; omega
          have H3 := Lib.hid h3
          clear h3
          go_wp2
          go_quiet ((go_at_call 53; exact Calls.quiet_of_same ((spec_l1In _ _ _ _).mono (fun e w' h => ⟨h.1, h.2.symm⟩))))
          go_wp2
          go_roundw
          case rel => exact ⟨k + 1, by omega, by go_num, Lib.hid (below_succ hn.out (okAt_yes hlt hin (Or.inl H3.out))), hgr.drewN _⟩
          case measure => simp [intOf]; omega
        · have hk1 : k - 1 < xs.length := by omega
          obtain ⟨b', off', e', hc', _⟩ := hx (k - 1) hk1
          simp only [Option.some.injEq, Addr.mk.injEq] at e'
          obtain ⟨rfl, rfl, -⟩ := e'
          have gc' := hgr.cellv hc'
          clear hc'
          have hk0 : 0 < k := by omega
          have i2 : (0 : Int) ≤ (k : Int) - 1 := by omega
          have i3 : (k : Int) - 1 < (xs.length : Int) := by omega
          clear h3
          by_cases h4 : xs[k] ≤ xs[k-1]
          · go_wp2
            go_quiet ((go_at_call 53; exact Calls.quiet_of_same ((spec_l1In _ _ _ _).mono (fun e w' h => ⟨h.1, h.2.symm⟩))))
            go_wp2
            go_ret
            exact ⟨ret_bool (allB_false k hlt (okAt_no2 hlt hk0 h4)).symm, hgr.drewN _⟩
          · have H4 := Lib.hid h4
            go_wp2
            go_quiet ((go_at_call 53; exact Calls.quiet_of_same ((spec_l1In _ _ _ _).mono (fun e w' h => ⟨h.1, h.2.symm⟩))))
            go_wp2
            go_roundw
            case rel => exact ⟨k + 1, by omega, by go_num, Lib.hid (below_succ hn.out (okAt_yes hlt hin (Or.inr ⟨hk0, by have := H4.out; omega⟩))), hgr.drewN _⟩
            case measure => simp [intOf]; omega
    · go_wp2
      go_ret
      exact ⟨ret_bool (allB_true (fun j hj => hn.out j (by omega))).symm, hgr⟩
end Go.Proofs.YtcdcpfcmhmhdjaaDoor

/- FormatSet and lists of numbers as text: the plain laws. No program in sight. -/
namespace Go.Proofs.YtcdcpfcmhmhdjaaDoor
open Go.RowKit
/-- One word more behind what is joined. -/
theorem join_snoc (ws : List (List UInt8)) (x sep : List UInt8) (h : ws ≠ []) : Lib.join (ws ++ [x]) sep = Lib.join ws sep ++ sep ++ x := by
  cases ws with
  | nil => exact absurd rfl h
  | cons y r =>
    rw [List.cons_append, Lib.join_cons, Lib.join_cons]
    simp [Lib.joinTail]
theorem join_first (x sep : List UInt8) : Lib.join ([] ++ [x]) sep = x := Lib.join_one x sep
theorem join_ne {ws : List (List UInt8)} {sep : List UInt8} (h : ws ≠ []) (hw : ∀ x ∈ ws, x ≠ []) : Lib.join ws sep ≠ [] := by
  cases ws with
  | nil => exact absurd rfl h
  | cons y r =>
    rw [Lib.join_cons]
    intro h0
    exact hw y (by simp) (List.append_eq_nil_iff.1 h0).1
theorem itoa_ne (n : Int) : Lib.itoa n ≠ [] := by
  unfold Lib.itoa
  split
  · simp
  · exact decDigits_ne _
theorem itoa_len {n : Int} (h : I64 n) : (Lib.itoa n).length ≤ 21 := Lib.itoa_length_le n h.1 h.2
/-- Where the run that begins at k ends. -/
def endOf (l : List Int) (k : Nat) : Nat := if k + 1 < l.length ∧ l.getD (k + 1) 0 = l.getD k 0 + 1 then endOf l (k + 1) else k
termination_by l.length - k
decreasing_by omega
theorem endOf_go {l : List Int} {k : Nat} (h : k + 1 < l.length) (h2 : l.getD (k + 1) 0 = l.getD k 0 + 1) : endOf l k = endOf l (k + 1) := by rw [endOf, if_pos ⟨h, h2⟩]
theorem endOf_stop {l : List Int} {k : Nat} (h : ¬ (k + 1 < l.length ∧ l.getD (k + 1) 0 = l.getD k 0 + 1)) : endOf l k = k := by rw [endOf, if_neg h]
theorem endOf_ge (l : List Int) (k : Nat) : k ≤ endOf l k := by
  unfold endOf
  split
  · exact Nat.le_trans (Nat.le_succ k) (endOf_ge l (k + 1))
  · exact Nat.le_refl _
termination_by l.length - k
decreasing_by omega
theorem endOf_lt (l : List Int) (k : Nat) (h : k < l.length) : endOf l k < l.length := by
  unfold endOf
  split
  · rename_i h1; exact endOf_lt l (k + 1) h1.1
  · exact h
termination_by l.length - k
decreasing_by omega
/-- The word of the run from i to k. -/
def wordOf (l : List Int) (i k : Nat) : List UInt8 := if i < k then Lib.itoa (l.getD i 0) ++ 45 :: Lib.itoa (l.getD k 0) else Lib.itoa (l.getD i 0)
def wordsFrom (l : List Int) (i : Nat) : List (List UInt8) := if i < l.length then wordOf l i (endOf l i) :: wordsFrom l (endOf l i + 1) else []
termination_by l.length - i
decreasing_by have := endOf_ge l i; omega
theorem wordsFrom_go {l : List Int} {i : Nat} (h : i < l.length) : wordsFrom l i = wordOf l i (endOf l i) :: wordsFrom l (endOf l i + 1) := by rw [wordsFrom, if_pos h]
theorem wordsFrom_end {l : List Int} {i : Nat} (h : ¬ i < l.length) : wordsFrom l i = [] := by rw [wordsFrom, if_neg h]
theorem wordOf_ne (l : List Int) (i k : Nat) : wordOf l i k ≠ [] := by
  unfold wordOf
  split
  · intro h; exact itoa_ne _ (List.append_eq_nil_iff.1 h).1
  · exact itoa_ne _
theorem wordOf_run {l : List Int} {i k : Nat} (h : i < k) : wordOf l i k = Lib.itoa (l.getD i 0) ++ 45 :: Lib.itoa (l.getD k 0) := by unfold wordOf; rw [if_pos h]
theorem wordOf_lone {l : List Int} {i k : Nat} (h : ¬ i < k) : wordOf l i k = Lib.itoa (l.getD i 0) := by unfold wordOf; rw [if_neg h]
/-- FormatSet's text. -/
def setText (l : List Int) : List UInt8 := if isSetB l then (if l = [] then [110, 111, 110, 101] else Lib.join (wordsFrom l 0) [32]) else []
theorem setText_no {l : List Int} (h : isSetB l = false) : setText l = [] := by unfold setText; rw [h]; rfl
theorem setText_nil : setText [] = [110, 111, 110, 101] := rfl
theorem setText_yes {l : List Int} (h : isSetB l = true) (hn : l ≠ []) : setText l = Lib.join (wordsFrom l 0) [32] := by unfold setText; rw [h, if_neg hn]; rfl
end Go.Proofs.YtcdcpfcmhmhdjaaDoor

/- Rows of strings of the call's own, and strings.Join. -/
namespace Go.Proofs.YtcdcpfcmhmhdjaaDoor
open Go.ChangeShapes Go.WideShapes Go.RowKit Go.Deep
theorem ownsRow_gr {lo t sz n : Nat} {v : Value} {l : List Value} {w w' : World} (h : w.ownsRow lo t sz v n l) (g : Gr w w') : w'.ownsRow lo t sz v n l := by
  refine ⟨h.1, ?_⟩
  rcases h.2 with h0 | ⟨b, cap, cur, hv, hb, hgg, r⟩
  · exact Or.inl h0
  · exact Or.inr ⟨b, cap, cur, hv, hb, by rw [g.block b (h.lt b (by rw [hv]; rfl)).2]; exact hgg, r⟩
theorem ownsRow_form {lo t n : Nat} {v : Value} {l : List Value} {w : World} (h : w.ownsRow lo t 1 v n l) : ∃ a c, v = .slice a n c := by
  rcases h.2 with ⟨rfl, h0⟩ | ⟨g, cap, cur, rfl, _⟩
  · exact ⟨none, 0, by rw [h0]⟩
  · exact ⟨_, _, rfl⟩
/-- A list of bytes as a string. -/
abbrev bsOf (x : List UInt8) : ByteArray := ⟨x.toArray⟩
theorem push_s {ops : Array Oper} {rest : List Oper} {o : Oper} {a : Act} {Q : Exit → Act → World → Prop} {w wr : World} (hgd : o.guard = none) (s x : Operand)
    (ho : o.op = .call { callee := .builtin .append, args := #[s, x], argTypes := #[63, 63] }) {base : Nat} {v : Value} (ns : List ByteArray) (y : ByteArray)
    (hs : a.eval s = v) (hx : a.eval x = .slice (some ⟨wr.heap.size, 0, none⟩) 1 1) (hw : w = wr.alloc (.cells #[.string y] 9)) (hown : wr.ownsRow base 9 1 v ns.length (ns.map Value.string))
    (hn : ns.length + 1 ≤ 8796093022208) (hbase : base ≤ wr.heap.size)
    (h : ∀ g cap w', w'.ownsRow base 9 1 (.slice (some ⟨g, 0, none⟩) (ns.length + 1) cap) (ns.length + 1) ((ns ++ [y]).map Value.string) → Below base wr w' → wpList Tryd.prog ops Q rest (a.put o.dst (.slice (some ⟨g, 0, none⟩) (ns.length + 1) cap)) w') :
    wpList Tryd.prog ops Q (o :: rest) a w :=
  push1 63 9 16 Tryd.underlying63 (z := .string ByteArray.empty) (by kernel_rfl) rfl (by decide) Value.string (fun _ => rfl) hgd s x ho ns y hs hx hw hown (by omega) hbase fun g cap w' h1 h2 _ _ => h g cap w' h1 h2
theorem join_own {w : World} {base : Nat} {v : Value} {ws : List (List UInt8)} (hown : w.ownsRow base 9 1 v (ws.map bsOf).length ((ws.map bsOf).map Value.string)) (sep : List UInt8) (hne : ws ≠ []) (h1 : ws.length ≤ 140737488355328)
    (h2 : (Lib.join ws sep).length ≤ 140737488355328) : Calls Tryd.prog 54 #[v, .string ⟨sep.toArray⟩] w fun e w' => e = .returned (.string ⟨(Lib.join ws sep).toArray⟩) ∧ Gr w w' := by
  rcases hown.2 with ⟨rfl, h0⟩ | ⟨g, cap, cur, rfl, _, hg, hnc, hm, hcs, ht⟩
  · exact absurd (List.eq_nil_of_length_eq_zero (by simpa using h0)) hne
  · have e : (ws.map bsOf).map (fun b : ByteArray => b.data.toList) = ws := by rw [List.map_map]; exact (List.map_congr_left fun x _ => rfl).trans (List.map_id ws)
    have c := Tryd.strings_Join g 0 cap (ws.map bsOf) ⟨sep.toArray⟩ w (fun j x hx => by
      have h4 : (cur.toList.take ((ws.map bsOf).length * 1))[j]? = ((ws.map bsOf).map Value.string)[j]? := by rw [ht]
      have hj : j < (ws.map bsOf).length := (List.getElem?_eq_some_iff.1 hx).1
      rw [List.getElem?_take, if_pos (by omega), List.getElem?_map, hx] at h4
      have h5 : cur[j]? = some (.string x) := by simpa using h4
      simp [World.cell?, hg, h5]) (Array.getElem?_eq_some_iff.1 hg).1 (by simpa using h1) hnc (by rw [e]; simpa using h2)
    rw [e] at c
    exact c.mono fun e w' ⟨he, hb⟩ => ⟨by rw [he], hb⟩
end Go.Proofs.YtcdcpfcmhmhdjaaDoor

/- Sets as lists: plain laws. No program in sight. -/
namespace Go.Proofs.YtcdcpfcmhmhdjaaDoor
open Go.RowKit
/-- The numbers below n. -/
def upTo (n : Nat) : List Int := (List.range n).map fun i : Nat => (i : Int)
theorem upTo_succ (n : Nat) : upTo (n + 1) = upTo n ++ [(n : Int)] := by simp [upTo, List.range_succ]
def pickL (p : Int → Bool) : List Int := (upTo 24).filter p
theorem pickL_len (p : Int → Bool) : (pickL p).length ≤ 24 := by
  have := List.length_filter_le p (upTo 24)
  have h : (upTo 24).length = 24 := by simp [upTo]
  unfold pickL; omega
theorem filter_upTo_succ (p : Int → Bool) (n : Nat) : (upTo (n + 1)).filter p = (upTo n).filter p ++ if p n = true then [(n : Int)] else [] := by
  rw [upTo_succ, List.filter_append]
  congr 1
  by_cases h : p n = true <;> simp [h]
/-- A set: rising, each in range. -/
theorem isSetB_iff {xs : List Int} : isSetB xs = true ↔ (∀ i (h : i < xs.length), 0 ≤ xs[i] ∧ xs[i] ≤ 23) ∧ ∀ i (h : i + 1 < xs.length), xs[i] < xs[i + 1] := by
  unfold isSetB
  rw [allB_iff]
  constructor
  · intro h
    refine ⟨fun i hi => ?_, fun i hi => ?_⟩
    · have := h i hi
      rw [getD_lt hi] at this
      simp only [Bool.and_eq_true] at this
      exact inB_true this.1
    · have := h (i + 1) hi
      rw [getD_lt hi] at this
      simp only [Bool.and_eq_true, Bool.or_eq_true, Nat.add_sub_cancel, beq_iff_eq, decide_eq_true_eq] at this
      rw [getD_lt (show i < xs.length by omega)] at this
      rcases this.2 with h2 | h2
      · omega
      · exact h2
  · rintro ⟨h1, h2⟩ j hj
    rw [getD_lt hj]
    simp only [Bool.and_eq_true, Bool.or_eq_true, beq_iff_eq, decide_eq_true_eq]
    refine ⟨inB_mk (h1 j hj).1 (h1 j hj).2, ?_⟩
    by_cases h0 : j = 0
    · exact Or.inl h0
    · obtain ⟨i, rfl⟩ : ∃ i, j = i + 1 := ⟨j - 1, by omega⟩
      right
      rw [Nat.add_sub_cancel, getD_lt (show i < xs.length by omega)]
      exact h2 i hj
theorem isSetB_pw {xs : List Int} (h : isSetB xs = true) : xs.Pairwise (· < ·) := by
  obtain ⟨_, h2⟩ := isSetB_iff.1 h
  rw [List.pairwise_iff_getElem]
  intro i j hi hj hij
  induction j with
  | zero => omega
  | succ j ih =>
    have h3 := h2 j hj
    by_cases e : i = j
    · subst e; exact h3
    · have := ih (by omega) (by omega); omega
/-- What of a rising list lies below n + 1. -/
theorem below_sorted (n : Int) : ∀ (xs : List Int), xs.Pairwise (· < ·) → xs.filter (fun x => decide (x < n + 1)) = xs.filter (fun x => decide (x < n)) ++ if hasB xs n = true then [n] else []
  | [], _ => by simp [hasB, anyB]
  | x :: xs, h => by
    have ih := below_sorted n xs (List.pairwise_cons.1 h).2
    have hall := (List.pairwise_cons.1 h).1
    by_cases h1 : x < n
    · have hb : hasB (x :: xs) n = hasB xs n := by
        rw [Bool.eq_iff_iff, hasB_iff, hasB_iff, List.mem_cons]
        constructor
        · rintro (e | e)
          · omega
          · exact e
        · exact Or.inr
      rw [hb]
      simp only [List.filter_cons, h1, show x < n + 1 by omega, decide_true, if_true, List.cons_append, ih]
    · have hnone : ∀ m : Int, m ≤ x + 1 → xs.filter (fun y => decide (y < m)) = [] := fun m hm => by
        rw [List.filter_eq_nil_iff]; intro y hy; have := hall y hy; simp; omega
      by_cases h2 : x = n
      · subst h2
        have hb : hasB (x :: xs) x = true := hasB_iff.2 (List.mem_cons_self ..)
        rw [if_pos hb]
        simp only [List.filter_cons, show x < x + 1 by omega, decide_true, if_true, show ¬ x < x by omega, decide_false, Bool.false_eq_true, if_false, hnone (x + 1) (by omega), hnone x (by omega), List.nil_append]
      · have hb : hasB (x :: xs) n = false := by
          rw [← Bool.not_eq_true, hasB_iff, List.mem_cons]
          rintro (e | e)
          · omega
          · have := hall n e; omega
        simp only [hb, List.filter_cons, h1, show ¬ x < n + 1 by omega, decide_false, Bool.false_eq_true, if_false, hnone (n + 1) (by omega), hnone n (by omega), List.nil_append]
theorem set_upTo {xs : List Int} (h : isSetB xs = true) : ∀ n : Nat, (upTo n).filter (fun x => hasB xs x) = xs.filter (fun x => decide (x < (n : Int)))
  | 0 => by
    have h1 := (isSetB_iff.1 h).1
    rw [show upTo 0 = [] from rfl, List.filter_nil]
    symm
    rw [List.filter_eq_nil_iff]
    intro x hx
    obtain ⟨i, hi, rfl⟩ := List.getElem_of_mem hx
    have := (h1 i hi).1
    simp; omega
  | n + 1 => by
    rw [filter_upTo_succ, set_upTo h n, show ((n + 1 : Nat) : Int) = (n : Int) + 1 from by omega, below_sorted (n : Int) xs (isSetB_pw h)]
theorem pick_set {xs : List Int} (h : isSetB xs = true) (p : Int → Bool) : pickL (fun x => hasB xs x && p x) = xs.filter p := by
  have h1 := set_upTo h 24
  have h2 : xs.filter (fun x => decide (x < ((24 : Nat) : Int))) = xs := by
    rw [List.filter_eq_self]
    intro x hx
    obtain ⟨i, hi, rfl⟩ := List.getElem_of_mem hx
    have := ((isSetB_iff.1 h).1 i hi).2
    simp; omega
  rw [h2] at h1
  conv => rhs; rw [← h1]
  rw [List.filter_filter]
  unfold pickL
  congr 1
  funext x
  rw [Bool.and_comm]
theorem isSetB_len {xs : List Int} (h : isSetB xs = true) : xs.length ≤ 24 := by
  have h1 := pick_set h (fun _ => true)
  have h2 := pickL_len (fun x => hasB xs x && true)
  rw [h1, List.filter_eq_self.2 (fun _ _ => rfl)] at h2
  exact h2
theorem filter_take_succ {xs : List Int} (p : Int → Bool) {k : Nat} (h : k < xs.length) : (xs.take (k + 1)).filter p = (xs.take k).filter p ++ if p xs[k] = true then [xs[k]] else [] := by
  rw [List.take_succ_eq_append_getElem h, List.filter_append]
  congr 1
  by_cases hp : p xs[k] = true <;> simp [hp]
end Go.Proofs.YtcdcpfcmhmhdjaaDoor
