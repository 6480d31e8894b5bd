/- FormatInt: the reference's walk; the program's is the library's contract. -/
import Derived.Test.YtcdcpfcmhmhdjaaGreatDoorMg6
import Derived.Test.YtcdcpfcmhmhdjaaGreatDoorOwn
import Derived.Test.YtcdcpfcmhmhdjaaGreatDoorPriv
import Derived.Test.YtcdcpfcmhmhdjaaGreatDoorMg5
import Derived.Lib.Join
import Derived.Test.YtcdcpfcmhmhdjaaGreatDoorSpread
import Derived.Lib.Split
namespace Go.Proofs.YtcdcpfcmhmhdjaaGreatDoor
open Go.RowKit
theorem tmod_cases (m : Int) : m.tmod 10 = ((m.natAbs % 10 : Nat) : Int) ∨ (m.tmod 10 = -((m.natAbs % 10 : Nat) : Int) ∧ 0 < m.natAbs % 10) := by
  by_cases h : m < 0
  · obtain ⟨u, rfl⟩ : ∃ u : Nat, m = -(u : Int) := ⟨m.natAbs, by omega⟩
    have e : (-(u : Int)).tmod 10 = -((u % 10 : Nat) : Int) := by rw [Int.neg_tmod]; rfl
    rw [e, Int.natAbs_neg, Int.natAbs_natCast]
    by_cases h0 : u % 10 = 0
    · left; rw [h0]; rfl
    · right; exact ⟨rfl, by omega⟩
  · obtain ⟨u, rfl⟩ : ∃ u : Nat, m = (u : Int) := ⟨m.natAbs, by omega⟩
    left; rfl
theorem tdiv_natAbs (m : Int) : (m.tdiv 10).natAbs = m.natAbs / 10 := by rw [Int.natAbs_tdiv]; rfl
theorem str_cons (d : Nat) (out : List UInt8) : strOfNums [48 + (d : Int)] ++ ⟨out.toArray⟩ = (⟨(dgB d :: out).toArray⟩ : ByteArray) := by
  have e : (48 + (d : Int)).toNat = 48 + d := by omega
  have h := ba_append [dgB d] out
  rw [← show strOfNums [48 + (d : Int)] = ⟨[dgB d].toArray⟩ by simp only [strOfNums, List.map_cons, List.map_nil, e]; rfl] at h
  exact h
theorem tdiv_i64 {m : Int} (h : I64 m) : I64 (m.tdiv 10) := by
  have := tdiv_natAbs m
  unfold I64 at *
  omega
theorem impl_FormatInt (n : Int) (w : World) (hn : I64 n) (hT : Tens Tryz.prog w) : Calls Tryz.prog 31 #[.int .i64 n] w fun e w' => e = .returned (.string ⟨(Lib.itoa n).toArray⟩) ∧ Gr w w' := by
  have HT := Lib.hid hT
  have HN := Lib.hid hn
  go_enter Tryz.func31, Tryz.ntmps31
  go_wp2_with fail
  refine (Tryz.strconv_Itoa n HN.out.1 HN.out.2 w HT.out).mono ?_
  rintro e w1 ⟨rfl, k, os, rfl⟩
  go_wp2_with fail
  go_ret
  exact ⟨rfl, grown_gr w k os⟩
set_option maxRecDepth 100000 in
theorem spec_FormatInt (n : Int) (w : World) (hn : I64 n) : Calls Tryz.prog 40 #[.int .i64 n] w fun e w' => e = .returned (.string ⟨(Lib.itoa n).toArray⟩) ∧ Gr w w' := by
  by_cases h0 : n = 0
  · subst h0
    go_enter Tryz.func40, Tryz.ntmps40
    go_wp2_with fail
    go_ret
    exact ⟨ret_str (by decide +kernel), Gr.refl w⟩
  · have hd0 : (n == 0) = false := by simpa using h0
    have HI := Lib.hid hn
    have H0 := Lib.hid h0
    clear h0
    go_enter Tryz.func40, Tryz.ntmps40
    go_wp2_with fail
    go_loopw [0, 3] (fun v o wr => ∃ (m : Int) (out : List UInt8), v = .int .i64 m ∧ o = .string ⟨out.toArray⟩ ∧ Hid (I64 m ∧ Lib.decDigits n.natAbs = decNZ m.natAbs ++ out) ∧ Gr w wr) (fun v _ _ => (intOf v).natAbs)
    case atStart => exact ⟨n, [], rfl, rfl, Lib.hid ⟨HI.out, by rw [decNZ_pos (by have := H0.out; omega)]; simp⟩, Gr.refl _⟩
    case round =>
      obtain ⟨m, out, rfl, rfl, hh, hg⟩ := hrel
      by_cases hm : m = 0
      · subst hm
        have H1 := Lib.hid (show Lib.decDigits n.natAbs = out by have := hh.out.2; simpa [decNZ] using this)
        clear hh
        by_cases hneg : n < 0
        · have HN := Lib.hid hneg
          have hlen : ¬ 9223372036854775807 < 1 + out.length := by
            have h1 := congrArg List.length H1.out
            rw [Lib.decDigits_length] at h1
            have h2 := Lib.nDigits_le20 n.natAbs (by have := HI.out; unfold I64 at this; omega)
            omega
          go_wp2_with fail
          go_ret
          exact ⟨ret_str (by rw [← H1.out]; unfold Lib.itoa; rw [if_pos HN.out]; exact ba_append [45] _), hg⟩
        · have HN := Lib.hid hneg
          go_wp2_with fail
          go_ret
          exact ⟨ret_str (by rw [← H1.out]; unfold Lib.itoa; rw [if_neg (by have := HN.out; omega), show n.toNat = n.natAbs from by have := HN.out; omega]), hg⟩
      · have hm0 : (m == 0) = false := by simpa using hm
        have hr := hh.out.1
        unfold I64 at hr
        obtain ⟨D, hD⟩ : ∃ D, D = m.natAbs % 10 := ⟨_, rfl⟩
        have hD9 : D < 10 := by omega
        have hst := Lib.hid (show Lib.decDigits n.natAbs = decNZ (m.natAbs / 10) ++ (dgB D :: out) by have := hh.out.2; rw [decNZ_step (by omega), ← hD] at this; simpa using this)
        have hcv := fun x => conv_b (w := wr.alloc (.cells #[.int .u8 x] 5)) (lo := wr.heap.size) (n := 1) (ns := [x]) ⟨by simp, Or.inr ⟨wr.heap.size, 1, #[.int .u8 x], rfl, Nat.le_refl _, heap_alloc_new wr _, Nat.le_refl _, by simp [maxLen], by simp, by simp⟩⟩ rfl
        have hnm := Lib.hid (tdiv_natAbs m)
        have hlen : ¬ 9223372036854775807 < (strOfNums [48 + (D : Int)]).size + out.length := by
          have h1 := congrArg List.length hst.out
          rw [Lib.decDigits_length] at h1
          have h2 := Lib.nDigits_le20 n.natAbs (by have := HI.out; unfold I64 at this; omega)
          rw [strOfNums_size]
          simp at h1 ⊢
          omega
        rcases tmod_cases m with h10 | ⟨h10, hp⟩
        · rw [← hD] at h10
          have HM := Lib.hid hm
          clear hm hD
          go_wp2_with fail
          refine ⟨⟨m.tdiv 10, dgB D :: out, rfl, by rw [str_cons], Lib.hid ⟨tdiv_i64 hh.out.1, by rw [hnm.out]; exact hst.out⟩, hg.alloc _⟩, ?_⟩
          have h1 := hnm.out
          have h2 := HM.out
          simp only [intOf]
          omega
        · rw [← hD] at h10 hp
          have HM := Lib.hid hm
          clear hm hD
          go_wp2_with fail
          refine ⟨⟨m.tdiv 10, dgB D :: out, rfl, by rw [str_cons], Lib.hid ⟨tdiv_i64 hh.out.1, by rw [hnm.out]; exact hst.out⟩, hg.alloc _⟩, ?_⟩
          have h1 := hnm.out
          have h2 := HM.out
          simp only [intOf]
          omega
end Go.Proofs.YtcdcpfcmhmhdjaaGreatDoor

/- Sets as lists: plain laws. No program in sight. -/
namespace Go.Proofs.YtcdcpfcmhmhdjaaGreatDoor
open Go.RowKit
/-- The numbers below n. -/
def upTo (n : Nat) : List Int := (List.range n).map fun i : Nat => (i : Int)
theorem upTo_succ (n : Nat) : upTo (n + 1) = upTo n ++ [(n : Int)] := by simp [upTo, List.range_succ]
def pickL (p : Int → Bool) : List Int := (upTo 24).filter p
theorem pickL_len (p : Int → Bool) : (pickL p).length ≤ 24 := by
  have := List.length_filter_le p (upTo 24)
  have h : (upTo 24).length = 24 := by simp [upTo]
  unfold pickL; omega
theorem filter_upTo_succ (p : Int → Bool) (n : Nat) : (upTo (n + 1)).filter p = (upTo n).filter p ++ if p n = true then [(n : Int)] else [] := by
  rw [upTo_succ, List.filter_append]
  congr 1
  by_cases h : p n = true <;> simp [h]
/-- A set: rising, each in range. -/
theorem isSetB_iff {xs : List Int} : isSetB xs = true ↔ (∀ i (h : i < xs.length), 0 ≤ xs[i] ∧ xs[i] ≤ 23) ∧ ∀ i (h : i + 1 < xs.length), xs[i] < xs[i + 1] := by
  unfold isSetB
  rw [allB_iff]
  constructor
  · intro h
    refine ⟨fun i hi => ?_, fun i hi => ?_⟩
    · have := h i hi
      rw [getD_lt hi] at this
      simp only [Bool.and_eq_true] at this
      exact inB_true this.1
    · have := h (i + 1) hi
      rw [getD_lt hi] at this
      simp only [Bool.and_eq_true, Bool.or_eq_true, Nat.add_sub_cancel, beq_iff_eq, decide_eq_true_eq] at this
      rw [getD_lt (show i < xs.length by omega)] at this
      rcases this.2 with h2 | h2
      · omega
      · exact h2
  · rintro ⟨h1, h2⟩ j hj
    rw [getD_lt hj]
    simp only [Bool.and_eq_true, Bool.or_eq_true, beq_iff_eq, decide_eq_true_eq]
    refine ⟨inB_mk (h1 j hj).1 (h1 j hj).2, ?_⟩
    by_cases h0 : j = 0
    · exact Or.inl h0
    · obtain ⟨i, rfl⟩ : ∃ i, j = i + 1 := ⟨j - 1, by omega⟩
      right
      rw [Nat.add_sub_cancel, getD_lt (show i < xs.length by omega)]
      exact h2 i hj
theorem isSetB_pw {xs : List Int} (h : isSetB xs = true) : xs.Pairwise (· < ·) := by
  obtain ⟨_, h2⟩ := isSetB_iff.1 h
  rw [List.pairwise_iff_getElem]
  intro i j hi hj hij
  induction j with
  | zero => omega
  | succ j ih =>
    have h3 := h2 j hj
    by_cases e : i = j
    · subst e; exact h3
    · have := ih (by omega) (by omega); omega
/-- What of a rising list lies below n + 1. -/
theorem below_sorted (n : Int) : ∀ (xs : List Int), xs.Pairwise (· < ·) → xs.filter (fun x => decide (x < n + 1)) = xs.filter (fun x => decide (x < n)) ++ if hasB xs n = true then [n] else []
  | [], _ => by simp [hasB, anyB]
  | x :: xs, h => by
    have ih := below_sorted n xs (List.pairwise_cons.1 h).2
    have hall := (List.pairwise_cons.1 h).1
    by_cases h1 : x < n
    · have hb : hasB (x :: xs) n = hasB xs n := by
        rw [Bool.eq_iff_iff, hasB_iff, hasB_iff, List.mem_cons]
        constructor
        · rintro (e | e)
          · omega
          · exact e
        · exact Or.inr
      rw [hb]
      simp only [List.filter_cons, h1, show x < n + 1 by omega, decide_true, if_true, List.cons_append, ih]
    · have hnone : ∀ m : Int, m ≤ x + 1 → xs.filter (fun y => decide (y < m)) = [] := fun m hm => by
        rw [List.filter_eq_nil_iff]; intro y hy; have := hall y hy; simp; omega
      by_cases h2 : x = n
      · subst h2
        have hb : hasB (x :: xs) x = true := hasB_iff.2 (List.mem_cons_self ..)
        rw [if_pos hb]
        simp only [List.filter_cons, show x < x + 1 by omega, decide_true, if_true, show ¬ x < x by omega, decide_false, Bool.false_eq_true, if_false, hnone (x + 1) (by omega), hnone x (by omega), List.nil_append]
      · have hb : hasB (x :: xs) n = false := by
          rw [← Bool.not_eq_true, hasB_iff, List.mem_cons]
          rintro (e | e)
          · omega
          · have := hall n e; omega
        simp only [hb, List.filter_cons, h1, show ¬ x < n + 1 by omega, decide_false, Bool.false_eq_true, if_false, hnone (n + 1) (by omega), hnone n (by omega), List.nil_append]
theorem set_upTo {xs : List Int} (h : isSetB xs = true) : ∀ n : Nat, (upTo n).filter (fun x => hasB xs x) = xs.filter (fun x => decide (x < (n : Int)))
  | 0 => by
    have h1 := (isSetB_iff.1 h).1
    rw [show upTo 0 = [] from rfl, List.filter_nil]
    symm
    rw [List.filter_eq_nil_iff]
    intro x hx
    obtain ⟨i, hi, rfl⟩ := List.getElem_of_mem hx
    have := (h1 i hi).1
    simp; omega
  | n + 1 => by
    rw [filter_upTo_succ, set_upTo h n, show ((n + 1 : Nat) : Int) = (n : Int) + 1 from by omega, below_sorted (n : Int) xs (isSetB_pw h)]
theorem pick_set {xs : List Int} (h : isSetB xs = true) (p : Int → Bool) : pickL (fun x => hasB xs x && p x) = xs.filter p := by
  have h1 := set_upTo h 24
  have h2 : xs.filter (fun x => decide (x < ((24 : Nat) : Int))) = xs := by
    rw [List.filter_eq_self]
    intro x hx
    obtain ⟨i, hi, rfl⟩ := List.getElem_of_mem hx
    have := ((isSetB_iff.1 h).1 i hi).2
    simp; omega
  rw [h2] at h1
  conv => rhs; rw [← h1]
  rw [List.filter_filter]
  unfold pickL
  congr 1
  funext x
  rw [Bool.and_comm]
theorem isSetB_len {xs : List Int} (h : isSetB xs = true) : xs.length ≤ 24 := by
  have h1 := pick_set h (fun _ => true)
  have h2 := pickL_len (fun x => hasB xs x && true)
  rw [h1, List.filter_eq_self.2 (fun _ _ => rfl)] at h2
  exact h2
theorem filter_take_succ {xs : List Int} (p : Int → Bool) {k : Nat} (h : k < xs.length) : (xs.take (k + 1)).filter p = (xs.take k).filter p ++ if p xs[k] = true then [xs[k]] else [] := by
  rw [List.take_succ_eq_append_getElem h, List.filter_append]
  congr 1
  by_cases hp : p xs[k] = true <;> simp [hp]
end Go.Proofs.YtcdcpfcmhmhdjaaGreatDoor

/- Sets: small forms of the contracts. Written by gen_sets.py. -/
namespace Go.Proofs.YtcdcpfcmhmhdjaaGreatDoor
open Go.RowKit
end Go.Proofs.YtcdcpfcmhmhdjaaGreatDoor

/- Rows of strings of the call's own, and strings.Join. -/
namespace Go.Proofs.YtcdcpfcmhmhdjaaGreatDoor
open Go.ChangeShapes Go.WideShapes Go.RowKit Go.Deep
theorem ownsRow_gr {lo t sz n : Nat} {v : Value} {l : List Value} {w w' : World} (h : w.ownsRow lo t sz v n l) (g : Gr w w') : w'.ownsRow lo t sz v n l := by
  refine ⟨h.1, ?_⟩
  rcases h.2 with h0 | ⟨b, cap, cur, hv, hb, hgg, r⟩
  · exact Or.inl h0
  · exact Or.inr ⟨b, cap, cur, hv, hb, by rw [g.block b (h.lt b (by rw [hv]; rfl)).2]; exact hgg, r⟩
theorem ownsRow_form {lo t n : Nat} {v : Value} {l : List Value} {w : World} (h : w.ownsRow lo t 1 v n l) : ∃ a c, v = .slice a n c := by
  rcases h.2 with ⟨rfl, h0⟩ | ⟨g, cap, cur, rfl, _⟩
  · exact ⟨none, 0, by rw [h0]⟩
  · exact ⟨_, _, rfl⟩
/-- A list of bytes as a string. -/
abbrev bsOf (x : List UInt8) : ByteArray := ⟨x.toArray⟩
theorem push_s {ops : Array Oper} {rest : List Oper} {o : Oper} {a : Act} {Q : Exit → Act → World → Prop} {w wr : World} (hgd : o.guard = none) (s x : Operand)
    (ho : o.op = .call { callee := .builtin .append, args := #[s, x], argTypes := #[55, 55] }) {base : Nat} {v : Value} (ns : List ByteArray) (y : ByteArray)
    (hs : a.eval s = v) (hx : a.eval x = .slice (some ⟨wr.heap.size, 0, none⟩) 1 1) (hw : w = wr.alloc (.cells #[.string y] 9)) (hown : wr.ownsRow base 9 1 v ns.length (ns.map Value.string))
    (hn : ns.length + 1 ≤ 8796093022208) (hbase : base ≤ wr.heap.size)
    (h : ∀ g cap w', w'.ownsRow base 9 1 (.slice (some ⟨g, 0, none⟩) (ns.length + 1) cap) (ns.length + 1) ((ns ++ [y]).map Value.string) → Below base wr w' → wpList Tryz.prog ops Q rest (a.put o.dst (.slice (some ⟨g, 0, none⟩) (ns.length + 1) cap)) w') :
    wpList Tryz.prog ops Q (o :: rest) a w :=
  push1 55 9 16 Tryz.underlying55 (z := .string ByteArray.empty) (by kernel_rfl) rfl (by decide) Value.string (fun _ => rfl) hgd s x ho ns y hs hx hw hown (by omega) hbase fun g cap w' h1 h2 _ _ => h g cap w' h1 h2
theorem join_own {w : World} {base : Nat} {v : Value} {ws : List (List UInt8)} (hown : w.ownsRow base 9 1 v (ws.map bsOf).length ((ws.map bsOf).map Value.string)) (sep : List UInt8) (hne : ws ≠ []) (h1 : ws.length ≤ 140737488355328)
    (h2 : (Lib.join ws sep).length ≤ 140737488355328) : Calls Tryz.prog 32 #[v, .string ⟨sep.toArray⟩] w fun e w' => e = .returned (.string ⟨(Lib.join ws sep).toArray⟩) ∧ Gr w w' := by
  rcases hown.2 with ⟨rfl, h0⟩ | ⟨g, cap, cur, rfl, _, hg, hnc, hm, hcs, ht⟩
  · exact absurd (List.eq_nil_of_length_eq_zero (by simpa using h0)) hne
  · have e : (ws.map bsOf).map (fun b : ByteArray => b.data.toList) = ws := by rw [List.map_map]; exact (List.map_congr_left fun x _ => rfl).trans (List.map_id ws)
    have c := Tryz.strings_Join g 0 cap (ws.map bsOf) ⟨sep.toArray⟩ w (fun j x hx => by
      have h4 : (cur.toList.take ((ws.map bsOf).length * 1))[j]? = ((ws.map bsOf).map Value.string)[j]? := by rw [ht]
      have hj : j < (ws.map bsOf).length := (List.getElem?_eq_some_iff.1 hx).1
      rw [List.getElem?_take, if_pos (by omega), List.getElem?_map, hx] at h4
      have h5 : cur[j]? = some (.string x) := by simpa using h4
      simp [World.cell?, hg, h5]) (Array.getElem?_eq_some_iff.1 hg).1 (by simpa using h1) hnc (by rw [e]; simpa using h2)
    rw [e] at c
    exact c.mono fun e w' ⟨he, hb⟩ => ⟨by rw [he], hb⟩
end Go.Proofs.YtcdcpfcmhmhdjaaGreatDoor

/- FormatSet: the walks. -/
namespace Go.Proofs.YtcdcpfcmhmhdjaaGreatDoor
open Go.RowKit
theorem isSet_bound {l : List Int} (h : isSetB l = true) : ∀ k (hk : k < l.length), 0 ≤ l[k] ∧ l[k] ≤ 23 := (isSetB_iff.1 h).1
theorem cat2 (a b : List UInt8) : (⟨a.toArray⟩ : ByteArray) ++ ⟨b.toArray⟩ = ⟨(a ++ b).toArray⟩ := ba_append a b
theorem own_len {lo t : Nat} {v : Value} {w : World} {bs : List ByteArray} {q : ByteArray} (h : w.ownsRow lo t 1 v (bs.length + 1) ((bs ++ [q]).map Value.string)) : w.ownsRow lo t 1 v (bs ++ [q]).length ((bs ++ [q]).map Value.string) := by
  rw [List.length_append]; exact h
theorem cat2r (a b c : List UInt8) : (⟨a.toArray⟩ : ByteArray) ++ (⟨b.toArray⟩ ++ ⟨c.toArray⟩) = ⟨(a ++ (b ++ c)).toArray⟩ := by rw [ba_append, ba_append]
theorem cat3 (a b c : List UInt8) : (⟨a.toArray⟩ : ByteArray) ++ ⟨b.toArray⟩ ++ ⟨c.toArray⟩ = ⟨(a ++ b ++ c).toArray⟩ := by rw [ba_append, ba_append]
theorem cat4 (a b c d : List UInt8) : (⟨a.toArray⟩ : ByteArray) ++ ⟨b.toArray⟩ ++ ⟨c.toArray⟩ ++ ⟨d.toArray⟩ = ⟨(a ++ b ++ c ++ d).toArray⟩ := by rw [ba_append, ba_append, ba_append]
theorem cat5 (a b c d e : List UInt8) : (⟨a.toArray⟩ : ByteArray) ++ ⟨b.toArray⟩ ++ ⟨c.toArray⟩ ++ ⟨d.toArray⟩ ++ ⟨e.toArray⟩ = ⟨(a ++ b ++ c ++ d ++ e).toArray⟩ := by rw [ba_append, ba_append, ba_append, ba_append]
/-- FormatSet's state between two words. -/
def SetSt (xs : List Int) (i : Nat) (S : List UInt8) : Prop := ∃ done : List (List UInt8), S = Lib.join done [32] ∧ wordsFrom xs 0 = done ++ wordsFrom xs i ∧ (∀ x ∈ done, x ≠ []) ∧ (i = 0 ↔ done = []) ∧ S.length ≤ 50 * i
theorem SetSt.zero (xs : List Int) : SetSt xs 0 [] := ⟨[], rfl, rfl, by simp, by simp, by simp⟩
theorem SetSt.empty {xs : List Int} {i : Nat} {S : List UInt8} (h : SetSt xs i S) : S = [] ↔ i = 0 := by
  obtain ⟨done, rfl, _, h2, h3, _⟩ := h
  rw [h3]
  constructor
  · intro h; by_cases hd : done = []
    · exact hd
    · exact absurd h (join_ne hd h2)
  · rintro rfl; rfl
theorem SetSt.len {xs : List Int} {i : Nat} {S : List UInt8} (h : SetSt xs i S) : S.length ≤ 50 * i := by obtain ⟨_, _, _, _, _, h⟩ := h; exact h
theorem word_len {xs : List Int} (hx : ∀ k, k < xs.length → I64 (xs.getD k 0)) {i k : Nat} (hi : i < xs.length) (hk : k < xs.length) : (wordOf xs i k).length ≤ 43 := by
  unfold wordOf
  have h1 := itoa_len (hx i hi)
  have h2 := itoa_len (hx k hk)
  split
  · rw [List.length_append, List.length_cons]; omega
  · omega
theorem SetSt.first {xs : List Int} {S : List UInt8} (h : SetSt xs 0 S) (hx : ∀ k, k < xs.length → I64 (xs.getD k 0)) (hi : 0 < xs.length) : SetSt xs (endOf xs 0 + 1) (wordOf xs 0 (endOf xs 0)) := by
  obtain ⟨done, _, h1, _, h3, _⟩ := h
  obtain rfl := h3.1 rfl
  refine ⟨[wordOf xs 0 (endOf xs 0)], (Lib.join_one _ _).symm, ?_, by simp; exact wordOf_ne _ _ _, by simp, ?_⟩
  · rw [wordsFrom_go hi]; rfl
  · have := word_len hx hi (endOf_lt xs 0 hi); omega
theorem SetSt.next {xs : List Int} {i : Nat} {S : List UInt8} (h : SetSt xs i S) (hx : ∀ k, k < xs.length → I64 (xs.getD k 0)) (hi : i < xs.length) (h0 : i ≠ 0) : SetSt xs (endOf xs i + 1) (S ++ [32] ++ wordOf xs i (endOf xs i)) := by
  obtain ⟨done, rfl, h1, h2, h3, h4⟩ := h
  have hd : done ≠ [] := fun e => h0 (h3.2 e)
  refine ⟨done ++ [wordOf xs i (endOf xs i)], (join_snoc _ _ _ hd).symm, ?_, ?_, by simp, ?_⟩
  · rw [h1, wordsFrom_go hi]; simp
  · intro x hx'
    rcases List.mem_append.1 hx' with h | h
    · exact h2 x h
    · rw [List.mem_singleton.1 h]; exact wordOf_ne _ _ _
  · have := word_len hx hi (endOf_lt xs i hi)
    have := endOf_ge xs i
    simp; omega
theorem SetSt.done {xs : List Int} {i : Nat} {S : List UInt8} (h : SetSt xs i S) (hi : ¬ i < xs.length) (hs : isSetB xs = true) (hn : xs ≠ []) : setText xs = S := by
  obtain ⟨done, rfl, h1, _⟩ := h
  rw [setText_yes hs hn, h1, wordsFrom_end hi, List.append_nil]
/-- The program's state between two words. -/
def SetWs (xs : List Int) (i : Nat) (bs : List ByteArray) : Prop := ∃ ws : List (List UInt8), bs = ws.map bsOf ∧ ws.length ≤ i ∧ SetSt xs i (Lib.join ws [32]) ∧ wordsFrom xs 0 = ws ++ wordsFrom xs i ∧ (∀ x ∈ ws, x ≠ [])
theorem SetWs.zero (xs : List Int) : SetWs xs 0 [] := ⟨[], rfl, Nat.le_refl _, SetSt.zero xs, rfl, by simp⟩
theorem SetWs.len {xs : List Int} {i : Nat} {bs : List ByteArray} (h : SetWs xs i bs) : bs.length ≤ i := by obtain ⟨ws, rfl, h, _⟩ := h; simpa using h
theorem SetWs.empty {xs : List Int} {i : Nat} {bs : List ByteArray} (h : SetWs xs i bs) : i = 0 ↔ bs = [] := by
  obtain ⟨ws, rfl, _, hs, _, h3⟩ := h
  rw [← hs.empty]
  constructor
  · intro h
    by_cases hw : ws = []
    · rw [hw]; rfl
    · exact absurd h (join_ne hw h3)
  · intro h
    have : ws = [] := by simpa using h
    rw [this]; rfl
theorem SetWs.next {xs : List Int} {i : Nat} {bs : List ByteArray} (h : SetWs xs i bs) (hx : ∀ k, k < xs.length → I64 (xs.getD k 0)) (hi : i < xs.length) {y : ByteArray} (hy : y = bsOf (wordOf xs i (endOf xs i))) : SetWs xs (endOf xs i + 1) (bs ++ [y]) := by
  obtain ⟨ws, rfl, h1, h2, h3, h4⟩ := h
  have hge := endOf_ge xs i
  refine ⟨ws ++ [wordOf xs i (endOf xs i)], by rw [hy]; simp, by simp; omega, ?_, by rw [h3, wordsFrom_go hi]; simp, ?_⟩
  · by_cases h0 : i = 0
    · subst h0
      have hw : ws = [] := by
        by_cases hw : ws = []
        · exact hw
        · exact absurd (h2.empty.2 rfl) (join_ne hw h4)
      subst hw
      have := h2.first hx hi
      rwa [join_first]
    · have hw : ws ≠ [] := fun e => h0 (h2.empty.1 (by rw [e]; rfl))
      rw [join_snoc _ _ _ hw]
      exact h2.next hx hi h0
  · intro x hx'
    rcases List.mem_append.1 hx' with h | h
    · exact h4 x h
    · rw [List.mem_singleton.1 h]; exact wordOf_ne _ _ _
end Go.Proofs.YtcdcpfcmhmhdjaaGreatDoor

/- A text cut at a byte: the plain laws. No program in sight. -/
namespace Go.Proofs.YtcdcpfcmhmhdjaaGreatDoor
open Go.RowKit
/-- The pieces of a text between the bytes c. -/
def cutL (c : UInt8) : List UInt8 → List (List UInt8)
  | [] => [[]]
  | b :: r => if b = c then [] :: cutL c r else match cutL c r with
    | p :: ps => (b :: p) :: ps
    | [] => [[b]]
theorem cutL_ne (c : UInt8) : ∀ l, cutL c l ≠ []
  | [] => by simp [cutL]
  | b :: r => by
    unfold cutL
    split
    · simp
    · split <;> simp
/-- A piece put ahead of the first. -/
def glue (a : List UInt8) : List (List UInt8) → List (List UInt8)
  | p :: ps => (a ++ p) :: ps
  | [] => [a]
theorem glue_nil (c : UInt8) (l : List UInt8) : glue [] (cutL c l) = cutL c l := by
  cases h : cutL c l with
  | nil => exact absurd h (cutL_ne c l)
  | cons p ps => rfl
theorem cutL_hit (c : UInt8) (r : List UInt8) : cutL c (c :: r) = [] :: cutL c r := by
  rw [cutL, if_pos rfl]
theorem cutL_other {b c : UInt8} (h : b ≠ c) (r : List UInt8) : cutL c (b :: r) = glue [b] (cutL c r) := by
  rw [cutL, if_neg h]
  cases cutL c r <;> rfl
theorem glue_glue (a b : List UInt8) (ps : List (List UInt8)) : glue a (glue b ps) = glue (a ++ b) ps := by
  cases ps with
  | nil => rfl
  | cons p ps => simp [glue]
theorem cutL_pre {c : UInt8} : ∀ (a r : List UInt8), (∀ b ∈ a, b ≠ c) → cutL c (a ++ r) = glue a (cutL c r)
  | [], r, _ => by rw [List.nil_append, glue_nil]
  | b :: a, r, h => by
    rw [List.cons_append, cutL_other (h b (by simp)), cutL_pre a r (fun x hx => h x (by simp [hx])), glue_glue]; rfl
theorem cutL_lone {c : UInt8} {a : List UInt8} (h : ∀ b ∈ a, b ≠ c) : cutL c a = [a] := by
  have := cutL_pre a [] h
  rw [List.append_nil] at this
  rw [this]; simp [cutL, glue]
theorem cutL_two {c : UInt8} {a r : List UInt8} (h : ∀ b ∈ a, b ≠ c) : cutL c (a ++ c :: r) = a :: cutL c r := by
  rw [cutL_pre a _ h, cutL_hit]; simp [glue]
theorem cutL_join {c : UInt8} : ∀ (ws : List (List UInt8)), ws ≠ [] → (∀ w ∈ ws, ∀ b ∈ w, b ≠ c) → cutL c (Lib.join ws [c]) = ws
  | [], h, _ => absurd rfl h
  | [x], _, h => by rw [Lib.join_one]; exact cutL_lone (h x (by simp))
  | x :: y :: r, _, h => by
    have ih := cutL_join (y :: r) (by simp) (fun w hw => h w (by simp [List.mem_cons] at hw ⊢; exact Or.inr hw))
    have e : Lib.join (x :: y :: r) [c] = x ++ c :: Lib.join (y :: r) [c] := by
      rw [Lib.join_cons, Lib.join_cons]; simp [Lib.joinTail]
    rw [e, cutL_two (h x (by simp)), ih]
theorem index_cons (c b : UInt8) (l : List UInt8) : Lib.index (b :: l) [c] = if c = b then 0 else if Lib.index l [c] == -1 then -1 else Lib.index l [c] + 1 := by
  rw [Lib.index]
  by_cases h : c = b
  · subst h; simp [List.isPrefixOf]
  · rw [if_neg h, if_neg]
    simp [List.isPrefixOf, h]
theorem cut_index (c : UInt8) : ∀ l : List UInt8, (Lib.index l [c] = -1 ∧ cutL c l = [l]) ∨ (∃ i : Nat, Lib.index l [c] = i ∧ i < l.length ∧ cutL c l = l.take i :: cutL c (l.drop (i + 1)) ∧ l = l.take i ++ c :: l.drop (i + 1) ∧ ∀ b ∈ l.take i, b ≠ c)
  | [] => Or.inl ⟨rfl, rfl⟩
  | b :: l => by
    rw [index_cons]
    by_cases h : c = b
    · subst h
      right
      exact ⟨0, by simp, by simp, by rw [cutL_hit]; rfl, rfl, by simp⟩
    · rw [if_neg h]
      rcases cut_index c l with ⟨h1, h2⟩ | ⟨i, h1, h2, h3, h4, h5⟩
      · left
        rw [h1]
        exact ⟨by simp, by rw [cutL_other (Ne.symm h), h2]; rfl⟩
      · right
        refine ⟨i + 1, ?_, by simpa using h2, ?_, by rw [List.take_succ_cons, List.drop_succ_cons, List.cons_append, ← h4], by simp only [List.take_succ_cons, List.mem_cons]; rintro x (rfl | hx); exact Ne.symm h; exact h5 x hx⟩
        · rw [h1, if_neg (by simp)]; simp
        · rw [cutL_other (Ne.symm h), h3]; rfl
theorem splitK_cut (c : UInt8) : ∀ (k : Nat) (l : List UInt8), (cutL c l).length ≤ k + 1 → Lib.splitK [c] 0 k l = cutL c l
  | 0, l, h => by
    rcases cut_index c l with ⟨_, h2⟩ | ⟨i, _, _, h3, _⟩
    · rw [h2]; rfl
    · rw [h3] at h
      have := List.length_pos_iff.2 (cutL_ne c (l.drop (i + 1)))
      rw [List.length_cons] at h; omega
  | k + 1, l, h => by
    unfold Lib.splitK
    rcases cut_index c l with ⟨h1, h2⟩ | ⟨i, h1, _, h3, _⟩
    · rw [h1, h2]; rfl
    · rw [h3] at h
      rw [h1, if_neg (by simp), h3]
      have e : (l.drop (((i : Nat) : Int).toNat + [c].length)) = l.drop (i + 1) := by simp
      rw [e, splitK_cut c k _ (by simpa using h)]
      simp
theorem countFrom_cut (c : UInt8) : ∀ (fuel : Nat) (l : List UInt8), l.length < fuel → (cutL c l).length = Lib.countFrom [c] fuel l + 1
  | 0, l, h => absurd h (Nat.not_lt_zero _)
  | fuel + 1, l, h => by
    unfold Lib.countFrom
    rcases cut_index c l with ⟨h1, h2⟩ | ⟨i, h1, h3, h4, h5, h6⟩
    · rw [h1, h2]; rfl
    · rw [h1, if_neg (by simp), h4]
      have e : (l.drop (((i : Nat) : Int).toNat + [c].length)) = l.drop (i + 1) := by simp
      rw [e, List.length_cons, countFrom_cut c fuel _ (by rw [List.length_drop]; omega)]
      omega
theorem split_cut (c : UInt8) (l : List UInt8) : Lib.split l [c] = cutL c l := by
  unfold Lib.split Lib.count
  exact splitK_cut c _ l (by rw [countFrom_cut c (l.length + 1) l (by omega)]; exact Nat.le_refl _)
theorem cut_cut (c : UInt8) (l : List UInt8) : (cutL c l = [l] ∧ Lib.cut l [c] = (l, [], false)) ∨ (∃ a r, l = a ++ c :: r ∧ (∀ b ∈ a, b ≠ c) ∧ cutL c l = a :: cutL c r ∧ Lib.cut l [c] = (a, r, true)) := by
  rcases cut_index c l with ⟨h1, h2⟩ | ⟨i, h1, h3, h4, h5, h6⟩
  · left
    exact ⟨h2, by unfold Lib.cut; rw [h1]; rfl⟩
  · right
    refine ⟨l.take i, l.drop (i + 1), h5, h6, h4, ?_⟩
    · unfold Lib.cut
      rw [h1, if_pos (Int.natCast_nonneg _)]
      simp
end Go.Proofs.YtcdcpfcmhmhdjaaGreatDoor

/- A list of numbers as text: both walks. -/
namespace Go.Proofs.YtcdcpfcmhmhdjaaGreatDoor
open Go.RowKit
def numsText (xs : List Int) : List UInt8 := Lib.join (xs.map Lib.itoa) [44]
/-- What the first i make. -/
def NSt (xs : List Int) (i : Nat) (S : List UInt8) : Prop := S = Lib.join ((xs.take i).map Lib.itoa) [44] ∧ S.length ≤ 22 * i
theorem NSt.zero (xs : List Int) : NSt xs 0 [] := ⟨by simp [Lib.join_nil], by simp⟩
theorem NSt.next {xs : List Int} {i : Nat} {S : List UInt8} (h : NSt xs i S) (hi : i < xs.length) (h0 : i ≠ 0) (hx : I64 xs[i]) : NSt xs (i + 1) (S ++ [44] ++ Lib.itoa xs[i]) := by
  obtain ⟨rfl, h2⟩ := h
  have hn := itoa_len hx
  refine ⟨?_, by rw [List.length_append, List.length_append]; simp only [List.length_cons, List.length_nil]; omega⟩
  rw [List.take_succ_eq_append_getElem hi, List.map_append, List.map_cons, List.map_nil, join_snoc]
  intro e
  have h3 := congrArg List.length e
  rw [List.length_map, List.length_take, Nat.min_eq_left (Nat.le_of_lt hi)] at h3
  exact h0 h3
theorem NSt.first {xs : List Int} (hi : 0 < xs.length) (hx : I64 xs[0]) : NSt xs 1 (Lib.itoa xs[0]) := by
  refine ⟨?_, Nat.le_trans (itoa_len hx) (by omega)⟩
  rw [List.take_succ_eq_append_getElem hi]
  simp [Lib.join_one]
theorem NSt.all {xs : List Int} {S : List UInt8} (h : NSt xs xs.length S) : S = numsText xs := by rw [h.1, List.take_length]; rfl
theorem numsText_len {xs : List Int} (hx : ∀ i (h : i < xs.length), I64 xs[i]) : (numsText xs).length ≤ 22 * xs.length := by
  have h : ∀ i, i ≤ xs.length → ∃ S, NSt xs i S := by
    intro i
    induction i with
    | zero => exact fun _ => ⟨_, NSt.zero xs⟩
    | succ i ih =>
      intro hi
      obtain ⟨S, h⟩ := ih (by omega)
      by_cases h0 : i = 0
      · subst h0; exact ⟨_, NSt.first hi (hx 0 hi)⟩
      · exact ⟨_, h.next hi h0 (hx i hi)⟩
  obtain ⟨S, h⟩ := h xs.length (Nat.le_refl _)
  rw [← h.all]; exact h.2
set_option maxRecDepth 100000 in
set_option maxHeartbeats 1000000 in
theorem spec_l3List (v : Value) (xs : List Int) (w : World) (hv : RInts w v xs) (hb : xs.length ≤ 1048576) :
    Calls Tryz.prog 41 #[v] w fun e w' => e = .returned (.string ⟨(numsText xs).toArray⟩) ∧ Gr w w' := by
  obtain ⟨a, cap, rfl, hl, hm, hx⟩ := hv.open
  have HX := Lib.hid hx
  have HB := Lib.hid hb
  clear hv hx hb
  go_enter Tryz.func41, Tryz.ntmps41
  go_wp2_with fail
  go_loopw [3, 4] (fun sv iv wr => ∃ (i : Nat) (S : List UInt8), i ≤ xs.length ∧ iv = .int .i64 i ∧ sv = .string ⟨S.toArray⟩ ∧ Hid (NSt xs i S) ∧ Gr w wr) (fun _ i _ => xs.length - (intOf i).toNat)
  case atStart => exact ⟨0, [], Nat.zero_le _, rfl, rfl, Lib.hid (NSt.zero xs), Gr.refl _⟩
  case round =>
    obtain ⟨i, S, hi, rfl, rfl, hst, hg⟩ := hrel
    by_cases hlt : i < xs.length
    · obtain ⟨b, off, rfl, hc, h64⟩ := HX.out i hlt
      have gc := hg.cellv hc
      have HL := Lib.hid hlt
      have H64 := Lib.hid h64
      obtain ⟨x, HXi⟩ : ∃ x, Hid (x = xs[i]) := ⟨_, Lib.hid rfl⟩
      replace gc : wr.cell? ⟨b, off + i, none⟩ = some (.int .i64 x) := by rw [HXi.out]; exact gc
      have IX : Hid (I64 x) := Lib.hid (by rw [HXi.out]; exact h64)
      have n1 := itoa_len IX.out
      have n3 : S.length ≤ 23068672 := by have := hst.out.2; have := HL.out; have := HB.out; omega
      have p0 : (0 : Int) ≤ (i : Int) := Int.natCast_nonneg _
      have p1 : (i : Int) < (xs.length : Int) := by have := HL.out; omega
      have l1 : ¬ 9223372036854775807 < S.length + 1 := by omega
      have l2 : ¬ 9223372036854775807 < S.length + 1 + (Lib.itoa x).length := by omega
      have l5 : ¬ 9223372036854775807 < (Lib.itoa x).length := by omega
      clear n1 n3 hc hi
      by_cases h0 : i = 0
      · have hS : S = [] := by have := hst.out.1; rw [h0] at this; simpa [Lib.join_nil] using this
        subst hS
        have hnx : Hid (NSt xs (i + 1) (Lib.itoa x)) := Lib.hid (by subst h0; rw [HXi.out]; exact NSt.first HL.out H64.out)
        have hz : ¬ (0 : Int) < (i : Int) := by omega
        clear h0
        go_wp2_with fail
        refine (spec_FormatInt x _ IX.out).mono ?_
        rintro e w2 ⟨rfl, g2⟩
        go_wp2_with fail
        refine ⟨⟨i + 1, _, HL.out, rfl, congrArg Value.string (cat2 [] (Lib.itoa x)), Lib.hid (by have h := hnx.out; simpa using h), hg.trans g2⟩, ?_⟩
        have z1 := HL.out
        simp only [intOf]
        omega
      · have hnx : Hid (NSt xs (i + 1) (S ++ [44] ++ Lib.itoa x)) := Lib.hid (by rw [HXi.out]; exact hst.out.next HL.out h0 H64.out)
        have hz : (0 : Int) < (i : Int) := by omega
        clear h0
        go_wp2_with fail
        refine (spec_FormatInt x _ IX.out).mono ?_
        rintro e w2 ⟨rfl, g2⟩
        go_wp2_with fail
        refine ⟨⟨i + 1, _, HL.out, rfl, congrArg Value.string (cat3 S [44] (Lib.itoa x)), Lib.hid (by have h := hnx.out; simpa using h), hg.trans g2⟩, ?_⟩
        have z1 := HL.out
        simp only [intOf]
        omega
    · obtain rfl : i = xs.length := by omega
      have HE := Lib.hid hst.out.all
      clear hi hlt
      go_wp2_with fail
      go_ret
      exact ⟨ret_str (by rw [← HE.out]), hg⟩
theorem join_any {w : World} {base : Nat} {v : Value} {ws : List (List UInt8)} (hown : w.ownsRow base 9 1 v (ws.map bsOf).length ((ws.map bsOf).map Value.string)) (sep : List UInt8) (h1 : ws.length ≤ 140737488355328)
    (h2 : (Lib.join ws sep).length ≤ 140737488355328) : Calls Tryz.prog 32 #[v, .string ⟨sep.toArray⟩] w fun e w' => e = .returned (.string ⟨(Lib.join ws sep).toArray⟩) ∧ Gr w w' := by
  by_cases hne : ws = []
  · subst hne
    obtain ⟨a, c, rfl⟩ := ownsRow_form hown
    refine (Any.strings_Join_none Tryz.lays156 Tryz.Builder_Extra_156 a c ⟨sep.toArray⟩ w).mono ?_
    rintro e w' ⟨rfl, rfl⟩
    exact ⟨rfl, Gr.refl _⟩
  · exact join_own hown sep hne h1 h2
set_option maxRecDepth 100000 in
set_option maxHeartbeats 1000000 in
theorem impl_numbersText (v : Value) (xs : List Int) (w : World) (hT : Tens Tryz.prog w) (hv : RInts w v xs) (hb : xs.length ≤ 1048576) :
    Calls Tryz.prog 33 #[v] w fun e w' => e = .returned (.string ⟨(numsText xs).toArray⟩) ∧ Gr w w' := by
  obtain ⟨a, cap, rfl, hl, hm, hx⟩ := hv.open
  have HT := Lib.hid hT
  have HX := Lib.hid hx
  have HB := Lib.hid hb
  have HJ := Lib.hid (numsText_len (fun i h => (hx i h).elim fun _ ⟨_, _, _, h⟩ => h))
  clear hv hx hb hT
  have hown0 := own_empty w 9 1 w.heap.size (Nat.le_refl _)
  have g0 : Gr w (w.alloc (.cells #[] 9)) := (Gr.refl w).alloc _
  go_enter Tryz.func33, Tryz.ntmps33
  go_wp2_with fail
  go_loopw [3, 9] (fun sv iv wr => ∃ (i : Nat) (sa : Option Addr) (sc : Nat), i ≤ xs.length ∧ iv = .int .i64 i ∧ sv = .slice sa i sc ∧ wr.ownsRow w.heap.size 9 1 sv (((xs.take i).map Lib.itoa).map bsOf).length ((((xs.take i).map Lib.itoa).map bsOf).map Value.string) ∧ Gr w wr) (fun _ i _ => xs.length - (intOf i).toNat)
  case atStart => exact ⟨0, _, _, Nat.zero_le _, rfl, rfl, by simpa using hown0, g0⟩
  case round =>
    obtain ⟨i, sa, sc, hi, rfl, rfl, hown, hg⟩ := hrel
    by_cases hlt : i < xs.length
    · obtain ⟨b, off, rfl, hc, h64⟩ := HX.out i hlt
      have gc := hg.cellv hc
      have HL := Lib.hid hlt
      obtain ⟨x, HXi⟩ : ∃ x, Hid (x = xs[i]) := ⟨_, Lib.hid rfl⟩
      replace gc : wr.cell? ⟨b, off + i, none⟩ = some (.int .i64 x) := by rw [HXi.out]; exact gc
      have IX : Hid (I64 x) := Lib.hid (by rw [HXi.out]; exact h64)
      obtain ⟨bs, HBS⟩ : ∃ bs, Hid (bs = ((xs.take i).map Lib.itoa).map bsOf) := ⟨_, Lib.hid rfl⟩
      have hbl : bs.length = i := by rw [HBS.out]; simp; omega
      rw [← HBS.out] at hown
      have HN : Hid (bs.length + 1 ≤ 8796093022208) := Lib.hid (by rw [hbl]; have := HB.out; omega)
      have HBL := Lib.hid hbl
      have p0 : (0 : Int) ≤ (i : Int) := Int.natCast_nonneg _
      have p1 : (i : Int) < (xs.length : Int) := by omega
      clear hc h64 hi hlt hbl
      go_wp2_with fail
      refine (impl_FormatInt x _ IX.out (tab_gr HT.out hg)).mono ?_
      rintro e w2 ⟨rfl, g2⟩
      have G2 := Lib.hid (hg.trans g2)
      have hown2 := ownsRow_gr hown g2
      go_wp2_with (at_builtin; refine push_s rfl _ _ rfl bs _ rfl rfl rfl hown2 HN.out G2.out.size ?_; intro g4 cap4 w4 hown4 hb4)
      have hE : Hid ((((xs.take (i + 1)).map Lib.itoa).map bsOf) = bs ++ [bsOf (Lib.itoa x)]) := Lib.hid (by rw [List.take_succ_eq_append_getElem HL.out, List.map_append, List.map_append, HBS.out, HXi.out]; rfl)
      go_roundw
      case rel => exact ⟨i + 1, some ⟨g4, 0, none⟩, cap4, HL.out, rfl, by rw [HBL.out], by rw [hE.out]; exact own_len hown4, G2.out.trans' hb4⟩
      case measure => have := HL.out; simp only [intOf]; omega
    · obtain rfl : i = xs.length := by omega
      rw [List.take_length] at hown
      clear hi hlt
      have HO := Lib.hid hown
      clear hown
      go_wp2_with fail
      refine (join_any (ws := xs.map Lib.itoa) HO.out [44] (by have := HB.out; simp; omega) (Nat.le_trans HJ.out (by have := HB.out; omega))).mono ?_
      rintro e w2 ⟨rfl, g2⟩
      go_wp2_with fail
      go_ret
      exact ⟨rfl, hg.trans g2⟩
end Go.Proofs.YtcdcpfcmhmhdjaaGreatDoor
