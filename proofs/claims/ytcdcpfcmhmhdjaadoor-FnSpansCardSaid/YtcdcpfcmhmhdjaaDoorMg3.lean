/- Sets: small forms of the contracts. Written by gen_sets.py. -/
import Derived.Test.YtcdcpfcmhmhdjaaDoorMg2
import Derived.Test.YtcdcpfcmhmhdjaaDoorOwn
import Derived.Test.YtcdcpfcmhmhdjaaDoorMkInt
import Derived.Test.YtcdcpfcmhmhdjaaDoorSpread
namespace Go.Proofs.YtcdcpfcmhmhdjaaDoor
open Go.RowKit
theorem impl_HasMember_of {xs : List Int} {n : Int} {b : Bool} (h : hasB xs n = b) (v : Value) (w : World) (hx : RInts w v xs) : Calls Tryd.prog 20 #[v, .int .i64 n] w fun e w' => e = .returned (.bool b) ∧ w = w' := h ▸ impl_HasMember v n xs w hx
theorem spec_HasMember_of {xs : List Int} {n : Int} {b : Bool} (h : hasB xs n = b) (v : Value) (w : World) (hx : RInts w v xs) : Calls Tryd.prog 52 #[v, .int .i64 n] w fun e w' => e = .returned (.bool b) ∧ w = w' := h ▸ spec_HasMember v n xs w hx
theorem impl_IsSet_of {xs : List Int} {b : Bool} (h : isSetB xs = b) (v : Value) (w : World) (hx : RInts w v xs) : Calls Tryd.prog 15 #[v] w fun e w' => e = .returned (.bool b) ∧ Gr w w' := h ▸ impl_IsSet v xs w hx
theorem spec_IsSet_of {xs : List Int} {b : Bool} (h : isSetB xs = b) (v : Value) (w : World) (hx : RInts w v xs) : Calls Tryd.prog 16 #[v] w fun e w' => e = .returned (.bool b) ∧ Gr w w' := h ▸ spec_IsSet v xs w hx
end Go.Proofs.YtcdcpfcmhmhdjaaDoor

/- FormatSet: the walks. -/
namespace Go.Proofs.YtcdcpfcmhmhdjaaDoor
open Go.RowKit
theorem isSet_bound {l : List Int} (h : isSetB l = true) : ∀ k (hk : k < l.length), 0 ≤ l[k] ∧ l[k] ≤ 23 := (isSetB_iff.1 h).1
theorem cat2 (a b : List UInt8) : (⟨a.toArray⟩ : ByteArray) ++ ⟨b.toArray⟩ = ⟨(a ++ b).toArray⟩ := ba_append a b
theorem own_len {lo t : Nat} {v : Value} {w : World} {bs : List ByteArray} {q : ByteArray} (h : w.ownsRow lo t 1 v (bs.length + 1) ((bs ++ [q]).map Value.string)) : w.ownsRow lo t 1 v (bs ++ [q]).length ((bs ++ [q]).map Value.string) := by
  rw [List.length_append]; exact h
theorem cat2r (a b c : List UInt8) : (⟨a.toArray⟩ : ByteArray) ++ (⟨b.toArray⟩ ++ ⟨c.toArray⟩) = ⟨(a ++ (b ++ c)).toArray⟩ := by rw [ba_append, ba_append]
theorem cat3 (a b c : List UInt8) : (⟨a.toArray⟩ : ByteArray) ++ ⟨b.toArray⟩ ++ ⟨c.toArray⟩ = ⟨(a ++ b ++ c).toArray⟩ := by rw [ba_append, ba_append]
theorem cat4 (a b c d : List UInt8) : (⟨a.toArray⟩ : ByteArray) ++ ⟨b.toArray⟩ ++ ⟨c.toArray⟩ ++ ⟨d.toArray⟩ = ⟨(a ++ b ++ c ++ d).toArray⟩ := by rw [ba_append, ba_append, ba_append]
theorem cat5 (a b c d e : List UInt8) : (⟨a.toArray⟩ : ByteArray) ++ ⟨b.toArray⟩ ++ ⟨c.toArray⟩ ++ ⟨d.toArray⟩ ++ ⟨e.toArray⟩ = ⟨(a ++ b ++ c ++ d ++ e).toArray⟩ := by rw [ba_append, ba_append, ba_append, ba_append]
/-- FormatSet's state between two words. -/
def SetSt (xs : List Int) (i : Nat) (S : List UInt8) : Prop := ∃ done : List (List UInt8), S = Lib.join done [32] ∧ wordsFrom xs 0 = done ++ wordsFrom xs i ∧ (∀ x ∈ done, x ≠ []) ∧ (i = 0 ↔ done = []) ∧ S.length ≤ 50 * i
theorem SetSt.zero (xs : List Int) : SetSt xs 0 [] := ⟨[], rfl, rfl, by simp, by simp, by simp⟩
theorem SetSt.empty {xs : List Int} {i : Nat} {S : List UInt8} (h : SetSt xs i S) : S = [] ↔ i = 0 := by
  obtain ⟨done, rfl, _, h2, h3, _⟩ := h
  rw [h3]
  constructor
  · intro h; by_cases hd : done = []
    · exact hd
    · exact absurd h (join_ne hd h2)
  · rintro rfl; rfl
theorem SetSt.len {xs : List Int} {i : Nat} {S : List UInt8} (h : SetSt xs i S) : S.length ≤ 50 * i := by obtain ⟨_, _, _, _, _, h⟩ := h; exact h
theorem word_len {xs : List Int} (hx : ∀ k, k < xs.length → I64 (xs.getD k 0)) {i k : Nat} (hi : i < xs.length) (hk : k < xs.length) : (wordOf xs i k).length ≤ 43 := by
  unfold wordOf
  have h1 := itoa_len (hx i hi)
  have h2 := itoa_len (hx k hk)
  split
  · rw [List.length_append, List.length_cons]; omega
  · omega
theorem SetSt.first {xs : List Int} {S : List UInt8} (h : SetSt xs 0 S) (hx : ∀ k, k < xs.length → I64 (xs.getD k 0)) (hi : 0 < xs.length) : SetSt xs (endOf xs 0 + 1) (wordOf xs 0 (endOf xs 0)) := by
  obtain ⟨done, _, h1, _, h3, _⟩ := h
  obtain rfl := h3.1 rfl
  refine ⟨[wordOf xs 0 (endOf xs 0)], (Lib.join_one _ _).symm, ?_, by simp; exact wordOf_ne _ _ _, by simp, ?_⟩
  · rw [wordsFrom_go hi]; rfl
  · have := word_len hx hi (endOf_lt xs 0 hi); omega
theorem SetSt.next {xs : List Int} {i : Nat} {S : List UInt8} (h : SetSt xs i S) (hx : ∀ k, k < xs.length → I64 (xs.getD k 0)) (hi : i < xs.length) (h0 : i ≠ 0) : SetSt xs (endOf xs i + 1) (S ++ [32] ++ wordOf xs i (endOf xs i)) := by
  obtain ⟨done, rfl, h1, h2, h3, h4⟩ := h
  have hd : done ≠ [] := fun e => h0 (h3.2 e)
  refine ⟨done ++ [wordOf xs i (endOf xs i)], (join_snoc _ _ _ hd).symm, ?_, ?_, by simp, ?_⟩
  · rw [h1, wordsFrom_go hi]; simp
  · intro x hx'
    rcases List.mem_append.1 hx' with h | h
    · exact h2 x h
    · rw [List.mem_singleton.1 h]; exact wordOf_ne _ _ _
  · have := word_len hx hi (endOf_lt xs i hi)
    have := endOf_ge xs i
    simp; omega
theorem SetSt.done {xs : List Int} {i : Nat} {S : List UInt8} (h : SetSt xs i S) (hi : ¬ i < xs.length) (hs : isSetB xs = true) (hn : xs ≠ []) : setText xs = S := by
  obtain ⟨done, rfl, h1, _⟩ := h
  rw [setText_yes hs hn, h1, wordsFrom_end hi, List.append_nil]
/-- The program's state between two words. -/
def SetWs (xs : List Int) (i : Nat) (bs : List ByteArray) : Prop := ∃ ws : List (List UInt8), bs = ws.map bsOf ∧ ws.length ≤ i ∧ SetSt xs i (Lib.join ws [32]) ∧ wordsFrom xs 0 = ws ++ wordsFrom xs i ∧ (∀ x ∈ ws, x ≠ [])
theorem SetWs.zero (xs : List Int) : SetWs xs 0 [] := ⟨[], rfl, Nat.le_refl _, SetSt.zero xs, rfl, by simp⟩
theorem SetWs.len {xs : List Int} {i : Nat} {bs : List ByteArray} (h : SetWs xs i bs) : bs.length ≤ i := by obtain ⟨ws, rfl, h, _⟩ := h; simpa using h
theorem SetWs.empty {xs : List Int} {i : Nat} {bs : List ByteArray} (h : SetWs xs i bs) : i = 0 ↔ bs = [] := by
  obtain ⟨ws, rfl, _, hs, _, h3⟩ := h
  rw [← hs.empty]
  constructor
  · intro h
    by_cases hw : ws = []
    · rw [hw]; rfl
    · exact absurd h (join_ne hw h3)
  · intro h
    have : ws = [] := by simpa using h
    rw [this]; rfl
theorem SetWs.next {xs : List Int} {i : Nat} {bs : List ByteArray} (h : SetWs xs i bs) (hx : ∀ k, k < xs.length → I64 (xs.getD k 0)) (hi : i < xs.length) {y : ByteArray} (hy : y = bsOf (wordOf xs i (endOf xs i))) : SetWs xs (endOf xs i + 1) (bs ++ [y]) := by
  obtain ⟨ws, rfl, h1, h2, h3, h4⟩ := h
  have hge := endOf_ge xs i
  refine ⟨ws ++ [wordOf xs i (endOf xs i)], by rw [hy]; simp, by simp; omega, ?_, by rw [h3, wordsFrom_go hi]; simp, ?_⟩
  · by_cases h0 : i = 0
    · subst h0
      have hw : ws = [] := by
        by_cases hw : ws = []
        · exact hw
        · exact absurd (h2.empty.2 rfl) (join_ne hw h4)
      subst hw
      have := h2.first hx hi
      rwa [join_first]
    · have hw : ws ≠ [] := fun e => h0 (h2.empty.1 (by rw [e]; rfl))
      rw [join_snoc _ _ _ hw]
      exact h2.next hx hi h0
  · intro x hx'
    rcases List.mem_append.1 hx' with h | h
    · exact h4 x h
    · rw [List.mem_singleton.1 h]; exact wordOf_ne _ _ _
set_option maxRecDepth 100000 in
set_option maxHeartbeats 2000000 in
theorem spec_FormatSet (v : Value) (xs : List Int) (w : World) (hv : RInts w v xs) (hb : xs.length ≤ 1048576) :
    Calls Tryd.prog 19 #[v] w fun e w' => e = .returned (.string ⟨(setText xs).toArray⟩) ∧ Gr w w' := by
  obtain ⟨a, cap, rfl, hl, hm, hx⟩ := hv.open
  have HV := Lib.hid hv
  have HX := Lib.hid hx
  have HB := Lib.hid hb
  clear hv hx hb
  cases hs : isSetB xs with
  | false =>
    have HS := Lib.hid hs
    clear hs
    go_enter Tryd.func19, Tryd.ntmps19
    go_wp2_with fail
    refine (spec_IsSet_of HS.out _ _ HV.out).mono ?_
    rintro e w1 ⟨rfl, g1⟩
    go_wp2_with fail
    go_ret
    exact ⟨ret_str (by rw [setText_no HS.out]), g1⟩
  | true =>
    have HS := Lib.hid hs
    clear hs
    have hbd := isSet_bound HS.out
    have HD := Lib.hid (show ∀ k, k < xs.length → I64 (xs.getD k 0) from fun k hk => by rw [getD_lt hk]; have := hbd k hk; unfold I64; omega)
    replace hbd := Lib.hid hbd
    go_enter Tryd.func19, Tryd.ntmps19
    go_wp2_with fail
    refine (spec_IsSet_of HS.out _ _ HV.out).mono ?_
    rintro e w1 ⟨rfl, g1⟩
    go_wp2_with fail
    go_loopw [3, 4] (fun sv iv wr => ∃ (i : Nat) (S : List UInt8), i ≤ xs.length ∧ iv = .int .i64 i ∧ sv = .string ⟨S.toArray⟩ ∧ Hid (SetSt xs i S) ∧ Gr w wr) (fun _ i _ => xs.length - (intOf i).toNat)
    case atStart => exact ⟨0, [], Nat.zero_le _, rfl, rfl, Lib.hid (SetSt.zero xs), g1⟩
    case round =>
      obtain ⟨i, S, hi, rfl, rfl, hst, hg⟩ := hrel
      obtain ⟨W1, hW1⟩ : ∃ W1, W1 = wr := ⟨_, rfl⟩
      subst hW1
      by_cases hlt : i < xs.length
      · obtain ⟨b, off, rfl, -, -⟩ := HX.out i hlt
        have HC : Hid (∀ k, k < xs.length → ∃ y, Hid (y = xs.getD k 0) ∧ 0 ≤ y ∧ y ≤ 23 ∧ W1.cell? ⟨b, off + k, none⟩ = some (.int .i64 y)) := Lib.hid fun k hk => by
          obtain ⟨b', off', e', hc', _⟩ := HX.out k hk
          simp only [Option.some.injEq, Addr.mk.injEq] at e'
          obtain ⟨rfl, rfl, -⟩ := e'
          exact ⟨xs[k], Lib.hid (getD_lt hk).symm, (hbd.out k hk).1, (hbd.out k hk).2, hg.cellv hc'⟩
        have HL := Lib.hid hlt
        clear hi
        go_wp2_with fail
        clear hlt
        go_loopw [5] (fun kv wr => ∃ k : Nat, kv = .int .i64 k ∧ Hid (i ≤ k ∧ k < xs.length) ∧ Hid (endOf xs i = endOf xs k) ∧ Gr W1 wr) (fun k _ => xs.length - (intOf k).toNat)
        case atStart => exact ⟨i, rfl, Lib.hid ⟨Nat.le_refl _, HL.out⟩, Lib.hid rfl, Gr.refl _⟩
        case round =>
          obtain ⟨k, rfl, hkk, he, hg2⟩ := hrel
          have HK : Hid (k < xs.length) := Lib.hid hkk.out.2
          have HIK : Hid (i ≤ k) := Lib.hid hkk.out.1
          clear hkk
          have q0 : (0 : Int) ≤ (k : Int) := Int.natCast_nonneg _
          have q1 : (k : Int) < (xs.length : Int) := by have := HK.out; omega
          obtain ⟨y, HY, y0, y1, d0⟩ := HC.out k HK.out
          replace d0 := hg2.cellv d0
          by_cases h1 : k + 1 < xs.length
          · obtain ⟨z, HZ, z0, z1, d1⟩ := HC.out (k + 1) h1
            replace d1 := hg2.cellv d1
            have q2 : (k : Int) + 1 < (xs.length : Int) := by omega
            have H1 := Lib.hid h1
            by_cases h2 : z = y + 1
            · have HN := Lib.hid (endOf_go h1 (by rw [← HY.out, ← HZ.out]; exact h2))
              have h3 : (z == y + 1) = true := by simpa using h2
              have HH := Lib.hid h2
              clear h1 h2
              go_wp2_with fail
              go_quiet (fail)
              go_wp2_with fail
              go_roundw
              case rel => exact ⟨k + 1, by go_num, Lib.hid ⟨by have := HIK.out; omega, H1.out⟩, Lib.hid (he.out.trans HN.out), hg2.drewN _⟩
              case measure => have := H1.out; simp [intOf]; omega
            · have HE := Lib.hid (he.out.trans (endOf_stop (fun h => h2 (by rw [HY.out, HZ.out]; exact h.2))))
              have h3 : (z == y + 1) = false := by simpa using h2
              have HH := Lib.hid h2
              clear h1 h2 he
              obtain ⟨x, HXi, x0, x1, ci⟩ := HC.out i HL.out
              replace ci := hg2.cellv ci
              have IX := Lib.hid (show I64 x by unfold I64; omega)
              have IY := Lib.hid (show I64 y by unfold I64; omega)
              have n1 := itoa_len IX.out
              have n2 := itoa_len IY.out
              have n3 : S.length ≤ 52428800 := by have := hst.out.len; have := HL.out; have := HB.out; omega
              have p0 : (0 : Int) ≤ (i : Int) := Int.natCast_nonneg _
              have p1 : (i : Int) < (xs.length : Int) := by have := HL.out; omega
              have l1 : ¬ 9223372036854775807 < S.length + 1 := by omega
              have l2 : ¬ 9223372036854775807 < S.length + 1 + (Lib.itoa x).length := by omega
              have l3 : ¬ 9223372036854775807 < S.length + 1 + (Lib.itoa x).length + 1 := by omega
              have l4 : ¬ 9223372036854775807 < S.length + 1 + (Lib.itoa x).length + 1 + (Lib.itoa y).length := by omega
              have l5 : ¬ 9223372036854775807 < (Lib.itoa x).length := by omega
              have l6 : ¬ 9223372036854775807 < (Lib.itoa x).length + 1 := by omega
              have l7 : ¬ 9223372036854775807 < (Lib.itoa x).length + 1 + (Lib.itoa y).length := by omega
              clear n1 n2 n3
              by_cases h0 : i = 0
              · obtain rfl : S = [] := hst.out.empty.2 h0
                have hnx : Hid (SetSt xs (k + 1) (wordOf xs i k)) := Lib.hid (by have h := (h0 ▸ hst.out : SetSt xs 0 []).first HD.out (h0 ▸ HL.out); rw [← h0, HE.out] at h; exact h)
                clear h0
                by_cases hik : i < k
                · have HW := Lib.hid (wordOf_run (l := xs) hik)
                  have hgt : (i : Int) < (k : Int) := by omega
                  clear hik
                  go_wp2_with fail
                  go_quiet (fail)
                  go_wp2_with fail
                  refine (spec_FormatInt x _ IX.out).mono ?_
                  rintro e w2 ⟨rfl, g2⟩
                  have d2 := g2.cellv d0
                  go_wp2_with fail
                  refine (spec_FormatInt y _ IY.out).mono ?_
                  rintro e w3 ⟨rfl, g3⟩
                  go_wp2_with fail
                  refine ⟨⟨k + 1, _, HK.out, rfl, congrArg Value.string (cat4 [] (Lib.itoa x) [45] (Lib.itoa y)), Lib.hid (by have h := hnx.out; rw [HW.out, ← HXi.out, ← HY.out] at h; simpa using h), ((hg.trans (hg2.drewN _)).trans g2).trans g3⟩, ?_⟩
                  have z1 := HK.out
                  have z2 := HIK.out
                  simp only [intOf]
                  omega
                · have HW := Lib.hid (wordOf_lone (l := xs) hik)
                  have hgt : ¬ (i : Int) < (k : Int) := by omega
                  clear hik
                  go_wp2_with fail
                  go_quiet (fail)
                  go_wp2_with fail
                  refine (spec_FormatInt x _ IX.out).mono ?_
                  rintro e w2 ⟨rfl, g2⟩
                  go_wp2_with fail
                  refine ⟨⟨k + 1, _, HK.out, rfl, congrArg Value.string (cat2 [] (Lib.itoa x)), Lib.hid (by have h := hnx.out; rw [HW.out, ← HXi.out] at h; simpa using h), (hg.trans (hg2.drewN _)).trans g2⟩, ?_⟩
                  have z1 := HK.out
                  have z2 := HIK.out
                  simp only [intOf]
                  omega
              · have hne : S.isEmpty = false := by
                  cases S with
                  | nil => exact absurd (hst.out.empty.1 rfl) h0
                  | cons _ _ => rfl
                have hnx : Hid (SetSt xs (k + 1) (S ++ [32] ++ wordOf xs i k)) := Lib.hid (by have h := hst.out.next HD.out HL.out h0; rw [HE.out] at h; exact h)
                clear h0
                by_cases hik : i < k
                · have HW := Lib.hid (wordOf_run (l := xs) hik)
                  have hgt : (i : Int) < (k : Int) := by omega
                  clear hik
                  go_wp2_with fail
                  go_quiet (fail)
                  go_wp2_with fail
                  refine (spec_FormatInt x _ IX.out).mono ?_
                  rintro e w2 ⟨rfl, g2⟩
                  have d2 := g2.cellv d0
                  go_wp2_with fail
                  refine (spec_FormatInt y _ IY.out).mono ?_
                  rintro e w3 ⟨rfl, g3⟩
                  go_wp2_with fail
                  refine ⟨⟨k + 1, _, HK.out, rfl, congrArg Value.string (cat5 S [32] (Lib.itoa x) [45] (Lib.itoa y)), Lib.hid (by have h := hnx.out; rw [HW.out, ← HXi.out, ← HY.out] at h; simpa using h), ((hg.trans (hg2.drewN _)).trans g2).trans g3⟩, ?_⟩
                  have z1 := HK.out
                  have z2 := HIK.out
                  simp only [intOf]
                  omega
                · have HW := Lib.hid (wordOf_lone (l := xs) hik)
                  have hgt : ¬ (i : Int) < (k : Int) := by omega
                  clear hik
                  go_wp2_with fail
                  go_quiet (fail)
                  go_wp2_with fail
                  refine (spec_FormatInt x _ IX.out).mono ?_
                  rintro e w2 ⟨rfl, g2⟩
                  go_wp2_with fail
                  refine ⟨⟨k + 1, _, HK.out, rfl, congrArg Value.string (cat3 S [32] (Lib.itoa x)), Lib.hid (by have h := hnx.out; rw [HW.out, ← HXi.out] at h; simpa using h), (hg.trans (hg2.drewN _)).trans g2⟩, ?_⟩
                  have z1 := HK.out
                  have z2 := HIK.out
                  simp only [intOf]
                  omega
          · have HE := Lib.hid (he.out.trans (endOf_stop (fun h => h1 h.1)))
            have q2 : decide ((k : Int) + 1 < (xs.length : Int)) = false := by simp; omega
            have q3 : ¬ (k : Int) + 1 < (xs.length : Int) := by omega
            clear h1 he
            obtain ⟨x, HXi, x0, x1, ci⟩ := HC.out i HL.out
            replace ci := hg2.cellv ci
            have IX := Lib.hid (show I64 x by unfold I64; omega)
            have IY := Lib.hid (show I64 y by unfold I64; omega)
            have n1 := itoa_len IX.out
            have n2 := itoa_len IY.out
            have n3 : S.length ≤ 52428800 := by have := hst.out.len; have := HL.out; have := HB.out; omega
            have p0 : (0 : Int) ≤ (i : Int) := Int.natCast_nonneg _
            have p1 : (i : Int) < (xs.length : Int) := by have := HL.out; omega
            have l1 : ¬ 9223372036854775807 < S.length + 1 := by omega
            have l2 : ¬ 9223372036854775807 < S.length + 1 + (Lib.itoa x).length := by omega
            have l3 : ¬ 9223372036854775807 < S.length + 1 + (Lib.itoa x).length + 1 := by omega
            have l4 : ¬ 9223372036854775807 < S.length + 1 + (Lib.itoa x).length + 1 + (Lib.itoa y).length := by omega
            have l5 : ¬ 9223372036854775807 < (Lib.itoa x).length := by omega
            have l6 : ¬ 9223372036854775807 < (Lib.itoa x).length + 1 := by omega
            have l7 : ¬ 9223372036854775807 < (Lib.itoa x).length + 1 + (Lib.itoa y).length := by omega
            clear n1 n2 n3
            by_cases h0 : i = 0
            · obtain rfl : S = [] := hst.out.empty.2 h0
              have hnx : Hid (SetSt xs (k + 1) (wordOf xs i k)) := Lib.hid (by have h := (h0 ▸ hst.out : SetSt xs 0 []).first HD.out (h0 ▸ HL.out); rw [← h0, HE.out] at h; exact h)
              clear h0
              by_cases hik : i < k
              · have HW := Lib.hid (wordOf_run (l := xs) hik)
                have hgt : (i : Int) < (k : Int) := by omega
                clear hik
                go_wp2_with fail
                go_quiet (fail)
                go_wp2_with fail
                refine (spec_FormatInt x _ IX.out).mono ?_
                rintro e w2 ⟨rfl, g2⟩
                have d2 := g2.cellv d0
                go_wp2_with fail
                refine (spec_FormatInt y _ IY.out).mono ?_
                rintro e w3 ⟨rfl, g3⟩
                go_wp2_with fail
                refine ⟨⟨k + 1, _, HK.out, rfl, congrArg Value.string (cat4 [] (Lib.itoa x) [45] (Lib.itoa y)), Lib.hid (by have h := hnx.out; rw [HW.out, ← HXi.out, ← HY.out] at h; simpa using h), ((hg.trans (hg2.drewN _)).trans g2).trans g3⟩, ?_⟩
                have z1 := HK.out
                have z2 := HIK.out
                simp only [intOf]
                omega
              · have HW := Lib.hid (wordOf_lone (l := xs) hik)
                have hgt : ¬ (i : Int) < (k : Int) := by omega
                clear hik
                go_wp2_with fail
                go_quiet (fail)
                go_wp2_with fail
                refine (spec_FormatInt x _ IX.out).mono ?_
                rintro e w2 ⟨rfl, g2⟩
                go_wp2_with fail
                refine ⟨⟨k + 1, _, HK.out, rfl, congrArg Value.string (cat2 [] (Lib.itoa x)), Lib.hid (by have h := hnx.out; rw [HW.out, ← HXi.out] at h; simpa using h), (hg.trans (hg2.drewN _)).trans g2⟩, ?_⟩
                have z1 := HK.out
                have z2 := HIK.out
                simp only [intOf]
                omega
            · have hne : S.isEmpty = false := by
                cases S with
                | nil => exact absurd (hst.out.empty.1 rfl) h0
                | cons _ _ => rfl
              have hnx : Hid (SetSt xs (k + 1) (S ++ [32] ++ wordOf xs i k)) := Lib.hid (by have h := hst.out.next HD.out HL.out h0; rw [HE.out] at h; exact h)
              clear h0
              by_cases hik : i < k
              · have HW := Lib.hid (wordOf_run (l := xs) hik)
                have hgt : (i : Int) < (k : Int) := by omega
                clear hik
                go_wp2_with fail
                go_quiet (fail)
                go_wp2_with fail
                refine (spec_FormatInt x _ IX.out).mono ?_
                rintro e w2 ⟨rfl, g2⟩
                have d2 := g2.cellv d0
                go_wp2_with fail
                refine (spec_FormatInt y _ IY.out).mono ?_
                rintro e w3 ⟨rfl, g3⟩
                go_wp2_with fail
                refine ⟨⟨k + 1, _, HK.out, rfl, congrArg Value.string (cat5 S [32] (Lib.itoa x) [45] (Lib.itoa y)), Lib.hid (by have h := hnx.out; rw [HW.out, ← HXi.out, ← HY.out] at h; simpa using h), ((hg.trans (hg2.drewN _)).trans g2).trans g3⟩, ?_⟩
                have z1 := HK.out
                have z2 := HIK.out
                simp only [intOf]
                omega
              · have HW := Lib.hid (wordOf_lone (l := xs) hik)
                have hgt : ¬ (i : Int) < (k : Int) := by omega
                clear hik
                go_wp2_with fail
                go_quiet (fail)
                go_wp2_with fail
                refine (spec_FormatInt x _ IX.out).mono ?_
                rintro e w2 ⟨rfl, g2⟩
                go_wp2_with fail
                refine ⟨⟨k + 1, _, HK.out, rfl, congrArg Value.string (cat3 S [32] (Lib.itoa x)), Lib.hid (by have h := hnx.out; rw [HW.out, ← HXi.out] at h; simpa using h), (hg.trans (hg2.drewN _)).trans g2⟩, ?_⟩
                have z1 := HK.out
                have z2 := HIK.out
                simp only [intOf]
                omega
      · by_cases hn : xs = []
        · subst hn
          obtain rfl : i = 0 := by simpa using hi
          obtain rfl : S = [] := hst.out.empty.2 rfl
          go_wp2_with fail
          go_ret
          exact ⟨ret_str rfl, hg⟩
        · have hne : S.isEmpty = false := by
            cases S with
            | nil => exact absurd (hst.out.empty.1 rfl) (fun e => hn (List.eq_nil_of_length_eq_zero (by omega)))
            | cons _ _ => rfl
          have HE := Lib.hid (hst.out.done hlt HS.out hn)
          have q1 : ¬ (i : Int) < (xs.length : Int) := by omega
          clear hn hlt hi
          go_wp2_with fail
          go_ret
          exact ⟨ret_str (by rw [HE.out]), hg⟩
set_option maxRecDepth 100000 in
set_option maxHeartbeats 2000000 in
theorem impl_FormatSet (v : Value) (xs : List Int) (w : World) (hT : Tens Tryd.prog w) (hv : RInts w v xs) (hb : xs.length ≤ 1048576) :
    Calls Tryd.prog 17 #[v] w fun e w' => e = .returned (.string ⟨(setText xs).toArray⟩) ∧ Gr w w' := by
  obtain ⟨a, cap, rfl, hl, hm, hx⟩ := hv.open
  have HT := Lib.hid hT
  have HV := Lib.hid hv
  have HX := Lib.hid hx
  have HB := Lib.hid hb
  clear hv hx hb hT
  cases hs : isSetB xs with
  | false =>
    have HS := Lib.hid hs
    clear hs
    go_enter Tryd.func17, Tryd.ntmps17
    go_wp2_with fail
    refine (impl_IsSet_of HS.out _ _ HV.out).mono ?_
    rintro e w1 ⟨rfl, g1⟩
    go_wp2_with fail
    go_ret
    exact ⟨ret_str (by rw [setText_no HS.out]), g1⟩
  | true =>
    have HS := Lib.hid hs
    clear hs
    have hbd := isSet_bound HS.out
    have HD := Lib.hid (show ∀ k, k < xs.length → I64 (xs.getD k 0) from fun k hk => by rw [getD_lt hk]; have := hbd k hk; unfold I64; omega)
    replace hbd := Lib.hid hbd
    go_enter Tryd.func17, Tryd.ntmps17
    go_wp2_with fail
    refine (impl_IsSet_of HS.out _ _ HV.out).mono ?_
    rintro e w1 ⟨rfl, g1⟩
    go_wp2_with fail
    have hown0 := own_empty w1 9 1 w.heap.size g1.size
    have g1a : Gr w (w1.alloc (.cells #[] 9)) := g1.alloc _
    go_loopw [3, 4] (fun sv iv wr => ∃ (i : Nat) (bs : List ByteArray) (sa : Option Addr) (sc : Nat), i ≤ xs.length ∧ iv = .int .i64 i ∧ sv = .slice sa bs.length sc ∧ wr.ownsRow w.heap.size 9 1 sv bs.length (bs.map Value.string) ∧ Hid (SetWs xs i bs) ∧ Gr w wr) (fun _ i _ => xs.length - (intOf i).toNat)
    case atStart => exact ⟨0, [], _, _, Nat.zero_le _, rfl, rfl, hown0, Lib.hid (SetWs.zero xs), g1a⟩
    case round =>
      obtain ⟨i, bs, sa, sc, hi, rfl, rfl, hown, hst, hg⟩ := hrel
      obtain ⟨W1, hW1⟩ : ∃ W1, W1 = wr := ⟨_, rfl⟩
      subst hW1
      by_cases hlt : i < xs.length
      · obtain ⟨b, off, rfl, -, -⟩ := HX.out i hlt
        have HC : Hid (∀ k, k < xs.length → ∃ y, Hid (y = xs.getD k 0) ∧ 0 ≤ y ∧ y ≤ 23 ∧ W1.cell? ⟨b, off + k, none⟩ = some (.int .i64 y)) := Lib.hid fun k hk => by
          obtain ⟨b', off', e', hc', _⟩ := HX.out k hk
          simp only [Option.some.injEq, Addr.mk.injEq] at e'
          obtain ⟨rfl, rfl, -⟩ := e'
          exact ⟨xs[k], Lib.hid (getD_lt hk).symm, (hbd.out k hk).1, (hbd.out k hk).2, hg.cellv hc'⟩
        have HL := Lib.hid hlt
        clear hi
        go_wp2_with fail
        clear hlt
        go_loopw [5] (fun kv wr => ∃ k : Nat, kv = .int .i64 k ∧ Hid (i ≤ k ∧ k < xs.length) ∧ Hid (endOf xs i = endOf xs k) ∧ Gr W1 wr) (fun k _ => xs.length - (intOf k).toNat)
        case atStart => exact ⟨i, rfl, Lib.hid ⟨Nat.le_refl _, HL.out⟩, Lib.hid rfl, Gr.refl _⟩
        case round =>
          obtain ⟨k, rfl, hkk, he, hg2⟩ := hrel
          have HK : Hid (k < xs.length) := Lib.hid hkk.out.2
          have HIK : Hid (i ≤ k) := Lib.hid hkk.out.1
          clear hkk
          have q0 : (0 : Int) ≤ (k : Int) := Int.natCast_nonneg _
          have q1 : (k : Int) < (xs.length : Int) := by have := HK.out; omega
          obtain ⟨y, HY, y0, y1, d0⟩ := HC.out k HK.out
          replace d0 := hg2.cellv d0
          by_cases h1 : k + 1 < xs.length
          · obtain ⟨z, HZ, z0, z1, d1⟩ := HC.out (k + 1) h1
            replace d1 := hg2.cellv d1
            have q2 : (k : Int) + 1 < (xs.length : Int) := by omega
            have H1 := Lib.hid h1
            by_cases h2 : z = y + 1
            · have HN := Lib.hid (endOf_go h1 (by rw [← HY.out, ← HZ.out]; exact h2))
              have h3 : (z == y + 1) = true := by simpa using h2
              have HH := Lib.hid h2
              clear h1 h2
              go_wp2_with fail
              go_quiet (fail)
              go_wp2_with fail
              go_roundw
              case rel => exact ⟨k + 1, by go_num, Lib.hid ⟨by have := HIK.out; omega, H1.out⟩, Lib.hid (he.out.trans HN.out), hg2.drewN _⟩
              case measure => have := H1.out; simp [intOf]; omega
            · have HE := Lib.hid (he.out.trans (endOf_stop (fun h => h2 (by rw [HY.out, HZ.out]; exact h.2))))
              have h3 : (z == y + 1) = false := by simpa using h2
              have HH := Lib.hid h2
              clear h1 h2 he
              obtain ⟨x, HXi, x0, x1, ci⟩ := HC.out i HL.out
              replace ci := hg2.cellv ci
              have IX := Lib.hid (show I64 x by unfold I64; omega)
              have IY := Lib.hid (show I64 y by unfold I64; omega)
              have n1 := itoa_len IX.out
              have n2 := itoa_len IY.out
              have p0 : (0 : Int) ≤ (i : Int) := Int.natCast_nonneg _
              have p1 : (i : Int) < (xs.length : Int) := by have := HL.out; omega
              have l1 : ¬ 9223372036854775807 < 1 + (Lib.itoa y).length := by omega
              have l2 : ¬ 9223372036854775807 < (Lib.itoa x).length + (1 + (Lib.itoa y).length) := by omega
              have hnn := Lib.hid (show bs.length + 1 ≤ 8796093022208 by have := hst.out.len; have := HL.out; have := HB.out; omega)
              clear n1 n2
              have hnx : Hid (∀ q : ByteArray, q = bsOf (wordOf xs i k) → SetWs xs (k + 1) (bs ++ [q])) := Lib.hid (fun q hq => by have h := hst.out.next (y := q) HD.out HL.out (by rw [HE.out]; exact hq); rw [HE.out] at h; exact h)
              have hel : ∀ q : ByteArray, (bs ++ [q]).length = bs.length + 1 := fun q => by simp
              replace hel := Lib.hid hel
              by_cases hik : i < k
              · have HW := Lib.hid (wordOf_run (l := xs) hik)
                have hgt : (i : Int) < (k : Int) := by omega
                clear hik
                go_wp2_with fail
                go_quiet (fail)
                go_wp2_with fail
                refine (impl_FormatInt x _ IX.out (tab_gr HT.out (hg.trans (hg2.drewN _)))).mono ?_
                rintro e w2 ⟨rfl, g2⟩
                have d2 := g2.cellv d0
                have G2 := Lib.hid ((hg.trans (hg2.drewN _)).trans g2)
                go_wp2_with fail
                refine (impl_FormatInt y _ IY.out (tab_gr HT.out G2.out)).mono ?_
                rintro e w3 ⟨rfl, g3⟩
                have G3 := Lib.hid (G2.out.trans g3)
                have hown3 := ownsRow_gr hown ((hg2.drewN nq).trans (g2.trans g3))
                go_wp2_with (at_builtin; refine push_s rfl _ _ rfl bs _ rfl rfl rfl hown3 hnn.out G3.out.size ?_; intro g4 cap4 w4 hown4 hb4)
                go_roundw
                case rel => exact ⟨k + 1, bs ++ [_], some ⟨g4, 0, none⟩, cap4, HK.out, rfl, by simp, own_len hown4, Lib.hid (hnx.out _ (by rw [HW.out, ← HXi.out, ← HY.out]; exact cat2r _ [45] _)), G3.out.trans' hb4⟩
                case measure => have z1 := HK.out; have z2 := HIK.out; simp only [intOf]; omega
              · have HW := Lib.hid (wordOf_lone (l := xs) hik)
                have hgt : ¬ (i : Int) < (k : Int) := by omega
                clear hik
                go_wp2_with fail
                go_quiet (fail)
                go_wp2_with fail
                refine (impl_FormatInt x _ IX.out (tab_gr HT.out (hg.trans (hg2.drewN _)))).mono ?_
                rintro e w2 ⟨rfl, g2⟩
                have G2 := Lib.hid ((hg.trans (hg2.drewN _)).trans g2)
                have hown3 := ownsRow_gr hown ((hg2.drewN nq).trans g2)
                go_wp2_with (at_builtin; refine push_s rfl _ _ rfl bs _ rfl rfl rfl hown3 hnn.out G2.out.size ?_; intro g4 cap4 w4 hown4 hb4)
                go_roundw
                case rel => exact ⟨k + 1, bs ++ [_], some ⟨g4, 0, none⟩, cap4, HK.out, rfl, by simp, own_len hown4, Lib.hid (hnx.out _ (by rw [HW.out, ← HXi.out])), G2.out.trans' hb4⟩
                case measure => have z1 := HK.out; have z2 := HIK.out; simp only [intOf]; omega
          · have HE := Lib.hid (he.out.trans (endOf_stop (fun h => h1 h.1)))
            have q2 : decide ((k : Int) + 1 < (xs.length : Int)) = false := by simp; omega
            have q3 : ¬ (k : Int) + 1 < (xs.length : Int) := by omega
            clear h1 he
            obtain ⟨x, HXi, x0, x1, ci⟩ := HC.out i HL.out
            replace ci := hg2.cellv ci
            have IX := Lib.hid (show I64 x by unfold I64; omega)
            have IY := Lib.hid (show I64 y by unfold I64; omega)
            have n1 := itoa_len IX.out
            have n2 := itoa_len IY.out
            have p0 : (0 : Int) ≤ (i : Int) := Int.natCast_nonneg _
            have p1 : (i : Int) < (xs.length : Int) := by have := HL.out; omega
            have l1 : ¬ 9223372036854775807 < 1 + (Lib.itoa y).length := by omega
            have l2 : ¬ 9223372036854775807 < (Lib.itoa x).length + (1 + (Lib.itoa y).length) := by omega
            have hnn := Lib.hid (show bs.length + 1 ≤ 8796093022208 by have := hst.out.len; have := HL.out; have := HB.out; omega)
            clear n1 n2
            have hnx : Hid (∀ q : ByteArray, q = bsOf (wordOf xs i k) → SetWs xs (k + 1) (bs ++ [q])) := Lib.hid (fun q hq => by have h := hst.out.next (y := q) HD.out HL.out (by rw [HE.out]; exact hq); rw [HE.out] at h; exact h)
            have hel : ∀ q : ByteArray, (bs ++ [q]).length = bs.length + 1 := fun q => by simp
            replace hel := Lib.hid hel
            by_cases hik : i < k
            · have HW := Lib.hid (wordOf_run (l := xs) hik)
              have hgt : (i : Int) < (k : Int) := by omega
              clear hik
              go_wp2_with fail
              go_quiet (fail)
              go_wp2_with fail
              refine (impl_FormatInt x _ IX.out (tab_gr HT.out (hg.trans (hg2.drewN _)))).mono ?_
              rintro e w2 ⟨rfl, g2⟩
              have d2 := g2.cellv d0
              have G2 := Lib.hid ((hg.trans (hg2.drewN _)).trans g2)
              go_wp2_with fail
              refine (impl_FormatInt y _ IY.out (tab_gr HT.out G2.out)).mono ?_
              rintro e w3 ⟨rfl, g3⟩
              have G3 := Lib.hid (G2.out.trans g3)
              have hown3 := ownsRow_gr hown ((hg2.drewN nq).trans (g2.trans g3))
              go_wp2_with (at_builtin; refine push_s rfl _ _ rfl bs _ rfl rfl rfl hown3 hnn.out G3.out.size ?_; intro g4 cap4 w4 hown4 hb4)
              go_roundw
              case rel => exact ⟨k + 1, bs ++ [_], some ⟨g4, 0, none⟩, cap4, HK.out, rfl, by simp, own_len hown4, Lib.hid (hnx.out _ (by rw [HW.out, ← HXi.out, ← HY.out]; exact cat2r _ [45] _)), G3.out.trans' hb4⟩
              case measure => have z1 := HK.out; have z2 := HIK.out; simp only [intOf]; omega
            · have HW := Lib.hid (wordOf_lone (l := xs) hik)
              have hgt : ¬ (i : Int) < (k : Int) := by omega
              clear hik
              go_wp2_with fail
              go_quiet (fail)
              go_wp2_with fail
              refine (impl_FormatInt x _ IX.out (tab_gr HT.out (hg.trans (hg2.drewN _)))).mono ?_
              rintro e w2 ⟨rfl, g2⟩
              have G2 := Lib.hid ((hg.trans (hg2.drewN _)).trans g2)
              have hown3 := ownsRow_gr hown ((hg2.drewN nq).trans g2)
              go_wp2_with (at_builtin; refine push_s rfl _ _ rfl bs _ rfl rfl rfl hown3 hnn.out G2.out.size ?_; intro g4 cap4 w4 hown4 hb4)
              go_roundw
              case rel => exact ⟨k + 1, bs ++ [_], some ⟨g4, 0, none⟩, cap4, HK.out, rfl, by simp, own_len hown4, Lib.hid (hnx.out _ (by rw [HW.out, ← HXi.out])), G2.out.trans' hb4⟩
              case measure => have z1 := HK.out; have z2 := HIK.out; simp only [intOf]; omega
      · by_cases hn : xs = []
        · subst hn
          obtain rfl : i = 0 := by simpa using hi
          obtain rfl : bs = [] := hst.out.empty.1 rfl
          go_wp2_with fail
          go_ret
          exact ⟨ret_str rfl, hg⟩
        · have q1 : ¬ (i : Int) < (xs.length : Int) := by omega
          have hi0 : i ≠ 0 := fun e => hn (List.eq_nil_of_length_eq_zero (by omega))
          have hbe : bs ≠ [] := fun e => hi0 (hst.out.empty.2 e)
          have hbl : bs.length ≠ 0 := fun e => hbe (List.eq_nil_of_length_eq_zero e)
          have hb0 : ((bs.length : Int) == 0) = false := by simp; exact hbe
          obtain ⟨ws, HBS, h1, h2, h3, h4⟩ := hst.out
          have HS2 := Lib.hid (h2.done hlt HS.out hn)
          have HJ := Lib.hid (show (Lib.join ws [32]).length ≤ 140737488355328 by have := h2.len; have := HB.out; omega)
          have HN := Lib.hid (show ws ≠ [] from fun e => hbe (by rw [HBS, e]; rfl))
          have HL := Lib.hid (show ws.length ≤ 140737488355328 by have := HB.out; omega)
          replace HBS := Lib.hid HBS
          clear hn hlt hi hi0 hbe h1 h2 h3 h4 hbl
          go_wp2_with fail
          have hown' : W1.ownsRow w.heap.size 9 1 (.slice sa bs.length sc) (ws.map bsOf).length ((ws.map bsOf).map Value.string) := by rw [← HBS.out]; exact hown
          refine (join_own hown' [32] HN.out HL.out HJ.out).mono ?_
          rintro e w2 ⟨rfl, g2⟩
          go_wp2_with fail
          go_ret
          exact ⟨ret_str (by rw [HS2.out]), hg.trans g2⟩
end Go.Proofs.YtcdcpfcmhmhdjaaDoor
