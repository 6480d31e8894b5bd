/- ParseQuery: the plain law: what the two readers make is one and the same. No program in sight. -/
import Derived.Test.YtjeffagejbdjkaaDoorPRowP
import Derived.Test.YtjeffagejbdjkaaDoorQryP
import Derived.Test.YtjeffagejbdjkaaDoorMatch
namespace Go.Proofs.YtjeffagejbdjkaaDoor
open Go.RowKit
def aftS (c : UInt8) (p : List UInt8) : Int := if p.length < 2 ∨ p.head? ≠ some c then -100000 else numV (p.drop 1)
def rngS (p : List UInt8) : Int × Int := if (Lib.cut p [46, 46]).2.2 then (numV (Lib.cut p [46, 46]).1, numV (Lib.cut p [46, 46]).2.1) else (-100000, -100000)
def atW (P : List (List UInt8)) (k : Nat) : List UInt8 := P.getD k []
def qn (P : List (List UInt8)) : Nat := (P.length - 4) / 2
def qcS (P : List (List UInt8)) (k : Nat) : DCond := ⟨aftS 102 (atW P (2 + 2 * k)), (rngS (atW P (3 + 2 * k))).1, (rngS (atW P (3 + 2 * k))).2⟩
def qcsS (P : List (List UInt8)) (k : Nat) : List DCond := (List.range k).map (qcS P)
def outS3 (P : List (List UInt8)) : List Int := (cutL 44 (atW P (P.length - 1))).map numV
def qS (P : List (List UInt8)) : DQuery := ⟨aftS 113 (atW P 0), aftS 116 (atW P 1), qcsS P (qn P), outS3 P⟩
def specQuery (l : List UInt8) : Option DQuery := if 4 ≤ (cutL 32 l).length ∧ queryText (qS (cutL 32 l)) = l then some (qS (cutL 32 l)) else none
def pV (p : List UInt8) : Int := (parseI p).getD 0
def pB (p : List UInt8) : Bool := (parseI p).isSome
def aV (c : UInt8) (p : List UInt8) : Int := pV (Lib.trimPrefix p [c])
def aB (c : UInt8) (p : List UInt8) : Bool := Lib.hasPrefix p [c] && pB (Lib.trimPrefix p [c])
def qcI (P : List (List UInt8)) (k : Nat) : DCond := ⟨aV 102 (atW P (2 + 2 * k)), pV (Lib.cut (atW P (3 + 2 * k)) [46, 46]).1, pV (Lib.cut (atW P (3 + 2 * k)) [46, 46]).2.1⟩
def qcB (P : List (List UInt8)) (k : Nat) : Bool := aB 102 (atW P (2 + 2 * k)) && (pB (Lib.cut (atW P (3 + 2 * k)) [46, 46]).1 && pB (Lib.cut (atW P (3 + 2 * k)) [46, 46]).2.1)
def qcsI (P : List (List UInt8)) (k : Nat) : List DCond := (List.range k).map (qcI P)
def okC (P : List (List UInt8)) (k : Nat) : Bool := (List.range k).all (qcB P)
def outI (P : List (List UInt8)) : Option (List Int) := parseAll (cutL 44 (atW P (P.length - 1)))
def hdB (P : List (List UInt8)) : Bool := aB 113 (atW P 0) && (aB 116 (atW P 1) && (outI P).isSome)
def qI (P : List (List UInt8)) : DQuery := ⟨aV 113 (atW P 0), aV 116 (atW P 1), qcsI P (qn P), (outI P).getD []⟩
def okI (P : List (List UInt8)) : Bool := hdB P && okC P (qn P)
def fitB (P : List (List UInt8)) : Bool := decide (4 ≤ P.length ∧ P.length % 2 = 0 ∧ P.length ≤ 10)
def implQuery (l : List UInt8) : Option DQuery := if fitB (cutL 32 l) = true ∧ okI (cutL 32 l) = true ∧ isQueryB (qI (cutL 32 l)) = true ∧ queryText (qI (cutL 32 l)) = l then some (qI (cutL 32 l)) else none
theorem aft_read {c : UInt8} {n : Int} (h : -999999999 ≤ n) (h' : n ≤ 999999999) : aftS c (c :: Lib.itoa n) = n ∧ aV c (c :: Lib.itoa n) = n ∧ aB c (c :: Lib.itoa n) = true := by
  have hp := parseI_itoa h h'
  have hne : Lib.itoa n ≠ [] := by
    intro e
    have := (parseI_some hp)
    by_cases k : n < 0
    · obtain ⟨u, rfl⟩ : ∃ u : Nat, n = -(u : Int) := ⟨n.natAbs, by omega⟩
      rw [itoa_neg (by omega)] at e; cases e
    · obtain ⟨u, rfl⟩ : ∃ u : Nat, n = (u : Int) := ⟨n.natAbs, by omega⟩
      rw [itoa_nn] at e; exact decDigits_ne u e
  have hl : 0 < (Lib.itoa n).length := List.length_pos_iff.2 hne
  have ht : Lib.trimPrefix (c :: Lib.itoa n) [c] = Lib.itoa n := by unfold Lib.trimPrefix Lib.hasPrefix; simp [List.isPrefixOf]
  have hh : Lib.hasPrefix (c :: Lib.itoa n) [c] = true := by unfold Lib.hasPrefix; simp [List.isPrefixOf]
  refine ⟨?_, ?_, ?_⟩
  · unfold aftS
    rw [if_neg (by simp; omega)]
    show numV (Lib.itoa n) = n
    exact numV_itoa h h'
  · unfold aV pV; rw [ht, hp]; rfl
  · unfold aB pB; rw [ht, hp, hh]; rfl
theorem dots_index {b : List UInt8} : ∀ {a : List UInt8}, (∀ x ∈ a, x ≠ 46) → Lib.index (a ++ 46 :: 46 :: b) [46, 46] = (a.length : Int)
  | [], _ => by rw [List.nil_append, Lib.index]; simp [List.isPrefixOf]
  | x :: a, h => by
    have ih := dots_index (b := b) (a := a) (fun y hy => h y (by simp [hy]))
    have hx : x ≠ 46 := h x (by simp)
    rw [List.cons_append, Lib.index, if_neg (by simp [List.isPrefixOf]; exact fun e => absurd e.symm hx), ih, if_neg (by simp)]
    simp
theorem dots_cut {a b : List UInt8} (h : ∀ x ∈ a, x ≠ 46) : Lib.cut (a ++ 46 :: 46 :: b) [46, 46] = (a, b, true) := by
  unfold Lib.cut
  rw [dots_index h, if_pos (Int.natCast_nonneg _)]
  simp [List.drop_append]
theorem rng_read {x y : Int} (h1 : 0 ≤ x) (_ : x ≤ 999999999) (_ : 0 ≤ y) (_ : y ≤ 999999999) : Lib.cut (Lib.itoa x ++ [46, 46] ++ Lib.itoa y) [46, 46] = (Lib.itoa x, Lib.itoa y, true) := by
  have e : Lib.itoa x ++ [46, 46] ++ Lib.itoa y = Lib.itoa x ++ 46 :: 46 :: Lib.itoa y := by simp
  rw [e]; exact dots_cut (digits_no (by decide) h1)
theorem cw_get : ∀ (cs : List DCond) (t : List (List UInt8)) (k : Nat) (h : k < cs.length), (condWords cs ++ t).getD (2 * k) [] = fWord cs[k] ∧ (condWords cs ++ t).getD (2 * k + 1) [] = rWord cs[k]
  | [], _, _, h => absurd h (Nat.not_lt_zero _)
  | c :: r, t, k, h => by
    have e : condWords (c :: r) ++ t = fWord c :: rWord c :: (condWords r ++ t) := by unfold condWords; simp
    rw [e]
    cases k with
    | zero => exact ⟨rfl, rfl⟩
    | succ k =>
      have ih := cw_get r t k (by simpa using h)
      have e2 : 2 * (k + 1) = 2 * k + 1 + 1 := by omega
      rw [e2]
      exact ⟨ih.1, ih.2⟩
theorem qw_len (q : DQuery) : (queryWords q).length = 4 + 2 * q.conds.length := by unfold queryWords; simp [condWords_len]; omega
theorem qw_get (q : DQuery) : atW (queryWords q) 0 = 113 :: Lib.itoa q.id ∧ atW (queryWords q) 1 = 116 :: Lib.itoa q.tenant ∧ atW (queryWords q) ((queryWords q).length - 1) = numsText q.out ∧ ∀ k (h : k < q.conds.length), atW (queryWords q) (2 + 2 * k) = fWord q.conds[k] ∧ atW (queryWords q) (3 + 2 * k) = rWord q.conds[k] := by
  refine ⟨rfl, rfl, ?_, fun k h => ?_⟩
  · rw [qw_len]
    unfold atW queryWords
    rw [List.getD_eq_getElem?_getD, List.getElem?_append_right (by simp [condWords_len]; omega)]
    have e : 4 + 2 * q.conds.length - 1 - ([[113] ++ Lib.itoa q.id, [116] ++ Lib.itoa q.tenant] ++ condWords q.conds).length = 1 := by simp [condWords_len]; omega
    rw [e]; rfl
  · have e : queryWords q = ([113] ++ Lib.itoa q.id) :: ([116] ++ Lib.itoa q.tenant) :: (condWords q.conds ++ [[111, 117, 116], numsText q.out]) := by unfold queryWords; simp
    have e1 : 2 + 2 * k = 2 * k + 1 + 1 := by omega
    have e2 : 3 + 2 * k = 2 * k + 1 + 1 + 1 := by omega
    unfold atW
    rw [e, e1, e2]
    exact cw_get q.conds _ k h
theorem qw_no {q : DQuery} (h : isQueryB q = true) : ∀ w ∈ queryWords q, ∀ b ∈ w, b ≠ 32 := by
  obtain ⟨h1, h2, _, h4, _, _⟩ := isQueryB_parts h
  have ht : 0 ≤ q.tenant := by
    unfold isQueryB at h
    simp only [Bool.and_eq_true] at h
    have := inB_true h.2.2.1; omega
  have hd : ∀ {n : Int}, 0 ≤ n → ∀ b ∈ Lib.itoa n, b ≠ 32 := fun h => digits_no (by decide) h
  intro w hw b hb
  unfold queryWords at hw
  simp only [List.mem_append, List.mem_cons, List.not_mem_nil, or_false] at hw
  rcases hw with (hw | hw) | hw
  · rcases hw with rfl | rfl
    · rcases List.mem_append.1 hb with k | k
      · rw [List.mem_singleton.1 k]; decide
      · exact hd h2.1 b k
    · rcases List.mem_append.1 hb with k | k
      · rw [List.mem_singleton.1 k]; decide
      · exact hd ht b k
  · unfold condWords at hw
    obtain ⟨z, hz, hwz⟩ := List.mem_flatten.1 hw
    obtain ⟨c, hc, rfl⟩ := List.mem_map.1 hz
    obtain ⟨j, hj, rfl⟩ := List.getElem_of_mem hc
    have hp := isCondB_parts (h1 j hj)
    simp only [List.mem_cons, List.not_mem_nil, or_false] at hwz
    rcases hwz with rfl | rfl
    · unfold fWord at hb
      rcases List.mem_append.1 hb with k | k
      · rw [List.mem_singleton.1 k]; decide
      · exact hd hp.1 b k
    · unfold rWord at hb
      simp only [List.mem_append, List.mem_cons, List.not_mem_nil, or_false] at hb
      rcases hb with (k | k | k) | k
      · exact hd hp.2.2.1 b k
      · rw [k]; decide
      · rw [k]; decide
      · exact hd (by omega) b k
  · rcases hw with rfl | rfl
    · simp only [List.mem_cons, List.not_mem_nil, or_false] at hb
      rcases hb with rfl | rfl | rfl <;> decide
    · refine join_no (by decide) (fun w hw => ?_) b hb
      obtain ⟨x, hx, rfl⟩ := List.mem_map.1 hw
      obtain ⟨j, hj, rfl⟩ := List.getElem_of_mem hx
      exact hd (h4 j hj).1
theorem query_cut {q : DQuery} (h : isQueryB q = true) : cutL 32 (queryText q) = queryWords q := by
  rw [queryText_yes h, ← queryWords_join]
  exact cutL_join _ (by unfold queryWords; simp) (qw_no h)
theorem query_read {q : DQuery} (h : isQueryB q = true) : qS (queryWords q) = q ∧ qI (queryWords q) = q ∧ okI (queryWords q) = true ∧ fitB (queryWords q) = true := by
  obtain ⟨h1, h2, h3, h4, h5, h6⟩ := isQueryB_parts h
  have ht : 0 ≤ q.tenant ∧ q.tenant ≤ 3 := by
    unfold isQueryB at h
    simp only [Bool.and_eq_true] at h
    exact inB_true h.2.2.1
  obtain ⟨g0, g1, gz, gk⟩ := qw_get q
  have hn : qn (queryWords q) = q.conds.length := by unfold qn; rw [qw_len]; omega
  have hb : ∀ x ∈ q.out, -999999999 ≤ x ∧ x ≤ 999999999 := fun x hx => by
    obtain ⟨j, hj, rfl⟩ := List.getElem_of_mem hx
    have := h4 j hj; omega
  have hc : cutL 44 (numsText q.out) = q.out.map Lib.itoa := by
    refine cutL_join _ (by intro e; have := congrArg List.length e; rw [List.length_map] at this; simp at this; rw [this] at h5; simp at h5) ?_
    intro w hw; obtain ⟨x, hx, rfl⟩ := List.mem_map.1 hw
    obtain ⟨j, hj, rfl⟩ := List.getElem_of_mem hx
    exact digits_no (by decide) (h4 j hj).1
  have ho1 : outS3 (queryWords q) = q.out := by unfold outS3; rw [gz, hc, numV_map hb]
  have ho2 : outI (queryWords q) = some q.out := by unfold outI; rw [gz, hc, parseAll_map hb]
  obtain ⟨i1, i2, i3⟩ := aft_read (c := 113) (n := q.id) (by omega) (by omega)
  obtain ⟨t1, t2, t3⟩ := aft_read (c := 116) (n := q.tenant) (by omega) (by omega)
  have hk : ∀ k (hk : k < q.conds.length), qcS (queryWords q) k = q.conds[k] ∧ qcI (queryWords q) k = q.conds[k] ∧ qcB (queryWords q) k = true := fun k hk => by
    obtain ⟨f, r⟩ := gk k hk
    have hp := isCondB_parts (h1 k hk)
    obtain ⟨a1, a2, a3⟩ := aft_read (c := 102) (n := q.conds[k].field) (by omega) (by omega)
    have hr := rng_read (x := q.conds[k].low) (y := q.conds[k].high) (by omega) (by omega) (by omega) (by omega)
    have n1 := numV_itoa (n := q.conds[k].low) (by omega) (by omega)
    have n2 := numV_itoa (n := q.conds[k].high) (by omega) (by omega)
    have p1 := parseI_itoa (n := q.conds[k].low) (by omega) (by omega)
    have p2 := parseI_itoa (n := q.conds[k].high) (by omega) (by omega)
    have ef : fWord q.conds[k] = 102 :: Lib.itoa q.conds[k].field := rfl
    refine ⟨?_, ?_, ?_⟩
    · unfold qcS rngS; rw [f, r, ef, a1]; unfold rWord; rw [hr]; simp [n1, n2]
    · unfold qcI pV; rw [f, r, ef, a2]; unfold rWord; rw [hr]; simp [p1, p2]
    · unfold qcB pB; rw [f, r, ef, a3]; unfold rWord; rw [hr]; simp [p1, p2]
  have hs : qcsS (queryWords q) (qn (queryWords q)) = q.conds := by
    unfold qcsS; rw [hn]
    apply List.ext_getElem
    · simp
    · intro k a b; rw [List.getElem_map, List.getElem_range]; exact (hk k b).1
  have hi : qcsI (queryWords q) (qn (queryWords q)) = q.conds := by
    unfold qcsI; rw [hn]
    apply List.ext_getElem
    · simp
    · intro k a b; rw [List.getElem_map, List.getElem_range]; exact (hk k b).2.1
  have hok : okC (queryWords q) (qn (queryWords q)) = true := by
    unfold okC; rw [hn, List.all_eq_true]
    intro k hk2
    exact (hk k (List.mem_range.1 hk2)).2.2
  refine ⟨?_, ?_, ?_, ?_⟩
  · unfold qS; rw [g0, g1, i1, t1, hs, ho1]
  · unfold qI; rw [g0, g1, i2, t2, hi, ho2]; rfl
  · unfold okI hdB; rw [g0, g1, i3, t3, hok, ho2]; rfl
  · unfold fitB; rw [qw_len]; exact decide_eq_true (by omega)
theorem implQuery_some {l : List UInt8} {q : DQuery} (h : implQuery l = some q) : isQueryB q = true ∧ queryText q = l := by
  unfold implQuery at h
  split at h
  · rename_i hc; injection h with h; subst h; exact ⟨hc.2.2.1, hc.2.2.2⟩
  · cases h
theorem specQuery_eq (l : List UInt8) : specQuery l = implQuery l := by
  unfold specQuery
  by_cases hc : 4 ≤ (cutL 32 l).length ∧ queryText (qS (cutL 32 l)) = l
  · rw [if_pos hc]
    have hr : isQueryB (qS (cutL 32 l)) = true := by
      cases h : isQueryB (qS (cutL 32 l)) with
      | true => rfl
      | false =>
        have h2 := hc.2
        rw [queryText_no h] at h2
        have h3 := hc.1
        rw [← h2] at h3
        simp [cutL] at h3
    have hcut := query_cut hr
    rw [hc.2] at hcut
    obtain ⟨_, k2, k3, k4⟩ := query_read hr
    rw [← hcut] at k2 k3 k4
    unfold implQuery
    rw [k2, if_pos ⟨k4, k3, hr, hc.2⟩]
  · rw [if_neg hc]
    cases h : implQuery l with
    | none => rfl
    | some q =>
      obtain ⟨h1, h2⟩ := implQuery_some h
      have hcut := query_cut h1
      rw [h2] at hcut
      obtain ⟨k1, _, _, _⟩ := query_read h1
      refine absurd ⟨?_, ?_⟩ hc
      · rw [hcut, qw_len]; omega
      · rw [hcut, k1]; exact h2
end Go.Proofs.YtjeffagejbdjkaaDoor
