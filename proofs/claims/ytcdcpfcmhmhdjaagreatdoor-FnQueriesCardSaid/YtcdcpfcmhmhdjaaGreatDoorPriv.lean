/- The program's data in memory of one's own; what the law's marks make of it. No program in sight. -/
import Derived.Test.YtcdcpfcmhmhdjaaGreatDoorOwns
namespace Go.Proofs.YtcdcpfcmhmhdjaaGreatDoor
open Go.RowKit
def OInt (_ : Nat → Prop) (w : World) (cs : List Value) (n : Int) : Prop := RInt w cs n
theorem fr_int : FramedE OInt := fun _ _ _ _ _ _ h => h
theorem mo_int : MonoE OInt := fun _ _ _ _ _ _ h => h
abbrev PInts := OSl 3 1 OInt
theorem rd_pints {F : Nat → Prop} {w : World} {v : Value} {xs : List Int} (h : PInts F w v xs) : RInts w v xs := h.reads fun _ _ _ _ h => h
/-- The elements alone: for integers there is nothing to keep apart. -/
theorem pints_of {F : Nat → Prop} {w : World} {v : Value} {xs : List Int} {t : Nat} (ht : t = 3) {lo : Nat} (h : w.ownsRow lo t 1 v xs.length (xs.map (Value.int .i64))) (hi : ∀ x ∈ xs, I64 x) (hF : ∀ g, v.ownBlock = some g → F g) : PInts F w v xs := by
  subst ht
  have e : xs.map (Value.int .i64) = flatC 1 xs.length fun i => [.int .i64 (xs.getD i 0)] := by
    apply List.ext_getElem?; intro p
    rw [flatC_get, List.getElem?_map]
    by_cases hp : p < xs.length <;> simp [hp, Nat.mod_one]
  rw [e] at h
  refine ⟨_, ⟨h.1, ?_⟩, hF, fun _ _ => False, fun i hi' => ⟨rfl, ⟨by simp [hi'], hi _ (List.getElem_mem hi')⟩, fun b hb => hb.elim, fun _ _ _ _ hb => hb.elim⟩⟩
  rcases h.2 with h0 | ⟨g, cap, cur, hv, _, r⟩
  · exact Or.inl h0
  · exact Or.inr ⟨g, cap, cur, hv, Nat.zero_le _, r⟩
theorem OInts.priv {lo : Nat} {w : World} {v : Value} {xs : List Int} (h : OInts lo w v xs) : PInts (In lo w.heap.size) w v xs := pints_of rfl h.1 h.2 fun g hg => h.1.lt g hg
theorem ints_row {F : Nat → Prop} {w : World} {v : Value} {xs : List Int} (h : PInts F w v xs) {lo : Nat} (hlo : ∀ b, F b → lo ≤ b) : OInts lo w v xs := by
  obtain ⟨cs, hE⟩ := h
  have hr := hE.row hlo
  obtain ⟨h1, h2, G, h3⟩ := hE
  have e : flatC 1 xs.length cs = xs.map (Value.int .i64) := by
    apply List.ext_getElem?; intro p
    rw [flatC_get, List.getElem?_map]
    by_cases hp : p < xs.length
    · have := (h3 p hp).2.1.1
      simp [hp, Nat.mod_one, this]
    · simp [hp]
  rw [e] at hr
  refine ⟨hr, fun x hx => ?_⟩
  obtain ⟨i, hi, rfl⟩ := List.getElem_of_mem hx
  exact (h3 i hi).2.1.2
theorem keepsP {α : Type} {t sz : Nat} {O : (Nat → Prop) → World → List Value → α → Prop} (hO : FramedE O) : ∀ F w w' v xs, Agree F w w' → OSl t sz O F w v xs → OSl t sz O F w' v xs := fun _ _ _ _ _ k h => h.frame hO k
def PCond (_ : Nat → Prop) (w : World) (cs : List Value) (c : DCond) : Prop := RCond w cs c
theorem fr_cond : FramedE PCond := fun _ _ _ _ _ _ h => h
theorem mo_cond : MonoE PCond := fun _ _ _ _ _ _ h => h
def PRow (F : Nat → Prop) (w : World) (cs : List Value) (r : DRow) : Prop := ∃ u, cs = [.int .i64 r.id, u] ∧ I64 r.id ∧ PInts F w u r.vals
theorem fr_row : FramedE PRow := fun _ _ _ _ _ k ⟨u, h1, h2, h3⟩ => ⟨u, h1, h2, h3.frame fr_int k⟩
theorem mo_row : MonoE PRow := fun _ _ _ _ _ k ⟨u, h1, h2, h3⟩ => ⟨u, h1, h2, h3.mono k⟩
theorem rd_prow : ∀ F w cs x, PRow F w cs x → RRow w cs x := fun _ _ _ _ ⟨u, h1, h2, h3⟩ => ⟨u, h1, h2, rd_pints h3⟩
def PSpan (F : Nat → Prop) (w : World) (cs : List Value) (s : DSpan) : Prop := ∃ u, cs = [.int .i64 s.lo, .int .i64 s.hi, u] ∧ I64 s.lo ∧ I64 s.hi ∧ PInts F w u s.set
theorem fr_span : FramedE PSpan := fun _ _ _ _ _ k ⟨u, h1, h2, h3, h4⟩ => ⟨u, h1, h2, h3, h4.frame fr_int k⟩
theorem mo_span : MonoE PSpan := fun _ _ _ _ _ k ⟨u, h1, h2, h3, h4⟩ => ⟨u, h1, h2, h3, h4.mono k⟩
theorem rd_pspan : ∀ F w cs x, PSpan F w cs x → RSpan w cs x := fun _ _ _ _ ⟨u, h1, h2, h3, h4⟩ => ⟨u, h1, h2, h3, rd_pints h4⟩
def PVersion (F : Nat → Prop) (w : World) (cs : List Value) (v : DVersion) : Prop := ∃ u, cs = [.int .i64 v.id, u, .int .i64 v.born, .int .i64 v.died] ∧ I64 v.id ∧ PInts F w u v.vals ∧ I64 v.born ∧ I64 v.died
theorem fr_version : FramedE PVersion := fun _ _ _ _ _ k ⟨u, h1, h2, h3, h4⟩ => ⟨u, h1, h2, h3.frame fr_int k, h4⟩
theorem mo_version : MonoE PVersion := fun _ _ _ _ _ k ⟨u, h1, h2, h3, h4⟩ => ⟨u, h1, h2, h3.mono k, h4⟩
theorem rd_pversion : ∀ F w cs x, PVersion F w cs x → RVersion w cs x := fun _ _ _ _ ⟨u, h1, h2, h3, h4⟩ => ⟨u, h1, h2, rd_pints h3, h4⟩
def POf {α : Type} (P : (Nat → Prop) → World → Value → α → Prop) (F : Nat → Prop) (w : World) (cs : List Value) (x : α) : Prop := ∃ v, cs = [v] ∧ P F w v x
theorem fr_of {α : Type} {t sz : Nat} {O : (Nat → Prop) → World → List Value → α → Prop} (hO : FramedE O) : FramedE (POf (OSl t sz O)) := fun _ _ _ _ _ k ⟨u, h1, h2⟩ => ⟨u, h1, h2.frame hO k⟩
theorem mo_of {α : Type} {t sz : Nat} {O : (Nat → Prop) → World → List Value → α → Prop} : MonoE (POf (OSl t sz O)) := fun _ _ _ _ _ k ⟨u, h1, h2⟩ => ⟨u, h1, h2.mono k⟩
abbrev PConds := OSl 57 3 PCond
theorem rd_pconds {F : Nat → Prop} {w : World} {v : Value} {xs : List DCond} (h : PConds F w v xs) : RConds w v xs := h.reads fun _ _ _ _ h => h
abbrev PRows := OSl 36 2 PRow
theorem rd_prows {F : Nat → Prop} {w : World} {v : Value} {xs : List DRow} (h : PRows F w v xs) : RRows w v xs := h.reads rd_prow
/-- Two parts, each of blocks of its own. -/
def PQuery (F : Nat → Prop) (w : World) (cs : List Value) (q : DQuery) : Prop := ∃ u x F1 F2, cs = [.int .i64 q.id, .int .i64 q.tenant, u, x] ∧ I64 q.id ∧ I64 q.tenant ∧ PConds F1 w u q.conds ∧ PInts F2 w x q.out ∧ (∀ b, F1 b → F b ∧ ¬ F2 b) ∧ ∀ b, F2 b → F b
theorem fr_query : FramedE PQuery := fun _ _ _ _ _ k ⟨u, x, F1, F2, h1, h2, h3, h4, h5, h6, h7⟩ => ⟨u, x, F1, F2, h1, h2, h3, h4.frame fr_cond (k.mono fun b hb => (h6 b hb).1), h5.frame fr_int (k.mono h7), h6, h7⟩
theorem mo_query : MonoE PQuery := fun _ _ _ _ _ k ⟨u, x, F1, F2, h1, h2, h3, h4, h5, h6, h7⟩ => ⟨u, x, F1, F2, h1, h2, h3, h4, h5, fun b hb => ⟨k b (h6 b hb).1, (h6 b hb).2⟩, fun b hb => k b (h7 b hb)⟩
theorem rd_pquery : ∀ F w cs x, PQuery F w cs x → RQuery w cs x := fun _ _ _ _ ⟨u, x, _, _, h1, h2, h3, h4, h5, _, _⟩ => ⟨u, x, h1, h2, h3, rd_pconds h4, rd_pints h5⟩
abbrev PQueries := OSl 27 4 PQuery
theorem rd_pqueries {F : Nat → Prop} {w : World} {v : Value} {xs : List DQuery} (h : PQueries F w v xs) : RQueries w v xs := h.reads rd_pquery
theorem RSlice.form {α : Type} {sz : Nat} {R : World → List Value → α → Prop} {w : World} {v : Value} {xs : List α} (h : RSlice sz R w v xs) : ∃ a c, v = .slice a xs.length c := by
  obtain ⟨a, cap, rfl, _⟩ := h
  exact ⟨_, _, rfl⟩
/-! ### Marks -/
/-- The first n elements marked, from k on. -/
def marksTo {α : Type} (mk : Int → α → α) (cnt : α → Nat) (k : Int) (n : Nat) (xs : List α) : List α := xs.mapIdx fun i x => if i < n then mk (k + sumT cnt (xs.take i)) x else x
theorem marksTo_len {α : Type} (mk : Int → α → α) (cnt : α → Nat) (k : Int) (n : Nat) (xs : List α) : (marksTo mk cnt k n xs).length = xs.length := by simp [marksTo]
theorem marksTo_zero {α : Type} (mk : Int → α → α) (cnt : α → Nat) (k : Int) (xs : List α) : marksTo mk cnt k 0 xs = xs := by
  apply List.ext_getElem?; intro i; simp [marksTo]
theorem marksTo_lt {α : Type} {mk : Int → α → α} {cnt : α → Nat} {k : Int} {n : Nat} {xs : List α} {i : Nat} (hi : i < xs.length) (hn : i < n) (h : i < (marksTo mk cnt k n xs).length) : (marksTo mk cnt k n xs)[i] = mk (k + sumT cnt (xs.take i)) xs[i] := by
  simp [marksTo, hn]
theorem marksTo_ge {α : Type} {mk : Int → α → α} {cnt : α → Nat} {k : Int} {n : Nat} {xs : List α} {i : Nat} (hi : i < xs.length) (hn : n ≤ i) (h : i < (marksTo mk cnt k n xs).length) : (marksTo mk cnt k n xs)[i] = xs[i] := by
  simp [marksTo, show ¬ i < n from by omega]
theorem marksTo_succ {α : Type} {mk : Int → α → α} {cnt : α → Nat} {k : Int} {n : Nat} {xs : List α} (hn : n < xs.length) : marksTo mk cnt k (n + 1) xs = (marksTo mk cnt k n xs).set n (mk (k + sumT cnt (xs.take n)) xs[n]) := by
  apply List.ext_getElem (by simp [marksTo])
  intro i h1 h2
  rw [List.getElem_set]
  by_cases e : n = i
  · subst e; rw [if_pos rfl, marksTo_lt hn (by omega)]
  · rw [if_neg e]
    simp only [marksTo, List.getElem_mapIdx]
    by_cases hl : i < n
    · simp [hl, show i < n + 1 from by omega]
    · simp [hl, show ¬ i < n + 1 from by omega]
theorem sumT_one {α : Type} (xs : List α) : sumT (fun _ => 1) xs = xs.length := by
  unfold sumT
  induction xs with
  | nil => rfl
  | cons x xs ih => simp only [List.map_cons, List.sum_cons, List.length_cons, ih]; omega
/-- The marks of integers, of conditions and so on; and how many numbers each takes. -/
abbrev mkI : Int → Int → Int := fun k _ => k
abbrev cntI : Int → Nat := fun _ => 1
abbrev mkCond : Int → DCond → DCond := fun k _ => ⟨k, k + 1, k + 1 + 1⟩
abbrev cntCond : DCond → Nat := fun _ => 3
abbrev markedI (k : Int) (xs : List Int) : List Int := marksTo mkI cntI k xs.length xs
abbrev mkRow : Int → DRow → DRow := fun k r => ⟨k, markedI (k + 1) r.vals⟩
abbrev cntRow : DRow → Nat := fun r => 1 + sumT cntI r.vals
abbrev mkSpan : Int → DSpan → DSpan := fun k r => ⟨k, k + 1, markedI (k + 1 + 1) r.set⟩
abbrev cntSpan : DSpan → Nat := fun r => 2 + sumT cntI r.set
abbrev mkVersion : Int → DVersion → DVersion := fun k r => ⟨k, markedI (k + 1) r.vals, k + 1 + sumT cntI r.vals, k + 1 + sumT cntI r.vals + 1⟩
abbrev cntVersion : DVersion → Nat := fun r => 3 + sumT cntI r.vals
abbrev markedCond (k : Int) (xs : List DCond) : List DCond := marksTo mkCond cntCond k xs.length xs
abbrev mkQuery : Int → DQuery → DQuery := fun k q => ⟨k, k + 1, markedCond (k + 1 + 1) q.conds, markedI (k + 1 + 1 + sumT cntCond q.conds) q.out⟩
abbrev cntQuery : DQuery → Nat := fun q => 2 + sumT cntCond q.conds + sumT cntI q.out
abbrev markedSpan (k : Int) (xs : List DSpan) : List DSpan := marksTo mkSpan cntSpan k xs.length xs
abbrev markedVersion (k : Int) (xs : List DVersion) : List DVersion := marksTo mkVersion cntVersion k xs.length xs
theorem cnt_le {α : Type} (cnt tot : α → Nat) (h : ∀ x, cnt x ≤ 3 * (1 + tot x)) (xs : List α) : sumT cnt xs ≤ 3 * totL tot xs := by
  unfold totL sumT
  induction xs with
  | nil => simp
  | cons x xs ih => have := h x; simp only [List.map_cons, List.sum_cons, List.length_cons]; omega
theorem cnt_IntS (xs : List Int) : sumT cntI xs ≤ 3 * xs.length := by have := sumT_one xs; unfold cntI; omega
theorem cnt_CondS (xs : List DCond) : sumT cntCond xs ≤ 3 * xs.length := by
  unfold sumT
  induction xs with
  | nil => simp
  | cons x xs ih => simp only [List.map_cons, List.sum_cons, List.length_cons, cntCond] at *; omega
theorem cnt_RowS (xs : List DRow) : sumT cntRow xs ≤ 3 * totL totRow xs := cnt_le _ _ (fun x => by have := cnt_IntS x.vals; simp only [cntRow, totRow]; omega) xs
theorem cnt_SpanS (xs : List DSpan) : sumT cntSpan xs ≤ 3 * totL totSpan xs := cnt_le _ _ (fun x => by have := cnt_IntS x.set; simp only [cntSpan, totSpan]; omega) xs
theorem cnt_VersionS (xs : List DVersion) : sumT cntVersion xs ≤ 3 * totL totVersion xs := cnt_le _ _ (fun x => by have := cnt_IntS x.vals; simp only [cntVersion, totVersion]; omega) xs
theorem cnt_QueryS (xs : List DQuery) : sumT cntQuery xs ≤ 3 * totL totQuery xs := cnt_le _ _ (fun x => by have := cnt_IntS x.out; have := cnt_CondS x.conds; simp only [cntQuery, totQuery]; omega) xs
theorem cnt_SpanSS (xs : List (List DSpan)) : sumT (sumT cntSpan) xs ≤ 3 * totL (totL totSpan) xs := cnt_le _ _ (fun x => by have := cnt_SpanS x; omega) xs
theorem cnt_VersionSS (xs : List (List DVersion)) : sumT (sumT cntVersion) xs ≤ 3 * totL (totL totVersion) xs := cnt_le _ _ (fun x => by have := cnt_VersionS x; omega) xs
/-! ### One element of a row changed -/
theorem updC_twice (cs : Nat → List Value) (k : Nat) (a b : List Value) : updC (updC cs k a) k b = updC cs k b := by
  funext i; unfold updC; split <;> rfl
section
variable {α : Type} {t sz : Nat} {O : (Nat → Prop) → World → List Value → α → Prop} {F : Nat → Prop} {w w' : World} {v : Value} {xs : List α} {cs : Nat → List Value}
theorem row_set {g n cap k j : Nat} {u : Value} (h : w.ownsRow 0 t sz (.slice (some ⟨g, 0, none⟩) n cap) n (flatC sz n cs)) (hk : k < n) (hj : j < sz) {p : Nat} (hp : p = k * sz + j) (hc : (cs k).length = sz) :
    (w.setCell ⟨g, p, none⟩ u).ownsRow 0 t sz (.slice (some ⟨g, 0, none⟩) n cap) n (flatC sz n (updC cs k ((cs k).set j u))) := by
  subst hp
  rcases h.2 with ⟨h0, _⟩ | ⟨g', cap', cur, hv, _, hg, hn, hm, hs, ht⟩
  · simp at h0
  · simp only [Value.slice.injEq, Option.some.injEq, Addr.mk.injEq] at hv
    obtain ⟨⟨rfl, -⟩, -, rfl⟩ := hv
    refine ⟨flatC_len _ _ _, Or.inr ⟨g, cap, _, rfl, Nat.zero_le _, Joins.block_setCell hg u, hn, hm, by simpa using hs, ?_⟩⟩
    have hlt := idx_lt hk hj
    apply List.ext_getElem?; intro q
    rw [List.getElem?_take, flatC_get]
    by_cases hq : q < n * sz
    · rw [if_pos hq, if_pos hq]
      have hs0 : 0 < sz := by omega
      have hq' : q < cap * sz := Nat.lt_of_lt_of_le hq (Nat.mul_le_mul_right _ hn)
      simp only [Array.getElem?_toList, Array.getElem?_setIfInBounds]
      have hd := Nat.div_add_mod q sz
      have hml := Nat.mod_lt q hs0
      by_cases e : k * sz + j = q
      · subst e
        rw [if_pos rfl, if_pos (by omega), (divmod hj).1, (divmod hj).2, updC_at]
        simp [hc, hj]
      · rw [if_neg e]
        have h4 : cur[q]? = some ((cs (q / sz)).getD (q % sz) undef) := by
          have h5 : (cur.toList.take (n * sz))[q]? = (flatC sz n cs)[q]? := by rw [ht]
          rw [List.getElem?_take, if_pos hq, flatC_get, if_pos hq] at h5
          simpa using h5
        rw [h4]
        by_cases ek : q / sz = k
        · have ej : j ≠ q % sz := by
            intro ej; subst ej; subst ek; rw [Nat.mul_comm] at e; omega
          subst ek
          rw [updC_at]
          simp only [List.getD_eq_getElem?_getD, List.getElem?_set, if_neg ej]
        · rw [updC_ne _ _ ek]
    · rw [if_neg hq, if_neg hq]
theorem row_cell {g n cap k j : Nat} {a : Value} (h : w.ownsRow 0 t sz (.slice (some ⟨g, 0, none⟩) n cap) n (flatC sz n cs)) (hk : k < n) (hj : (cs k)[j]? = some a) (hc : (cs k).length = sz) {p : Nat} (hp : p = k * sz + j) : w.cell? ⟨g, p, none⟩ = some a ∧ w.frozen? ⟨g, p, none⟩ = false := by
  subst hp
  have hjs : j < sz := by rw [← hc]; exact (List.getElem?_eq_some_iff.1 hj).1
  rcases h.2 with ⟨h0, _⟩ | ⟨g', cap', cur, hv, _, hg, hn, hm, hs, ht⟩
  · simp at h0
  · simp only [Value.slice.injEq, Option.some.injEq, Addr.mk.injEq] at hv
    obtain ⟨⟨rfl, -⟩, -, rfl⟩ := hv
    refine ⟨?_, Joins.unfrozen_of_block hg _⟩
    have h4 : (cur.toList.take (n * sz))[k * sz + j]? = some ((cs k).getD j undef) := by rw [ht]; exact flatC_at hk hjs
    rw [List.getElem?_take, if_pos (idx_lt hk hjs)] at h4
    rw [Joins.cell_of_block hg]
    simpa [hj] using h4
theorem updC_same (cs : Nat → List Value) (k : Nat) : updC cs k (cs k) = cs := by
  funext i; unfold updC; split
  · rename_i e; rw [e]
  · rfl
theorem row_set' {g n cap k j : Nat} {u : Value} {c : List Value} (h : w.ownsRow 0 t sz (.slice (some ⟨g, 0, none⟩) n cap) n (flatC sz n (updC cs k c))) (hk : k < n) (hj : j < sz) {p : Nat} (hp : p = k * sz + j) (hc : c.length = sz) :
    (w.setCell ⟨g, p, none⟩ u).ownsRow 0 t sz (.slice (some ⟨g, 0, none⟩) n cap) n (flatC sz n (updC cs k (c.set j u))) := by
  have := row_set (u := u) h hk hj hp (by rw [updC_at]; exact hc)
  rwa [updC_at, updC_twice] at this
theorem row_ptr {a : Option Addr} {m cap n : Nat} {l : List Value} (h : w.ownsRow 0 t sz (.slice a m cap) n l) (hn : 0 < n) : ∃ g, a = some ⟨g, 0, none⟩ := by
  rcases h.2 with ⟨_, rfl⟩ | ⟨g, cap', cur, hv, _⟩
  · exact absurd hn (Nat.lt_irrefl _)
  · simp only [Value.slice.injEq] at hv; exact ⟨g, hv.1⟩
theorem row_lt {g m cap n : Nat} {l : List Value} (h : w.ownsRow 0 t sz (.slice (some ⟨g, 0, none⟩) m cap) n l) (_ : 0 < n) : g < w.heap.size := (h.lt g rfl).2
/-- The form of a row that is not empty. -/
theorem row_form {n : Nat} {l : List Value} (h : w.ownsRow 0 t sz v n l) : ∃ a cap, v = .slice a n cap ∧ (0 < n → ∃ g, a = some ⟨g, 0, none⟩ ∧ v.ownBlock = some g ∧ g < w.heap.size) := by
  rcases h.2 with ⟨rfl, rfl⟩ | ⟨g, cap, cur, rfl, _, hg, _⟩
  · exact ⟨none, 0, rfl, fun h => absurd h (Nat.lt_irrefl _)⟩
  · exact ⟨_, cap, rfl, fun _ => ⟨g, rfl, rfl, (Array.getElem?_eq_some_iff.1 hg).1⟩⟩
theorem OSl.form (h : OSl t sz O F w v xs) : ∃ a cap, v = .slice a xs.length cap := by
  obtain ⟨cs, h, _⟩ := h
  obtain ⟨a, cap, e, _⟩ := row_form h
  exact ⟨a, cap, e⟩
/-- What an opened row says of its elements. -/
def Parts (O : (Nat → Prop) → World → List Value → α → Prop) (sz : Nat) (F : Nat → Prop) (w : World) (v : Value) (xs : List α) (cs : Nat → List Value) (G : Nat → Nat → Prop) : Prop :=
  (∀ g, v.ownBlock = some g → F g) ∧ ∀ i (h : i < xs.length), (cs i).length = sz ∧ O (G i) w (cs i) xs[i] ∧ (∀ b, G i b → F b ∧ v.ownBlock ≠ some b) ∧ ∀ j, j < xs.length → j ≠ i → ∀ b, G i b → ¬ G j b
theorem OSl.parts (h : OSl t sz O F w v xs) : ∃ cs G, w.ownsRow 0 t sz v xs.length (flatC sz xs.length cs) ∧ Parts O sz F w v xs cs G := by
  obtain ⟨cs, h1, h2, G, h3⟩ := h; exact ⟨cs, G, h1, h2, h3⟩
theorem Parts.upd {G : Nat → Nat → Prop} {k : Nat} {c : List Value} {y : α} (hO : FramedE O) (h : Parts O sz F w v xs cs G) (hk : k < xs.length) (hrow : w'.ownsRow 0 t sz v xs.length (flatC sz xs.length (updC cs k c))) (hc : c.length = sz) (hy : O (G k) w' c y)
    (hch : Chg (fun b => G k b ∨ v.ownBlock = some b) w w') : OSl t sz O F w' v (xs.set k y) := by
  refine ⟨updC cs k c, by rw [List.length_set]; exact hrow, h.1, G, fun i hi => ?_⟩
  have hi' : i < xs.length := by simpa using hi
  obtain ⟨q1, q2, q3, q4⟩ := h.2 i hi'
  by_cases e : i = k
  · subst e
    exact ⟨by rw [updC_at]; exact hc, by rw [updC_at]; simpa using hy, q3, by simpa using q4⟩
  · refine ⟨by rw [updC_ne _ _ e]; exact q1, ?_, q3, by simpa using q4⟩
    rw [updC_ne _ _ e, List.getElem_set_ne (Ne.symm e)]
    refine hO _ _ _ _ _ (fun b hb hl => hch.block b hl fun hg => ?_) q2
    rcases hg with hg | hg
    · exact q4 k hk (Ne.symm e) b hb hg
    · exact (q3 b hb).2 hg
/-- What is away from the row and the element stays. -/
theorem Parts.chgF {G : Nat → Nat → Prop} {k : Nat} (h : Parts O sz F w v xs cs G) (hk : k < xs.length) {a b : World} (hc : Chg (fun b => G k b ∨ v.ownBlock = some b) a b) : Chg F a b := hc.mono fun x hx => by
  rcases hx with hx | hx
  · exact ((h.2 k hk).2.2.1 x hx).1
  · exact h.1 x hx
end
end Go.Proofs.YtcdcpfcmhmhdjaaGreatDoor
