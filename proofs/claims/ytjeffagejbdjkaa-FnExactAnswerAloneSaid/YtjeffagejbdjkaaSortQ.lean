/- The order of rows; the sorted list of a list of rows; both ways to it. Plain. -/
import Derived.Test.YtjeffagejbdjkaaSortP
import Derived.Test.YtjeffagejbdjkaaBase
namespace Go.Proofs.Ytjeffagejbdjkaa
open Go.Sort
/-- Lists of numbers, in the order of their first difference. -/
def lexB : List Int → List Int → Bool
  | [], [] => false
  | [], _ :: _ => true
  | _ :: _, [] => false
  | x :: xs, y :: ys => if x < y then true else if y < x then false else lexB xs ys
theorem lexB_irrefl : ∀ xs, lexB xs xs = false
  | [] => rfl
  | x :: xs => by simp only [lexB]; rw [if_neg (by omega), if_neg (by omega)]; exact lexB_irrefl xs
theorem lexB_trans : ∀ xs ys zs, lexB xs ys = true → lexB ys zs = true → lexB xs zs = true
  | [], [], _, h, _ => by simp [lexB] at h
  | [], _ :: _, [], _, h => by simp [lexB] at h
  | [], _ :: _, _ :: _, _, _ => rfl
  | _ :: _, [], _, h, _ => by simp [lexB] at h
  | _ :: _, _ :: _, [], _, h => by simp [lexB] at h
  | x :: xs, y :: ys, z :: zs, h1, h2 => by
    simp only [lexB] at h1 h2 ⊢
    by_cases a : x < z
    · rw [if_pos a]
    · rw [if_neg a]
      by_cases b : x < y
      · rw [if_pos b] at h1
        rw [if_neg (show ¬ y < z by omega), if_pos (show z < y by omega)] at h2; cases h2
      · rw [if_neg b] at h1
        by_cases c : y < x
        · rw [if_pos c] at h1; cases h1
        · rw [if_neg c] at h1
          by_cases e : y < z
          · omega
          · rw [if_neg e] at h2
            by_cases f : z < y
            · rw [if_pos f] at h2; cases h2
            · rw [if_neg f] at h2; rw [if_neg (by omega)]; exact lexB_trans xs ys zs h1 h2
theorem lexB_ntrans : ∀ xs ys zs, lexB xs ys = false → lexB ys zs = false → lexB xs zs = false
  | [], [], _, _, h => h
  | [], _ :: _, _, h, _ => by simp [lexB] at h
  | _ :: _, [], [], _, _ => rfl
  | _ :: _, [], _ :: _, _, h => by simp [lexB] at h
  | _ :: _, _ :: _, [], _, _ => rfl
  | x :: xs, y :: ys, z :: zs, h1, h2 => by
    simp only [lexB] at h1 h2 ⊢
    by_cases b : x < y
    · rw [if_pos b] at h1; cases h1
    · rw [if_neg b] at h1
      by_cases e : y < z
      · rw [if_pos e] at h2; cases h2
      · rw [if_neg e] at h2
        rw [if_neg (show ¬ x < z by omega)]
        by_cases a : z < x
        · rw [if_pos a]
        · rw [if_neg a]
          rw [if_neg (show ¬ y < x by omega)] at h1
          rw [if_neg (show ¬ z < y by omega)] at h2
          exact lexB_ntrans xs ys zs h1 h2
theorem lexB_anti : ∀ xs ys, lexB xs ys = false → lexB ys xs = false → xs = ys
  | [], [], _, _ => rfl
  | [], _ :: _, h, _ => by simp [lexB] at h
  | _ :: _, [], _, h => by simp [lexB] at h
  | x :: xs, y :: ys, h1, h2 => by
    simp only [lexB] at h1 h2
    by_cases b : x < y
    · rw [if_pos b] at h1; cases h1
    · rw [if_neg b] at h1
      by_cases c : y < x
      · rw [if_pos c] at h2; cases h2
      · rw [if_neg c] at h1; rw [if_neg c, if_neg b] at h2
        rw [show x = y by omega, lexB_anti xs ys h1 h2]
/-- .. as a number. -/
def cmpInts : List Int → List Int → Int
  | [], [] => 0
  | [], _ :: _ => -1
  | _ :: _, [] => 1
  | x :: xs, y :: ys => if x < y then -1 else if y < x then 1 else cmpInts xs ys
theorem cmpInts_lt : ∀ xs ys, cmpInts xs ys < 0 ↔ lexB xs ys = true
  | [], [] => by simp [cmpInts, lexB]
  | [], _ :: _ => by simp [cmpInts, lexB]
  | _ :: _, [] => by simp [cmpInts, lexB]
  | x :: xs, y :: ys => by
    simp only [cmpInts, lexB]
    by_cases b : x < y
    · simp [b]
    · by_cases c : y < x
      · simp [b, c]
      · simp only [b, c, if_false]; exact cmpInts_lt xs ys
theorem cmpInts_lex (xs ys : List Int) : decide (cmpInts xs ys < 0) = lexB xs ys := by
  rw [Bool.eq_iff_iff]; simpa using cmpInts_lt xs ys
theorem cmpInts_at {xs ys : List Int} {k : Nat} (hx : k < xs.length) (hy : k < ys.length) : cmpInts (xs.drop k) (ys.drop k) = if xs[k] < ys[k] then -1 else if ys[k] < xs[k] then 1 else cmpInts (xs.drop (k + 1)) (ys.drop (k + 1)) := by
  rw [List.drop_eq_getElem_cons hx, List.drop_eq_getElem_cons hy]; rfl
theorem cmpInts_more {xs ys : List Int} {k : Nat} (hx : k < xs.length) (hy : ys.length ≤ k) : cmpInts (xs.drop k) (ys.drop k) = 1 := by
  rw [List.drop_eq_getElem_cons hx, List.drop_eq_nil_of_le hy]; rfl
theorem cmpInts_less {xs ys : List Int} {k : Nat} (hx : xs.length ≤ k) (hy : k < ys.length) : cmpInts (xs.drop k) (ys.drop k) = -1 := by
  rw [List.drop_eq_getElem_cons hy, List.drop_eq_nil_of_le hx]; rfl
theorem cmpInts_same {xs ys : List Int} {k : Nat} (hx : xs.length ≤ k) (hy : ys.length ≤ k) : cmpInts (xs.drop k) (ys.drop k) = 0 := by
  rw [List.drop_eq_nil_of_le hy, List.drop_eq_nil_of_le hx]; rfl
/-- The order of rows. -/
def ltRow (a b : DRow) : Bool := if a.id < b.id then true else if b.id < a.id then false else lexB a.vals b.vals
def cmpRow (a b : DRow) : Int := if a.id < b.id then -1 else if b.id < a.id then 1 else cmpInts a.vals b.vals
theorem cmpRow_lt (a b : DRow) : decide (cmpRow a b < 0) = ltRow a b := cmpInts_lex (a.id :: a.vals) (b.id :: b.vals)
theorem ltRow_lex (a b : DRow) : ltRow a b = lexB (a.id :: a.vals) (b.id :: b.vals) := rfl
theorem swo_row : SWO ltRow where
  irrefl x := by rw [ltRow_lex]; exact lexB_irrefl _
  trans x y z h1 h2 := by rw [ltRow_lex] at *; exact lexB_trans _ _ _ h1 h2
  ntrans x y z h1 h2 := by rw [ltRow_lex] at *; exact lexB_ntrans _ _ _ h1 h2
theorem ltRow_anti (a b : DRow) (h1 : ltRow a b = false) (h2 : ltRow b a = false) : a = b := by
  rw [ltRow_lex] at h1 h2
  have := lexB_anti _ _ h1 h2
  cases a; cases b; simpa using this
/-- Ascending. -/
def UpR (l : List DRow) : Prop := l.Pairwise fun x y => ltRow y x = false
theorem upR_unique {l m : List DRow} (hp : l.Perm m) (hl : UpR l) (hm : UpR m) : l = m := by
  refine List.Perm.eq_of_pairwise (le := fun x y => ltRow y x = false) (fun a b _ _ h1 h2 => ltRow_anti a b h2 h1) hl hm hp
/-- A row into an ascending list, behind all that are not above it. -/
def insR (r : DRow) (l : List DRow) : List DRow := l.filter (fun x => !ltRow r x) ++ r :: l.filter (fun x => ltRow r x)
/-- The sorted list. -/
def sortR (l : List DRow) : List DRow := l.foldl (fun out r => insR r out) []
theorem insR_perm (r : DRow) (l : List DRow) : (insR r l).Perm (r :: l) := by
  unfold insR
  refine List.perm_middle.trans (List.Perm.cons _ ?_)
  have := List.filter_append_perm (fun x => !ltRow r x) l
  simpa using this
theorem insR_up (r : DRow) (l : List DRow) (h : UpR l) : UpR (insR r l) := by
  unfold insR UpR
  rw [List.pairwise_append, List.pairwise_cons]
  refine ⟨h.filter _, ⟨fun x hx => ?_, h.filter _⟩, fun x hx y hy => ?_⟩
  · simp only [List.mem_filter] at hx
    exact swo_row.asymmA hx.2
  · simp only [List.mem_filter, Bool.not_eq_true', List.mem_cons] at hx hy
    rcases hy with rfl | hy
    · exact hx.2
    · exact swo_row.ntrans _ _ _ (swo_row.asymmA hy.2) hx.2
theorem fold_ins (l : List DRow) : ∀ out, UpR out → UpR (l.foldl (fun out r => insR r out) out) ∧ (l.foldl (fun out r => insR r out) out).Perm (out ++ l) := by
  induction l with
  | nil => intro out h; exact ⟨h, by simp⟩
  | cons r l ih =>
    intro out h
    obtain ⟨h1, h2⟩ := ih (insR r out) (insR_up r out h)
    refine ⟨h1, h2.trans ?_⟩
    refine ((insR_perm r out).append_right l).trans ?_
    simpa using List.perm_middle.symm
theorem sortR_up (l : List DRow) : UpR (sortR l) := (fold_ins l [] List.Pairwise.nil).1
theorem sortR_perm (l : List DRow) : (sortR l).Perm l := by
  have h := (fold_ins l [] List.Pairwise.nil).2
  rw [List.nil_append] at h; exact h
theorem sortR_eq {l m : List DRow} (hp : m.Perm l) (h : UpR m) : m = sortR l := upR_unique (hp.trans (sortR_perm l).symm) h (sortR_up l)
theorem sortR_nil : sortR [] = [] := rfl
theorem sortR_len (l : List DRow) : (sortR l).length = l.length := (sortR_perm l).length_eq
theorem sortR_snoc (l : List DRow) (r : DRow) : sortR (l ++ [r]) = insR r (sortR l) := by unfold sortR; rw [List.foldl_append]; rfl
theorem sortR_take {l : List DRow} {k : Nat} (h : k < l.length) : sortR (l.take (k + 1)) = insR l[k] (sortR (l.take k)) := by
  rw [List.take_succ_eq_append_getElem h, sortR_snoc]
/-- Where a row goes in, sought from above. -/
theorem insR_at {r : DRow} {l : List DRow} (h : UpR l) {k : Nat} (hk : k ≤ l.length) (hi : ∀ j (hj : j < l.length), k ≤ j → ltRow r l[j] = true) (hlo : ∀ (h : 0 < k), ltRow r (l[k - 1]'(by omega)) = false) : insR r l = l.take k ++ r :: l.drop k := by
  have h1 : ∀ x ∈ l.take k, ltRow r x = false := by
    intro x hx
    obtain ⟨i, hi', rfl⟩ := List.getElem_of_mem hx
    have hik : i < k := by simp at hi'; omega
    rw [List.getElem_take]
    by_cases e : i = k - 1
    · subst e; exact hlo (by omega)
    · have := List.pairwise_iff_getElem.1 h i (k - 1) (by omega) (by omega) (by omega)
      exact swo_row.ntrans _ _ _ (hlo (by omega)) this
  have h2 : ∀ x ∈ l.drop k, ltRow r x = true := by
    intro x hx
    obtain ⟨i, hi', rfl⟩ := List.getElem_of_mem hx
    rw [List.getElem_drop]
    exact hi _ _ (by omega)
  unfold insR
  have e : l = l.take k ++ l.drop k := (List.take_append_drop k l).symm
  have f1 : l.filter (fun x => !ltRow r x) = l.take k := by
    conv => lhs; rw [e]
    rw [List.filter_append, List.filter_eq_self.2 (fun x hx => by simp [h1 x hx]), List.filter_eq_nil_iff.2 (fun x hx => by simp [h2 x hx]), List.append_nil]
  have f2 : l.filter (fun x => ltRow r x) = l.drop k := by
    conv => lhs; rw [e]
    rw [List.filter_append, List.filter_eq_nil_iff.2 (fun x hx => by simp [h1 x hx]), List.filter_eq_self.2 (fun x hx => h2 x hx), List.nil_append]
  rw [f1, f2]
end Go.Proofs.Ytjeffagejbdjkaa
