/- ParseSet: the walks. -/
import Derived.Test.YtcdcpfcmhmhdjaaDoorCutI
import Derived.Test.YtcdcpfcmhmhdjaaDoorSpanF
import Derived.Test.YtcdcpfcmhmhdjaaDoorSc
import Derived.Test.YtcdcpfcmhmhdjaaDoorGenInt
namespace Go.Proofs.YtcdcpfcmhmhdjaaDoor
open Go.RowKit
theorem calls_n {P : Program} {f : FuncId} {args : Array Value} {w : World} {c b : Int} {R : World → Prop} (h : Calls P f args w fun e w' => e = .returned (.int .i64 c) ∧ R w') (hb : c = b) :
    Calls P f args w fun e w' => e = .returned (.int .i64 b) ∧ R w' := hb ▸ h
theorem calls_q {P : Program} {f : FuncId} {args : Array Value} {w : World} {c b : Bool} {R : World → Prop} (h : Calls P f args w fun e w' => e = .returned (.bool c) ∧ R w') (hb : c = b) :
    Calls P f args w fun e w' => e = .returned (.bool b) ∧ R w' := hb ▸ h
theorem inB_of {x lo hi : Int} (h : inB x lo hi = true) : lo ≤ x ∧ x ≤ hi := by simpa [inB] using h
theorem cutL_len (c : UInt8) : ∀ (l : List UInt8), ∀ p ∈ cutL c l, p.length ≤ l.length
  | [], p, h => by simp [cutL] at h; subst h; exact Nat.le_refl _
  | b :: r, p, h => by
    unfold cutL at h
    split at h
    · rcases List.mem_cons.1 h with rfl | h
      · simp
      · have := cutL_len c r p h; simp; omega
    · have ih := cutL_len c r
      split at h
      · rename_i q qs hq
        rw [hq] at ih
        rcases List.mem_cons.1 h with rfl | h
        · have := ih q (by simp); simp; omega
        · have := ih p (by simp [h]); simp; omega
      · simp at h; subst h; simp
theorem cutL_count (c : UInt8) (l : List UInt8) : (cutL c l).length ≤ l.length + 1 := by
  induction l with
  | nil => simp [cutL]
  | cons b r ih =>
    by_cases h : b = c
    · subst h; rw [cutL_hit]; simp; omega
    · rw [cutL_other h]
      cases hq : cutL c r with
      | nil => exact absurd hq (cutL_ne c r)
      | cons q qs => rw [hq] at ih; simp [glue] at *; omega
theorem numV_bound (p : List UInt8) : -999999999 ≤ numV p ∧ numV p ≤ 999999999 := by
  unfold numV
  cases h : parseI p with
  | none => simp
  | some n => have := parseI_some h; exact ⟨this.2.1, this.2.2⟩
theorem specSet_none {l : List UInt8} (h : l = noneT) : specSet l = some [] := by unfold specSet; rw [if_pos h]
theorem specSet_bad {l : List UInt8} (h : l ≠ noneT) (h2 : specAll (cutL 32 l) [] = none) : specSet l = none := by unfold specSet; rw [if_neg h, h2]; rfl
theorem specSet_no {l : List UInt8} {out : List Int} (h : l ≠ noneT) (h2 : specAll (cutL 32 l) [] = some out) (h3 : setText out ≠ l) : specSet l = none := by unfold specSet; rw [if_neg h, h2]; exact if_neg h3
theorem specSet_yes {l : List UInt8} {out : List Int} (h : l ≠ noneT) (h2 : specAll (cutL 32 l) [] = some out) (h3 : setText out = l) : specSet l = some out := by unfold specSet; rw [if_neg h, h2]; exact if_pos h3
theorem implSet_none {l : List UInt8} (h : l = noneT) : implSet l = some [] := by unfold implSet; rw [if_pos h]
theorem implSet_bad {l : List UInt8} (h : l ≠ noneT) (h2 : implAll (cutL 32 l) [] = none) : implSet l = none := by unfold implSet; rw [if_neg h, h2]; rfl
theorem implSet_no {l : List UInt8} {out : List Int} (h : l ≠ noneT) (h2 : implAll (cutL 32 l) [] = some out) (h3 : setText out ≠ l) : implSet l = none := by unfold implSet; rw [if_neg h, h2]; exact if_neg h3
theorem implSet_yes {l : List UInt8} {out : List Int} (h : l ≠ noneT) (h2 : implAll (cutL 32 l) [] = some out) (h3 : setText out = l) : implSet l = some out := by unfold implSet; rw [if_neg h, h2]; exact if_pos h3
theorem specAll_go {ps : List (List UInt8)} {k : Nat} {acc : List Int} (h : k < ps.length) (hw : wOk ps[k] = true) : specAll (ps.drop k) acc = specAll (ps.drop (k + 1)) (acc ++ rng (wA ps[k]) (wB ps[k])) := by rw [List.drop_eq_getElem_cons h, specAll, if_pos hw]
theorem specAll_stop {ps : List (List UInt8)} {k : Nat} {acc : List Int} (h : k < ps.length) (hw : wOk ps[k] = false) : specAll (ps.drop k) acc = none := by rw [List.drop_eq_getElem_cons h, specAll, if_neg (by rw [hw]; simp)]
theorem rngK_zero (acc : List Int) (a : Int) : acc ++ rngK a 0 = acc := by simp [rngK]
theorem rngK_next (acc : List Int) (a : Int) (j : Nat) : acc ++ rngK a (j + 1) = (acc ++ rngK a j) ++ [a + (j : Int)] := by rw [rngK_snoc, List.append_assoc]
theorem rngK_len (a : Int) (j : Nat) : (rngK a j).length = j := by simp [rngK]
/-- The pieces in block g stand, and the row at hand is another. -/
def Pcs (w : World) (g : Nat) (P : List (List UInt8)) (v : Value) : Prop := StrsAt w g P ∧ v.ownBlock ≠ some g
theorem Pcs.gr {w w' : World} {g : Nat} {P : List (List UInt8)} {v : Value} (h : Pcs w g P v) (k : Gr w w') : Pcs w' g P v := ⟨h.1.gr k, h.2⟩
theorem Pcs.push {w w' : World} {g g' n cap : Nat} {P : List (List UInt8)} {v : Value} (h : Pcs w g P v) (hP : 0 < P.length) (h3 : v.ownBlock = some g' ∨ g' = w.heap.size + 1) (h4 : ∀ k, k < w.heap.size → v.ownBlock ≠ some k → w'.heap[k]? = w.heap[k]?) : Pcs w' g P (.slice (some ⟨g', 0, none⟩) n cap) := by
  have hlt := World.block_lt_of_cell? w _ (h.1 0 hP)
  refine ⟨fun j hj => ?_, ?_⟩
  · have hc := h.1 j hj
    rw [World.cell?_of_block (w := w) (h4 g hlt h.2)]; exact hc
  · intro e
    have e2 : g' = g := Option.some.inj e
    rcases h3 with h3 | h3
    · exact h.2 (e2 ▸ h3)
    · have : g < w.heap.size := hlt
      omega
/-- A row of one's own of numbers. -/
abbrev OwnI (w : World) (lo : Nat) (v : Value) (ns : List Int) : Prop := w.ownsRow lo 3 1 v ns.length (ns.map (Value.int .i64))
theorem own_len_i {lo : Nat} {v : Value} {w : World} {ns : List Int} {y : Int} (h : w.ownsRow lo 3 1 v (ns.length + 1) ((ns ++ [y]).map (Value.int .i64))) : OwnI w lo v (ns ++ [y]) := by
  unfold OwnI; rw [List.length_append]; exact h
theorem own_priv {w : World} {lo : Nat} {v : Value} {ns : List Int} (h : OwnI w lo v ns) (hi : ∀ x ∈ ns, I64 x) : PInts (In lo w.heap.size) w v ns := pints_of rfl ⟨h.1, h.2.imp id (fun ⟨g, cap, cur, a, _, r⟩ => ⟨g, cap, cur, a, Nat.zero_le _, r⟩)⟩ hi (fun k hk => h.lt k hk)
theorem rngK_i64 {acc : List Int} {a : Int} {j : Nat} (h : ∀ x ∈ acc, I64 x) (ha : 0 ≤ a) (h1 : a + (j : Int) ≤ 100) : ∀ x ∈ acc ++ rngK a j, I64 x := by
  intro x hx
  rcases List.mem_append.1 hx with h2 | h2
  · exact h x h2
  · obtain ⟨k, hk, rfl⟩ := List.mem_map.1 h2
    have := List.mem_range.1 hk
    unfold I64; omega
end Go.Proofs.YtcdcpfcmhmhdjaaDoor
