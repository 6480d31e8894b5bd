/- Sets picked out of the numbers: the plain laws. No program in sight. -/
import Derived.Test.YtcdcpfcmhmhdjaaDoorPlain
namespace Go.Proofs.YtcdcpfcmhmhdjaaDoor
open Go.RowKit
theorem hasB_pick (f : Int → Bool) {i : Nat} (hi : i < 24) : hasB (pickL f) (i : Int) = f (i : Int) := by
  rw [Bool.eq_iff_iff, hasB_iff]
  unfold pickL upTo
  rw [List.mem_filter, List.mem_map]
  constructor
  · exact fun h => h.2
  · exact fun h => ⟨⟨i, List.mem_range.2 hi, rfl⟩, h⟩
theorem isSetB_pick (f : Int → Bool) : isSetB (pickL f) = true := by
  have hp : (pickL f).Pairwise (· < ·) := by
    unfold pickL upTo
    refine List.Pairwise.filter _ ?_
    rw [List.pairwise_map]
    refine List.Pairwise.imp ?_ List.pairwise_lt_range
    intro a b h
    exact Int.ofNat_lt.2 h
  refine isSetB_iff.2 ⟨fun i h => ?_, fun i h => ?_⟩
  · have hm : (pickL f)[i] ∈ pickL f := List.getElem_mem h
    generalize (pickL f)[i] = x at hm
    unfold pickL upTo at hm
    obtain ⟨k, hk, rfl⟩ := List.mem_map.1 (List.mem_filter.1 hm).1
    have := List.mem_range.1 hk
    omega
  · exact List.pairwise_iff_getElem.1 hp i (i + 1) (by omega) h (by omega)
theorem count_two (p q : Int → Bool) : ∀ l : List Int, (l.filter fun x => p x || q x).length + (l.filter fun x => p x && q x).length = (l.filter p).length + (l.filter q).length
  | [] => rfl
  | x :: l => by
    have ih := count_two p q l
    simp only [List.filter_cons]
    cases p x <;> cases q x <;> simp <;> omega
theorem pick_self {a : List Int} (h : isSetB a = true) : pickL (fun x => hasB a x) = a := by
  have := pick_set h (fun _ => true)
  rw [List.filter_eq_self.2 (fun _ _ => rfl)] at this
  simpa using this
end Go.Proofs.YtcdcpfcmhmhdjaaDoor
