/- Sets have the laws of sets, their texts are read back: the plain laws. No program in sight. -/
import Derived.Test.YtcdcpfcmhmhdjaaDoorSetsIU
import Derived.Test.YtcdcpfcmhmhdjaaDoorSetsIM
import Derived.Test.YtcdcpfcmhmhdjaaDoorSetsIS
import Derived.Test.YtcdcpfcmhmhdjaaDoorPSetP
import Derived.Test.YtcdcpfcmhmhdjaaDoorPickQ
namespace Go.Proofs.YtcdcpfcmhmhdjaaDoor
open Go.RowKit
theorem implSet_text (a : List Int) : implSet (setText a) = if isSetB a = true then some a else none := by
  cases hs : isSetB a with
  | false =>
    rw [setText_no hs]
    unfold implSet
    rw [if_neg (by decide), impl_nil]; rfl
  | true =>
    rw [if_pos rfl]
    by_cases hn : a = []
    · subst hn; rfl
    · have h6 := implAll_words hs 0 (Nat.zero_le _)
      simp only [List.take_zero] at h6
      have hc := cut_setText hs hn
      have hne : setText a ≠ noneT := by
        intro e
        rw [e] at hc
        rw [← hc] at h6
        have : implAll (cutL 32 noneT) [] = none := by decide +kernel
        rw [this] at h6; cases h6
      unfold implSet
      rw [if_neg hne, hc, h6]
      exact chk_pos rfl
def bothSets (a b : List Int) : Bool := isSetB a && isSetB b
theorem sets_no {a b : List Int} (h : bothSets a b = false) : uniteL a b = [] ∧ meetL a b = [] ∧ subL a b = [] := by
  unfold bothSets at h
  unfold uniteL meetL subL
  rw [h]
  simp
theorem sets_len {a b : List Int} (h : bothSets a b = true) : (uniteL a b).length + (meetL a b).length = a.length + b.length := by
  have h' := h
  unfold bothSets at h'
  have h2 : isSetB a = true ∧ isSetB b = true := by simpa using h'
  unfold uniteL meetL
  rw [h']
  simp only [if_true]
  unfold pickL
  rw [count_two (fun x => hasB a x) (fun x => hasB b x) (upTo 24)]
  have e1 := pick_self h2.1
  have e2 := pick_self h2.2
  unfold pickL at e1 e2
  rw [e1, e2]
theorem sets_unite {a b : List Int} (h : bothSets a b = true) : isSetB (uniteL a b) = true := by
  unfold bothSets at h
  unfold uniteL
  rw [h]
  simp only [if_true]
  exact isSetB_pick _
theorem sets_has {a b : List Int} (h : bothSets a b = true) {i : Nat} (hi : i < 24) : hasB (uniteL a b) (i : Int) = (hasB a i || hasB b i) ∧ hasB (meetL a b) (i : Int) = (hasB a i && hasB b i) ∧ hasB (subL a b) (i : Int) = (hasB a i && !hasB b i) := by
  unfold bothSets at h
  unfold uniteL meetL subL
  rw [h]
  simp only [if_true]
  exact ⟨hasB_pick _ hi, hasB_pick _ hi, hasB_pick _ hi⟩
end Go.Proofs.YtcdcpfcmhmhdjaaDoor
