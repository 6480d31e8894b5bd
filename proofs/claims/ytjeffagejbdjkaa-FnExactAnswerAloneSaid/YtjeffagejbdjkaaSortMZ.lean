/- The library's stable sort at rows, step by step: the merge in place, together. (Printed by gen_symm.py.) -/
import Derived.Test.YtjeffagejbdjkaaSortMH
import Derived.Test.YtjeffagejbdjkaaSortML
namespace Go.Proofs.Ytjeffagejbdjkaa
open Go.RowKit Go.Sort Go.ChangeShapes Go.WideShapes Go.Deep
theorem std_mergeP (K : Nat) : MergeP K := by
  induction K using Nat.strongRecOn with
  | ind K ih =>
    intro F g cap w d a m b h hsz hK ham hmb hb s1 s2
    by_cases hA : m = a + 1
    · exact merge_left K ih F g cap w d a m b h hsz hK ham hmb hb s1 s2 hA
    · by_cases hB : b = m + 1
      · exact merge_right K ih F g cap w d a m b h hsz hK ham hmb hb s1 s2 hA hB
      · by_cases hm : (a + b) / 2 < m
        · exact merge_hi K ih F g cap w d a m b h hsz hK ham hmb hb s1 s2 hA hB _ rfl hm
        · exact merge_lo K ih F g cap w d a m b h hsz hK ham hmb hb s1 s2 hA hB _ rfl hm
end Go.Proofs.Ytjeffagejbdjkaa
