/- Variables of the library that a walk leans on, carried along. -/
import Derived.Test.YtcdcpfcmhmhdjaaDoorBase
import Derived.Lib.LaidTab
import Derived.Lib.AppendIntMem
namespace Go.Proofs.YtcdcpfcmhmhdjaaDoor
open Go.RowKit
theorem var_gr {P : Program} {w w' : World} {n : String} {cs : Array Value} (h : w.var? P n = some cs) (hg : Gr w w') : w'.var? P n = some cs := by
  unfold World.var? at *
  cases hn : P.globalNamed n with
  | none => rw [hn] at h; simp at h
  | some g =>
    rw [hn] at h
    simp only [Option.bind_some] at h ⊢
    have hlt : g < w.heap.size := by
      cases hh : w.heap[g]? with
      | none => rw [hh] at h; cases h
      | some o => exact (Array.getElem?_eq_some_iff.1 hh).1
    rw [hg.block g hlt]; exact h
theorem tab_gr {P : Program} {w w' : World} {n : String} {k : IntKind} {zs : List Int} (h : Lib.TabIs P w n k zs) (hg : Gr w w') : Lib.TabIs P w' n k zs := var_gr h hg
/-- The powers of ten lie where the program's initialiser laid them. -/
abbrev Tens (P : Program) (w : World) : Prop := Lib.TabIs P w "internal/strconv.uint64pow10" .u64 Lib.pow10Tab
theorem grown_gr (w : World) (k : Nat) (os : Array Obj) : Gr w (Sort.grow (w.drewN k) os) := Lib.below_grow w.heap.size w (Nat.le_refl _) k os
end Go.Proofs.YtcdcpfcmhmhdjaaDoor
