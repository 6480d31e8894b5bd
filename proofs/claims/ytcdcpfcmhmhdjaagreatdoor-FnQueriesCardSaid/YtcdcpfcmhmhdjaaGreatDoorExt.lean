/- Regions that draw their order, whose calls make memory but hand back plain values: the lexical walk over the class of all worlds that grew from the one at hand. -/
import Derived.Test.YtcdcpfcmhmhdjaaGreatDoorBase
namespace Go.Proofs.YtcdcpfcmhmhdjaaGreatDoor
open Go.RowKit
/-- A world that has grown from w. -/
structure Ext (w : World) where
  val : World
  gr : Gr w val
instance nonempty_ext {w : World} : Nonempty (Ext w) := ⟨⟨w, Gr.refl w⟩⟩
theorem wp_region_ext {P : Program} {id : Nat} {Q : Exit → Act → World → Prop} {a : Act} {w : World} {l : List Oper} (hm : P.follows .mixedOrders = true) (hB : Region.lexB .any l.toArray = true)
    (h : wpQuiet P l.toArray (fun w' => ∃ q : Ext w, w' = q.val) (fun a' => ∀ w', (∃ q : Ext w, w' = q.val) → Q .normal a' w') l a) : (Code.region id l.toArray true).wp P Q a w :=
  wp_region_quiet (C := fun w' => ∃ q : Ext w, w' = q.val) hm hB ⟨⟨w.drew, (Gr.refl w).drew⟩, rfl⟩ (by simpa using h)
theorem quiet_ext {P : Program} {f : FuncId} {args : Array Value} {w : World} {q : Ext w} {v : Value}
    (h : Calls P f args q.val fun e w' => e = .returned v ∧ Gr q.val w') : Calls P f args q.val fun e w'' => e = .returned v ∧ ∃ m : Ext w, w'' = m.val :=
  h.mono fun _ w' ⟨he, hm⟩ => ⟨he, ⟨w', q.gr.trans hm⟩, rfl⟩
theorem Ext.cell {w : World} {p : Addr} {v : Value} (h : w.cell? p = some v) (q : Ext w) : q.val.cell? p = some v := q.gr.cellv h
theorem Ext.out {w w' : World} (h : ∃ q : Ext w, w' = q.val) : Gr w w' := by obtain ⟨q, rfl⟩ := h; exact q.gr
end Go.Proofs.YtcdcpfcmhmhdjaaGreatDoor
