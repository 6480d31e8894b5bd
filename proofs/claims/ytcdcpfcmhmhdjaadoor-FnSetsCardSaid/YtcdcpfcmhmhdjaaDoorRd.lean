/- From the reading of an argument as data to the words of Base: structs and slices of structs. -/
import Derived.Test.YtcdcpfcmhmhdjaaDoorArg
namespace Go.Proofs.YtcdcpfcmhmhdjaaDoor
open Go.ChangeShapes Go.WideShapes Go.RowKit Go.Deep
section
variable {H : Type} {enc : TypeId × Value → H} {P : Program} {w : World} {base : Nat} {spare : Nat → Bool} {held : Bool}
theorem rd_sl {α : Type} {t e : TypeId} {sz : Nat} {R : World → List Value → α → Prop} (hsz : 0 < sz) (ht : P.underlying t = some (.slice e)) (hC : P.cellsOf e = sz) (he : Reads enc P w base spare held e R) : Reads enc P w base spare held t (ROf (RSlice sz R)) := fun n cs x h => by
  obtain ⟨v, xs, h1, h2⟩ := rd_slice hsz ht hC he h
  exact ⟨xs, v, h1, h2⟩
theorem st2 {t : TypeId} {f0 f1 : Field} (hs : P.underlying t = some (.struct #[f0, f1])) (hone : oneCellFields P #[f0, f1] = true) (hC : P.cellsOf t = 2) {n : Nat} {cs : List Value} {x : DataW H × List MemPlace} (h : DataW.trod enc P w base spare held n t cs = some x) :
    ∃ c0 c1 y0 y1 m, cs = [c0, c1] ∧ DataW.trod enc P w base spare held m f0.type [c0] = some y0 ∧ DataW.trod enc P w base spare held m f1.type [c1] = some y1 := by
  obtain ⟨y0, y1, m, _, hl, h0, h1⟩ := trod_struct2 hs h
  rw [hC] at hl
  obtain ⟨o0, k0⟩ := hone_of hone 0 f0 rfl
  obtain ⟨o1, k1⟩ := hone_of hone 1 f1 rfl
  match cs, hl with
  | [c0, c1], _ => exact ⟨c0, c1, y0, y1, m, rfl, by simpa [o0, k0] using h0, by simpa [o1, k1] using h1⟩
theorem st3 {t : TypeId} {f0 f1 f2 : Field} (hs : P.underlying t = some (.struct #[f0, f1, f2])) (hone : oneCellFields P #[f0, f1, f2] = true) (hC : P.cellsOf t = 3) {n : Nat} {cs : List Value} {x : DataW H × List MemPlace} (h : DataW.trod enc P w base spare held n t cs = some x) :
    ∃ c0 c1 c2 y0 y1 y2 m, cs = [c0, c1, c2] ∧ DataW.trod enc P w base spare held m f0.type [c0] = some y0 ∧ DataW.trod enc P w base spare held m f1.type [c1] = some y1 ∧ DataW.trod enc P w base spare held m f2.type [c2] = some y2 := by
  obtain ⟨y0, y1, y2, m, _, hl, h0, h1, h2⟩ := trod_struct3 hs h
  rw [hC] at hl
  obtain ⟨o0, k0⟩ := hone_of hone 0 f0 rfl
  obtain ⟨o1, k1⟩ := hone_of hone 1 f1 rfl
  obtain ⟨o2, k2⟩ := hone_of hone 2 f2 rfl
  match cs, hl with
  | [c0, c1, c2], _ => exact ⟨c0, c1, c2, y0, y1, y2, m, rfl, by simpa [o0, k0] using h0, by simpa [o1, k1] using h1, by simpa [o2, k2] using h2⟩
theorem st4 {t : TypeId} {f0 f1 f2 f3 : Field} (hs : P.underlying t = some (.struct #[f0, f1, f2, f3])) (hone : oneCellFields P #[f0, f1, f2, f3] = true) (hC : P.cellsOf t = 4) {n : Nat} {cs : List Value} {x : DataW H × List MemPlace} (h : DataW.trod enc P w base spare held n t cs = some x) :
    ∃ c0 c1 c2 c3 y0 y1 y2 y3 m, cs = [c0, c1, c2, c3] ∧ DataW.trod enc P w base spare held m f0.type [c0] = some y0 ∧ DataW.trod enc P w base spare held m f1.type [c1] = some y1 ∧ DataW.trod enc P w base spare held m f2.type [c2] = some y2 ∧ DataW.trod enc P w base spare held m f3.type [c3] = some y3 := by
  obtain ⟨y0, y1, y2, y3, m, _, hl, h0, h1, h2, h3⟩ := Joins.trod_struct4 hs h
  rw [hC] at hl
  obtain ⟨o0, k0⟩ := hone_of hone 0 f0 rfl
  obtain ⟨o1, k1⟩ := hone_of hone 1 f1 rfl
  obtain ⟨o2, k2⟩ := hone_of hone 2 f2 rfl
  obtain ⟨o3, k3⟩ := hone_of hone 3 f3 rfl
  match cs, hl with
  | [c0, c1, c2, c3], _ => exact ⟨c0, c1, c2, c3, y0, y1, y2, y3, m, rfl, by simpa [o0, k0] using h0, by simpa [o1, k1] using h1, by simpa [o2, k2] using h2, by simpa [o3, k3] using h3⟩
theorem rd_cond {t : TypeId} {f0 f1 f2 : Field} (hs : P.underlying t = some (.struct #[f0, f1, f2])) (hone : oneCellFields P #[f0, f1, f2] = true) (hC : P.cellsOf t = 3)
    (r0 : Reads enc P w base spare held f0.type RInt) (r1 : Reads enc P w base spare held f1.type RInt) (r2 : Reads enc P w base spare held f2.type RInt) : Reads enc P w base spare held t RCond := fun n cs x h => by
  obtain ⟨c0, c1, c2, y0, y1, y2, m, rfl, h0, h1, h2⟩ := st3 hs hone hC h
  obtain ⟨a, ea, ia⟩ := r0 _ _ _ h0
  obtain ⟨b, eb, ib⟩ := r1 _ _ _ h1
  obtain ⟨c, ec, ic⟩ := r2 _ _ _ h2
  simp at ea eb ec
  subst ea eb ec
  exact ⟨⟨a, b, c⟩, rfl, ia, ib, ic⟩
theorem rd_row {t : TypeId} {f0 f1 : Field} (hs : P.underlying t = some (.struct #[f0, f1])) (hone : oneCellFields P #[f0, f1] = true) (hC : P.cellsOf t = 2)
    (r0 : Reads enc P w base spare held f0.type RInt) (r1 : Reads enc P w base spare held f1.type (ROf RInts)) : Reads enc P w base spare held t RRow := fun n cs x h => by
  obtain ⟨c0, c1, y0, y1, m, rfl, h0, h1⟩ := st2 hs hone hC h
  obtain ⟨a, ea, ia⟩ := r0 _ _ _ h0
  obtain ⟨b, u, eb, ib⟩ := r1 _ _ _ h1
  simp at ea eb
  subst ea eb
  exact ⟨⟨a, b⟩, _, rfl, ia, ib⟩
theorem rd_span {t : TypeId} {f0 f1 f2 : Field} (hs : P.underlying t = some (.struct #[f0, f1, f2])) (hone : oneCellFields P #[f0, f1, f2] = true) (hC : P.cellsOf t = 3)
    (r0 : Reads enc P w base spare held f0.type RInt) (r1 : Reads enc P w base spare held f1.type RInt) (r2 : Reads enc P w base spare held f2.type (ROf RInts)) : Reads enc P w base spare held t RSpan := fun n cs x h => by
  obtain ⟨c0, c1, c2, y0, y1, y2, m, rfl, h0, h1, h2⟩ := st3 hs hone hC h
  obtain ⟨a, ea, ia⟩ := r0 _ _ _ h0
  obtain ⟨b, eb, ib⟩ := r1 _ _ _ h1
  obtain ⟨c, u, ec, ic⟩ := r2 _ _ _ h2
  simp at ea eb ec
  subst ea eb ec
  exact ⟨⟨a, b, c⟩, _, rfl, ia, ib, ic⟩
theorem rd_query {t : TypeId} {f0 f1 f2 f3 : Field} (hs : P.underlying t = some (.struct #[f0, f1, f2, f3])) (hone : oneCellFields P #[f0, f1, f2, f3] = true) (hC : P.cellsOf t = 4)
    (r0 : Reads enc P w base spare held f0.type RInt) (r1 : Reads enc P w base spare held f1.type RInt) (r2 : Reads enc P w base spare held f2.type (ROf RConds)) (r3 : Reads enc P w base spare held f3.type (ROf RInts)) : Reads enc P w base spare held t RQuery := fun n cs x h => by
  obtain ⟨c0, c1, c2, c3, y0, y1, y2, y3, m, rfl, h0, h1, h2, h3⟩ := st4 hs hone hC h
  obtain ⟨a, ea, ia⟩ := r0 _ _ _ h0
  obtain ⟨b, eb, ib⟩ := r1 _ _ _ h1
  obtain ⟨c, u, ec, ic⟩ := r2 _ _ _ h2
  obtain ⟨d, v, ed, id⟩ := r3 _ _ _ h3
  simp at ea eb ec ed
  subst ea eb ec ed
  exact ⟨⟨a, b, c, d⟩, _, _, rfl, ia, ib, ic, id⟩
theorem rd_version {t : TypeId} {f0 f1 f2 f3 : Field} (hs : P.underlying t = some (.struct #[f0, f1, f2, f3])) (hone : oneCellFields P #[f0, f1, f2, f3] = true) (hC : P.cellsOf t = 4)
    (r0 : Reads enc P w base spare held f0.type RInt) (r1 : Reads enc P w base spare held f1.type (ROf RInts)) (r2 : Reads enc P w base spare held f2.type RInt) (r3 : Reads enc P w base spare held f3.type RInt) : Reads enc P w base spare held t RVersion := fun n cs x h => by
  obtain ⟨c0, c1, c2, c3, y0, y1, y2, y3, m, rfl, h0, h1, h2, h3⟩ := st4 hs hone hC h
  obtain ⟨a, ea, ia⟩ := r0 _ _ _ h0
  obtain ⟨b, u, eb, ib⟩ := r1 _ _ _ h1
  obtain ⟨c, ec, ic⟩ := r2 _ _ _ h2
  obtain ⟨d, ed, id⟩ := r3 _ _ _ h3
  simp at ea eb ec ed
  subst ea eb ec ed
  exact ⟨⟨a, b, c, d⟩, _, rfl, ia, ib, ic, id⟩
theorem rd_index {t : TypeId} {f0 f1 : Field} (hs : P.underlying t = some (.struct #[f0, f1])) (hone : oneCellFields P #[f0, f1] = true) (hC : P.cellsOf t = 2)
    (r0 : Reads enc P w base spare held f0.type (ROf RQueries)) (r1 : Reads enc P w base spare held f1.type (ROf RSpanss)) : Reads enc P w base spare held t RIndex := fun n cs x h => by
  obtain ⟨c0, c1, y0, y1, m, rfl, h0, h1⟩ := st2 hs hone hC h
  obtain ⟨a, u, ea, ia⟩ := r0 _ _ _ h0
  obtain ⟨b, v, eb, ib⟩ := r1 _ _ _ h1
  simp at ea eb
  subst ea eb
  exact ⟨⟨a, b⟩, _, _, rfl, ia, ib⟩
theorem rd_store {t : TypeId} {f0 f1 : Field} (hs : P.underlying t = some (.struct #[f0, f1])) (hone : oneCellFields P #[f0, f1] = true) (hC : P.cellsOf t = 2)
    (r0 : Reads enc P w base spare held f0.type (ROf RVersionss)) (r1 : Reads enc P w base spare held f1.type RInt) : Reads enc P w base spare held t RStore := fun n cs x h => by
  obtain ⟨c0, c1, y0, y1, m, rfl, h0, h1⟩ := st2 hs hone hC h
  obtain ⟨a, u, ea, ia⟩ := r0 _ _ _ h0
  obtain ⟨b, eb, ib⟩ := r1 _ _ _ h1
  simp at ea eb
  subst ea eb
  exact ⟨⟨a, b⟩, _, rfl, ia, ib⟩
/-- An argument of slice type. -/
theorem arg_sl {α : Type} {r : Reach} {b0 : Nat} {t e : TypeId} {sz : Nat} {R : World → List Value → α → Prop} {v : Value} {d : DataW H} {p : List MemPlace} (ht : P.underlying t = some (.slice e))
    (he : Reads enc P w base spare held t (ROf (RSlice sz R))) (hv : Value.okWide P w r b0 t v) (h : DataW.Trod enc P w base spare held t v d p) : ∃ xs, RSlice sz R w v xs := by
  obtain ⟨a, len, cap, rfl⟩ := okWide_slice ht hv
  obtain ⟨n, hn⟩ := h
  obtain ⟨xs, v', hc, hr⟩ := he _ _ _ hn
  simp [Value.cells] at hc
  subst hc
  exact ⟨xs, hr⟩
/-- An argument of struct type. -/
theorem arg_st {α : Type} {r : Reach} {b0 : Nat} {t : TypeId} {fs : Array Field} {R : World → List Value → α → Prop} {v : Value} {d : DataW H} {p : List MemPlace} (ht : P.underlying t = some (.struct fs))
    (he : Reads enc P w base spare held t R) (hv : Value.okWide P w r b0 t v) (h : DataW.Trod enc P w base spare held t v d p) : ∃ (x : α) (cs : List Value), v = .agg cs.toArray ∧ R w cs x := by
  obtain ⟨cs, rfl, hsz⟩ := okWide_struct ht hv
  obtain ⟨n, hn⟩ := h
  obtain ⟨x, hr⟩ := he _ _ _ hn
  exact ⟨x, cs.toList, by simp, by simpa [Value.cells] using hr⟩
end
end Go.Proofs.YtcdcpfcmhmhdjaaDoor
