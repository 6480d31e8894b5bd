/- From the reading of an argument as data to the words of Base. -/
import Derived.Test.YtcdcpfcmhmhdjaaGreatDoorBase
import Derived.Test.YtcdcpfcmhmhdjaaGreatDoorDraw
namespace Go.Proofs.YtcdcpfcmhmhdjaaGreatDoor
open Go.ChangeShapes Go.WideShapes Go.RowKit Go.Deep
section
variable {H : Type} {enc : TypeId × Value → H} {P : Program} {w : World} {base : Nat} {spare : Nat → Bool} {held : Bool}
/-- Whatever reads as data of this type stands for something by R. -/
def Reads (enc : TypeId × Value → H) (P : Program) (w : World) (base : Nat) (spare : Nat → Bool) (held : Bool) {α : Type} (t : TypeId) (R : World → List Value → α → Prop) : Prop :=
  ∀ n cs x, DataW.trod enc P w base spare held n t cs = some x → ∃ d, R w cs d
theorem rd_int {t : TypeId} (ht : P.underlying t = some (.int .i64)) : Reads enc P w base spare held t RInt := fun n cs x h => by
  obtain ⟨k, rfl, _, hw⟩ := DataW.trod_int ht h
  exact ⟨k, rfl, i64_of_wf hw⟩
theorem cells_at {a : Addr} {n : Nat} {cs : List Value} (h : w.cells? base a n = some cs) : cs.length = n ∧ ∀ j (hj : j < cs.length), w.cell? (a.add j) = some cs[j] := by
  obtain ⟨_, hl, hc⟩ := World.cells?_some h
  refine ⟨hl, fun j hj => ?_⟩
  have := hc j (by omega)
  simpa [hj] using this
theorem plain_of_cell {a : Addr} {v : Value} (h : w.cell? a = some v) : a = ⟨a.block, a.off, none⟩ := by
  obtain ⟨b, o, s⟩ := a
  cases s with
  | none => rfl
  | some s =>
    simp only [World.cell?] at h
    split at h <;> simp at h
theorem rd_slice {α : Type} {t e : TypeId} {sz : Nat} {R : World → List Value → α → Prop} (hsz : 0 < sz) (ht : P.underlying t = some (.slice e)) (hC : P.cellsOf e = sz) (he : Reads enc P w base spare held e R)
    {n : Nat} {cs : List Value} {x : DataW H × List MemPlace} (h : DataW.trod enc P w base spare held n t cs = some x) : ∃ v xs, cs = [v] ∧ RSlice sz R w v xs := by
  rcases open_slice ht h with ⟨rfl, _⟩ | ⟨a, len, cap, m, n', D, Pl, rfl, _, hl, hm, hmm, _, hx⟩
  · exact ⟨_, [], rfl, none, 0, rfl, Nat.le_refl _, by omega, fun i hi => absurd hi (Nat.not_lt_zero _)⟩
  · have hml : len ≤ m := by rw [hmm]; split <;> omega
    have hall : ∀ i, i < len → ∃ (d : List Value × α), d.1.length = sz ∧ R w d.1 d.2 ∧ ∀ j (hj : j < d.1.length), w.cell? ((a.add (i * sz)).add j) = some d.1[j] := fun i hi => by
      obtain ⟨cs', h1, h2⟩ := hx i (by omega)
      rw [hC] at h1
      obtain ⟨d, hd⟩ := he _ _ _ h2
      obtain ⟨h3, h4⟩ := cells_at h1
      exact ⟨(cs', d), h3, hd, h4⟩
    by_cases h0 : len = 0
    · subst h0
      exact ⟨_, [], rfl, some a, cap, rfl, Nat.zero_le _, by simpa [maxLen] using hm, fun i hi => absurd hi (Nat.not_lt_zero _)⟩
    · obtain ⟨d0, hd0, hd1, hd2⟩ := hall 0 (by omega)
      have hp : a = ⟨a.block, a.off, none⟩ := by
        have := hd2 0 (by omega)
        simp [Addr.add] at this
        exact plain_of_cell this
      haveI : Inhabited (List Value × α) := ⟨d0⟩
      obtain ⟨f, hf⟩ := choose_lt hall
      refine ⟨_, (List.range len).map fun i => (f i).2, rfl, some a, cap, by simp, by simpa using hl, by simpa [maxLen] using hm, fun i hi => ?_⟩
      have hi' : i < len := by simpa using hi
      obtain ⟨h1, h2, h3⟩ := hf i hi'
      refine ⟨a.block, a.off, (f i).1, by rw [← hp], h1, by simpa using h2, fun j hj => ?_⟩
      have := h3 j hj
      rw [hp, add_plain, add_plain] at this
      exact this
theorem arg_slice {α : Type} {r : Reach} {b0 : Nat} {t e : TypeId} {sz : Nat} {R : World → List Value → α → Prop} {v : Value} {d : DataW H} {p : List MemPlace} (hsz : 0 < sz) (ht : P.underlying t = some (.slice e)) (hC : P.cellsOf e = sz)
    (he : Reads enc P w base spare held e R) (hv : Value.okWide P w r b0 t v) (h : DataW.Trod enc P w base spare held t v d p) : ∃ xs, RSlice sz R w v xs := by
  obtain ⟨a, len, cap, rfl⟩ := okWide_slice ht hv
  obtain ⟨n, hn⟩ := h
  obtain ⟨v', xs, hc, hr⟩ := rd_slice hsz ht hC he hn
  simp [Value.cells] at hc
  subst hc
  exact ⟨xs, hr⟩
theorem arg_cond {r : Reach} {b0 : Nat} {t : TypeId} {f0 f1 f2 : Field} {v : Value} {d : DataW H} {p : List MemPlace} (hs : P.underlying t = some (.struct #[f0, f1, f2])) (hone : oneCellFields P #[f0, f1, f2] = true) (hC : P.cellsOf t = 3)
    (h0 : P.underlying f0.type = some (.int .i64)) (h1 : P.underlying f1.type = some (.int .i64)) (h2 : P.underlying f2.type = some (.int .i64)) (hv : Value.okWide P w r b0 t v) (h : DataW.Trod enc P w base spare held t v d p) :
    ∃ c : DCond, v = .agg #[.int .i64 c.field, .int .i64 c.low, .int .i64 c.high] ∧ I64 c.field ∧ I64 c.low ∧ I64 c.high := by
  obtain ⟨v0, v1, v2, y0, y1, y2, n, rfl, _, _, t0, t1, t2⟩ := Joins.open_agg3 hs hone hC hv h
  obtain ⟨a, e0, i0⟩ := rd_int h0 _ _ _ t0
  obtain ⟨b, e1, i1⟩ := rd_int h1 _ _ _ t1
  obtain ⟨c, e2, i2⟩ := rd_int h2 _ _ _ t2
  simp at e0 e1 e2
  subst e0 e1 e2
  exact ⟨⟨a, b, c⟩, rfl, i0, i1, i2⟩
theorem rd_ints {t e : TypeId} (ht : P.underlying t = some (.slice e)) (he : P.underlying e = some (.int .i64)) (hC : P.cellsOf e = 1) {n : Nat} {cs : List Value} {x : DataW H × List MemPlace} (h : DataW.trod enc P w base spare held n t cs = some x) : ∃ v xs, cs = [v] ∧ RInts w v xs :=
  rd_slice (by decide) ht hC (rd_int he) h
theorem arg_row {r : Reach} {b0 : Nat} {t e : TypeId} {f0 f1 : Field} {v : Value} {d : DataW H} {p : List MemPlace} (hs : P.underlying t = some (.struct #[f0, f1])) (hone : oneCellFields P #[f0, f1] = true) (hC : P.cellsOf t = 2)
    (h0 : P.underlying f0.type = some (.int .i64)) (h1 : P.underlying f1.type = some (.slice e)) (he : P.underlying e = some (.int .i64)) (hCe : P.cellsOf e = 1) (hv : Value.okWide P w r b0 t v) (h : DataW.Trod enc P w base spare held t v d p) :
    ∃ (x : DRow) (u : Value), v = .agg #[.int .i64 x.id, u] ∧ I64 x.id ∧ RInts w u x.vals := by
  obtain ⟨v0, v1, y0, y1, n, rfl, _, _, t0, t1⟩ := Joins.open_agg2 hs hone hC hv h
  obtain ⟨a, e0, i0⟩ := rd_int h0 _ _ _ t0
  obtain ⟨u, xs, e1, i1⟩ := rd_ints h1 he hCe t1
  simp at e0 e1
  subst e0 e1
  exact ⟨⟨a, xs⟩, v1, rfl, i0, i1⟩
theorem arg_version {r : Reach} {b0 : Nat} {t e : TypeId} {f0 f1 f2 f3 : Field} {v : Value} {d : DataW H} {p : List MemPlace} (hs : P.underlying t = some (.struct #[f0, f1, f2, f3])) (hone : oneCellFields P #[f0, f1, f2, f3] = true) (hC : P.cellsOf t = 4)
    (h0 : P.underlying f0.type = some (.int .i64)) (h1 : P.underlying f1.type = some (.slice e)) (he : P.underlying e = some (.int .i64)) (hCe : P.cellsOf e = 1) (h2 : P.underlying f2.type = some (.int .i64)) (h3 : P.underlying f3.type = some (.int .i64)) (hv : Value.okWide P w r b0 t v) (h : DataW.Trod enc P w base spare held t v d p) :
    ∃ (x : DVersion) (u : Value), v = .agg #[.int .i64 x.id, u, .int .i64 x.born, .int .i64 x.died] ∧ I64 x.id ∧ RInts w u x.vals ∧ I64 x.born ∧ I64 x.died := by
  obtain ⟨v0, v1, v2, v3, y0, y1, y2, y3, n, rfl, _, _, t0, t1, t2, t3⟩ := Joins.open_agg4 hs hone hC hv h
  obtain ⟨a, e0, i0⟩ := rd_int h0 _ _ _ t0
  obtain ⟨u, xs, e1, i1⟩ := rd_ints h1 he hCe t1
  obtain ⟨b, e2, i2⟩ := rd_int h2 _ _ _ t2
  obtain ⟨c, e3, i3⟩ := rd_int h3 _ _ _ t3
  simp at e0 e1 e2 e3
  subst e0 e1 e2 e3
  exact ⟨⟨a, xs, b, c⟩, v1, rfl, i0, i1, i2, i3⟩
theorem arg_int {r : Reach} {b0 : Nat} {t : TypeId} {v : Value} {d : DataW H} {p : List MemPlace} (ht : P.underlying t = some (.int .i64)) (hv : Value.okWide P w r b0 t v) (h : DataW.Trod enc P w base spare held t v d p) : ∃ n, v = .int .i64 n ∧ I64 n := by
  obtain ⟨n, rfl, _, _, hw⟩ := open_int ht hv h
  exact ⟨n, rfl, i64_of_wf hw⟩
theorem arg_str {r : Reach} {b0 : Nat} {t : TypeId} {v : Value} {d : DataW H} {p : List MemPlace} (ht : P.underlying t = some .string) (hv : Value.okWide P w r b0 t v) (h : DataW.Trod enc P w base spare held t v d p) : ∃ s : ByteArray, v = .string s ∧ s.size ≤ 9223372036854775807 := by
  obtain ⟨s, rfl, _, _, hs⟩ := Go.ChangeMaps.open_string ht hv h
  exact ⟨s, rfl, by simpa [maxLen] using hs⟩
end
end Go.Proofs.YtcdcpfcmhmhdjaaGreatDoor

/- From the reading of an argument as data to the words of Base: structs and slices of structs. -/
namespace Go.Proofs.YtcdcpfcmhmhdjaaGreatDoor
open Go.ChangeShapes Go.WideShapes Go.RowKit Go.Deep
section
variable {H : Type} {enc : TypeId × Value → H} {P : Program} {w : World} {base : Nat} {spare : Nat → Bool} {held : Bool}
theorem rd_sl {α : Type} {t e : TypeId} {sz : Nat} {R : World → List Value → α → Prop} (hsz : 0 < sz) (ht : P.underlying t = some (.slice e)) (hC : P.cellsOf e = sz) (he : Reads enc P w base spare held e R) : Reads enc P w base spare held t (ROf (RSlice sz R)) := fun n cs x h => by
  obtain ⟨v, xs, h1, h2⟩ := rd_slice hsz ht hC he h
  exact ⟨xs, v, h1, h2⟩
theorem st2 {t : TypeId} {f0 f1 : Field} (hs : P.underlying t = some (.struct #[f0, f1])) (hone : oneCellFields P #[f0, f1] = true) (hC : P.cellsOf t = 2) {n : Nat} {cs : List Value} {x : DataW H × List MemPlace} (h : DataW.trod enc P w base spare held n t cs = some x) :
    ∃ c0 c1 y0 y1 m, cs = [c0, c1] ∧ DataW.trod enc P w base spare held m f0.type [c0] = some y0 ∧ DataW.trod enc P w base spare held m f1.type [c1] = some y1 := by
  obtain ⟨y0, y1, m, _, hl, h0, h1⟩ := trod_struct2 hs h
  rw [hC] at hl
  obtain ⟨o0, k0⟩ := hone_of hone 0 f0 rfl
  obtain ⟨o1, k1⟩ := hone_of hone 1 f1 rfl
  match cs, hl with
  | [c0, c1], _ => exact ⟨c0, c1, y0, y1, m, rfl, by simpa [o0, k0] using h0, by simpa [o1, k1] using h1⟩
theorem st3 {t : TypeId} {f0 f1 f2 : Field} (hs : P.underlying t = some (.struct #[f0, f1, f2])) (hone : oneCellFields P #[f0, f1, f2] = true) (hC : P.cellsOf t = 3) {n : Nat} {cs : List Value} {x : DataW H × List MemPlace} (h : DataW.trod enc P w base spare held n t cs = some x) :
    ∃ c0 c1 c2 y0 y1 y2 m, cs = [c0, c1, c2] ∧ DataW.trod enc P w base spare held m f0.type [c0] = some y0 ∧ DataW.trod enc P w base spare held m f1.type [c1] = some y1 ∧ DataW.trod enc P w base spare held m f2.type [c2] = some y2 := by
  obtain ⟨y0, y1, y2, m, _, hl, h0, h1, h2⟩ := trod_struct3 hs h
  rw [hC] at hl
  obtain ⟨o0, k0⟩ := hone_of hone 0 f0 rfl
  obtain ⟨o1, k1⟩ := hone_of hone 1 f1 rfl
  obtain ⟨o2, k2⟩ := hone_of hone 2 f2 rfl
  match cs, hl with
  | [c0, c1, c2], _ => exact ⟨c0, c1, c2, y0, y1, y2, m, rfl, by simpa [o0, k0] using h0, by simpa [o1, k1] using h1, by simpa [o2, k2] using h2⟩
theorem st4 {t : TypeId} {f0 f1 f2 f3 : Field} (hs : P.underlying t = some (.struct #[f0, f1, f2, f3])) (hone : oneCellFields P #[f0, f1, f2, f3] = true) (hC : P.cellsOf t = 4) {n : Nat} {cs : List Value} {x : DataW H × List MemPlace} (h : DataW.trod enc P w base spare held n t cs = some x) :
    ∃ c0 c1 c2 c3 y0 y1 y2 y3 m, cs = [c0, c1, c2, c3] ∧ DataW.trod enc P w base spare held m f0.type [c0] = some y0 ∧ DataW.trod enc P w base spare held m f1.type [c1] = some y1 ∧ DataW.trod enc P w base spare held m f2.type [c2] = some y2 ∧ DataW.trod enc P w base spare held m f3.type [c3] = some y3 := by
  obtain ⟨y0, y1, y2, y3, m, _, hl, h0, h1, h2, h3⟩ := Joins.trod_struct4 hs h
  rw [hC] at hl
  obtain ⟨o0, k0⟩ := hone_of hone 0 f0 rfl
  obtain ⟨o1, k1⟩ := hone_of hone 1 f1 rfl
  obtain ⟨o2, k2⟩ := hone_of hone 2 f2 rfl
  obtain ⟨o3, k3⟩ := hone_of hone 3 f3 rfl
  match cs, hl with
  | [c0, c1, c2, c3], _ => exact ⟨c0, c1, c2, c3, y0, y1, y2, y3, m, rfl, by simpa [o0, k0] using h0, by simpa [o1, k1] using h1, by simpa [o2, k2] using h2, by simpa [o3, k3] using h3⟩
theorem rd_cond {t : TypeId} {f0 f1 f2 : Field} (hs : P.underlying t = some (.struct #[f0, f1, f2])) (hone : oneCellFields P #[f0, f1, f2] = true) (hC : P.cellsOf t = 3)
    (r0 : Reads enc P w base spare held f0.type RInt) (r1 : Reads enc P w base spare held f1.type RInt) (r2 : Reads enc P w base spare held f2.type RInt) : Reads enc P w base spare held t RCond := fun n cs x h => by
  obtain ⟨c0, c1, c2, y0, y1, y2, m, rfl, h0, h1, h2⟩ := st3 hs hone hC h
  obtain ⟨a, ea, ia⟩ := r0 _ _ _ h0
  obtain ⟨b, eb, ib⟩ := r1 _ _ _ h1
  obtain ⟨c, ec, ic⟩ := r2 _ _ _ h2
  simp at ea eb ec
  subst ea eb ec
  exact ⟨⟨a, b, c⟩, rfl, ia, ib, ic⟩
theorem rd_row {t : TypeId} {f0 f1 : Field} (hs : P.underlying t = some (.struct #[f0, f1])) (hone : oneCellFields P #[f0, f1] = true) (hC : P.cellsOf t = 2)
    (r0 : Reads enc P w base spare held f0.type RInt) (r1 : Reads enc P w base spare held f1.type (ROf RInts)) : Reads enc P w base spare held t RRow := fun n cs x h => by
  obtain ⟨c0, c1, y0, y1, m, rfl, h0, h1⟩ := st2 hs hone hC h
  obtain ⟨a, ea, ia⟩ := r0 _ _ _ h0
  obtain ⟨b, u, eb, ib⟩ := r1 _ _ _ h1
  simp at ea eb
  subst ea eb
  exact ⟨⟨a, b⟩, _, rfl, ia, ib⟩
theorem rd_span {t : TypeId} {f0 f1 f2 : Field} (hs : P.underlying t = some (.struct #[f0, f1, f2])) (hone : oneCellFields P #[f0, f1, f2] = true) (hC : P.cellsOf t = 3)
    (r0 : Reads enc P w base spare held f0.type RInt) (r1 : Reads enc P w base spare held f1.type RInt) (r2 : Reads enc P w base spare held f2.type (ROf RInts)) : Reads enc P w base spare held t RSpan := fun n cs x h => by
  obtain ⟨c0, c1, c2, y0, y1, y2, m, rfl, h0, h1, h2⟩ := st3 hs hone hC h
  obtain ⟨a, ea, ia⟩ := r0 _ _ _ h0
  obtain ⟨b, eb, ib⟩ := r1 _ _ _ h1
  obtain ⟨c, u, ec, ic⟩ := r2 _ _ _ h2
  simp at ea eb ec
  subst ea eb ec
  exact ⟨⟨a, b, c⟩, _, rfl, ia, ib, ic⟩
theorem rd_query {t : TypeId} {f0 f1 f2 f3 : Field} (hs : P.underlying t = some (.struct #[f0, f1, f2, f3])) (hone : oneCellFields P #[f0, f1, f2, f3] = true) (hC : P.cellsOf t = 4)
    (r0 : Reads enc P w base spare held f0.type RInt) (r1 : Reads enc P w base spare held f1.type RInt) (r2 : Reads enc P w base spare held f2.type (ROf RConds)) (r3 : Reads enc P w base spare held f3.type (ROf RInts)) : Reads enc P w base spare held t RQuery := fun n cs x h => by
  obtain ⟨c0, c1, c2, c3, y0, y1, y2, y3, m, rfl, h0, h1, h2, h3⟩ := st4 hs hone hC h
  obtain ⟨a, ea, ia⟩ := r0 _ _ _ h0
  obtain ⟨b, eb, ib⟩ := r1 _ _ _ h1
  obtain ⟨c, u, ec, ic⟩ := r2 _ _ _ h2
  obtain ⟨d, v, ed, id⟩ := r3 _ _ _ h3
  simp at ea eb ec ed
  subst ea eb ec ed
  exact ⟨⟨a, b, c, d⟩, _, _, rfl, ia, ib, ic, id⟩
theorem rd_version {t : TypeId} {f0 f1 f2 f3 : Field} (hs : P.underlying t = some (.struct #[f0, f1, f2, f3])) (hone : oneCellFields P #[f0, f1, f2, f3] = true) (hC : P.cellsOf t = 4)
    (r0 : Reads enc P w base spare held f0.type RInt) (r1 : Reads enc P w base spare held f1.type (ROf RInts)) (r2 : Reads enc P w base spare held f2.type RInt) (r3 : Reads enc P w base spare held f3.type RInt) : Reads enc P w base spare held t RVersion := fun n cs x h => by
  obtain ⟨c0, c1, c2, c3, y0, y1, y2, y3, m, rfl, h0, h1, h2, h3⟩ := st4 hs hone hC h
  obtain ⟨a, ea, ia⟩ := r0 _ _ _ h0
  obtain ⟨b, u, eb, ib⟩ := r1 _ _ _ h1
  obtain ⟨c, ec, ic⟩ := r2 _ _ _ h2
  obtain ⟨d, ed, id⟩ := r3 _ _ _ h3
  simp at ea eb ec ed
  subst ea eb ec ed
  exact ⟨⟨a, b, c, d⟩, _, rfl, ia, ib, ic, id⟩
theorem rd_index {t : TypeId} {f0 f1 : Field} (hs : P.underlying t = some (.struct #[f0, f1])) (hone : oneCellFields P #[f0, f1] = true) (hC : P.cellsOf t = 2)
    (r0 : Reads enc P w base spare held f0.type (ROf RQueries)) (r1 : Reads enc P w base spare held f1.type (ROf RSpanss)) : Reads enc P w base spare held t RIndex := fun n cs x h => by
  obtain ⟨c0, c1, y0, y1, m, rfl, h0, h1⟩ := st2 hs hone hC h
  obtain ⟨a, u, ea, ia⟩ := r0 _ _ _ h0
  obtain ⟨b, v, eb, ib⟩ := r1 _ _ _ h1
  simp at ea eb
  subst ea eb
  exact ⟨⟨a, b⟩, _, _, rfl, ia, ib⟩
theorem rd_store {t : TypeId} {f0 f1 : Field} (hs : P.underlying t = some (.struct #[f0, f1])) (hone : oneCellFields P #[f0, f1] = true) (hC : P.cellsOf t = 2)
    (r0 : Reads enc P w base spare held f0.type (ROf RVersionss)) (r1 : Reads enc P w base spare held f1.type RInt) : Reads enc P w base spare held t RStore := fun n cs x h => by
  obtain ⟨c0, c1, y0, y1, m, rfl, h0, h1⟩ := st2 hs hone hC h
  obtain ⟨a, u, ea, ia⟩ := r0 _ _ _ h0
  obtain ⟨b, eb, ib⟩ := r1 _ _ _ h1
  simp at ea eb
  subst ea eb
  exact ⟨⟨a, b⟩, _, rfl, ia, ib⟩
/-- An argument of slice type. -/
theorem arg_sl {α : Type} {r : Reach} {b0 : Nat} {t e : TypeId} {sz : Nat} {R : World → List Value → α → Prop} {v : Value} {d : DataW H} {p : List MemPlace} (ht : P.underlying t = some (.slice e))
    (he : Reads enc P w base spare held t (ROf (RSlice sz R))) (hv : Value.okWide P w r b0 t v) (h : DataW.Trod enc P w base spare held t v d p) : ∃ xs, RSlice sz R w v xs := by
  obtain ⟨a, len, cap, rfl⟩ := okWide_slice ht hv
  obtain ⟨n, hn⟩ := h
  obtain ⟨xs, v', hc, hr⟩ := he _ _ _ hn
  simp [Value.cells] at hc
  subst hc
  exact ⟨xs, hr⟩
/-- An argument of struct type. -/
theorem arg_st {α : Type} {r : Reach} {b0 : Nat} {t : TypeId} {fs : Array Field} {R : World → List Value → α → Prop} {v : Value} {d : DataW H} {p : List MemPlace} (ht : P.underlying t = some (.struct fs))
    (he : Reads enc P w base spare held t R) (hv : Value.okWide P w r b0 t v) (h : DataW.Trod enc P w base spare held t v d p) : ∃ (x : α) (cs : List Value), v = .agg cs.toArray ∧ R w cs x := by
  obtain ⟨cs, rfl, hsz⟩ := okWide_struct ht hv
  obtain ⟨n, hn⟩ := h
  obtain ⟨x, hr⟩ := he _ _ _ hn
  exact ⟨x, cs.toList, by simp, by simpa [Value.cells] using hr⟩
end
end Go.Proofs.YtcdcpfcmhmhdjaaGreatDoor

/- A []byte argument, read. -/
namespace Go.Proofs.YtcdcpfcmhmhdjaaGreatDoor
open Go.ChangeShapes Go.WideShapes Go.RowKit Go.Deep
theorem rd_byte {H : Type} {enc : TypeId × Value → H} {P : Program} {w : World} {base : Nat} {spare : Nat → Bool} {held : Bool} {t : TypeId} (ht : P.underlying t = some (.int .u8)) : Reads enc P w base spare held t RByte := fun n cs x h => by
  obtain ⟨k, rfl, _, hw⟩ := DataW.trod_int ht h
  exact ⟨k, rfl, by have := bounds_u8 hw; omega⟩
end Go.Proofs.YtcdcpfcmhmhdjaaGreatDoor
