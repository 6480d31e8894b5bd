/- append(out, xs...): a row of the call's own, and whatever slice reads. No program in sight. -/
import Derived.Test.YtcdcpfcmhmhdjaaGreatDoorPriv
import Derived.Test.YtcdcpfcmhmhdjaaGreatDoorOwn
import Derived.Deep.AppendSrc
import Derived.Deep.Upon
namespace Go.Proofs.YtcdcpfcmhmhdjaaGreatDoor
open Go.ChangeShapes Go.WideShapes Go.RowKit Go.Deep
/-- The cells of a slice that reads: as a source of an append. -/
def SrcAt (w : World) (a : Option Addr) (news : List Value) : Prop := news = [] ∨ ∃ b off, a = some ⟨b, off, none⟩ ∧ ∀ j u, news[j]? = some u → w.cell? ((⟨b, off, none⟩ : Addr).add j) = some u
theorem RSlice.src {α : Type} {sz : Nat} {R : World → List Value → α → Prop} {w : World} {u : Value} {ys : List α} (h : RSlice sz R w u ys) :
    ∃ a c cs, u = .slice a ys.length c ∧ (∀ i (h : i < ys.length), (cs i).length = sz ∧ R w (cs i) ys[i]) ∧ SrcAt w a (flatC sz ys.length cs) := by
  obtain ⟨a, cap, rfl, hl, hm, hx⟩ := h
  by_cases h0 : ys.length = 0
  · exact ⟨a, cap, fun _ => [], rfl, fun i hi => absurd hi (by omega), Or.inl (List.eq_nil_of_length_eq_zero (by rw [flatC_len, h0, Nat.zero_mul]))⟩
  · obtain ⟨b, off, _, ha, _⟩ := hx 0 (by omega)
    have hall : ∀ i, i < ys.length → ∃ c : List Value, (∀ (h : i < ys.length), c.length = sz ∧ R w c ys[i]) ∧ CellsAt w b (off + i * sz) c := fun i hi => by
      obtain ⟨b', off', cs, ha', h1, h2, h3⟩ := hx i hi
      rw [ha] at ha'
      simp only [Option.some.injEq, Addr.mk.injEq] at ha'
      obtain ⟨rfl, rfl, -⟩ := ha'
      exact ⟨cs, fun _ => ⟨h1, h2⟩, h3⟩
    haveI : Inhabited (List Value) := ⟨[]⟩
    obtain ⟨cs, hcs⟩ := choose_lt hall
    refine ⟨a, cap, cs, rfl, fun i hi => (hcs i hi).1 hi, Or.inr ⟨b, off, ha, fun j u hj => ?_⟩⟩
    rw [flatC_get] at hj
    split at hj
    · rename_i hlt
      have hs : 0 < sz := Nat.pos_of_ne_zero fun e => by subst e; simp at hlt
      have hi : j / sz < ys.length := (Nat.div_lt_iff_lt_mul hs).2 hlt
      have hm : j % sz < (cs (j / sz)).length := by rw [((hcs _ hi).1 hi).1]; exact Nat.mod_lt _ hs
      have := (hcs _ hi).2 (j % sz) hm
      rw [add_plain]
      have e : off + j = off + j / sz * sz + j % sz := by have := Nat.div_add_mod j sz; rw [Nat.mul_comm] at this; omega
      rw [e, this]
      simpa [hm] using hj
    · simp at hj
theorem spread_wp {P : Program} {o : Oper} {a : Act} {K : Act → World → Prop} {Q : Exit → Act → World → Prop} {w : World} (t e size bytes : Nat) {z : Value} (ht : P.underlying t = some (.slice e))
    (hi : (P.info? e).map (fun i => (i.zero, i.size, i.bytes)) = some (some z, size, bytes)) (hzs : z.cells.size = size) (hsz : 0 < size) (hby : 0 < bytes) (s x : Operand)
    (ho : o.op = .call { callee := .builtin .append, args := #[s, x], argTypes := #[t, t] }) {base n m c : Nat} {v : Value} {xs : List Value} {ad : Option Addr} (news : List Value)
    (hs : a.eval s = v) (hx : a.eval x = .slice ad m c) (hown : w.ownsRow base e size v n xs) (hl : news.length = m * size) (hsrc : SrcAt w ad news) (h1 : ∀ u ∈ news, u.oneCell' = true)
    (hn : (n + m) * bytes ≤ 140737488355328) (hbase : base ≤ w.heap.size)
    (h : ∀ v' w', w'.ownsRow base e size v' (n + m) (xs ++ news) → Below base w w' → (∀ g, v'.ownBlock = some g → v.ownBlock = some g ∨ w.heap.size ≤ g) → (∀ k, k < w.heap.size → v.ownBlock ≠ some k → w'.heap[k]? = w.heap[k]?) → K (a.put o.dst v') w') :
    o.wp P a w K Q := by
  obtain ⟨i, hi, hz, hs', hb'⟩ := info_parts hi
  by_cases hm : m = 0
  · subst hm
    have hnil : news = [] := List.eq_nil_of_length_eq_zero (by simpa using hl)
    subst hnil
    have hS : Src P i.size t (.slice ad 0 c) 0 [] w := by
      cases ad with
      | none => exact Src.ofNil w ht c
      | some adr => exact Src.ofSlice w ht adr 0 c [] (by simp) (fun j u hj => by simp at hj) (by simp)
    have hform : ∃ b sl sc, v = .slice b sl sc ∧ sl ≤ sc := by
      rcases hown.2 with ⟨rfl, _⟩ | ⟨g, cap, cur, rfl, _, _, hc, _⟩
      · exact ⟨_, _, _, rfl, Nat.le_refl _⟩
      · exact ⟨_, _, _, rfl, hc⟩
    obtain ⟨b, sl, sc, rfl, hle⟩ := hform
    have hr := run_append_nothing (P := P) w t t o.type e i ht hi b sl sc hle _ hS
    unfold Oper.wp execOp
    simp only [ho, resolve, invoke, builtin, Sem.run_bind, Sem.run_pure, Result.andThen_ok, List.map_toArray, List.map_cons, List.map_nil, hs, hx, hr]
    exact h _ _ (by simpa using hown) (Below.refl _ _) (fun g hg => Or.inl hg) fun k _ _ => rfl
  · obtain ⟨b, off, rfl, hcell⟩ : ∃ b off, ad = some ⟨b, off, none⟩ ∧ ∀ j u, news[j]? = some u → w.cell? ((⟨b, off, none⟩ : Addr).add j) = some u := by
      rcases hsrc with h0 | h0
      · subst h0; have : 0 < m * size := Nat.mul_pos (by omega) hsz; simp at hl; omega
      · exact h0
    have hn1 : n + m ≤ maxLen := by
      have := Nat.le_mul_of_pos_right (n + m) hby
      simp only [maxLen]; omega
    refine wp_append_lies w s x t ho base e i z size bytes ht hi hz hs' hb' hzs hsz v n xs hs hown ⟨b, off, none⟩ m c news hx hl hcell h1 (by omega) hn1 hn hbase w.heap.size rfl ?_
    intro g cap w' ho' hg hlie _
    refine h _ w' ho' ((Below.refl _ _).grown hg hbase fun k hk => (hown.lt k hk).1) (fun k hk => ?_) fun k hk hne => hg.block k hk (fun e => hne e.symm)
    have hgk : g = k := Option.some.inj hk
    subst hgk
    rcases hlie with h0 | h0
    · exact Or.inl h0
    · exact Or.inr (by omega)
theorem spread {P : Program} {ops : Array Oper} {rest : List Oper} {o : Oper} {a : Act} {Q : Exit → Act → World → Prop} {w : World} (t e size bytes : Nat) {z : Value} (ht : P.underlying t = some (.slice e))
    (hi : (P.info? e).map (fun i => (i.zero, i.size, i.bytes)) = some (some z, size, bytes)) (hzs : z.cells.size = size) (hsz : 0 < size) (hby : 0 < bytes) (hgd : o.guard = none) (s x : Operand)
    (ho : o.op = .call { callee := .builtin .append, args := #[s, x], argTypes := #[t, t] }) {base n m c : Nat} {v : Value} {xs : List Value} {ad : Option Addr} (news : List Value)
    (hs : a.eval s = v) (hx : a.eval x = .slice ad m c) (hown : w.ownsRow base e size v n xs) (hl : news.length = m * size) (hsrc : SrcAt w ad news) (h1 : ∀ u ∈ news, u.oneCell' = true)
    (hn : (n + m) * bytes ≤ 140737488355328) (hbase : base ≤ w.heap.size)
    (h : ∀ v' w', w'.ownsRow base e size v' (n + m) (xs ++ news) → Below base w w' → (∀ g, v'.ownBlock = some g → v.ownBlock = some g ∨ w.heap.size ≤ g) → (∀ k, k < w.heap.size → v.ownBlock ≠ some k → w'.heap[k]? = w.heap[k]?) → wpList P ops Q rest (a.put o.dst v') w') :
    wpList P ops Q (o :: rest) a w :=
  wpList_plain hgd fun _ hK => spread_wp t e size bytes ht hi hzs hsz hby s x ho news hs hx hown hl hsrc h1 hn hbase fun v' w' h2 h3 h4 h5 => hK _ _ (h v' w' h2 h3 h4 h5)
theorem step_spread {P : Program} {ops : Array Oper} {o : Oper} {a : Act} {K : Act → World → Prop} {Q : Exit → Act → World → Prop} {E : Prop} {w : World} (t e size bytes : Nat) {z : Value} (ht : P.underlying t = some (.slice e))
    (hi : (P.info? e).map (fun i => (i.zero, i.size, i.bytes)) = some (some z, size, bytes)) (hzs : z.cells.size = size) (hsz : 0 < size) (hby : 0 < bytes) (hgd : o.guard = none) (s x : Operand)
    (ho : o.op = .call { callee := .builtin .append, args := #[s, x], argTypes := #[t, t] }) {base n m c : Nat} {v : Value} {xs : List Value} {ad : Option Addr} (news : List Value)
    (hs : a.eval s = v) (hx : a.eval x = .slice ad m c) (hown : w.ownsRow base e size v n xs) (hl : news.length = m * size) (hsrc : SrcAt w ad news) (h1 : ∀ u ∈ news, u.oneCell' = true)
    (hn : (n + m) * bytes ≤ 140737488355328) (hbase : base ≤ w.heap.size)
    (h : ∀ v' w', w'.ownsRow base e size v' (n + m) (xs ++ news) → Below base w w' → (∀ g, v'.ownBlock = some g → v.ownBlock = some g ∨ w.heap.size ≤ g) → (∀ k, k < w.heap.size → v.ownBlock ≠ some k → w'.heap[k]? = w.heap[k]?) → K (a.put o.dst v') w') :
    if Region.wanted o (yielded ops a.tmps) = true then Oper.wp P o a w K Q else E := by
  have hw : Region.wanted o (yielded ops a.tmps) = true := by simp [Region.wanted, hgd]
  rw [if_pos hw]
  exact spread_wp t e size bytes ht hi hzs hsz hby s x ho news hs hx hown hl hsrc h1 hn hbase h
theorem ints_src {w : World} {u : Value} {ys : List Int} (h : RInts w u ys) : ∃ a c, u = .slice a ys.length c ∧ SrcAt w a (ys.map (Value.int .i64)) ∧ ∀ x ∈ ys, I64 x := by
  obtain ⟨a, c, cs, hu, he, hs⟩ := h.src
  have e : flatC 1 ys.length cs = ys.map (Value.int .i64) := by
    apply List.ext_getElem?; intro p
    rw [flatC_get, List.getElem?_map]
    by_cases hp : p < ys.length
    · have := (he p hp).2.1
      simp [hp, Nat.mod_one, this]
    · simp [hp]
  rw [e] at hs
  refine ⟨a, c, hu, hs, fun x hx => ?_⟩
  obtain ⟨i, hi, rfl⟩ := List.getElem_of_mem hx
  exact (he i hi).2.2
/-- append(out, xs...), integers. -/
theorem spread_i {ops : Array Oper} {rest : List Oper} {o : Oper} {a : Act} {Q : Exit → Act → World → Prop} {w : World} (hgd : o.guard = none) (s x : Operand)
    (ho : o.op = .call { callee := .builtin .append, args := #[s, x], argTypes := #[25, 25] }) {base : Nat} {v : Value} (ns : List Int) {ys : List Int} {ad : Option Addr} {c : Nat}
    (hs : a.eval s = v) (hx : a.eval x = .slice ad ys.length c) (hown : OInts base w v ns) (hsrc : SrcAt w ad (ys.map (Value.int .i64))) (hy : ∀ x ∈ ys, I64 x) (hn : ns.length + ys.length ≤ 17592186044416) (hbase : base ≤ w.heap.size)
    (h : ∀ b c' w', OInts base w' (.slice b (ns ++ ys).length c') (ns ++ ys) → Below base w w' → wpList Tryz.prog ops Q rest (a.put o.dst (.slice b (ns ++ ys).length c')) w') :
    wpList Tryz.prog ops Q (o :: rest) a w :=
  spread 25 3 1 8 Tryz.underlying25 (z := .int .i64 0) (by kernel_rfl) rfl (by decide) (by decide) hgd s x ho (ys.map (Value.int .i64)) hs hx hown.1 (by simp) hsrc (by simp [Value.oneCell']) (by omega) hbase fun v' w' h1 h2 _ _ => by
    have hO : OInts base w' v' (ns ++ ys) := ⟨by simpa using h1, fun x hx => (List.mem_append.1 hx).elim (hown.2 x) (hy x)⟩
    obtain ⟨b, c', rfl⟩ := hO.reads.form
    exact h b c' w' hO h2
set_option maxRecDepth 100000 in
set_option maxHeartbeats 400000 in
theorem impl_copyInts (v : Value) (xs : List Int) (w : World) (hx : RInts w v xs) (hb : xs.length ≤ 4294967296) : Calls Tryz.prog 87 #[v] w fun e w' => ∃ u, e = .returned u ∧ Gr w w' ∧ PInts (In w.heap.size w'.heap.size) w' u xs := by
  obtain ⟨a, c, rfl, hsrc, hi⟩ := ints_src hx
  have HS := Lib.hid hsrc
  have hmono : ∀ w' : World, Gr w w' → SrcAt w' a (xs.map (Value.int .i64)) := fun w' g => by
    rcases HS.out with h | ⟨b, off, h1, h2⟩
    · exact Or.inl h
    · exact Or.inr ⟨b, off, h1, fun j u hj => g.cellv (h2 j u hj)⟩
  go_enter Tryz.func87, Tryz.ntmps87
  go_wp2_with (at_builtin; refine spread_i rfl _ _ rfl [] rfl rfl ⟨own_empty w _ _ _ (Nat.le_refl _), fun _ h => absurd h (by simp)⟩ (hmono _ ((Gr.refl _).alloc _)) hi (by simp; omega) (by simp) ?_; intro b1 c1 w1 hown1 hb1)
  go_ret
  simp only [List.nil_append] at hown1
  exact ⟨_, rfl, ((Gr.refl w).alloc _).trans' hb1, hown1.priv⟩
end Go.Proofs.YtcdcpfcmhmhdjaaGreatDoor
