/- Orders of the fields: l6Order, isOrder; l6All. -/
import Derived.Test.YtcdcpfcmhmhdjaaStab
namespace Go.Proofs.Ytcdcpfcmhmhdjaa
open Go.RowKit
def isOrderB (o : List Int) : Bool := decide (o.length = 3) && (hasB o 0 && (hasB o 1 && hasB o 2))
theorem hasB_cons (a : Int) (xs : List Int) (n : Int) : hasB (a :: xs) n = (a == n || hasB xs n) := by
  rw [Bool.eq_iff_iff, hasB_iff, List.mem_cons, Bool.or_eq_true, beq_iff_eq, hasB_iff]
  constructor
  · rintro (h | h)
    · exact Or.inl h.symm
    · exact Or.inr h
  · rintro (h | h)
    · exact Or.inl h.symm
    · exact Or.inr h
theorem hasB_nil (n : Int) : hasB [] n = false := by simp [hasB, anyB]
/-- What the reference asks of element k. -/
def ordAtB (o : List Int) (k : Nat) : Bool := inB (o.getD k 0) 0 2 && !hasB (o.take k) (o.getD k 0)
theorem isOrderB_len {o : List Int} (h : ¬ o.length = 3) : isOrderB o = false := by unfold isOrderB; simp [h]
theorem isOrderB_eq {o : List Int} (h : o.length = 3) : isOrderB o = allB o.length (ordAtB o) := by
  obtain ⟨a, b, c, rfl⟩ : ∃ a b c, o = [a, b, c] := by
    rcases o with _ | ⟨a, _ | ⟨b, _ | ⟨c, _ | ⟨d, o⟩⟩⟩⟩
    · simp at h
    · simp at h
    · simp at h
    · exact ⟨a, b, c, rfl⟩
    · simp at h
  rw [Bool.eq_iff_iff]
  unfold isOrderB
  rw [allB_iff]
  simp only [List.length_cons, List.length_nil, Nat.zero_add, Nat.reduceAdd, decide_true, Bool.true_and, hasB_cons, hasB_nil, Bool.or_false, Bool.and_eq_true, Bool.or_eq_true, beq_iff_eq]
  constructor
  · rintro ⟨h0, h1, h2⟩ j hj
    have hin : inB ([a, b, c].getD j 0) 0 2 = true ∧ hasB ([a, b, c].take j) ([a, b, c].getD j 0) = false := by
      rcases j with _ | _ | _ | j
      · refine ⟨inB_mk ?_ ?_, by simp [hasB_nil]⟩ <;> simp <;> omega
      · refine ⟨inB_mk ?_ ?_, ?_⟩
        · simp; omega
        · simp; omega
        · simp [hasB_cons, hasB_nil]; omega
      · refine ⟨inB_mk ?_ ?_, ?_⟩
        · simp; omega
        · simp; omega
        · simp [hasB_cons, hasB_nil]; omega
      · omega
    unfold ordAtB
    rw [hin.1, hin.2]; rfl
  · intro h
    have h0 := h 0 (by omega)
    have h1 := h 1 (by omega)
    have h2 := h 2 (by omega)
    unfold ordAtB at h0 h1 h2
    simp only [Bool.and_eq_true, Bool.not_eq_true', List.getD_cons_zero, List.getD_cons_succ, List.take_zero, List.take_succ_cons, hasB_cons, hasB_nil, Bool.or_false, Bool.or_eq_false_iff, beq_eq_false_iff_ne, ne_eq, and_true] at h0 h1 h2
    have i0 := inB_true h0
    have i1 := inB_true h1.1
    have i2 := inB_true h2.1
    omega
theorem isOrderB_at {o : List Int} (h : isOrderB o = true) : o.length = 3 ∧ ∀ k (hk : k < o.length), 0 ≤ o[k] ∧ o[k] ≤ 2 := by
  have hl : o.length = 3 := by
    by_cases e : o.length = 3
    · exact e
    · rw [isOrderB_len e] at h; cases h
  refine ⟨hl, fun k hk => ?_⟩
  rw [isOrderB_eq hl, allB_iff] at h
  have := h k hk
  unfold ordAtB at this
  rw [Bool.and_eq_true, getD_lt hk] at this
  exact inB_true this.1
theorem impl_hasInt_of {xs : List Int} {n : Int} {b : Bool} (h : hasB xs n = b) (v : Value) (w : World) (hx : RInts w v xs) : Calls Try.prog 49 #[v, .int .i64 n] w fun e w' => e = .returned (.bool b) ∧ w = w' := h ▸ impl_hasInt v n xs w hx
set_option maxRecDepth 100000 in
set_option maxHeartbeats 1000000 in
theorem impl_isOrder (v : Value) (o : List Int) (w : World) (hv : RInts w v o) : Calls Try.prog 27 #[v] w fun e w' => e = .returned (.bool (isOrderB o)) ∧ Gr w w' := by
  obtain ⟨a, c, rfl⟩ := hv.form
  have HV := Lib.hid hv
  clear hv
  go_enter Try.func27, Try.ntmps27
  go_wp2
  go_loopw [3] (fun i wr => ∃ k : Nat, k ≤ 3 ∧ i = .int .i64 k ∧ wr = w ∧ Hid (∀ j : Nat, j < k → hasB o (j : Int) = true)) (fun i _ => 3 - (intOf i).toNat)
  case atStart => exact ⟨0, Nat.zero_le _, rfl, rfl, Lib.hid fun _ h => absurd h (Nat.not_lt_zero _)⟩
  case round =>
    obtain ⟨k, hk, rfl, rfl, hn⟩ := hrel
    by_cases hlt : k < 3
    · have i2 : (k : Int) < 3 := by omega
      cases hp : hasB o (k : Int) with
      | false =>
        have HE : Hid (isOrderB o = false) := Lib.hid (by
          unfold isOrderB
          have : k = 0 ∨ k = 1 ∨ k = 2 := by omega
          rcases this with rfl | rfl | rfl
          · rw [show hasB o 0 = false from hp]; simp
          · rw [show hasB o 1 = false from hp]; simp
          · rw [show hasB o 2 = false from hp]; simp)
        have HP := Lib.hid hp
        clear hp
        go_wp2_with fail
        refine (impl_hasInt_of HP.out _ _ HV.out).mono ?_
        rintro e w' ⟨rfl, rfl⟩
        go_wp2_with fail
        go_ret
        exact ⟨ret_bool HE.out.symm, Gr.refl _⟩
      | true =>
        have HP := Lib.hid hp
        clear hp
        go_wp2_with fail
        refine (impl_hasInt_of HP.out _ _ HV.out).mono ?_
        rintro e w' ⟨rfl, rfl⟩
        go_wp2_with fail
        go_roundw
        case rel => exact ⟨k + 1, by omega, by go_num, by first | rfl | trivial, Lib.hid (below_succ hn.out HP.out)⟩
        case measure => simp [intOf]; omega
    · have HE : Hid (isOrderB o = decide (o.length = 3)) := Lib.hid (by
        unfold isOrderB
        have h0 : hasB o 0 = true := hn.out 0 (by omega)
        have h1 : hasB o 1 = true := hn.out 1 (by omega)
        have h2 : hasB o 2 = true := hn.out 2 (by omega)
        rw [h0, h1, h2]; simp)
      by_cases h3 : o.length = 3
      · have hd : ((o.length : Int) == 3) = true := by simp; omega
        have HE2 : Hid (isOrderB o = true) := Lib.hid (by rw [HE.out]; simp [h3])
        clear h3
        go_wp2_with fail
        go_ret
        exact ⟨ret_bool HE2.out.symm, Gr.refl _⟩
      · have hd : ((o.length : Int) == 3) = false := by simp; omega
        have HE2 : Hid (isOrderB o = false) := Lib.hid (by rw [HE.out]; simp [h3])
        clear h3
        go_wp2_with fail
        go_ret
        exact ⟨ret_bool HE2.out.symm, Gr.refl _⟩
theorem RInts.take {w : World} {a : Option Addr} {n cap : Nat} {xs : List Int} (h : RInts w (.slice a n cap) xs) {k : Nat} (hk : k ≤ xs.length) : RInts w (.slice a k cap) (xs.take k) := by
  obtain ⟨a', cap', hv, h1, h2, hc⟩ := h
  simp only [Value.slice.injEq] at hv
  obtain ⟨rfl, rfl, rfl⟩ := hv
  have hl : (xs.take k).length = k := by simp [hk]
  refine ⟨a, cap, by rw [hl], by omega, h2, fun i hi => ?_⟩
  obtain ⟨b, off, cs, ha, hcl, hr, hcc⟩ := hc i (by omega)
  exact ⟨b, off, cs, ha, hcl, by rw [List.getElem_take]; exact hr, hcc⟩
theorem isOrderB_no {o : List Int} {k : Nat} (hl : o.length = 3) (hk : k < o.length) (h : ordAtB o k = false) : isOrderB o = false := by rw [isOrderB_eq hl]; exact allB_false k hk h
theorem ordAtB_1 {o : List Int} {k : Nat} (hk : k < o.length) (h : inB o[k] 0 2 = false) : ordAtB o k = false := by unfold ordAtB; rw [getD_lt hk, h]; rfl
theorem ordAtB_2 {o : List Int} {k : Nat} (hk : k < o.length) (h : hasB (o.take k) o[k] = true) : ordAtB o k = false := by unfold ordAtB; rw [getD_lt hk, h, Bool.not_true, Bool.and_false]
theorem ordAtB_3 {o : List Int} {k : Nat} (hk : k < o.length) (h1 : inB o[k] 0 2 = true) (h : hasB (o.take k) o[k] = false) : ordAtB o k = true := by unfold ordAtB; rw [getD_lt hk, h, h1]; rfl
set_option maxRecDepth 100000 in
set_option maxHeartbeats 2000000 in
theorem spec_l6Order (v : Value) (o : List Int) (w : World) (hv : RInts w v o) : Calls Try.prog 29 #[v] w fun e w' => e = .returned (.bool (isOrderB o)) ∧ Gr w w' := by
  have HV := Lib.hid hv
  obtain ⟨a, cap, rfl, hl, hm, hx⟩ := hv.open
  clear hv
  by_cases h3 : o.length = 3
  · have hd : ((o.length : Int) != 3) = false := by simp; omega
    have H3 := Lib.hid h3
    clear h3
    go_enter Try.func29, Try.ntmps29
    go_wp2
    go_loopw [3] (fun i wr => ∃ k : Nat, k ≤ o.length ∧ i = .int .i64 k ∧ Gr w wr ∧ Hid (∀ j, j < k → ordAtB o j = true)) (fun i _ => o.length - (intOf i).toNat)
    case atStart => exact ⟨0, Nat.zero_le _, rfl, Gr.refl _, Lib.hid fun _ h => absurd h (Nat.not_lt_zero _)⟩
    case round =>
      obtain ⟨k, hk, rfl, hgr, hn⟩ := hrel
      by_cases hlt : k < o.length
      · obtain ⟨b, off, rfl, hc, _⟩ := hx k hlt
        have c0 := hgr.cellv hc
        have i0 : (0 : Int) ≤ (k : Int) := Int.natCast_nonneg _
        have i1 : (k : Int) < (o.length : Int) := by omega
        have i2 : (k : Int) ≤ (cap : Int) := by omega
        have q0 := fun x : Ext wr => Ext.cell c0 x
        have HT := Lib.hid ((RInts.take HV.out (Nat.le_of_lt hlt)).mono hgr)
        cases h1 : inB o[k] 0 2 with
        | false =>
          have HE := Lib.hid (isOrderB_no H3.out hlt (ordAtB_1 hlt h1))
          have H1 := Lib.hid h1
          clear h1
          go_wp2
          refine wp_region_ext (by kernel_rfl) (by kernel_rfl) ?_
          repeat (go_big_quiet_step ((go_at_call 37; exact quiet_ext (calls_b ((spec_l1In _ _ _ _).mono fun _ _ h => ⟨h.1, h.2 ▸ Gr.refl _⟩) H1.out))))
          refine wpQuiet_nil ?_
          intro w1 hw1
          have g1 := Ext.out hw1
          clear hw1 q0
          go_wp2
          go_ret
          exact ⟨ret_bool HE.out.symm, hgr.trans g1⟩
        | true =>
          cases h2 : hasB (o.take k) o[k] with
          | true =>
            have HE := Lib.hid (isOrderB_no H3.out hlt (ordAtB_2 hlt h2))
            have H1 := Lib.hid h1
            have H2 := Lib.hid h2
            clear h1 h2
            go_wp2
            refine wp_region_ext (by kernel_rfl) (by kernel_rfl) ?_
            repeat (go_big_quiet_step (first | (go_at_call 37; exact quiet_ext (calls_b ((spec_l1In _ _ _ _).mono fun _ _ h => ⟨h.1, h.2 ▸ Gr.refl _⟩) H1.out)) | (go_at_call 52; exact quiet_ext (calls_b ((spec_HasMember _ _ (o.take k) _ (HT.out.mono (Ext.gr _))).mono fun _ _ h => ⟨h.1, h.2 ▸ Gr.refl _⟩) H2.out))))
            refine wpQuiet_nil ?_
            intro w1 hw1
            have g1 := Ext.out hw1
            clear hw1 q0
            go_wp2
            go_ret
            exact ⟨ret_bool HE.out.symm, hgr.trans g1⟩
          | false =>
            have HE := Lib.hid (ordAtB_3 hlt h1 h2)
            have H1 := Lib.hid h1
            have H2 := Lib.hid h2
            clear h1 h2
            go_wp2
            refine wp_region_ext (by kernel_rfl) (by kernel_rfl) ?_
            repeat (go_big_quiet_step (first | (go_at_call 37; exact quiet_ext (calls_b ((spec_l1In _ _ _ _).mono fun _ _ h => ⟨h.1, h.2 ▸ Gr.refl _⟩) H1.out)) | (go_at_call 52; exact quiet_ext (calls_b ((spec_HasMember _ _ (o.take k) _ (HT.out.mono (Ext.gr _))).mono fun _ _ h => ⟨h.1, h.2 ▸ Gr.refl _⟩) H2.out))))
            refine wpQuiet_nil ?_
            intro w1 hw1
            have g1 := Ext.out hw1
            clear hw1 q0
            have hgr1 := hgr.trans g1
            go_wp2
            go_roundw
            case rel => exact ⟨k + 1, by omega, by go_num, hgr1, Lib.hid (below_succ hn.out HE.out)⟩
            case measure => simp [intOf]; omega
      · have HE : Hid (isOrderB o = true) := Lib.hid (by rw [isOrderB_eq H3.out]; exact allB_true fun j hj => hn.out j (by omega))
        go_wp2_with fail
        go_ret
        exact ⟨ret_bool HE.out.symm, hgr⟩
  · have hd : ((o.length : Int) != 3) = true := by simp; omega
    have HE := Lib.hid (isOrderB_len h3)
    clear h3
    go_enter Try.func29, Try.ntmps29
    go_wp2
    go_ret
    exact ⟨ret_bool HE.out.symm, Gr.refl _⟩
def allIds (xs : List DQuery) : List Int := xs.map DQuery.id
def idsTo (xs : List DQuery) (k : Nat) : List Int := (xs.take k).map DQuery.id
theorem idsTo_succ {xs : List DQuery} {k : Nat} (h : k < xs.length) : idsTo xs (k + 1) = idsTo xs k ++ [xs[k].id] := by
  unfold idsTo; rw [List.take_succ_eq_append_getElem h, List.map_append]; rfl
theorem idsTo_len (xs : List DQuery) (k : Nat) : (idsTo xs k).length ≤ k := by unfold idsTo; simp; omega
theorem idsTo_all (xs : List DQuery) : idsTo xs xs.length = allIds xs := by unfold idsTo allIds; rw [List.take_length]
set_option maxRecDepth 100000 in
set_option maxHeartbeats 1000000 in
theorem spec_l6All (v : Value) (xs : List DQuery) (w : World) (hv : RQueries w v xs) (hb : xs.length ≤ 24) : Calls Try.prog 53 #[v] w fun e w' => ∃ u, e = .returned u ∧ Gr w w' ∧ PInts (In w.heap.size w'.heap.size) w' u (allIds xs) := by
  obtain ⟨a, cap, rfl, hl, hm, hx⟩ := hv
  go_enter Try.func53, Try.ntmps53
  go_wp2
  go_loopw [3, 4] (fun out i wr => ∃ (k : Nat) (b : Option Addr) (c : Nat) (ns : List Int), k ≤ xs.length ∧ i = .int .i64 k ∧ out = .slice b ns.length c ∧ Hid (OInts w.heap.size wr out ns) ∧ Gr w wr ∧ Hid (ns = idsTo xs k)) (fun _ i _ => xs.length - (intOf i).toNat)
  case atStart => exact ⟨0, _, _, [], Nat.zero_le _, rfl, rfl, Lib.hid ⟨own_empty w _ _ _ (Nat.le_refl _), fun _ h => absurd h (by simp)⟩, (Gr.refl _).alloc _, Lib.hid rfl⟩
  case round =>
    obtain ⟨k, bo, co, ns, hk, rfl, rfl, ho, hgr, hns⟩ := hrel
    by_cases hlt : k < xs.length
    · obtain ⟨b, off, cs, rfl, hlen, ⟨u_conds, u_out, rfl, i_id, i_tenant, h_conds, h_out⟩, hc⟩ := hx k hlt
      have c0 := hgr.cellv (hc 0 (by simp))
      have c1 := hgr.cellv (hc 1 (by simp))
      have c2 := hgr.cellv (hc 2 (by simp))
      have c3 := hgr.cellv (hc 3 (by simp))
      simp only [Nat.add_zero, List.getElem_cons_zero, List.getElem_cons_succ] at c0 c1 c2 c3
      clear hc hlen
      have i0 : (0 : Int) ≤ (k : Int) := Int.natCast_nonneg _
      have i1 : (k : Int) < (xs.length : Int) := by omega
      have hown := ho.out.1
      have hz := hgr.size
      have HS := Lib.hid (idsTo_succ hlt)
      have hnl : Hid (ns.length + 1 ≤ 17592186044416) := Lib.hid (by have := idsTo_len xs k; rw [← hns.out] at this; omega)
      go_wp2_with (at_builtin; refine push_i rfl _ _ rfl ns _ rfl rfl rfl hown hnl.out hz ?_; intro g2 cap2 w2 hown2 hb2)
      go_roundw
      case rel => exact ⟨k + 1, some ⟨g2, 0, none⟩, cap2, ns ++ [xs[k].id], by omega, by go_num, by simp, Lib.hid ⟨by simpa using hown2, fun x hx => (List.mem_append.1 hx).elim (ho.out.2 x) fun hx => by rw [List.mem_singleton.1 hx]; exact i_id⟩, hgr.trans' hb2, Lib.hid (by rw [HS.out, hns.out])⟩
      case measure => simp [intOf]; omega
    · obtain rfl : k = xs.length := by omega
      have HE : Hid (ns = allIds xs) := Lib.hid (by rw [← idsTo_all, hns.out])
      go_wp2_with fail
      go_ret
      exact ⟨_, rfl, hgr, by rw [← HE.out]; exact ho.out.priv⟩
end Go.Proofs.Ytcdcpfcmhmhdjaa
