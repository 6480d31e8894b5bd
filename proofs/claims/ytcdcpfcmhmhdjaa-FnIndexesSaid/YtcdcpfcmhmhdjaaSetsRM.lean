/- MeetSets: the reference's walk. Written by gen_sets.py. -/
import Derived.Test.YtcdcpfcmhmhdjaaSetsIM
namespace Go.Proofs.Ytcdcpfcmhmhdjaa
open Go.RowKit
set_option maxRecDepth 100000 in
set_option maxHeartbeats 2000000 in
theorem spec_MeetSets (v : Value) (xs : List Int) (v' : Value) (ys : List Int) (w : World) (hx : RInts w v xs) (hy : RInts w v' ys) :
    Calls Try.prog 55 #[v, v'] w fun e w' => ∃ u, e = .returned u ∧ RInts w' u (meetL xs ys) ∧ Gr w w' := by
  obtain ⟨a', n', c', rfl⟩ := hy.isSl
  obtain ⟨a, capx, rfl, hl, hm, hxo⟩ := hx.open
  have HX := Lib.hid hx
  have HY := Lib.hid hy
  clear hx hy
  go_enter Try.func55, Try.ntmps55
  go_wp2
  go_loopw [5, 6] (fun out i wr => ∃ (k g cap : Nat) (ns : List Int), k ≤ xs.length ∧ i = .int .i64 k ∧ out = .slice (some ⟨g, 0, none⟩) ns.length cap ∧ OInts w.heap.size wr out ns ∧ Gr w wr ∧ ns.length ≤ k ∧ Hid ((isSetB xs && isSetB ys) = true → ns = ((xs.take k).filter fun x => hasB ys x)) ∧ Hid ((isSetB xs && isSetB ys) = false → k = 0)) (fun _ i _ => xs.length - (intOf i).toNat)
  case atStart => exact ⟨0, _, 0, [], Nat.zero_le _, rfl, rfl, ⟨own_empty w _ _ _ (Nat.le_refl _), fun _ h => absurd h (by simp)⟩, (Gr.refl _).alloc _, by simp, Lib.hid (fun _ => rfl), Lib.hid (fun _ => rfl)⟩
  case round =>
    obtain ⟨k, g, cap, ns, hk, rfl, rfl, ho, hgr, hlen, hns, hz⟩ := hrel
    have HO := Lib.hid ho
    clear ho
    by_cases hlt : k < xs.length
    · have i1 : (k : Int) < (xs.length : Int) := by omega
      have i2 : (ns.length : Int) ≤ 9223372036854775807 := by omega
      have rx := HX.out.mono hgr
      cases h1 : isSetB xs with
      | false =>
        have HZ : Hid (ns = meetL xs ys) := Lib.hid (by rw [meetL_no (Or.inl h1)]; have := hz.out (by rw [h1]; rfl); exact List.eq_nil_of_length_eq_zero (by omega))
        have H1 := Lib.hid h1
        clear h1
        go_wp2_with fail
        refine (spec_IsSet_of H1.out _ _ rx).mono ?_
        rintro e w1 ⟨rfl, g1⟩
        go_wp2_with fail
        go_ret
        exact ⟨_, rfl, by rw [← HZ.out]; exact (HO.out.mono g1).reads, hgr.trans g1⟩
      | true =>
        cases h2 : isSetB ys with
        | false =>
          have HZ : Hid (ns = meetL xs ys) := Lib.hid (by rw [meetL_no (Or.inr h2)]; have := hz.out (by rw [h1, h2]; rfl); exact List.eq_nil_of_length_eq_zero (by omega))
          have H1 := Lib.hid h1
          have H2 := Lib.hid h2
          clear h1 h2
          go_wp2_with fail
          refine (spec_IsSet_of H1.out _ _ rx).mono ?_
          rintro e w1 ⟨rfl, g1⟩
          have gw1 := hgr.trans g1
          have ry := HY.out.mono gw1
          go_wp2_with fail
          refine (spec_IsSet_of H2.out _ _ ry).mono ?_
          rintro e w2 ⟨rfl, g2⟩
          go_wp2_with fail
          go_ret
          exact ⟨_, rfl, by rw [← HZ.out]; exact (HO.out.mono (g1.trans g2)).reads, gw1.trans g2⟩
        | true =>
          have hl24 := isSetB_len h1
          have HB := Lib.hid (show (isSetB xs && isSetB ys) = true by rw [h1, h2]; rfl)
          have H1 := Lib.hid h1
          have H2 := Lib.hid h2
          clear h1 h2
          obtain ⟨b, off, rfl, hc, hi⟩ := hxo k hlt
          cases hp : hasB ys xs[k] with
          | false =>
            have HP := Lib.hid hp
            clear hp
            go_wp2_with fail
            refine (spec_IsSet_of H1.out _ _ rx).mono ?_
            rintro e w1 ⟨rfl, g1⟩
            have gw1 := hgr.trans g1
            have ry := HY.out.mono gw1
            go_wp2_with fail
            refine (spec_IsSet_of H2.out _ _ ry).mono ?_
            rintro e w2 ⟨rfl, g2⟩
            have gw2 := gw1.trans g2
            have rx2 := HX.out.mono gw2
            have ry2 := HY.out.mono gw2
            have ho := HO.out.mono (g1.trans g2)
            have hown := ho.1
            have hsz := gw2.size
            have d2 := gw2.cellv hc
            clear hown
            go_wp2_with fail
            refine (spec_HasMember_of HP.out _ _ ry2).mono ?_
            rintro e w' ⟨rfl, rfl⟩
            have hown := ho.1
            go_wp2_with fail
            go_roundw
            case rel => exact ⟨k + 1, g, cap, ns, by omega, by go_num, rfl, HO.out.mono (g1.trans g2), gw2, by omega, Lib.hid (fun _ => by rw [filter_take_succ _ hlt, ← hns.out HB.out]; simp [HP.out]), Lib.hid (fun h => by first | exact absurd h (by decide) | (rw [HB.out] at h; cases h))⟩
            case measure => simp [intOf]; omega
          | true =>
            have HP := Lib.hid hp
            clear hp
            go_wp2_with fail
            refine (spec_IsSet_of H1.out _ _ rx).mono ?_
            rintro e w1 ⟨rfl, g1⟩
            have gw1 := hgr.trans g1
            have ry := HY.out.mono gw1
            go_wp2_with fail
            refine (spec_IsSet_of H2.out _ _ ry).mono ?_
            rintro e w2 ⟨rfl, g2⟩
            have gw2 := gw1.trans g2
            have rx2 := HX.out.mono gw2
            have ry2 := HY.out.mono gw2
            have ho := HO.out.mono (g1.trans g2)
            have hown := ho.1
            have hsz := gw2.size
            have d2 := gw2.cellv hc
            clear hown
            go_wp2_with fail
            refine (spec_HasMember_of HP.out _ _ ry2).mono ?_
            rintro e w' ⟨rfl, rfl⟩
            have hown := ho.1
            go_wp2_with (at_builtin; refine push_i rfl _ _ rfl ns _ rfl rfl rfl hown (by omega) hsz ?_; intro g3 cap3 w3 hown3 hb3)
            go_roundw
            case rel => exact ⟨k + 1, g3, cap3, ns ++ [xs[k]], by omega, by go_num, by simp, ⟨by simpa using hown3, fun x hx => (List.mem_append.1 hx).elim (HO.out.2 x) fun hx => by rw [List.mem_singleton.1 hx]; exact hi⟩, gw2.trans' hb3, by simp; omega, Lib.hid (fun _ => by rw [filter_take_succ _ hlt, ← hns.out HB.out]; simp [HP.out]), Lib.hid (fun h => by first | exact absurd h (by decide) | (rw [HB.out] at h; cases h))⟩
            case measure => simp [intOf]; omega
    · have HE : Hid (ns = meetL xs ys) := Lib.hid (by
        obtain rfl : k = xs.length := by omega
        cases hb : (isSetB xs && isSetB ys) with
        | false => rw [meetL_no (by cases h : isSetB xs <;> simp_all)]; have := hz.out hb; exact List.eq_nil_of_length_eq_zero (by omega)
        | true =>
          obtain ⟨h1, h2⟩ := Bool.and_eq_true_iff.1 hb
          rw [meetL_yes h1 h2, hns.out hb]; simp only [List.take_length]; exact (pick_set h1 _).symm)
      go_wp2
      go_ret
      exact ⟨_, rfl, by rw [← HE.out]; exact HO.out.reads, hgr⟩
end Go.Proofs.Ytcdcpfcmhmhdjaa
