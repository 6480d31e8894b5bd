/- MeetSets: the program's walk. Written by gen_sets.py. -/
import Derived.Test.YtcdcpfcmhmhdjaaSetsC
namespace Go.Proofs.Ytcdcpfcmhmhdjaa
open Go.RowKit
def meetL (xs ys : List Int) : List Int := if isSetB xs && isSetB ys then pickL (fun x => hasB xs x && hasB ys x) else []
theorem meetL_yes {xs ys : List Int} (hx : isSetB xs = true) (hy : isSetB ys = true) : meetL xs ys = pickL (fun x => hasB xs x && hasB ys x) := by unfold meetL; rw [hx, hy]; rfl
theorem meetL_no {xs ys : List Int} (h : isSetB xs = false ∨ isSetB ys = false) : meetL xs ys = [] := by
  unfold meetL
  rcases h with h | h <;> simp [h]
theorem meetL_small (xs ys : List Int) : sumT cntI (meetL xs ys) ≤ 24 := by
  have h := sumT_one (meetL xs ys)
  have h2 : (meetL xs ys).length ≤ 24 := by unfold meetL; split <;> simp [pickL_len]
  unfold cntI; omega
set_option maxRecDepth 100000 in
set_option maxHeartbeats 1000000 in
theorem clo_MeetSets (x : Int) (b1 b2 : Nat) (v v' : Value) (xs ys : List Int) (w : World) (c1 : w.cell? ⟨b1, 0, none⟩ = some v) (c2 : w.cell? ⟨b2, 0, none⟩ = some v') (hx : RInts w v xs) (hy : RInts w v' ys) :
    Calls Try.prog 71 #[.int .i64 x, .pointer (some ⟨b1, 0, none⟩), .pointer (some ⟨b2, 0, none⟩)] w fun e w' => e = .returned (.bool (hasB xs x && hasB ys x)) ∧ w = w' := by
  obtain ⟨a, n, c, rfl⟩ := hx.isSl
  obtain ⟨a', n', c', rfl⟩ := hy.isSl
  have HP : Hid ((hasB xs x && hasB ys x) = (hasB xs x && hasB ys x)) := Lib.hid rfl
  cases h1 : hasB xs x <;> cases h2 : hasB ys x <;>
  · have H1 := Lib.hid h1
    have H2 := Lib.hid h2
    clear h1 h2
    go_enter Try.func71, Try.ntmps71
    go_wp2_with (first | (go_at_call 72; refine (impl_HasMember_of H1.out _ _ hx).mono ?_; rintro e w' ⟨rfl, rfl⟩) | (go_at_call 72; refine (impl_HasMember_of H2.out _ _ hy).mono ?_; rintro e w' ⟨rfl, rfl⟩))
    go_ret
    exact ⟨by first | rfl | simp [H1.out, H2.out], rfl⟩
theorem clo_MeetSets_of {x : Int} {b : Bool} {xs ys : List Int} (h : (hasB xs x && hasB ys x) = b) (b1 b2 : Nat) (v v' : Value) (w : World) (c1 : w.cell? ⟨b1, 0, none⟩ = some v) (c2 : w.cell? ⟨b2, 0, none⟩ = some v') (hx : RInts w v xs) (hy : RInts w v' ys) :
    Calls Try.prog 71 #[.int .i64 x, .pointer (some ⟨b1, 0, none⟩), .pointer (some ⟨b2, 0, none⟩)] w fun e w' => e = .returned (.bool b) ∧ w = w' := h ▸ clo_MeetSets x b1 b2 v v' xs ys w c1 c2 hx hy
set_option maxRecDepth 100000 in
set_option maxHeartbeats 1000000 in
theorem pick_MeetSets (b1 b2 : Nat) (v v' : Value) (xs ys : List Int) (w : World) (c1 : w.cell? ⟨b1, 0, none⟩ = some v) (c2 : w.cell? ⟨b2, 0, none⟩ = some v') (hx : RInts w v xs) (hy : RInts w v' ys) :
    Calls Try.prog 70 #[.func (.func 71) #[] #[.pointer (some ⟨b1, 0, none⟩), .pointer (some ⟨b2, 0, none⟩)]] w fun e w' => ∃ u, e = .returned u ∧ Gr w w' ∧ OInts w.heap.size w' u (pickL (fun x => hasB xs x && hasB ys x)) := by
  go_enter Try.func70, Try.ntmps70
  go_wp2
  go_loopw [3, 4] (fun out i wr => ∃ (k g cap : Nat) (ns : List Int), k ≤ 24 ∧ i = .int .i64 k ∧ out = .slice (some ⟨g, 0, none⟩) ns.length cap ∧ wr.ownsRow w.heap.size 3 1 out ns.length (ns.map (Value.int .i64)) ∧ Gr w wr ∧ ns.length ≤ k ∧ Hid (ns = (upTo k).filter (fun x => hasB xs x && hasB ys x))) (fun _ i _ => 24 - (intOf i).toNat)
  case atStart => exact ⟨0, _, 0, [], Nat.zero_le _, rfl, rfl, own_empty w _ _ _ (Nat.le_refl _), (Gr.refl _).alloc _, by simp, Lib.hid rfl⟩
  case round =>
    obtain ⟨k, g, cap, ns, hk, rfl, rfl, hown, hgr, hlen, hns⟩ := hrel
    by_cases hlt : k < 24
    · have d1 := hgr.cellv c1
      have d2 := hgr.cellv c2
      have ex := hx.mono hgr
      have ey := hy.mono hgr
      have i1 : (k : Int) < 24 := by omega
      cases hp : (hasB xs (k : Int) && hasB ys (k : Int)) with
      | false =>
        have HP := Lib.hid hp
        clear hp
        go_wp2_with (go_at_call 71; refine (clo_MeetSets_of HP.out _ _ _ _ _ d1 d2 ex ey).mono ?_; rintro e w' ⟨rfl, rfl⟩)
        go_roundw
        case rel => exact ⟨k + 1, g, cap, ns, by omega, by go_num, rfl, hown, hgr, by omega, Lib.hid (by rw [filter_upTo_succ, ← hns.out]; simp [HP.out])⟩
        case measure => simp [intOf]; omega
      | true =>
        have HP := Lib.hid hp
        clear hp
        go_wp2_with (first | (go_at_call 71; refine (clo_MeetSets_of HP.out _ _ _ _ _ d1 d2 ex ey).mono ?_; rintro e w' ⟨rfl, rfl⟩) | (at_builtin; refine push_i rfl _ _ rfl ns _ rfl rfl rfl hown (by omega) hgr.size ?_; intro g1 cap1 w1 hown1 hb1))
        go_roundw
        case rel => exact ⟨k + 1, g1, cap1, ns ++ [(k : Int)], by omega, by go_num, by simp, by simpa using hown1, hgr.trans' hb1, by simp; omega, Lib.hid (by rw [filter_upTo_succ, ← hns.out]; simp [HP.out])⟩
        case measure => simp [intOf]; omega
    · obtain rfl : k = 24 := by omega
      have hI : ∀ x ∈ ns, I64 x := fun x hx => by
        rw [hns.out] at hx
        obtain ⟨hx, _⟩ := List.mem_filter.1 hx
        simp [upTo] at hx
        obtain ⟨i, hi, rfl⟩ := hx
        unfold I64; omega
      go_wp2
      go_ret
      exact ⟨_, rfl, hgr, by rw [← show ns = pickL (fun x => hasB xs x && hasB ys x) from hns.out]; exact ⟨hown, hI⟩⟩
set_option maxRecDepth 100000 in
set_option maxHeartbeats 1000000 in
theorem impl_MeetSets (v : Value) (xs : List Int) (v' : Value) (ys : List Int) (w : World) (hx : RInts w v xs) (hy : RInts w v' ys) :
    Calls Try.prog 51 #[v, v'] w fun e w' => ∃ u, e = .returned u ∧ Gr w w' ∧ PInts (In w.heap.size w'.heap.size) w' u (meetL xs ys) := by
  obtain ⟨a, n, c, rfl⟩ := hx.isSl
  obtain ⟨a', n', c', rfl⟩ := hy.isSl
  have g0 : Gr w ((w.alloc (.cells #[.slice a n c] 28)).alloc (.cells #[.slice a' n' c'] 28)) := ((Gr.refl w).alloc _).alloc _
  cases h1 : isSetB xs with
  | false =>
    have HR := Lib.hid (meetL_no (ys := ys) (Or.inl h1))
    go_enter Try.func51, Try.ntmps51
    go_wp2_with fail
    refine (impl_IsSet_of h1 _ _ (hx.mono g0)).mono ?_
    rintro e w1 ⟨rfl, g1⟩
    go_wp2_with fail
    go_ret
    exact ⟨_, rfl, g0.trans g1, by rw [HR.out]; exact OSl.nil _⟩
  | true =>
    cases h2 : isSetB ys with
    | false =>
      have HR := Lib.hid (meetL_no (xs := xs) (Or.inr h2))
      go_enter Try.func51, Try.ntmps51
      go_wp2_with fail
      refine (impl_IsSet_of h1 _ _ (hx.mono g0)).mono ?_
      rintro e w1 ⟨rfl, g1⟩
      have k1 : w1.cell? ⟨w.heap.size + 1, 0, none⟩ = some (.slice a' n' c') := g1.cellv (by simp [go_sem])
      have gw := g0.trans g1
      go_wp2_with fail
      refine (impl_IsSet_of h2 _ _ (hy.mono gw)).mono ?_
      rintro e w2 ⟨rfl, g2⟩
      go_wp2_with fail
      go_ret
      exact ⟨_, rfl, gw.trans g2, by rw [HR.out]; exact OSl.nil _⟩
    | true =>
      have HR := Lib.hid (meetL_yes h1 h2)
      go_enter Try.func51, Try.ntmps51
      go_wp2_with fail
      refine (impl_IsSet_of h1 _ _ (hx.mono g0)).mono ?_
      rintro e w1 ⟨rfl, g1⟩
      have k0 : w1.cell? ⟨w.heap.size, 0, none⟩ = some (.slice a n c) := g1.cellv (by simp [go_sem])
      have k1 : w1.cell? ⟨w.heap.size + 1, 0, none⟩ = some (.slice a' n' c') := g1.cellv (by simp [go_sem])
      have gw := g0.trans g1
      go_wp2_with fail
      refine (impl_IsSet_of h2 _ _ (hy.mono gw)).mono ?_
      rintro e w2 ⟨rfl, g2⟩
      replace k0 := g2.cellv k0
      replace k1 := g2.cellv k1
      replace gw := gw.trans g2
      have hz := gw.size
      go_wp2_with fail
      refine (pick_MeetSets _ _ _ _ xs ys _ k0 k1 (hx.mono gw) (hy.mono gw)).mono ?_
      rintro e w3 ⟨u, rfl, g3, ho⟩
      obtain ⟨ra, rn, rc, rfl⟩ := ho.isSl
      have HO := Lib.hid ho
      clear ho
      go_wp2_with fail
      go_ret
      exact ⟨_, rfl, gw.trans g3, by rw [HR.out]; exact HO.out.priv.wide hz (Nat.le_refl _)⟩
end Go.Proofs.Ytcdcpfcmhmhdjaa
