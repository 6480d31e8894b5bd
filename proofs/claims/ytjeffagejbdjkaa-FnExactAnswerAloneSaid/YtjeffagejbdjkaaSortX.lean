/- SortRows: the program's walk. -/
import Derived.Test.YtjeffagejbdjkaaSortT
import Derived.Test.YtjeffagejbdjkaaSortW
namespace Go.Proofs.Ytjeffagejbdjkaa
open Go.RowKit Go.Sort Go.ChangeShapes Go.WideShapes Go.Deep
variable {F : Nat → Prop} {g cap : Nat} {w w' : World} {d : Array El}
theorem sorted_rows {d d' : Array El} {xs : List DRow} (hx : d.toList.map El.r = xs) (hp : PermIn 0 d.size d d') (hs : SortedIn ltE 0 d.size d') : d'.toList.map El.r = sortR xs := by
  refine sortR_eq ?_ ?_
  · rw [← hx]
    refine List.Perm.map _ ?_
    have h := hp.2.2
    have e1 : d.extract 0 d.size = d := by simp
    have e2 : d'.extract 0 d.size = d' := by rw [← hp.1]; simp
    rwa [e1, e2] at h
  · unfold UpR
    rw [List.pairwise_map, List.pairwise_iff_getElem]
    intro i j hi hj hij
    have hz : d'.size = d.size := hp.1
    simp only [Array.length_toList] at hi hj
    have h := hs i j (Nat.zero_le _) hij (by omega)
    rw [getElem!_pos d' i hi, getElem!_pos d' j hj] at h
    simpa [ltE] using h
set_option maxRecDepth 100000 in
theorem std_insertion0 (a : Option Addr) (c : Nat) (f : Value) (w : World) : Calls Try.prog 51 #[.slice a 0 c, .int .i64 0, .int .i64 0, f] w fun e w' => e = .returned (.tuple #[]) ∧ Gr w w' := by
  go_enter Try.func51, Try.ntmps51
  go_wp2_with fail
  go_loopw [8] (fun vi wr => vi = .int .i64 1 ∧ Gr w wr) (fun _ _ => 0)
  case atStart => exact ⟨by go_num, Gr.refl _⟩
  case round =>
    obtain ⟨rfl, hg⟩ := hrel
    go_wp2_with fail
    go_end0
    exact ⟨rfl, hg⟩
set_option maxRecDepth 100000 in
theorem std_stable0 (a : Option Addr) (c : Nat) (f : Value) (w : World) : Calls Try.prog 40 #[.slice a 0 c, .int .i64 0, f] w fun e w' => e = .returned (.tuple #[]) ∧ Gr w w' := by
  go_enter Try.func40, Try.ntmps40
  go_wp2_with fail
  go_loopw [7, 8] (fun va vb wr => va = .int .i64 0 ∧ vb = .int .i64 20 ∧ Gr w wr) (fun _ _ _ => 0)
  case atStart => exact ⟨rfl, rfl, Gr.refl _⟩
  case round =>
    obtain ⟨rfl, rfl, hg⟩ := hrel
    obtain ⟨W1, hW1⟩ : ∃ W1, W1 = wr := ⟨_, rfl⟩
    rw [← hW1]; rw [← hW1] at hg; clear hW1
    have HG := Lib.hid hg
    go_wp2_with fail
    refine (std_insertion0 a c f _).mono ?_
    rintro e w1 ⟨rfl, g1⟩
    replace HG := Lib.hid (HG.out.trans g1)
    clear g1 hg
    go_wp2_with fail
    go_loopw [6, 7, 8] (fun vs va vb wr => vs = .int .i64 20 ∧ va = .int .i64 0 ∧ vb = .int .i64 20 ∧ Hid (Gr w wr)) (fun _ _ _ _ => 0)
    case atStart => exact ⟨rfl, rfl, rfl, HG⟩
    case round =>
      obtain ⟨rfl, rfl, rfl, HG2⟩ := hrel
      go_wp2_with fail
      go_end0
      exact ⟨rfl, HG2.out⟩
set_option maxRecDepth 100000 in
set_option maxHeartbeats 1000000 in
theorem std_sort {v : Value} {xs : List DRow} (h : PRows F w v xs) (hb : xs.length ≤ 1048576) :
    Calls Try.prog 23 #[v, .func (.func 24) #[] #[]] w fun e w' => e = .returned (.tuple #[]) ∧ PRows F w' v (sortR xs) ∧ Chg F w w' := by
  by_cases h0 : xs = []
  · subst h0
    obtain ⟨a, c, rfl⟩ := h.form
    have HH := Lib.hid h
    clear h
    go_enter Try.func23, Try.ntmps23
    go_wp2_with fail
    refine (std_stable0 a c _ _).mono ?_
    rintro e w1 ⟨rfl, g1⟩
    go_wp2_with fail
    go_end0
    exact ⟨rfl, HH.out.gr fr_row g1, chg_gr g1⟩
  · have hn : 0 < xs.length := List.length_pos_iff.2 h0
    obtain ⟨g, cap, d, rfl, hz, hx, hS⟩ := SA.of h hn
    have HS := Lib.hid hS
    have HX := Lib.hid hx
    have hzb : d.size ≤ 1048576 := by omega
    rw [← hz]
    clear hS hx h h0 hn hb hz
    go_enter Try.func23, Try.ntmps23
    go_wp2_with fail
    with_reducible refine (std_stable HS.out hzb).mono ?_
    rintro e w1 ⟨rfl, d', k1, k2, k3, k4⟩
    have HK := Lib.hid (And.intro k1 (And.intro k2 (And.intro k3 k4)))
    clear k1 k2 k3 k4
    go_wp2_with fail
    go_end0
    obtain ⟨k1, k2, k3, k4⟩ := HK.out
    refine ⟨rfl, ?_, k4.mono fun b hb => by rw [hb]; exact HS.out.blk⟩
    have hp := k1.prows
    rw [sorted_rows HX.out k3 k2, k3.1] at hp
    exact hp
set_option maxRecDepth 100000 in
set_option maxHeartbeats 1000000 in
theorem impl_SortRows (v : Value) (xs : List DRow) (w : World) (hv : RRows w v xs) (hb : totL totRow xs ≤ 1048576) :
    Calls Try.prog 8 #[v] w fun e w' => ∃ u, e = .returned u ∧ Gr w w' ∧ PRows (In w.heap.size w'.heap.size) w' u (sortR xs) := by
  have HV := Lib.hid hv
  have HB := Lib.hid hb
  obtain ⟨va, vc, rfl⟩ := hv.form
  clear hv hb
  go_enter Try.func8, Try.ntmps8
  go_wp2_with fail
  refine (impl_copyRows _ xs _ HV.out (Nat.le_trans HB.out (by decide))).mono ?_
  rintro e w1 ⟨u, rfl, g1, hp⟩
  obtain ⟨ua, uc, rfl⟩ := hp.form
  have HP := Lib.hid hp
  have HG := Lib.hid g1
  clear hp g1
  go_wp2_with fail
  refine (std_sort HP.out (by have := HB.out; unfold totL at this; omega)).mono ?_
  rintro e w2 ⟨rfl, hq, hc⟩
  have HQ := Lib.hid (And.intro hq hc)
  clear hq hc
  go_wp2_with fail
  go_ret
  have hc := HQ.out.2
  exact ⟨_, rfl, HG.out.trans' (hc.below (fun b hb => hb.1) HG.out.size), HQ.out.1.wide (Nat.le_refl _) hc.size⟩
end Go.Proofs.Ytjeffagejbdjkaa
