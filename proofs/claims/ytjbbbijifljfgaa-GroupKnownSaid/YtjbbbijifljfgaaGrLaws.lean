/- The seven laws on groups: each returns true at every input. No condition. -/
import Derived.Test.YtjbbbijifljfgaaGr
namespace Go.Proofs.Ytjbbbijifljfgaa.Gr
open Go.ChangeShapes Go.WideShapes Go.ChangeAt Go.RowKit

theorem range_fit (task par groups : Int) (w : World) (h : fit par groups) (h0 : 0 ≤ task) (h1 : task < par) :
    Calls Try.prog 10 #[.int .i64 task, .int .i64 par, .int .i64 groups] w fun e w' => e = .returned (.tuple #[.int .i64 (firstG task par groups), .int .i64 (firstG (task + 1) par groups)]) ∧ w = w' := by
  have L : loG task par groups = firstG task par groups := if_pos ⟨h, h0, h1⟩
  have H : hiG task par groups = firstG (task + 1) par groups := if_pos ⟨h, h0, h1⟩
  rw [← L, ← H]; exact range_any task par groups w

theorem works_any (w : World) :
    Calls Try.prog 16 #[] w fun e w' => e = .returned (.bool true) ∧ w = w' := by
  have a : loG 0 3 8 = 0 := by decide
  have b : hiG 0 3 8 = 3 := by decide
  have c : loG 2 3 8 = 6 := by decide
  have d : hiG 2 3 8 = 8 := by decide
  have e : ownerG 3 3 8 = 1 := by decide
  have f : ownerG 7 3 8 = 2 := by decide
  have g := ofG_one 5
  go_enter Try.func16, Try.ntmps16
  go_wp2_with (first | (go_at_call 10; refine (range_any _ _ _ _).mono ?_; rintro e w' ⟨rfl, rfl⟩) | (go_at_call 14; refine (owner_any _ _ _ _).mono ?_; rintro e w' ⟨rfl, rfl⟩) | (go_at_call 12; refine (of_any _ _ _).mono ?_; rintro e w' ⟨rfl, rfl⟩))
  go_returns
  exact ⟨rfl, rfl⟩

theorem tells_any (key task par groups : Int) (w : World) :
    Calls Try.prog 3 #[.int .i64 key, .int .i64 task, .int .i64 par, .int .i64 groups] w fun e w' => e = .returned (.bool true) ∧ w = w' := by
  go_enter Try.func3, Try.ntmps3
  go_wp2_with (first | (go_at_call 10; refine (range_any _ _ _ _).mono ?_; rintro e w' ⟨rfl, rfl⟩) | (go_at_call 11; refine (refRange_any _ _ _ _).mono ?_; rintro e w' ⟨rfl, rfl⟩) | (go_at_call 14; refine (owner_any _ _ _ _).mono ?_; rintro e w' ⟨rfl, rfl⟩) | (go_at_call 15; refine (refOwner_any _ _ _ _).mono ?_; rintro e w' ⟨rfl, rfl⟩) | (go_at_call 12; refine (of_any _ _ _).mono ?_; rintro e w' ⟨rfl, rfl⟩) | (go_at_call 13; refine (refOf_any _ _ _).mono ?_; rintro e w' ⟨rfl, rfl⟩) | (go_at_call 16; refine (works_any _).mono ?_; rintro e w' ⟨rfl, rfl⟩))
  go_returns
  exact ⟨rfl, rfl⟩

theorem in_any (key groups : Int) (w : World) :
    Calls Try.prog 5 #[.int .i64 key, .int .i64 groups] w fun e w' => e = .returned (.bool true) ∧ w = w' := by
  have o := ofG_one key
  by_cases h : 1 ≤ groups ∧ groups ≤ 64
  · obtain ⟨h1, h2⟩ := h
    have hb := ofG_bd (key := key) h1 h2
    go_enter Try.func5, Try.ntmps5
    go_wp2_with (first | (go_at_call 12; refine (of_any _ _ _).mono ?_; rintro e w' ⟨rfl, rfl⟩) | (go_at_call 16; refine (works_any _).mono ?_; rintro e w' ⟨rfl, rfl⟩))
    go_returns
    exact ⟨rfl, rfl⟩
  · have z := ofG_no (key := key) h
    go_enter Try.func5, Try.ntmps5
    go_wp2_with (first | (go_at_call 12; refine (of_any _ _ _).mono ?_; rintro e w' ⟨rfl, rfl⟩) | (go_at_call 16; refine (works_any _).mono ?_; rintro e w' ⟨rfl, rfl⟩))
    all_goals go_returns
    all_goals first | (exfalso; omega) | exact ⟨rfl, rfl⟩

theorem rises_any (g par groups : Int) (w : World) :
    Calls Try.prog 6 #[.int .i64 g, .int .i64 par, .int .i64 groups] w fun e w' => e = .returned (.bool true) ∧ w = w' := by
  by_cases h : 2 ≤ groups ∧ groups ≤ 64 ∧ 1 ≤ par ∧ par < groups ∧ 0 ≤ g ∧ g < groups - 1
  · obtain ⟨h1, h2, h3, h4, h5, h6⟩ := h
    have hf : fit par groups := ⟨by omega, h2, h3, by omega⟩
    have r0 := ownerG_bd g par groups
    obtain ⟨r1, r2⟩ := owner_rises hf h5 (by omega)
    have r3 := owner_more hf h4 h5 (by omega)
    have r4 := owner_last hf
    have r5 := owner_zero hf
    clear hf
    go_enter Try.func6, Try.ntmps6
    go_wp2_with (first | (go_at_call 14; refine (owner_any _ _ _ _).mono ?_; rintro e w' ⟨rfl, rfl⟩) | (go_at_call 16; refine (works_any _).mono ?_; rintro e w' ⟨rfl, rfl⟩))
    all_goals go_returns
    all_goals first | (exfalso; omega) | exact ⟨rfl, rfl⟩
  · go_enter Try.func6, Try.ntmps6
    go_wp2_with (first | (go_at_call 14; exfalso; omega) | (go_at_call 16; refine (works_any _).mono ?_; rintro e w' ⟨rfl, rfl⟩))
    all_goals go_returns
    all_goals exact ⟨rfl, rfl⟩

theorem halves_any (g par groups : Int) (w : World) :
    Calls Try.prog 7 #[.int .i64 g, .int .i64 par, .int .i64 groups] w fun e w' => e = .returned (.bool true) ∧ w = w' := by
  by_cases h : 1 ≤ groups ∧ groups ≤ 64 ∧ 1 ≤ par ∧ par ≤ groups / 2 ∧ 0 ≤ g ∧ g < groups
  · obtain ⟨h1, h2, h3, h4, h5, h6⟩ := h
    have hf : fit par groups := ⟨by omega, h2, h3, by omega⟩
    have hf2 : fit (2 * par) groups := ⟨by omega, h2, by omega, by omega⟩
    have b0 := ownerG_bd g par groups
    have b1 := ownerG_par hf h5 h6
    have r1 := owner_twice hf hf2 h5 h6
    have f1 := first_twice (groups := groups) (ownerG g par groups) h3
    have f2 := first_twice (groups := groups) (ownerG g par groups + 1) h3
    rw [show 2 * (ownerG g par groups + 1) = 2 * ownerG g par groups + 1 + 1 by omega] at f2
    have b2 := ownerG_bd g (2 * par) groups
    have R0 := range_fit (ownerG g par groups) par groups w hf b0.1 b1
    have R1 := range_fit (2 * ownerG g par groups) (2 * par) groups w hf2 (by omega) (by omega)
    have R2 := range_fit (2 * ownerG g par groups + 1) (2 * par) groups w hf2 (by omega) (by omega)
    rw [f1] at R1
    rw [f2] at R2
    have H0 := Lib.hid R0; have H1 := Lib.hid R1; have H2 := Lib.hid R2
    clear R0 R1 R2 hf hf2 f1 f2
    go_enter Try.func7, Try.ntmps7
    go_wp2_with fail
    refine (owner_any _ _ _ _).mono ?_; rintro e w' ⟨rfl, rfl⟩
    go_wp2_with fail
    refine H0.out.mono ?_; rintro e w' ⟨rfl, rfl⟩
    go_wp2_with fail
    refine H1.out.mono ?_; rintro e w' ⟨rfl, rfl⟩
    go_wp2_with fail
    refine H2.out.mono ?_; rintro e w' ⟨rfl, rfl⟩
    go_wp2_with (first | (go_at_call 14; refine (owner_any _ _ _ _).mono ?_; rintro e w' ⟨rfl, rfl⟩) | (go_at_call 16; refine (works_any _).mono ?_; rintro e w' ⟨rfl, rfl⟩))
    all_goals go_returns
    all_goals first | (exfalso; omega) | exact ⟨rfl, rfl⟩
  · go_enter Try.func7, Try.ntmps7
    go_wp2_with (first | (go_at_call 14; exfalso; omega) | (go_at_call 16; refine (works_any _).mono ?_; rintro e w' ⟨rfl, rfl⟩))
    all_goals go_returns
    all_goals exact ⟨rfl, rfl⟩

/-- how many of the first k tasks are o -/
def cnt (o : Int) (k : Nat) : Int := if o < k then 1 else 0
theorem cnt_zero {o : Int} (h : 0 ≤ o) : cnt o 0 = 0 := if_neg (by omega)
theorem cnt_one {o : Int} {k : Nat} (h : o < k) : cnt o k = 1 := if_pos h
theorem cnt_bd (o : Int) (k : Nat) : 0 ≤ cnt o k ∧ cnt o k ≤ 1 := by unfold cnt; split <;> omega
theorem cnt_step (o : Int) (k : Nat) : cnt o k + (if o = k then 1 else 0) = cnt o (k + 1) := by
  unfold cnt; repeat' split
  all_goals omega

theorem owns_any (key par groups : Int) (w : World) :
    Calls Try.prog 8 #[.int .i64 key, .int .i64 par, .int .i64 groups] w fun e w' => e = .returned (.bool true) ∧ w = w' := by
  by_cases h : fit par groups
  · have HF := Lib.hid h
    obtain ⟨h1, h2, h3, h4⟩ := h
    have hd : (decide (groups < 1) || decide (64 < groups) || decide (par < 1) || decide (groups < par)) = false := by simp; omega
    obtain ⟨b0, b1⟩ := ofG_bd (key := key) h1 h2
    have c0 := (ownerG_bd (ofG key groups) par groups).1
    have c1 := ownerG_par HF.out b0 b1
    go_enter Try.func8, Try.ntmps8
    go_wp2_with (go_at_call 12; refine (of_any _ _ _).mono ?_; rintro e w' ⟨rfl, rfl⟩)
    go_loop [8, 9] (fun n i => ∃ k : Nat, (k : Int) ≤ par ∧ i = .int .i64 k ∧ n = .int .i64 (cnt (ownerG (ofG key groups) par groups) k)) (fun _ i => 64 - (intOf i).toNat)
    case atStart => exact ⟨0, by omega, rfl, by rw [cnt_zero c0]⟩
    case round =>
      obtain ⟨k, hk, rfl, rfl⟩ := hrel
      have cb := cnt_bd (ownerG (ofG key groups) par groups) k
      by_cases hlt : (k : Int) < par
      · have hin := owner_in (task := k) HF.out b0 b1
        have hs := cnt_step (ownerG (ofG key groups) par groups) k
        by_cases hi : ownerG (ofG key groups) par groups = k
        · have hb := hin.1 hi
          rw [if_pos hi] at hs
          have HS := Lib.hid hs
          clear hin hi hs
          go_wp2_with (go_at_call 10; refine (range_fit _ _ _ _ HF.out (by omega) (by omega)).mono ?_; rintro e w' ⟨rfl, rfl⟩)
          go_round
          case rel => exact ⟨k + 1, by omega, by go_num, by rw [← HS.out]⟩
          case measure => simp [intOf]; omega
        · have hb : ¬ (firstG k par groups ≤ ofG key groups ∧ ofG key groups < firstG (k + 1) par groups) := fun h => hi (hin.2 h)
          have hb2 : ofG key groups < firstG k par groups ∨ firstG (k + 1) par groups ≤ ofG key groups := by omega
          rw [if_neg hi] at hs
          have HS := Lib.hid hs
          clear hin hi hs hb
          have hlt2 := firstG_lt k HF.out
          rcases hb2 with hb2 | hb2
          all_goals
            go_wp2_with (go_at_call 10; refine (range_fit _ _ _ _ HF.out (by omega) (by omega)).mono ?_; rintro e w' ⟨rfl, rfl⟩)
            go_round
            case rel => exact ⟨k + 1, by omega, by go_num, by rw [← HS.out, Int.add_zero]⟩
            case measure => simp [intOf]; omega
      · have kp : (k : Int) = par := by omega
        have z := cnt_one (k := k) (show ownerG (ofG key groups) par groups < k by omega)
        clear kp
        go_wp2_with (go_at_call 16; refine (works_any _).mono ?_; rintro e w' ⟨rfl, rfl⟩)
        go_returns
        exact ⟨rfl, rfl⟩
  · have hg : groups < 1 ∨ 64 < groups ∨ par < 1 ∨ groups < par := by unfold fit at h; omega
    clear h
    go_enter Try.func8, Try.ntmps8
    go_wp2_with (first | (go_at_call 12; exfalso; omega) | (go_at_call 16; refine (works_any _).mono ?_; rintro e w' ⟨rfl, rfl⟩))
    all_goals go_returns
    all_goals exact ⟨rfl, rfl⟩

theorem parts_any (par groups : Int) (w : World) :
    Calls Try.prog 4 #[.int .i64 par, .int .i64 groups] w fun e w' => e = .returned (.bool true) ∧ w = w' := by
  by_cases h : fit par groups
  · have HF := Lib.hid h
    obtain ⟨h1, h2, h3, h4⟩ := h
    have hd : (decide (groups < 1) || decide (64 < groups) || decide (par < 1) || decide (groups < par)) = false := by simp; omega
    go_enter Try.func4, Try.ntmps4
    have z0 := Lib.hid (firstG_zero HF.out)
    have zt := Lib.hid (firstG_top HF.out)
    have sp := share_pos HF.out
    go_wp2
    go_loop [7, 8] (fun a i => ∃ k : Nat, (k : Int) ≤ par ∧ i = .int .i64 k ∧ a = .int .i64 (firstG k par groups)) (fun _ i => 64 - (intOf i).toNat)
    case atStart => exact ⟨0, by omega, rfl, by rw [show ((0 : Nat) : Int) = 0 from rfl, z0.out]⟩
    case round =>
      obtain ⟨k, hk, rfl, rfl⟩ := hrel
      by_cases hlt : (k : Int) < par
      · obtain ⟨s1, s2⟩ := firstG_step k HF.out
        obtain ⟨f0, f1⟩ := @firstG_bd par groups k HF.out (by omega) (by omega)
        obtain ⟨f2, f3⟩ := @firstG_bd par groups (k + 1) HF.out (by omega) (by omega)
        go_wp2_with (go_at_call 10; refine (range_fit _ _ _ _ HF.out (by omega) (by omega)).mono ?_; rintro e w' ⟨rfl, rfl⟩)
        go_loop [11] (fun g => ∃ j : Int, firstG k par groups ≤ j ∧ j ≤ firstG (k + 1) par groups ∧ g = .int .i64 j) (fun g => (64 - intOf g).toNat)
        case atStart => exact ⟨_, by omega, by omega, rfl⟩
        case round =>
          obtain ⟨j, hj0, hj1, rfl⟩ := hrel
          by_cases hj : j < firstG (k + 1) par groups
          · have ho := (owner_in (g := j) (task := k) HF.out (by omega) (by omega)).2 ⟨hj0, hj⟩
            go_wp2_with (go_at_call 14; refine (owner_any _ _ _ _).mono ?_; rintro e w' ⟨rfl, rfl⟩)
            go_round
            case rel => exact ⟨j + 1, by omega, by omega, rfl⟩
            case measure => simp [intOf]; omega
          · go_wp2
            go_round
            case rel => exact ⟨k + 1, by omega, by go_num, rfl⟩
            case measure => simp [intOf]; omega
      · have kp : (k : Int) = par := by omega
        have zk : firstG k par groups = groups := by rw [kp]; exact zt.out
        clear kp
        go_wp2_with (go_at_call 16; refine (works_any _).mono ?_; rintro e w' ⟨rfl, rfl⟩)
        go_returns
        exact ⟨rfl, rfl⟩
  · have hg : groups < 1 ∨ 64 < groups ∨ par < 1 ∨ groups < par := by unfold fit at h; omega
    have L : loG 0 par groups = 0 := if_neg (fun x => h x.1)
    have H : hiG 0 par groups = 0 := if_neg (fun x => h x.1)
    clear h
    go_enter Try.func4, Try.ntmps4
    go_wp2_with (first | (go_at_call 10; refine (range_any _ _ _ _).mono ?_; rintro e w' ⟨rfl, rfl⟩) | (go_at_call 16; refine (works_any _).mono ?_; rintro e w' ⟨rfl, rfl⟩))
    all_goals go_returns
    all_goals exact ⟨rfl, rfl⟩
end Go.Proofs.Ytjbbbijifljfgaa.Gr
