/- What the program's and the document's functions on groups return, each from any memory, which they leave as it is. No condition. -/
import Derived.Test.YtjbbbijifljfgaaRows
import Derived.Test.YtjbbbijifljfgaaGrPlain
import Derived.WalkKit
import Derived.ProofKit
import Derived.OpenShut
import Derived.Outline
import Derived.Handy
import Derived.Lib.Hide
namespace Go.Proofs.Ytjbbbijifljfgaa.Gr
open Go.ChangeShapes Go.WideShapes Go.ChangeAt Go.RowKit

theorem ret_int {k : IntKind} {a b : Int} (h : a = b) : Ending.returned (.int k a) = .returned (.int k b) := by rw [h]

theorem mod_bd (x : Int) {groups : Int} (h : 1 ≤ groups) (h2 : groups ≤ 64) : 0 ≤ x % groups ∧ x % groups ≤ 64 := by
  have m0 := Int.emod_nonneg x (show groups ≠ 0 by omega)
  have m1 := Int.emod_lt_of_pos x (show 0 < groups by omega)
  omega

theorem of_any (key groups : Int) (w : World) :
    Calls Try.prog 12 #[.int .i64 key, .int .i64 groups] w fun e w' => e = .returned (.int .i64 (ofG key groups)) ∧ w = w' := by
  by_cases h : 1 ≤ groups ∧ groups ≤ 64
  · obtain ⟨h1, h2⟩ := h
    have hd : (decide (groups < 1) || decide (64 < groups)) = false := by simp; omega
    go_enter Try.func12, Try.ntmps12
    go_wp2
    go_loop [5, 6, 15] (fun h k i => ∃ n : Nat, n ≤ 8 ∧ i = .int .i64 n ∧ h = .int .u32 (hh key n) ∧ k = .int .u64 (kk key n)) (fun _ _ i => 8 - (intOf i).toNat)
    case atStart => exact ⟨0, by omega, rfl, rfl, rfl⟩
    case round =>
      obtain ⟨n, hn, rfl, rfl, rfl⟩ := hrel
      by_cases hlt : n < 8
      · have hk := kk_bd key n
        have hb := hh_bd key n
        go_wp2
        go_round
        case rel => exact ⟨n + 1, by omega, by go_num, rfl, rfl⟩
        case measure => simp [intOf]; omega
      · obtain rfl : n = 8 := by omega
        have hb := hh_bd key 8
        have hm := mod_bd (hh key 8) h1 h2
        go_wp2
        go_returns
        exact ⟨ret_int (ofG_yes h1 h2).symm, rfl⟩
  · have e : ofG key groups = 0 := ofG_no h
    have h : groups < 1 ∨ 64 < groups := by omega
    rcases h with h | h
    all_goals
      go_enter Try.func12, Try.ntmps12
      go_wp2
      go_returns
      exact ⟨ret_int (by simp [e]), rfl⟩

theorem refOf_any (key groups : Int) (w : World) :
    Calls Try.prog 13 #[.int .i64 key, .int .i64 groups] w fun e w' => e = .returned (.int .i64 (ofG key groups)) ∧ w = w' := by
  by_cases h : 1 ≤ groups ∧ groups ≤ 64
  · obtain ⟨h1, h2⟩ := h
    have hd : (decide (groups < 1) || decide (64 < groups)) = false := by simp; omega
    go_enter Try.func13, Try.ntmps13
    go_wp2
    go_loop [5, 6, 7] (fun h k i => ∃ n : Nat, n ≤ 8 ∧ i = .int .i64 n ∧ h = .int .u64 (hh key n) ∧ k = .int .u64 (kk key n)) (fun _ _ i => 8 - (intOf i).toNat)
    case atStart => exact ⟨0, by omega, rfl, rfl, rfl⟩
    case round =>
      obtain ⟨n, hn, rfl, rfl, rfl⟩ := hrel
      by_cases hlt : n < 8
      · have hk := kk_bd key n
        have hb := hh_bd key n
        go_wp2
        go_round
        case rel => exact ⟨n + 1, by omega, by go_num, by rw [rr_step], rfl⟩
        case measure => simp [intOf]; omega
      · obtain rfl : n = 8 := by omega
        have hb := hh_bd key 8
        have hm := mod_bd (hh key 8) h1 h2
        go_wp2
        go_returns
        exact ⟨ret_int (ofG_yes h1 h2).symm, rfl⟩
  · have e : ofG key groups = 0 := ofG_no h
    have h : groups < 1 ∨ 64 < groups := by omega
    rcases h with h | h
    all_goals
      go_enter Try.func13, Try.ntmps13
      go_wp2
      go_returns
      exact ⟨ret_int (by simp [e]), rfl⟩

theorem owner_any (g par groups : Int) (w : World) :
    Calls Try.prog 14 #[.int .i64 g, .int .i64 par, .int .i64 groups] w fun e w' => e = .returned (.int .i64 (ownerG g par groups)) ∧ w = w' := by
  by_cases h : fit par groups ∧ 0 ≤ g ∧ g < groups
  · obtain ⟨⟨h1, h2, h3, h4⟩, h5, h6⟩ := h
    have hm := @mul_bd g par 64 64 h5 (by omega) (by omega) (by omega)
    have hb := ownerG_bd g par groups
    have e := ownerG_yes (par := par) ⟨h1, h2, h3, h4⟩ h5 h6
    rw [e] at hb
    have E := Lib.hid e; clear e
    go_enter Try.func14, Try.ntmps14
    go_wp2
    go_returns
    exact ⟨ret_int E.out.symm, rfl⟩
  · have E := Lib.hid (ownerG_no h)
    unfold fit at h
    go_enter Try.func14, Try.ntmps14
    go_wp2
    all_goals go_returns
    all_goals first | (exfalso; omega) | exact ⟨ret_int E.out.symm, rfl⟩

theorem refOwner_any (g par groups : Int) (w : World) :
    Calls Try.prog 15 #[.int .i64 g, .int .i64 par, .int .i64 groups] w fun e w' => e = .returned (.int .i64 (ownerG g par groups)) ∧ w = w' := by
  by_cases h : fit par groups ∧ 0 ≤ g ∧ g < groups
  · obtain ⟨⟨h1, h2, h3, h4⟩, h5, h6⟩ := h
    have hm := @mul_bd g par 64 64 h5 (by omega) (by omega) (by omega)
    have hb := ownerG_bd g par groups
    have e := ownerG_yes (par := par) ⟨h1, h2, h3, h4⟩ h5 h6
    rw [e] at hb
    have E := Lib.hid e; clear e
    go_enter Try.func15, Try.ntmps15
    go_wp2
    all_goals go_returns
    all_goals first | (exfalso; omega) | exact ⟨ret_int E.out.symm, rfl⟩
  · have E := Lib.hid (ownerG_no h)
    unfold fit at h
    go_enter Try.func15, Try.ntmps15
    go_wp2
    all_goals go_returns
    all_goals first | (exfalso; omega) | exact ⟨ret_int E.out.symm, rfl⟩

theorem ret_two {a b c d : Int} (h : a = b) (k : c = d) : Ending.returned (.tuple #[.int .i64 a, .int .i64 c]) = .returned (.tuple #[.int .i64 b, .int .i64 d]) := by rw [h, k]

theorem range_any (task par groups : Int) (w : World) :
    Calls Try.prog 10 #[.int .i64 task, .int .i64 par, .int .i64 groups] w fun e w' => e = .returned (.tuple #[.int .i64 (loG task par groups), .int .i64 (hiG task par groups)]) ∧ w = w' := by
  by_cases h : fit par groups ∧ 0 ≤ task ∧ task < par
  · have L := Lib.hid (show loG task par groups = firstG task par groups from if_pos h)
    have H := Lib.hid (show hiG task par groups = firstG (task + 1) par groups from if_pos h)
    obtain ⟨⟨h1, h2, h3, h4⟩, h5, h6⟩ := h
    have hm := @mul_bd task groups 64 64 h5 (by omega) (by omega) (by omega)
    have hm1 := @mul_bd (task + 1) groups 64 64 (by omega) (by omega) (by omega) (by omega)
    have hb := @firstG_bd par groups task ⟨h1, h2, h3, h4⟩ h5 (by omega)
    have hb1 := @firstG_bd par groups (task + 1) ⟨h1, h2, h3, h4⟩ (by omega) (by omega)
    unfold firstG at hb hb1
    go_enter Try.func10, Try.ntmps10
    go_wp2
    go_returns
    exact ⟨ret_two L.out.symm H.out.symm, rfl⟩
  · have L := Lib.hid (show loG task par groups = 0 from if_neg h)
    have H := Lib.hid (show hiG task par groups = 0 from if_neg h)
    unfold fit at h
    go_enter Try.func10, Try.ntmps10
    go_wp2
    all_goals go_returns
    all_goals first | (exfalso; omega) | exact ⟨ret_two L.out.symm H.out.symm, rfl⟩

theorem refRange_any (task par groups : Int) (w : World) :
    Calls Try.prog 11 #[.int .i64 task, .int .i64 par, .int .i64 groups] w fun e w' => e = .returned (.tuple #[.int .i64 (loG task par groups), .int .i64 (hiG task par groups)]) ∧ w = w' := by
  by_cases h : fit par groups ∧ 0 ≤ task ∧ task < par
  · have L := Lib.hid (show loG task par groups = firstG task par groups from if_pos h)
    have H := Lib.hid (show hiG task par groups = firstG (task + 1) par groups from if_pos h)
    obtain ⟨hf, h5, h6⟩ := h
    have hb := @firstG_bd par groups task hf h5 (by omega)
    have hb1 := @firstG_bd par groups (task + 1) hf (by omega) (by omega)
    have hlt := firstG_lt task hf
    have HF := Lib.hid hf
    obtain ⟨h1, h2, h3, h4⟩ := hf
    go_enter Try.func11, Try.ntmps11
    go_wp2
    go_loop [8] (fun i => ∃ k : Nat, (k : Int) ≤ firstG task par groups ∧ i = .int .i64 k) (fun i => 64 - (intOf i).toNat)
    case atStart => exact ⟨0, by omega, rfl⟩
    case round =>
      obtain ⟨k, hk, rfl⟩ := hrel
      have hown := ownerG_lt (g := k) task HF.out (by omega) (by omega)
      have hob := ownerG_bd k par groups
      by_cases hlt : (k : Int) < firstG task par groups
      · have ho := hown.2 hlt
        clear hown
        go_wp2_with (go_at_call 15; refine (refOwner_any _ _ _ _).mono ?_; rintro e w' ⟨rfl, rfl⟩)
        go_round
        case rel => exact ⟨k + 1, by omega, by go_num⟩
        case measure => simp [intOf]; omega
      · have ho : ¬ ownerG k par groups < task := fun h => hlt (hown.1 h)
        have ke : (k : Int) = firstG task par groups := by omega
        have KE := Lib.hid ke
        clear hown
        have kb : (k : Int) ≤ 64 := by omega
        have kb2 : (k : Int) < firstG (task + 1) par groups := by omega
        clear ke
        go_wp2_with (go_at_call 15; refine (refOwner_any _ _ _ _).mono ?_; rintro e w' ⟨rfl, rfl⟩)
        go_loop [9] (fun i => ∃ j : Nat, k ≤ j ∧ (j : Int) ≤ firstG (task + 1) par groups ∧ i = .int .i64 j) (fun i => 64 - (intOf i).toNat)
        case atStart => exact ⟨k, by omega, by omega, rfl⟩
        case round =>
          obtain ⟨j, hj0, hj, rfl⟩ := hrel
          by_cases hj1 : (j : Int) < groups
          · have hin := owner_in (g := j) (task := task) HF.out (by omega) (by omega)
            rw [← KE.out] at hin
            by_cases hj2 : (j : Int) < firstG (task + 1) par groups
            · have ho : (ownerG j par groups == task) = true := beq_iff_eq.2 (hin.2 ⟨by omega, hj2⟩)
              clear hin
              go_wp2_with (go_at_call 15; refine (refOwner_any _ _ _ _).mono ?_; rintro e w' ⟨rfl, rfl⟩)
              go_round
              case rel => exact ⟨j + 1, by omega, by omega, by go_num⟩
              case measure => simp [intOf]; omega
            · have ho : (ownerG j par groups == task) = false := beq_eq_false_iff_ne.2 (fun h => hj2 (hin.1 h).2)
              clear hin
              have je : (j : Int) = firstG (task + 1) par groups := by omega
              have JE := Lib.hid je
              clear je
              go_wp2_with (go_at_call 15; refine (refOwner_any _ _ _ _).mono ?_; rintro e w' ⟨rfl, rfl⟩)
              go_returns
              exact ⟨ret_two (by rw [L.out, KE.out]) (by rw [H.out, JE.out]), rfl⟩
          · have je : (j : Int) = firstG (task + 1) par groups := by omega
            have JE := Lib.hid je
            clear je
            go_wp2
            go_returns
            exact ⟨ret_two (by rw [L.out, KE.out]) (by rw [H.out, JE.out]), rfl⟩
  · have L := Lib.hid (show loG task par groups = 0 from if_neg h)
    have H := Lib.hid (show hiG task par groups = 0 from if_neg h)
    unfold fit at h
    go_enter Try.func11, Try.ntmps11
    go_wp2
    all_goals go_returns
    all_goals first | (exfalso; omega) | exact ⟨ret_two L.out.symm H.out.symm, rfl⟩
end Go.Proofs.Ytjbbbijifljfgaa.Gr
