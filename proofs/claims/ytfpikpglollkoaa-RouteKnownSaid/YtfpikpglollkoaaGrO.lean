/- What the program's and the document's functions on groups return, each from any memory, which they leave as it is. No condition. -/
import Derived.Test.YtfpikpglollkoaaRows
import Derived.Test.YtfpikpglollkoaaGrPlain
import Derived.WalkKit
import Derived.ProofKit
import Derived.OpenShut
import Derived.Outline
import Derived.Handy
import Derived.Lib.Hide
namespace Go.Proofs.Ytfpikpglollkoaa.Gr
open Go.ChangeShapes Go.WideShapes Go.ChangeAt Go.RowKit

theorem ret_int {k : IntKind} {a b : Int} (h : a = b) : Ending.returned (.int k a) = .returned (.int k b) := by rw [h]

theorem mod_bd (x : Int) {groups : Int} (h : 1 ≤ groups) (h2 : groups ≤ 64) : 0 ≤ x % groups ∧ x % groups ≤ 64 := by
  have m0 := Int.emod_nonneg x (show groups ≠ 0 by omega)
  have m1 := Int.emod_lt_of_pos x (show 0 < groups by omega)
  omega

theorem of_any (key groups : Int) (w : World) :
    Calls Try.prog 45 #[.int .i64 key, .int .i64 groups] w fun e w' => e = .returned (.int .i64 (ofG key groups)) ∧ w = w' := by
  by_cases h : 1 ≤ groups ∧ groups ≤ 64
  · obtain ⟨h1, h2⟩ := h
    have hd : (decide (groups < 1) || decide (64 < groups)) = false := by simp; omega
    go_enter Try.func45, Try.ntmps45
    go_wp2
    go_loop [5, 6, 15] (fun h k i => ∃ n : Nat, n ≤ 8 ∧ i = .int .i64 n ∧ h = .int .u32 (hh key n) ∧ k = .int .u64 (kk key n)) (fun _ _ i => 8 - (intOf i).toNat)
    case atStart => exact ⟨0, by omega, rfl, rfl, rfl⟩
    case round =>
      obtain ⟨n, hn, rfl, rfl, rfl⟩ := hrel
      by_cases hlt : n < 8
      · have hk := kk_bd key n
        have hb := hh_bd key n
        go_wp2
        go_round
        case rel => exact ⟨n + 1, by omega, by go_num, rfl, rfl⟩
        case measure => simp [intOf]; omega
      · obtain rfl : n = 8 := by omega
        have hb := hh_bd key 8
        have hm := mod_bd (hh key 8) h1 h2
        go_wp2
        go_returns
        exact ⟨ret_int (ofG_yes h1 h2).symm, rfl⟩
  · have e : ofG key groups = 0 := ofG_no h
    have h : groups < 1 ∨ 64 < groups := by omega
    rcases h with h | h
    all_goals
      go_enter Try.func45, Try.ntmps45
      go_wp2
      go_returns
      exact ⟨ret_int (by simp [e]), rfl⟩

theorem refOf_any (key groups : Int) (w : World) :
    Calls Try.prog 68 #[.int .i64 key, .int .i64 groups] w fun e w' => e = .returned (.int .i64 (ofG key groups)) ∧ w = w' := by
  by_cases h : 1 ≤ groups ∧ groups ≤ 64
  · obtain ⟨h1, h2⟩ := h
    have hd : (decide (groups < 1) || decide (64 < groups)) = false := by simp; omega
    go_enter Try.func68, Try.ntmps68
    go_wp2
    go_loop [5, 6, 7] (fun h k i => ∃ n : Nat, n ≤ 8 ∧ i = .int .i64 n ∧ h = .int .u64 (hh key n) ∧ k = .int .u64 (kk key n)) (fun _ _ i => 8 - (intOf i).toNat)
    case atStart => exact ⟨0, by omega, rfl, rfl, rfl⟩
    case round =>
      obtain ⟨n, hn, rfl, rfl, rfl⟩ := hrel
      by_cases hlt : n < 8
      · have hk := kk_bd key n
        have hb := hh_bd key n
        go_wp2
        go_round
        case rel => exact ⟨n + 1, by omega, by go_num, by rw [rr_step], rfl⟩
        case measure => simp [intOf]; omega
      · obtain rfl : n = 8 := by omega
        have hb := hh_bd key 8
        have hm := mod_bd (hh key 8) h1 h2
        go_wp2
        go_returns
        exact ⟨ret_int (ofG_yes h1 h2).symm, rfl⟩
  · have e : ofG key groups = 0 := ofG_no h
    have h : groups < 1 ∨ 64 < groups := by omega
    rcases h with h | h
    all_goals
      go_enter Try.func68, Try.ntmps68
      go_wp2
      go_returns
      exact ⟨ret_int (by simp [e]), rfl⟩

theorem owner_any (g par groups : Int) (w : World) :
    Calls Try.prog 80 #[.int .i64 g, .int .i64 par, .int .i64 groups] w fun e w' => e = .returned (.int .i64 (ownerG g par groups)) ∧ w = w' := by
  by_cases h : fit par groups ∧ 0 ≤ g ∧ g < groups
  · obtain ⟨⟨h1, h2, h3, h4⟩, h5, h6⟩ := h
    have hm := @mul_bd g par 64 64 h5 (by omega) (by omega) (by omega)
    have hb := ownerG_bd g par groups
    have e := ownerG_yes (par := par) ⟨h1, h2, h3, h4⟩ h5 h6
    rw [e] at hb
    have E := Lib.hid e; clear e
    go_enter Try.func80, Try.ntmps80
    go_wp2
    go_returns
    exact ⟨ret_int E.out.symm, rfl⟩
  · have E := Lib.hid (ownerG_no h)
    unfold fit at h
    go_enter Try.func80, Try.ntmps80
    go_wp2
    all_goals go_returns
    all_goals first | (exfalso; omega) | exact ⟨ret_int E.out.symm, rfl⟩

theorem refOwner_any (g par groups : Int) (w : World) :
    Calls Try.prog 69 #[.int .i64 g, .int .i64 par, .int .i64 groups] w fun e w' => e = .returned (.int .i64 (ownerG g par groups)) ∧ w = w' := by
  by_cases h : fit par groups ∧ 0 ≤ g ∧ g < groups
  · obtain ⟨⟨h1, h2, h3, h4⟩, h5, h6⟩ := h
    have hm := @mul_bd g par 64 64 h5 (by omega) (by omega) (by omega)
    have hb := ownerG_bd g par groups
    have e := ownerG_yes (par := par) ⟨h1, h2, h3, h4⟩ h5 h6
    rw [e] at hb
    have E := Lib.hid e; clear e
    go_enter Try.func69, Try.ntmps69
    go_wp2
    all_goals go_returns
    all_goals first | (exfalso; omega) | exact ⟨ret_int E.out.symm, rfl⟩
  · have E := Lib.hid (ownerG_no h)
    unfold fit at h
    go_enter Try.func69, Try.ntmps69
    go_wp2
    all_goals go_returns
    all_goals first | (exfalso; omega) | exact ⟨ret_int E.out.symm, rfl⟩
end Go.Proofs.Ytfpikpglollkoaa.Gr
