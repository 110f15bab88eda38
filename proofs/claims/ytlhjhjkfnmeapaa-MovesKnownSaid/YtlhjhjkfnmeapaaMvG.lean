/- Which task has a group, by the program and by the document: each from any memory, which it leaves as it is. No condition. -/
import Derived.Test.YtlhjhjkfnmeapaaRows
import Derived.Test.YtlhjhjkfnmeapaaGrPlain
import Derived.WalkKit
import Derived.ProofKit
import Derived.OpenShut
import Derived.Outline
import Derived.Handy
import Derived.Lib.Hide
namespace Go.Proofs.Ytlhjhjkfnmeapaa.Gr
open Go.ChangeShapes Go.WideShapes Go.ChangeAt Go.RowKit

theorem ret_int {k : IntKind} {a b : Int} (h : a = b) : Ending.returned (.int k a) = .returned (.int k b) := by rw [h]

theorem owner_any (g par groups : Int) (w : World) :
    Calls Try.prog 19 #[.int .i64 g, .int .i64 par, .int .i64 groups] w fun e w' => e = .returned (.int .i64 (ownerG g par groups)) ∧ w = w' := by
  by_cases h : fit par groups ∧ 0 ≤ g ∧ g < groups
  · obtain ⟨⟨h1, h2, h3, h4⟩, h5, h6⟩ := h
    have hm := @mul_bd g par 64 64 h5 (by omega) (by omega) (by omega)
    have hb := ownerG_bd g par groups
    have e := ownerG_yes (par := par) ⟨h1, h2, h3, h4⟩ h5 h6
    rw [e] at hb
    have E := Lib.hid e; clear e
    go_enter Try.func19, Try.ntmps19
    go_wp2
    go_returns
    exact ⟨ret_int E.out.symm, rfl⟩
  · have E := Lib.hid (ownerG_no h)
    unfold fit at h
    go_enter Try.func19, Try.ntmps19
    go_wp2
    all_goals go_returns
    all_goals first | (exfalso; omega) | exact ⟨ret_int E.out.symm, rfl⟩

theorem refOwner_any (g par groups : Int) (w : World) :
    Calls Try.prog 45 #[.int .i64 g, .int .i64 par, .int .i64 groups] w fun e w' => e = .returned (.int .i64 (ownerG g par groups)) ∧ w = w' := by
  by_cases h : fit par groups ∧ 0 ≤ g ∧ g < groups
  · obtain ⟨⟨h1, h2, h3, h4⟩, h5, h6⟩ := h
    have hm := @mul_bd g par 64 64 h5 (by omega) (by omega) (by omega)
    have hb := ownerG_bd g par groups
    have e := ownerG_yes (par := par) ⟨h1, h2, h3, h4⟩ h5 h6
    rw [e] at hb
    have E := Lib.hid e; clear e
    go_enter Try.func45, Try.ntmps45
    go_wp2
    all_goals go_returns
    all_goals first | (exfalso; omega) | exact ⟨ret_int E.out.symm, rfl⟩
  · have E := Lib.hid (ownerG_no h)
    unfold fit at h
    go_enter Try.func45, Try.ntmps45
    go_wp2
    all_goals go_returns
    all_goals first | (exfalso; omega) | exact ⟨ret_int E.out.symm, rfl⟩
end Go.Proofs.Ytlhjhjkfnmeapaa.Gr
