/- Which groups a task has, from any memory, which stays as it is. -/
import Derived.Test.YtfpikpglollkoaaGrO
namespace Go.Proofs.Ytfpikpglollkoaa.Gr
open Go.ChangeShapes Go.WideShapes Go.ChangeAt Go.RowKit

theorem ret_two {a b c d : Int} (h : a = b) (k : c = d) : Ending.returned (.tuple #[.int .i64 a, .int .i64 c]) = .returned (.tuple #[.int .i64 b, .int .i64 d]) := by rw [h, k]

theorem range_any (task par groups : Int) (w : World) :
    Calls Try.prog 46 #[.int .i64 task, .int .i64 par, .int .i64 groups] w fun e w' => e = .returned (.tuple #[.int .i64 (loG task par groups), .int .i64 (hiG task par groups)]) ∧ w = w' := by
  by_cases h : fit par groups ∧ 0 ≤ task ∧ task < par
  · have L := Lib.hid (show loG task par groups = firstG task par groups from if_pos h)
    have H := Lib.hid (show hiG task par groups = firstG (task + 1) par groups from if_pos h)
    obtain ⟨⟨h1, h2, h3, h4⟩, h5, h6⟩ := h
    have hm := @mul_bd task groups 64 64 h5 (by omega) (by omega) (by omega)
    have hm1 := @mul_bd (task + 1) groups 64 64 (by omega) (by omega) (by omega) (by omega)
    have hb := @firstG_bd par groups task ⟨h1, h2, h3, h4⟩ h5 (by omega)
    have hb1 := @firstG_bd par groups (task + 1) ⟨h1, h2, h3, h4⟩ (by omega) (by omega)
    unfold firstG at hb hb1
    go_enter Try.func46, Try.ntmps46
    go_wp2
    go_returns
    exact ⟨ret_two L.out.symm H.out.symm, rfl⟩
  · have L := Lib.hid (show loG task par groups = 0 from if_neg h)
    have H := Lib.hid (show hiG task par groups = 0 from if_neg h)
    unfold fit at h
    go_enter Try.func46, Try.ntmps46
    go_wp2
    all_goals go_returns
    all_goals first | (exfalso; omega) | exact ⟨ret_two L.out.symm H.out.symm, rfl⟩
end Go.Proofs.Ytfpikpglollkoaa.Gr
