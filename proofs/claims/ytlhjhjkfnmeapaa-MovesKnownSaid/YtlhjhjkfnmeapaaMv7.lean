/- The document's plan of moves: numbers that do not fit. -/
import Derived.Test.YtlhjhjkfnmeapaaMv6
namespace Go.Proofs.Ytlhjhjkfnmeapaa.Mv
open Go.ChangeShapes Go.WideShapes Go.ChangeAt Go.RowKit M

set_option maxRecDepth 100000 in
set_option maxHeartbeats 4000000 in
theorem refPlan_no (old par groups : Int) (w : World) (h : ¬ fitP old par groups) :
    Calls Try.prog 15 #[.int .i64 old, .int .i64 par, .int .i64 groups] w (RetQuads 34 w (planF old par groups)) := by
  have e1 : planF old par groups = [] := if_neg h
  rw [e1]
  have HH := Lib.hid h
  clear h e1
  by_cases g1 : groups < 1
  · have d1 : decide (groups < 1) = true := decide_eq_true g1
    go_enter Try.func15, Try.ntmps15
    go_wp2_with fail
    go_returns
    exact ret_quads (OwnQ.nil _ _ _) (Below.refl _ _)
  have d1 : decide (groups < 1) = false := decide_eq_false g1
  by_cases g2 : (64 : Int) < groups
  · have d2 : decide ((64 : Int) < groups) = true := decide_eq_true g2
    go_enter Try.func15, Try.ntmps15
    go_wp2_with fail
    go_returns
    exact ret_quads (OwnQ.nil _ _ _) (Below.refl _ _)
  have d2 : decide ((64 : Int) < groups) = false := decide_eq_false g2
  by_cases g3 : old < 1
  · have d3 : decide (old < 1) = true := decide_eq_true g3
    go_enter Try.func15, Try.ntmps15
    go_wp2_with fail
    go_returns
    exact ret_quads (OwnQ.nil _ _ _) (Below.refl _ _)
  have d3 : decide (old < 1) = false := decide_eq_false g3
  by_cases g4 : groups < old
  · have d4 : decide (groups < old) = true := decide_eq_true g4
    go_enter Try.func15, Try.ntmps15
    go_wp2_with fail
    go_returns
    exact ret_quads (OwnQ.nil _ _ _) (Below.refl _ _)
  have d4 : decide (groups < old) = false := decide_eq_false g4
  by_cases g5 : par < 1
  · have d5 : decide (par < 1) = true := decide_eq_true g5
    go_enter Try.func15, Try.ntmps15
    go_wp2_with fail
    go_returns
    exact ret_quads (OwnQ.nil _ _ _) (Below.refl _ _)
  have d5 : decide (par < 1) = false := decide_eq_false g5
  by_cases g6 : groups < par
  · have d6 : decide (groups < par) = true := decide_eq_true g6
    go_enter Try.func15, Try.ntmps15
    go_wp2_with fail
    go_returns
    exact ret_quads (OwnQ.nil _ _ _) (Below.refl _ _)
  have d6 : decide (groups < par) = false := decide_eq_false g6
  exact absurd ⟨⟨by omega, by omega⟩, ⟨by omega, by omega⟩, by omega, by omega⟩ HH.out
end Go.Proofs.Ytlhjhjkfnmeapaa.Mv
