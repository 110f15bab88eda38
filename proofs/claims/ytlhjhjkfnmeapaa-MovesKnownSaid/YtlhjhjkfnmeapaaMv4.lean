/- The program's plan of moves, of any numbers: the document's list. -/
import Derived.Test.YtlhjhjkfnmeapaaMvP
namespace Go.Proofs.Ytlhjhjkfnmeapaa.Mv
open Go.ChangeShapes Go.WideShapes Go.ChangeAt Go.RowKit Go.Shelf M
attribute [local go_sem] Oper.semAt_some

def fitP (old par groups : Int) : Prop := (1 ≤ groups ∧ groups ≤ 64) ∧ (1 ≤ old ∧ old ≤ groups) ∧ (1 ≤ par ∧ par ≤ groups)
instance (old par groups : Int) : Decidable (fitP old par groups) := by unfold fitP; infer_instance
def planF (old par groups : Int) : List Q4 := if fitP old par groups then refL old par groups.toNat groups.toNat else []

theorem three_below (w : World) (o1 o2 o3 : Obj) : Below w.heap.size w (((w.alloc o1).alloc o2).alloc o3) := by
  have l1 := (Below.refl w.heap.size w).alloc (Nat.le_refl _) o1
  have l2 := l1.alloc l1.size o2
  exact l2.alloc l2.size o3

set_option maxRecDepth 100000 in
set_option maxHeartbeats 4000000 in
theorem plan_any (old par groups : Int) (w : World) :
    Calls Try.prog 13 #[.int .i64 old, .int .i64 par, .int .i64 groups] w (RetQuads 34 w (planF old par groups)) := by
  by_cases h : fitP old par groups
  · obtain ⟨⟨h1, h2⟩, ⟨h3, h4⟩, h5, h6⟩ := h
    obtain ⟨G, rfl⟩ : ∃ G : Nat, groups = (G : Int) := ⟨groups.toNat, by omega⟩
    refine (plan_fit old par G w ⟨by omega, by omega⟩ ⟨h3, h4⟩ ⟨h5, h6⟩).mono ?_
    rintro e w' ⟨ys, hr, hq⟩
    rw [plan_ref hr] at hq
    have e1 : planF old par (G : Int) = refL old par G G := by unfold planF; rw [if_pos ⟨⟨h1, h2⟩, ⟨h3, h4⟩, h5, h6⟩]; rfl
    rw [e1]; exact hq
  · have e1 : planF old par groups = [] := if_neg h
    rw [e1]
    have HH := Lib.hid h
    clear h e1
    refine (callsIn_wide (n := 6)).1 ?_
    refine callsIn_of_wp_marks Try.func13 rfl trivial ?_ rfl
    simp only [Try.ntmps13, List.size_toArray, List.length_cons, List.length_nil, Nat.reduceAdd, Nat.reduceSub, Array.replicate_succ, Array.replicate_zero, List.push_toArray, List.append_toArray, List.nil_append, List.cons_append]
    by_cases g1 : groups < 1
    · have d1 : decide (groups < 1) = true := decide_eq_true g1
      gi_wp2
      exact ⟨_, results_tmp rfl _ _ _, ret_quads (OwnQ.nil _ _ _) (three_below w _ _ _)⟩
    have d1 : decide (groups < 1) = false := decide_eq_false g1
    by_cases g2 : (64 : Int) < groups
    · have d2 : decide ((64 : Int) < groups) = true := decide_eq_true g2
      gi_wp2
      exact ⟨_, results_tmp rfl _ _ _, ret_quads (OwnQ.nil _ _ _) (three_below w _ _ _)⟩
    have d2 : decide ((64 : Int) < groups) = false := decide_eq_false g2
    by_cases g3 : old < 1
    · have d3 : decide (old < 1) = true := decide_eq_true g3
      gi_wp2
      exact ⟨_, results_tmp rfl _ _ _, ret_quads (OwnQ.nil _ _ _) (three_below w _ _ _)⟩
    have d3 : decide (old < 1) = false := decide_eq_false g3
    by_cases g4 : groups < old
    · have d4 : decide (groups < old) = true := decide_eq_true g4
      gi_wp2
      exact ⟨_, results_tmp rfl _ _ _, ret_quads (OwnQ.nil _ _ _) (three_below w _ _ _)⟩
    have d4 : decide (groups < old) = false := decide_eq_false g4
    by_cases g5 : par < 1
    · have d5 : decide (par < 1) = true := decide_eq_true g5
      gi_wp2
      exact ⟨_, results_tmp rfl _ _ _, ret_quads (OwnQ.nil _ _ _) (three_below w _ _ _)⟩
    have d5 : decide (par < 1) = false := decide_eq_false g5
    by_cases g6 : groups < par
    · have d6 : decide (groups < par) = true := decide_eq_true g6
      gi_wp2
      exact ⟨_, results_tmp rfl _ _ _, ret_quads (OwnQ.nil _ _ _) (three_below w _ _ _)⟩
    have d6 : decide (groups < par) = false := decide_eq_false g6
    exact absurd ⟨⟨by omega, by omega⟩, ⟨by omega, by omega⟩, by omega, by omega⟩ HH.out
end Go.Proofs.Ytlhjhjkfnmeapaa.Mv
