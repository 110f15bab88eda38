/- The plain law of plans: group by group, and run by run, is the same list of moves. No program in sight. -/
import Derived.Test.YtlhjhjkfnmeapaaMv3
namespace Go.Proofs.Ytlhjhjkfnmeapaa.Mv
open M

/-- the document's step: one group more -/
def refStep (old par : Int) (G : Nat) (out : List Q4) (g : Nat) : List Q4 :=
  match out.getLast? with
  | some m => if m.2.2.2 = (g : Int) ∧ (m.1, m.2.1) = ow old par G g then out.dropLast ++ [(m.1, m.2.1, m.2.2.1, (g : Int) + 1)]
    else if (ow old par G g).1 = (ow old par G g).2 then out else out ++ [((ow old par G g).1, (ow old par G g).2, (g : Int), (g : Int) + 1)]
  | none => if (ow old par G g).1 = (ow old par G g).2 then out else out ++ [((ow old par G g).1, (ow old par G g).2, (g : Int), (g : Int) + 1)]
def refL (old par : Int) (G : Nat) : Nat → List Q4
  | 0 => []
  | g + 1 => refStep old par G (refL old par G g) g

section
variable {old par : Int} {G : Nat}
/-- a list that ends ahead of a group, where no move goes on -/
structure Ends (old par : Int) (G : Nat) (L : List Q4) (a : Nat) : Prop where
  ne : ∀ m ∈ L, m.1 ≠ m.2.1
  le : ∀ m ∈ L, m.2.2.2 ≤ (a : Int)
  no : a < G → ∀ m, L.getLast? = some m → m.2.2.2 = (a : Int) → (m.1, m.2.1) ≠ ow old par G a
theorem refStep_no {L : List Q4} {g : Nat} (h : ∀ m, L.getLast? = some m → ¬ (m.2.2.2 = (g : Int) ∧ (m.1, m.2.1) = ow old par G g)) :
    refStep old par G L g = if (ow old par G g).1 = (ow old par G g).2 then L else L ++ [((ow old par G g).1, (ow old par G g).2, (g : Int), (g : Int) + 1)] := by
  unfold refStep
  cases hl : L.getLast? with
  | none => rfl
  | some m => simp only; rw [if_neg (h m hl)]
theorem last_mem {L : List Q4} {m : Q4} (h : L.getLast? = some m) : m ∈ L := List.mem_of_getLast? h
/-- from a run's beginning on -/
theorem run_ref {L : List Q4} {a : Nat} (hL : Ends old par G L a) (ha : a < G) (hr : refL old par G a = L) (k : Nat) (hs : ∀ j, a ≤ j → j < a + k + 1 → ow old par G j = ow old par G a) :
    refL old par G (a + k + 1) = if (ow old par G a).1 = (ow old par G a).2 then L else L ++ [((ow old par G a).1, (ow old par G a).2, (a : Int), ((a + k + 1 : Nat) : Int))] := by
  induction k with
  | zero =>
    show refStep old par G (refL old par G a) a = _
    rw [hr, refStep_no fun m hm hc => hL.no ha m hm hc.1 hc.2]
    simp
  | succ k ih =>
    have e := hs (a + k + 1) (by omega) (by omega)
    show refStep old par G (refL old par G (a + k + 1)) (a + k + 1) = _
    rw [ih fun j hj hk => hs j hj (by omega)]
    by_cases hq : (ow old par G a).1 = (ow old par G a).2
    · rw [if_pos hq, if_pos hq, refStep_no, e, if_pos hq]
      intro m hm hc
      have := hL.le m (last_mem hm)
      have h1 := hc.1
      push_cast at h1
      omega
    · rw [if_neg hq, if_neg hq]
      unfold refStep
      rw [List.getLast?_concat]
      simp only
      rw [if_pos ⟨trivial, by rw [e]⟩, List.dropLast_concat]
      push_cast
      rfl
/-- run by run is group by group -/
theorem runs_ref : ∀ {xs : List (Nat × Nat)} {a b : Nat} {L : List Q4}, Ends old par G L a → refL old par G a = L → Runs old par G a xs b → refL old par G b = L ++ movesOf old par G xs
  | [], a, b, L, _, hr, h => by
    have e : a = b := h
    subst e
    simp [movesOf, hr]
  | x :: xs, a, b, L, hL, hr, h => by
    obtain ⟨e, hx, ht⟩ := h
    have h1 := hx.lt
    have h2 := hx.le
    have h3 := hx.same
    have h4 := hx.stop
    obtain ⟨x1, x2⟩ := x
    simp only at e h1 h2 h3 h4 ht
    subst e
    obtain ⟨k, rfl⟩ : ∃ k, x2 = x1 + k + 1 := ⟨x2 - x1 - 1, by omega⟩
    have hk := run_ref hL (by omega) hr k h3
    by_cases hq : (ow old par G x1).1 = (ow old par G x1).2
    · rw [if_pos hq] at hk
      have hm : movesOf old par G ((x1, x1 + k + 1) :: xs) = movesOf old par G xs := by simp [movesOf, mv, hq]
      rw [hm]
      exact runs_ref ⟨hL.ne, fun m hm => by have := hL.le m hm; push_cast; omega, fun _ m hm he => by have := hL.le m (last_mem hm); push_cast at he; omega⟩ hk ht
    · rw [if_neg hq] at hk
      have hm : movesOf old par G ((x1, x1 + k + 1) :: xs) = ((ow old par G x1).1, (ow old par G x1).2, (x1 : Int), ((x1 + k + 1 : Nat) : Int)) :: movesOf old par G xs := by simp [movesOf, mv, hq]
      rw [hm]
      have := runs_ref (L := L ++ [((ow old par G x1).1, (ow old par G x1).2, (x1 : Int), ((x1 + k + 1 : Nat) : Int))]) ⟨fun m hm => ?_, fun m hm => ?_, fun hl m hm _ => ?_⟩ hk ht
      · rw [this]; simp
      · rcases List.mem_append.1 hm with hm | hm
        · exact hL.ne m hm
        · simp at hm; subst hm; exact hq
      · rcases List.mem_append.1 hm with hm | hm
        · have := hL.le m hm; push_cast; omega
        · simp only [List.mem_singleton] at hm; subst hm; exact Int.le_refl _
      · rw [List.getLast?_concat] at hm
        injection hm with hm
        subst hm
        intro hc
        exact h4 hl hc.symm
theorem plan_ref {xs : List (Nat × Nat)} (h : Runs old par G 0 xs G) : movesOf old par G xs = refL old par G G := by
  have := runs_ref (L := []) ⟨fun m hm => absurd hm (by simp), fun m hm => absurd hm (by simp), fun _ m hm => absurd hm (by simp)⟩ rfl h
  rw [this]; rfl
end
end Go.Proofs.Ytlhjhjkfnmeapaa.Mv
