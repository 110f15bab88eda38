/- The plain laws of plans: few moves, rising, apart; whose groups they bring. No program in sight. -/
import Derived.Test.YtlhjhjkfnmeapaaMv4
namespace Go.Proofs.Ytlhjhjkfnmeapaa.Mv
open M

section
variable {old par : Int} {G : Nat}
theorem ow_step (ho : Gr.fit old G) (hp : Gr.fit par G) {g : Nat} (h : g + 1 < G) : (ow old par G g).1 ≤ (ow old par G (g + 1)).1 ∧ (ow old par G g).2 ≤ (ow old par G (g + 1)).2 := by
  have h1 := Gr.owner_rises ho (g := (g : Int)) (by omega) (by omega)
  have h2 := Gr.owner_rises hp (g := (g : Int)) (by omega) (by omega)
  unfold ow
  push_cast
  refine ⟨?_, ?_⟩
  · first | exact h1 | exact h1.1 | omega
  · first | exact h2 | exact h2.1 | omega
theorem ow_le (ho : Gr.fit old G) (hp : Gr.fit par G) (g n : Nat) (h : g + n < G) : (ow old par G g).1 ≤ (ow old par G (g + n)).1 ∧ (ow old par G g).2 ≤ (ow old par G (g + n)).2 := by
  induction n with
  | zero => exact ⟨Int.le_refl _, Int.le_refl _⟩
  | succ n ih =>
    have h1 := ih (by omega)
    have h2 := ow_step ho hp (g := g + n) (by omega)
    rw [show g + (n + 1) = g + n + 1 by omega]
    omega
def phi (old par : Int) (G g : Nat) : Int := (ow old par G g).1 + (ow old par G g).2
theorem phi_le (ho : Gr.fit old G) (hp : Gr.fit par G) {g h : Nat} (hgh : g ≤ h) (hh : h < G) : phi old par G g ≤ phi old par G h := by
  have := ow_le ho hp g (h - g) (by omega)
  rw [show g + (h - g) = h by omega] at this
  unfold phi; omega
theorem phi_lt (ho : Gr.fit old G) (hp : Gr.fit par G) {g h : Nat} (hgh : g ≤ h) (hh : h < G) (hne : ow old par G h ≠ ow old par G g) : phi old par G g + 1 ≤ phi old par G h := by
  have h1 := ow_le ho hp g (h - g) (by omega)
  rw [show g + (h - g) = h by omega] at h1
  have : ¬ ((ow old par G h).1 = (ow old par G g).1 ∧ (ow old par G h).2 = (ow old par G g).2) := fun e => hne (Prod.ext e.1 e.2)
  unfold phi; omega
theorem runs_phi (ho : Gr.fit old G) (hp : Gr.fit par G) : ∀ {xs : List (Nat × Nat)} {a b : Nat}, Runs old par G a xs b → xs ≠ [] → phi old par G a + xs.length ≤ phi old par G (G - 1) + 1
  | [], _, _, _, h => absurd rfl h
  | [x], a, b, h, _ => by
    have h1 := h.1
    have h2 := h.2.1.lt
    have h3 := h.2.1.le
    have := phi_le ho hp (g := a) (h := G - 1) (by omega) (by omega)
    simp; omega
  | x :: y :: ys, a, b, h, _ => by
    have h1 := h.1
    have h2 := h.2.1.lt
    have h3 := h.2.2.1
    have h4 := h.2.2.2.1.lt
    have h5 := h.2.2.2.1.le
    have h6 := h.2.1.stop (by omega)
    have ih := runs_phi ho hp h.2.2 (by simp)
    rw [h1] at h6
    have := phi_lt ho hp (g := a) (h := x.2) (by omega) (by omega) h6
    simp at ih ⊢; omega
theorem phi_last (ho : Gr.fit old G) (hp : Gr.fit par G) : phi old par G (G - 1) = old - 1 + (par - 1) := by
  have h1 := Gr.owner_last ho
  have h2 := Gr.owner_last hp
  have hg := ho.1
  unfold phi ow
  have e : ((G - 1 : Nat) : Int) = (G : Int) - 1 := by omega
  rw [e]
  simp only
  omega
theorem phi_zero (g : Nat) : 0 ≤ phi old par G g := by
  have o1 := Gr.ownerG_bd (g : Int) old (G : Int)
  have o2 := Gr.ownerG_bd (g : Int) par (G : Int)
  unfold phi ow; simp only; omega
theorem moves_few (ho : Gr.fit old G) (hp : Gr.fit par G) {xs : List (Nat × Nat)} {b : Nat} (h : Runs old par G 0 xs b) : ((movesOf old par G xs).length : Int) < old + par := by
  have h1 := List.length_filterMap_le (mv old par G) xs
  unfold movesOf
  by_cases hx : xs = []
  · subst hx
    have := ho.2.2.1
    have := hp.2.2.1
    simp; omega
  · have h2 := runs_phi ho hp h hx
    have h3 := phi_last ho hp
    have h4 := phi_zero (old := old) (par := par) (G := G) 0
    omega
theorem runs_cover : ∀ {xs : List (Nat × Nat)} {a b : Nat}, Runs old par G a xs b → ∀ g, a ≤ g → g < b → ∃ x ∈ xs, x.1 ≤ g ∧ g < x.2 ∧ IsRun old par G x
  | [], a, b, h, g, h1, h2 => by have : a = b := h; omega
  | x :: xs, a, b, h, g, h1, h2 => by
    by_cases hg : g < x.2
    · exact ⟨x, by simp, by have := h.1; omega, hg, h.2.1⟩
    · obtain ⟨y, hy, r⟩ := runs_cover h.2.2 g (by omega) h2
      exact ⟨y, by simp [hy], r⟩
theorem run_same {x : Nat × Nat} (h : IsRun old par G x) {g : Nat} (h1 : x.1 ≤ g) (h2 : g < x.2) : ow old par G g = ow old par G x.1 := h.same g h1 h2
theorem mv_of {x : Nat × Nat} (h : (ow old par G x.1).1 ≠ (ow old par G x.1).2) : mv old par G x = some ((ow old par G x.1).1, (ow old par G x.1).2, (x.1 : Int), (x.2 : Int)) := by
  unfold mv; rw [if_neg h]
theorem mv_inv {x : Nat × Nat} {m : Q4} (h : mv old par G x = some m) : (ow old par G x.1).1 ≠ (ow old par G x.1).2 ∧ m = ((ow old par G x.1).1, (ow old par G x.1).2, (x.1 : Int), (x.2 : Int)) := by
  unfold mv at h
  split at h
  · cases h
  · rename_i hn
    injection h with h
    exact ⟨hn, h.symm⟩
theorem moves_none (ho : Gr.fit old G) (hp : Gr.fit par G) {xs : List (Nat × Nat)} (h : Runs old par G 0 xs G) : (movesOf old par G xs).length = 0 ↔ old = par := by
  have hg := ho.1
  constructor
  · intro hz
    obtain ⟨x, hx, h1, h2, hr⟩ := runs_cover h (G - 1) (by omega) (by omega)
    have hs := run_same hr h1 h2
    have he : (ow old par G x.1).1 = (ow old par G x.1).2 := by
      refine Classical.byContradiction fun hne => ?_
      have hm : ((ow old par G x.1).1, (ow old par G x.1).2, (x.1 : Int), (x.2 : Int)) ∈ movesOf old par G xs := List.mem_filterMap.2 ⟨x, hx, mv_of hne⟩
      rw [List.eq_nil_of_length_eq_zero hz] at hm
      simp at hm
    rw [← hs] at he
    have e1 := Gr.owner_last ho
    have e2 := Gr.owner_last hp
    unfold ow at he
    have e : ((G - 1 : Nat) : Int) = (G : Int) - 1 := by omega
    rw [e] at he
    simp only at he
    omega
  · rintro rfl
    have : movesOf old old G xs = [] := by
      unfold movesOf
      rw [List.filterMap_eq_nil_iff]
      intro x _
      unfold mv
      rw [if_pos]
      rfl
    rw [this]; rfl

/-- they rise, and no two side by side go from one task to one -/
def Good : List Q4 → Prop
  | [] => True
  | [m] => m.2.2.1 < m.2.2.2
  | m :: m' :: ms => m.2.2.1 < m.2.2.2 ∧ (m.2.2.2 ≤ m'.2.2.1 ∧ ¬ (m.2.2.2 = m'.2.2.1 ∧ m.1 = m'.1 ∧ m.2.1 = m'.2.1)) ∧ Good (m' :: ms)
theorem good_moves : ∀ {xs : List (Nat × Nat)} {a b : Nat}, Runs old par G a xs b → Good (movesOf old par G xs) ∧ ∀ m ms, movesOf old par G xs = m :: ms → (a : Int) ≤ m.2.2.1 ∧ m.2.2.1 < G ∧ (m.2.2.1 = (a : Int) → (m.1, m.2.1) = ow old par G a)
  | [], _, _, _ => ⟨trivial, fun m ms h => by simp [movesOf] at h⟩
  | x :: xs, a, b, h => by
    obtain ⟨ih1, ih2⟩ := good_moves h.2.2
    have h1 := h.1
    have h2 := h.2.1.lt
    have h3 := h.2.1.le
    cases hm : mv old par G x with
    | none =>
      have e : movesOf old par G (x :: xs) = movesOf old par G xs := by simp [movesOf, hm]
      rw [e]
      refine ⟨ih1, fun m ms hms => ?_⟩
      obtain ⟨k1, k2, k3⟩ := ih2 m ms hms
      exact ⟨by omega, k2, fun hc => by omega⟩
    | some m =>
      obtain ⟨-, rfl⟩ := mv_inv hm
      have e : movesOf old par G (x :: xs) = ((ow old par G x.1).1, (ow old par G x.1).2, (x.1 : Int), (x.2 : Int)) :: movesOf old par G xs := by simp [movesOf, hm]
      rw [e]
      refine ⟨?_, fun m ms hms => ?_⟩
      · cases hq : movesOf old par G xs with
        | nil => show (x.1 : Int) < (x.2 : Int); omega
        | cons m' ms =>
          obtain ⟨k1, k2, k3⟩ := ih2 m' ms hq
          rw [hq] at ih1
          refine ⟨by show (x.1 : Int) < (x.2 : Int); omega, ⟨by show (x.2 : Int) ≤ _; omega, ?_⟩, ih1⟩
          rintro ⟨c1, c2, c3⟩
          simp only at c1 c2 c3
          have := k3 c1.symm
          have hs := h.2.1.stop (by omega)
          rw [← this] at hs
          exact hs (Prod.ext c2.symm c3.symm)
      · injection hms with hms _
        subst hms
        simp only
        subst h1
        exact ⟨by omega, by omega, fun _ => rfl⟩
theorem Good.at_ : ∀ {L : List Q4}, Good L → ∀ {k : Nat} {m : Q4}, L.getD k z4 = m → k < L.length → m.2.2.1 < m.2.2.2
  | [], _, k, m, _, hk => by simp at hk
  | [m0], h, k, m, e, hk => by
    obtain rfl : k = 0 := by simpa using hk
    subst e; exact h
  | m0 :: m1 :: ms, h, 0, m, e, _ => by subst e; exact h.1
  | m0 :: m1 :: ms, h, k + 1, m, e, hk => Good.at_ h.2.2 (k := k) (by simpa using e) (by simpa using hk)
theorem Good.at2 : ∀ {L : List Q4}, Good L → ∀ {k : Nat} {m m' : Q4}, L.getD k z4 = m → L.getD (k + 1) z4 = m' → k + 1 < L.length → m.2.2.2 ≤ m'.2.2.1 ∧ ¬ (m.2.2.2 = m'.2.2.1 ∧ m.1 = m'.1 ∧ m.2.1 = m'.2.1)
  | [], _, k, m, m', _, _, hk => by simp at hk
  | [m0], h, k, m, m', _, _, hk => by simp at hk
  | m0 :: m1 :: ms, h, 0, m, m', e, e', _ => by subst e; subst e'; exact h.2.1
  | m0 :: m1 :: ms, h, k + 1, m, m', e, e', hk => Good.at2 h.2.2 (k := k) (by simpa using e) (by simpa using e') (by simpa using hk)

/-- what a plan's moves are -/
structure Mover (old par : Int) (G : Nat) (m : Q4) : Prop where
  lo : 0 ≤ m.2.2.1
  lt : m.2.2.1 < m.2.2.2
  le : m.2.2.2 ≤ G
  ne : m.1 ≠ m.2.1
  ow : ∀ g : Nat, m.2.2.1 ≤ g → (g : Int) < m.2.2.2 → ow old par G g = (m.1, m.2.1)
def Apart (m m' : Q4) : Prop := m.2.2.2 ≤ m'.2.2.1 ∨ m'.2.2.2 ≤ m.2.2.1
theorem moves_mem : ∀ {xs : List (Nat × Nat)} {a b : Nat}, Runs old par G a xs b → ∀ m ∈ movesOf old par G xs, Mover old par G m ∧ (a : Int) ≤ m.2.2.1
  | [], _, _, _, m, hm => by simp [movesOf] at hm
  | x :: xs, a, b, h, m, hm => by
    have h1 := h.1
    have h2 := h.2.1.lt
    have h3 := h.2.1.le
    have h4 := h.2.1.same
    simp only [movesOf, List.filterMap_cons] at hm
    split at hm
    · obtain ⟨k1, k2⟩ := moves_mem h.2.2 m hm
      exact ⟨k1, by omega⟩
    · rename_i y hy
      rcases List.mem_cons.1 hm with rfl | hm
      · obtain ⟨hn, rfl⟩ := mv_inv hy
        refine ⟨⟨by simp only; omega, by simp only; omega, by simp only; omega, hn, fun g g1 g2 => ?_⟩, by simp only; omega⟩
        simp only at g1 g2
        exact h4 g (by omega) (by omega)
      · obtain ⟨k1, k2⟩ := moves_mem h.2.2 m hm
        exact ⟨k1, by omega⟩
theorem moves_apart : ∀ {xs : List (Nat × Nat)} {a b : Nat}, Runs old par G a xs b → (movesOf old par G xs).Pairwise Apart
  | [], _, _, _ => by simp [movesOf]
  | x :: xs, a, b, h => by
    have ih := moves_apart h.2.2
    simp only [movesOf, List.filterMap_cons]
    split
    · exact ih
    · rename_i y hy
      obtain ⟨hn, rfl⟩ := mv_inv hy
      refine List.pairwise_cons.2 ⟨fun m hm => ?_, ih⟩
      exact Or.inl (moves_mem h.2.2 m hm).2
theorem moves_cover {xs : List (Nat × Nat)} (h : Runs old par G 0 xs G) (g : Nat) (hg : g < G) (hne : (ow old par G g).1 ≠ (ow old par G g).2) : ∃ m ∈ movesOf old par G xs, m.2.2.1 ≤ (g : Int) ∧ (g : Int) < m.2.2.2 := by
  obtain ⟨x, hx, h1, h2, hr⟩ := runs_cover h g (by omega) hg
  have hs := run_same hr h1 h2
  rw [hs] at hne
  exact ⟨_, List.mem_filterMap.2 ⟨x, hx, mv_of hne⟩, by simp only; omega, by simp only; omega⟩
end
end Go.Proofs.Ytlhjhjkfnmeapaa.Mv
