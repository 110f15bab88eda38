/- A region that draws its order, walked by hand: three that may come up; the orders meet again. No program's function is named. -/
import Derived.Test.YtaodbjgcidkpkaaHeld
namespace Go.Proofs.Ytaodbjgcidkpkaa.M
section
variable {P : Program} {ops : Array Oper} {Q : Exit → Act → World → Prop} {md : Region.Mode} {S : World → Prop}
/-- any of three may come up -/
theorem held_three (i j k : Nat) {fuel : Nat} {listed : Array Bool} {a : Act} {w : World} (hr : Region.ready md ops listed = [i, j, k])
    (h : match ops[i]? with
      | some o => ∀ K : Act → World → Prop, Shut (∀ a w, S w → (S w → wpAnyH P md ops Q S fuel (listed.setIfInBounds i true) a w) → K a w) → if Region.wanted o (yielded ops a.tmps) = true then Oper.wp P o a w K Q else K (a.put o.dst undef) w
      | none => False)
    (h2 : match ops[j]? with
      | some o => ∀ K : Act → World → Prop, Shut (∀ a w, S w → (S w → wpAnyH P md ops Q S fuel (listed.setIfInBounds j true) a w) → K a w) → if Region.wanted o (yielded ops a.tmps) = true then Oper.wp P o a w K Q else K (a.put o.dst undef) w
      | none => False)
    (h3 : match ops[k]? with
      | some o => ∀ K : Act → World → Prop, Shut (∀ a w, S w → (S w → wpAnyH P md ops Q S fuel (listed.setIfInBounds k true) a w) → K a w) → if Region.wanted o (yielded ops a.tmps) = true then Oper.wp P o a w K Q else K (a.put o.dst undef) w
      | none => False) : wpAnyH P md ops Q S (fuel + 1) listed a w := by
  cases ho : ops[i]? with
  | none => rw [ho] at h; exact h.elim
  | some o =>
    rw [ho] at h
    cases ho2 : ops[j]? with
    | none => rw [ho2] at h2; exact h2.elim
    | some o2 =>
      rw [ho2] at h2
      cases ho3 : ops[k]? with
      | none => rw [ho3] at h3; exact h3.elim
      | some o3 =>
        rw [ho3] at h3
        exact wpAnyH_ready hr (by simp) (AllReadyH.cons ho h (AllReadyH.cons ho2 h2 (AllReadyH.cons ho3 h3 AllReadyH.nil)))
/-- which operations were listed, in another spelling -/
theorem held_listed {fuel : Nat} {listed listed' : Array Bool} {a : Act} {w : World} (he : listed = listed') (h : wpAnyH P md ops Q S fuel listed' a w) : wpAnyH P md ops Q S fuel listed a w := he ▸ h
/-- the orders meet again: two letters -/
theorem held_join2 {α β : Type} (listed : Array Bool) (R : α → β → World → Prop) {fuel fuel0 : Nat} {f : α → β → Act} {listed0 : Array Bool} {a0 : Act} {w0 : World}
    (main : (∀ x y w, R x y w → S w → wpAnyH P md ops Q S fuel listed (f x y) w) → wpAnyH P md ops Q S fuel0 listed0 a0 w0)
    (rest : ∀ x y w, R x y w → S w → wpAnyH P md ops Q S fuel listed (f x y) w) : wpAnyH P md ops Q S fuel0 listed0 a0 w0 := main rest
/-- the orders meet again: three letters -/
theorem held_join3 {α β γ : Type} (listed : Array Bool) (R : α → β → γ → World → Prop) {fuel fuel0 : Nat} {f : α → β → γ → Act} {listed0 : Array Bool} {a0 : Act} {w0 : World}
    (main : (∀ x y z w, R x y z w → S w → wpAnyH P md ops Q S fuel listed (f x y z) w) → wpAnyH P md ops Q S fuel0 listed0 a0 w0)
    (rest : ∀ x y z w, R x y z w → S w → wpAnyH P md ops Q S fuel listed (f x y z) w) : wpAnyH P md ops Q S fuel0 listed0 a0 w0 := main rest
/-- the orders meet again: four letters -/
theorem held_join4 {α β γ δ : Type} (listed : Array Bool) (R : α → β → γ → δ → World → Prop) {fuel fuel0 : Nat} {f : α → β → γ → δ → Act} {listed0 : Array Bool} {a0 : Act} {w0 : World}
    (main : (∀ x y z u w, R x y z u w → S w → wpAnyH P md ops Q S fuel listed (f x y z u) w) → wpAnyH P md ops Q S fuel0 listed0 a0 w0)
    (rest : ∀ x y z u w, R x y z u w → S w → wpAnyH P md ops Q S fuel listed (f x y z u) w) : wpAnyH P md ops Q S fuel0 listed0 a0 w0 := main rest
/-- the orders meet again: four letters; the condition hangs on two of them -/
theorem held_joinS {α β γ δ : Type} (listed : Array Bool) (R : α → β → γ → δ → World → Prop) (S' : α → β → World → Prop) {fuel fuel0 : Nat} {f : α → β → γ → δ → Act} {listed0 : Array Bool} {a0 : Act} {w0 : World}
    (main : (∀ x y z u w, R x y z u w → S' x y w → wpAnyH P md ops Q (S' x y) fuel listed (f x y z u) w) → wpAnyH P md ops Q S fuel0 listed0 a0 w0)
    (rest : ∀ x y z u w, R x y z u w → S' x y w → wpAnyH P md ops Q (S' x y) fuel listed (f x y z u) w) : wpAnyH P md ops Q S fuel0 listed0 a0 w0 := main rest
end
end Go.Proofs.Ytaodbjgcidkpkaa.M
