/- A region that draws its order, walked by hand under a condition on the world: one operation at a time, also those whose guard is false. No program's function is named. -/
import Derived.Test.YtaodbjgcidkpkaaMem
import Derived.Deep.RegionHeld3
namespace Go.Proofs.Ytaodbjgcidkpkaa.M
section
variable {P : Program} {ops : Array Oper} {Q : Exit → Act → World → Prop} {md : Region.Mode} {S : World → Prop}
theorem held_take (i : Nat) {fuel : Nat} {listed : Array Bool} {a : Act} {w : World}
    (hs : Region.noSelect ops = true) (hf : Region.free md ops listed i = true) (hr : (Region.ready md ops listed).contains i = true)
    (hS : S w)
    (h : match ops[i]? with | some o => (∀ v c a w, Q (.panic c) (a.put o.dst v) w → Q (.panic c) a w) ∧ ∃ v, YieldsIf P ops S o v a ∧ wpAnyH P md ops Q S fuel (listed.setIfInBounds i true) (a.put o.dst v) w | none => False) : wpAnyH P md ops Q S (fuel + 1) listed a w := by
  cases ho : ops[i]? with
  | none => rw [ho] at h; exact h.elim
  | some o =>
    rw [ho] at h
    obtain ⟨hQ, v, hy, hk⟩ := h
    exact wpAnyH_take ho hs hf hr (hQ _) hy hS hk
theorem held_one (i : Nat) {fuel : Nat} {listed : Array Bool} {a : Act} {w : World} (hr : Region.ready md ops listed = [i])
    (h : match ops[i]? with
      | some o => ∀ K : Act → World → Prop, Shut (∀ a w, S w → (S w → wpAnyH P md ops Q S fuel (listed.setIfInBounds i true) a w) → K a w) → if Region.wanted o (yielded ops a.tmps) = true then Oper.wp P o a w K Q else K (a.put o.dst undef) w
      | none => False) : wpAnyH P md ops Q S (fuel + 1) listed a w := by
  cases ho : ops[i]? with
  | none => rw [ho] at h; exact h.elim
  | some o =>
    rw [ho] at h
    exact wpAnyH_ready hr (by simp) (AllReadyH.cons ho h AllReadyH.nil)
/-- the condition is strengthened on the way -/
theorem held_mono {S' : World → Prop} (hm : ∀ w, S' w → S w) : ∀ (fuel : Nat) (listed : Array Bool) (a : Act) (w : World), wpAnyH P md ops Q S' fuel listed a w → wpAnyH P md ops Q S fuel listed a w
  | 0, _, _, _, h => h
  | fuel + 1, _, _, _, h => ⟨h.1, fun i hi => wpOp_mono (fun a' w' h' => ⟨hm _ h'.1, held_mono hm fuel _ a' w' h'.2⟩) (h.2 i hi)⟩
/-- either of two may come up -/
theorem held_two (i j : Nat) {fuel : Nat} {listed : Array Bool} {a : Act} {w : World} (hr : Region.ready md ops listed = [i, j])
    (h : match ops[i]? with
      | some o => ∀ K : Act → World → Prop, Shut (∀ a w, S w → (S w → wpAnyH P md ops Q S fuel (listed.setIfInBounds i true) a w) → K a w) → if Region.wanted o (yielded ops a.tmps) = true then Oper.wp P o a w K Q else K (a.put o.dst undef) w
      | none => False)
    (h2 : match ops[j]? with
      | some o => ∀ K : Act → World → Prop, Shut (∀ a w, S w → (S w → wpAnyH P md ops Q S fuel (listed.setIfInBounds j true) a w) → K a w) → if Region.wanted o (yielded ops a.tmps) = true then Oper.wp P o a w K Q else K (a.put o.dst undef) w
      | none => False) : wpAnyH P md ops Q S (fuel + 1) listed a w := by
  cases ho : ops[i]? with
  | none => rw [ho] at h; exact h.elim
  | some o =>
    rw [ho] at h
    cases ho2 : ops[j]? with
    | none => rw [ho2] at h2; exact h2.elim
    | some o2 =>
      rw [ho2] at h2
      exact wpAnyH_ready hr (by simp) (AllReadyH.cons ho h (AllReadyH.cons ho2 h2 AllReadyH.nil))
end
end Go.Proofs.Ytaodbjgcidkpkaa.M
