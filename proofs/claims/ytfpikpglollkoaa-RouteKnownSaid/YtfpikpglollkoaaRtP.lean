/- Where a key's records go, in plain Lean: the task that has its group; twice as many tasks. -/
import Derived.Test.YtfpikpglollkoaaRt3
namespace Go.Proofs.Ytfpikpglollkoaa.Rt
open Go M Sp

/-- a task is one of p, and has the group -/
def RangeOk (g gg p : Int) : Prop := 0 ≤ Gr.ownerG gg p g ∧ Gr.ownerG gg p g < p ∧ Gr.loG (Gr.ownerG gg p g) p g ≤ gg ∧ gg < Gr.hiG (Gr.ownerG gg p g) p g ∧ True
theorem range_ok {g key p : Int} (hg : 1 ≤ g ∧ g ≤ 64) (hp : 1 ≤ p ∧ p ≤ 8 ∧ p ≤ g) : RangeOk g (Gr.ofG key g) p := by
  obtain ⟨g0, g1⟩ := Gr.ofG_bd (key := key) hg.1 hg.2
  have hf : Gr.fit p g := ⟨hg.1, hg.2, hp.1, hp.2.2⟩
  have h0 := (Gr.ownerG_bd (Gr.ofG key g) p g).1
  have h1 := Gr.ownerG_par hf g0 g1
  have h2 := (Gr.owner_in (task := Gr.ownerG (Gr.ofG key g) p g) hf g0 g1).1 rfl
  refine ⟨h0, h1, ?_, ?_, trivial⟩
  · unfold Gr.loG; rw [if_pos ⟨hf, h0, h1⟩]; exact h2.1
  · unfold Gr.hiG; rw [if_pos ⟨hf, h0, h1⟩]; exact h2.2
/-- twice as many tasks, where these may be -/
def twiceN (g n : Int) : Int := if 2 * n ≤ g ∧ 2 * n ≤ 8 then 2 * n else n
def twiceL (g : Int) (par : List Int) : List Int := par.map (twiceN g)
theorem twice_len (g : Int) (par : List Int) : (twiceL g par).length = par.length := by simp [twiceL]
theorem twice_get {g : Int} {par : List Int} {k : Nat} (hk : k < par.length) : (twiceL g par).getD k 0 = twiceN g (par.getD k 0) := by
  unfold twiceL
  rw [List.getD_eq_getElem?_getD, List.getElem?_map, List.getD_eq_getElem?_getD, List.getElem?_eq_getElem hk]; rfl
theorem twice_snoc {g : Int} {par : List Int} {k : Nat} {p : Int} (hk : k < par.length) (hp : par.getD k 0 = p) : twiceL g (par.take (k + 1)) = twiceL g (par.take k) ++ [twiceN g p] := by
  unfold twiceL; rw [take_snoc hk hp, List.map_append]; rfl
theorem twice_owner {g key p : Int} (hg : 1 ≤ g ∧ g ≤ 64) (hp : 1 ≤ p ∧ p ≤ 8 ∧ p ≤ g) : (twiceN g p = p ∧ Gr.ownerG (Gr.ofG key g) (twiceN g p) g = Gr.ownerG (Gr.ofG key g) p g) ∨ (twiceN g p ≠ p ∧ Gr.ownerG (Gr.ofG key g) (twiceN g p) g / 2 = Gr.ownerG (Gr.ofG key g) p g) := by
  obtain ⟨g0, g1⟩ := Gr.ofG_bd (key := key) hg.1 hg.2
  have hf : Gr.fit p g := ⟨hg.1, hg.2, hp.1, hp.2.2⟩
  unfold twiceN
  by_cases h : 2 * p ≤ g ∧ 2 * p ≤ 8
  · rw [if_pos h]
    exact .inr ⟨by omega, Gr.owner_twice hf ⟨hg.1, hg.2, by omega, h.1⟩ g0 g1⟩
  · rw [if_neg h]; exact .inl ⟨rfl, rfl⟩
end Go.Proofs.Ytfpikpglollkoaa.Rt
