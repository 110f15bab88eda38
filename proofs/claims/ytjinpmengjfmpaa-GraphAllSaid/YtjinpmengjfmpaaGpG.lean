/- Tasks have the numbers of their places, in plain Lean. No program in sight. -/
import Derived.Test.YtjinpmengjfmpaaGp5
namespace Go.Proofs.Ytjinpmengjfmpaa.Gp
open Go M Sp

section
variable {par : List Int}
theorem mem_upto_num : ∀ (i : Nat) (x : Tri), x ∈ upto par i → x.1 = (upto par x.2.1).length + x.2.2
  | 0, x, h => by simp [upto] at h
  | i + 1, x, h => by
    simp only [upto, List.mem_append, List.mem_map, List.mem_range] at h
    rcases h with h | ⟨s, hs, rfl⟩
    · exact mem_upto_num i x h
    · rfl
theorem upto_len (i : Nat) : (upto par (i + 1)).length = (upto par i).length + (par.getD i 0).toNat := by simp [upto]
theorem upto_mono {i j : Nat} (h : i ≤ j) : (upto par i).length ≤ (upto par j).length := (upto_pre h).length_le
/-- the task at a place -/
theorem at_place {k : Nat} {y : Int × Int} (hk : k < (spotsP par).length) (hy : (spotsP par).getD k (0, 0) = y) : ∃ m t : Nat, y = ((m : Int), (t : Int)) ∧ m < par.length ∧ (t : Int) < par.getD m 0 ∧ k = (upto par m).length + t := by
  have hk' : k < (spotsN par).length := by rw [← spotsP_len]; exact hk
  have hmem : (spotsN par)[k] ∈ spotsN par := List.getElem_mem hk'
  have h1 := mem_spots hmem
  have h2 := mem_upto_num par.length _ hmem
  have h3 : (spotsN par)[k].1 = k := upto_num par.length k hk'
  refine ⟨(spotsN par)[k].2.1, (spotsN par)[k].2.2, ?_, h1.1, h1.2, by omega⟩
  rw [← hy, List.getD_eq_getElem?_getD]
  unfold spotsP prs
  rw [List.getElem?_map, List.getElem?_eq_getElem hk']
  rfl
theorem idx_self {k : Nat} {y : Int × Int} (hk : k < (spotsP par).length) (hy : (spotsP par).getD k (0, 0) = y) : idxP (spotsP par) y = k := by
  obtain ⟨m, t, rfl, hm, ht, e⟩ := at_place hk hy
  rw [idx_of hm (by omega), e]
theorem next_place {k : Nat} {x y : Int × Int} (hk : k + 1 < (spotsP par).length) (hx : (spotsP par).getD k (0, 0) = x) (hy : (spotsP par).getD (k + 1) (0, 0) = y) : x.1 ≤ y.1 ∧ (x.1 = y.1 → x.2 + 1 = y.2) := by
  obtain ⟨m, t, rfl, hm, ht, e⟩ := at_place (by omega) hx
  obtain ⟨m', t', rfl, hm', ht', e'⟩ := at_place hk hy
  simp only
  have h1 := upto_len (par := par) m
  have h2 := upto_len (par := par) m'
  constructor
  · refine Classical.byContradiction fun hc => ?_
    have h3 := upto_mono (par := par) (i := m' + 1) (j := m) (by omega)
    omega
  · intro hmm
    have : m = m' := by omega
    subst this
    omega
/-- is it a task? -/
def isTask (par : List Int) (s : Int × Int) : Prop := ∃ m t : Nat, s = ((m : Int), (t : Int)) ∧ m < par.length ∧ (t : Int) < par.getD m 0
theorem idx_no {s : Int × Int} (h : ¬ isTask par s) : idxP (spotsP par) s = -1 := by
  refine idxP_none fun y hy he => h ?_
  subst he
  obtain ⟨x, hx, rfl⟩ := List.mem_map.1 hy
  have := mem_spots hx
  exact ⟨x.2.1, x.2.2, rfl, this.1, this.2⟩
theorem idx_yes {m t : Nat} (hm : m < par.length) (ht : (t : Int) < par.getD m 0) : ∃ k : Nat, k < (spotsP par).length ∧ (spotsP par).getD k (0, 0) = ((m : Int), (t : Int)) ∧ idxP (spotsP par) ((m : Int), (t : Int)) = k := by
  obtain ⟨r, hr⟩ := spots_split (par := par) (m := m) (t := t) hm (by omega)
  refine ⟨(upto par m).length + t, ?_, ?_, idx_of hm (by omega)⟩
  · rw [spotsP_len, hr]; simp [uptoT_len]
  · unfold spotsP
    rw [hr]
    unfold prs
    rw [List.getD_eq_getElem?_getD, List.getElem?_map, List.getElem?_append_right (by rw [uptoT_len]; omega), uptoT_len]
    simp
end
end Go.Proofs.Ytjinpmengjfmpaa.Gp
