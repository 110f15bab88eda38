/- All edges of a job, in plain Lean. No program in sight. -/
import Derived.Test.YtjinpmengjfmpaaGpP
import Derived.Test.YtjinpmengjfmpaaSpPlain
namespace Go.Proofs.Ytjinpmengjfmpaa.Gp
open Go M Sp

/-- the edges that lead to one task, from one input's tasks -/
def edgesI (par : List Int) (n : Nat) (i : Int) (t : Nat) : List (Int × Int) := (List.range t).map fun s => ((((upto par i.toNat).length + s : Nat) : Int), (n : Int))
/-- from the first inputs -/
def edgesK (par : List Int) (n : Nat) (ins : List Int) (k : Nat) : List (Int × Int) := (ins.take k).flatMap fun i => edgesI par n i (par.getD i.toNat 0).toNat
def edgesAt (l : List OpP) (par : List Int) (x : Tri) : List (Int × Int) := edgesK par x.1 (insOf l x.2.1) (insOf l x.2.1).length
def edgesP (l : List OpP) (par : List Int) : List (Int × Int) := (spotsN par).flatMap (edgesAt l par)
section
variable {par : List Int} {n k t : Nat} {i : Int} {ins : List Int}
theorem edgesI_zero : edgesI par n i 0 = [] := rfl
theorem edgesI_snoc : edgesI par n i (t + 1) = edgesI par n i t ++ [((((upto par i.toNat).length + t : Nat) : Int), (n : Int))] := by simp [edgesI, List.range_succ]
theorem edgesI_len : (edgesI par n i t).length = t := by simp [edgesI]
theorem edgesK_zero : edgesK par n ins 0 = [] := by simp [edgesK]
theorem edgesK_snoc (hk : k < ins.length) (hi : ins.getD k 0 = i) : edgesK par n ins (k + 1) = edgesK par n ins k ++ edgesI par n i (par.getD i.toNat 0).toNat := by
  have : ins.take (k + 1) = ins.take k ++ [i] := by
    rw [List.take_add_one, List.getElem?_eq_getElem hk]
    have : ins[k] = i := by rw [← hi, List.getD_eq_getElem?_getD, List.getElem?_eq_getElem hk]; rfl
    rw [this]; rfl
  unfold edgesK
  rw [this]; simp
theorem edgesK_len (h8 : ∀ x ∈ par, x ≤ 8) : ∀ k, (edgesK par n ins k).length ≤ 8 * k
  | 0 => by simp [edgesK]
  | k + 1 => by
    by_cases hk : k < ins.length
    · rw [edgesK_snoc hk rfl, List.length_append, edgesI_len]
      have := edgesK_len h8 k
      have : (par.getD (ins.getD k 0).toNat 0).toNat ≤ 8 := by
        rw [List.getD_eq_getElem?_getD]
        by_cases hi : (ins.getD k 0).toNat < par.length
        · rw [List.getElem?_eq_getElem hi]
          have := h8 _ (List.getElem_mem hi)
          simp only [Option.getD_some]; omega
        · rw [List.getElem?_eq_none (by omega)]; simp
      omega
    · have : edgesK par n ins (k + 1) = edgesK par n ins k := by unfold edgesK; rw [List.take_of_length_le (by omega), List.take_of_length_le (by omega)]
      rw [this]
      have := edgesK_len h8 k
      omega
/-- a task's number, of its operator and its place there -/
theorem spots_split {m : Nat} (hm : m < par.length) (ht : t < (par.getD m 0).toNat) : ∃ r, spotsN par = uptoT par m t ++ ((upto par m).length + t, m, t) :: r := by
  obtain ⟨r, hr⟩ := uptoT_in (par := par) (i := m) (t := t + 1) hm (by omega)
  exact ⟨r, by rw [← hr, uptoT_snoc]; simp⟩
theorem mem_uptoT {m : Nat} {x : Tri} (h : x ∈ uptoT par m t) : x.2.1 < m ∨ (x.2.1 = m ∧ x.2.2 < t) := by
  unfold uptoT at h
  rcases List.mem_append.1 h with h | h
  · exact .inl (mem_upto m x h).1
  · obtain ⟨s, hs, rfl⟩ := List.mem_map.1 h
    exact .inr ⟨rfl, List.mem_range.1 hs⟩
end
end Go.Proofs.Ytjinpmengjfmpaa.Gp
