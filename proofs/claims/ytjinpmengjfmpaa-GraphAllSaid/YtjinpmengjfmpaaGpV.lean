/- How edges stand, in plain Lean. No program in sight. -/
import Derived.Test.YtjinpmengjfmpaaGpT
namespace Go.Proofs.Ytjinpmengjfmpaa.Gp
open Go M Sp

theorem posF_none {f : Int × Int → Bool} : ∀ (p : Nat) (L : List (Int × Int)), (∀ y ∈ L, f y = false) → posF f p L = []
  | _, [], _ => rfl
  | p, y :: ys, h => by
    unfold posF
    rw [if_neg (by rw [h y (by simp)]; simp)]
    exact posF_none (p + 1) ys fun z hz => h z (by simp [hz])
theorem posF_all {f : Int × Int → Bool} : ∀ (p : Nat) (L : List (Int × Int)), (∀ y ∈ L, f y = true) → posF f p L = (List.range L.length).map fun s => ((p + s : Nat) : Int)
  | _, [], _ => rfl
  | p, y :: ys, h => by
    unfold posF
    rw [if_pos (h y (by simp)), posF_all (p + 1) ys fun z hz => h z (by simp [hz]), List.length_cons, List.range_succ_eq_map, List.map_cons, List.map_map]
    congr 1
    apply List.map_congr_left
    intro s _
    simp only [Function.comp]
    omega
section
variable {l : List OpP} {par : List Int}
theorem edgesK_to {n : Nat} {ins : List Int} {k : Nat} {x : Int × Int} (h : x ∈ edgesK par n ins k) : x.2 = (n : Int) := by
  unfold edgesK at h
  obtain ⟨i, -, hi⟩ := List.mem_flatMap.1 h
  obtain ⟨s, -, rfl⟩ := List.mem_map.1 hi
  rfl
theorem edgesAt_to {y : Tri} {x : Int × Int} (h : x ∈ edgesAt l par y) : x.2 = (y.1 : Int) := edgesK_to h
theorem num_at {i : Nat} (hi : i < (spotsN par).length) : (spotsN par)[i].1 = i := upto_num par.length i hi
theorem edgesTo_to {k : Nat} {x : Int × Int} (h : x ∈ edgesTo l par k) : x.2 < (k : Int) := by
  unfold edgesTo at h
  obtain ⟨y, hy, hx⟩ := List.mem_flatMap.1 h
  rw [edgesAt_to hx]
  obtain ⟨i, hi, e⟩ := List.getElem_of_mem hy
  rw [List.length_take] at hi
  rw [List.getElem_take] at e
  have := num_at (par := par) (i := i) (by omega)
  rw [e] at this
  omega
def edgesFrom (l : List OpP) (par : List Int) (k : Nat) : List (Int × Int) := ((spotsN par).drop k).flatMap (edgesAt l par)
theorem edgesFrom_to {k : Nat} {x : Int × Int} (h : x ∈ edgesFrom l par k) : (k : Int) ≤ x.2 := by
  unfold edgesFrom at h
  obtain ⟨y, hy, hx⟩ := List.mem_flatMap.1 h
  rw [edgesAt_to hx]
  obtain ⟨i, hi, e⟩ := List.getElem_of_mem hy
  rw [List.length_drop] at hi
  rw [List.getElem_drop] at e
  have := num_at (par := par) (i := k + i) (by omega)
  rw [e] at this
  omega
theorem edges_split (k : Nat) : edgesP l par = edgesTo l par k ++ edgesFrom l par k := by
  unfold edgesP edgesTo edgesFrom
  rw [← List.flatMap_append, List.take_append_drop]
theorem edgesFrom_cons {i m t : Nat} (hi : i < (spotsP par).length) (hy : (spotsP par).getD i (0, 0) = ((m : Int), (t : Int))) :
    edgesFrom l par i = edgesK par i (insOf l m) (insOf l m).length ++ edgesFrom l par (i + 1) := by
  unfold edgesFrom
  have h1 := spot_at hi hy
  have hi' : i < (spotsN par).length := by rw [← spotsP_len]; exact hi
  rw [List.getElem?_eq_getElem hi'] at h1
  injection h1 with h1
  rw [List.drop_eq_getElem_cons hi', h1]
  simp [edgesAt]
/-- the edges that lead to a task stand side by side -/
theorem ins_row {i m t : Nat} (hi : i < (spotsP par).length) (hy : (spotsP par).getD i (0, 0) = ((m : Int), (t : Int))) :
    insP (edgesP l par) (i : Int) = (List.range (edgesK par i (insOf l m) (insOf l m).length).length).map fun s => (((edgesTo l par i).length + s : Nat) : Int) := by
  unfold insP
  rw [edges_split i, edgesFrom_cons hi hy, posF_append, posF_append, posF_none 0, posF_all, posF_none _ (edgesFrom l par (i + 1))]
  · simp
  · intro y hy
    have := edgesFrom_to hy
    unfold toF
    simp; omega
  · intro y hy
    have := edgesK_to hy
    unfold toF
    simp; omega
  · intro y hy
    have := edgesTo_to hy
    unfold toF
    simp; omega
theorem edgesK_split {n : Nat} {ins : List Int} {k : Nat} (hk : k < ins.length) : ∃ r, edgesK par n ins ins.length = edgesK par n ins k ++ edgesI par n (ins.getD k 0) (par.getD (ins.getD k 0).toNat 0).toNat ++ r := by
  rw [← edgesK_snoc hk rfl]
  unfold edgesK
  refine ⟨(ins.drop (k + 1)).flatMap fun i => edgesI par n i (par.getD i.toNat 0).toNat, ?_⟩
  rw [← List.flatMap_append, List.take_append_drop, List.take_length]
/-- the edge at a place -/
theorem edge_at {i m t k j : Nat} {v : Int} (hi : i < (spotsP par).length) (hy : (spotsP par).getD i (0, 0) = ((m : Int), (t : Int))) (hk : k < (insOf l m).length) (hv : (insOf l m).getD k 0 = v) (hj : j < (par.getD v.toNat 0).toNat) :
    (edgesTo l par i).length + (edgesK par i (insOf l m) k).length + j < (edgesP l par).length ∧
      (edgesP l par).getD ((edgesTo l par i).length + (edgesK par i (insOf l m) k).length + j) (0, 0) = ((((upto par v.toNat).length + j : Nat) : Int), (i : Int)) := by
  subst hv
  obtain ⟨r, hr⟩ := edgesK_split (par := par) (n := i) hk
  have hl := edgesI_len (par := par) (n := i) (i := (insOf l m).getD k 0) (t := (par.getD ((insOf l m).getD k 0).toNat 0).toNat)
  have e : (edgesP l par)[(edgesTo l par i).length + (edgesK par i (insOf l m) k).length + j]? = some ((((upto par ((insOf l m).getD k 0).toNat).length + j : Nat) : Int), (i : Int)) := by
    rw [edges_split i, edgesFrom_cons hi hy, hr]
    rw [List.getElem?_append_right (by omega), List.append_assoc, List.append_assoc, List.getElem?_append_right (by omega), List.getElem?_append_left (by rw [edgesI_len]; omega)]
    rw [show (edgesTo l par i).length + (edgesK par i (insOf l m) k).length + j - (edgesTo l par i).length - (edgesK par i (insOf l m) k).length = j by omega]
    unfold edgesI
    rw [List.getElem?_map, List.getElem?_range hj]
    rfl
  refine ⟨(List.getElem?_eq_some_iff.1 e).1, ?_⟩
  rw [List.getD_eq_getElem?_getD, e]; rfl
end
end Go.Proofs.Ytjinpmengjfmpaa.Gp
