/- All tasks of a job, in plain Lean. No program in sight. -/
import Derived.Test.YtjinpmengjfmpaaPair
namespace Go.Proofs.Ytjinpmengjfmpaa.Gp
open Go M

abbrev Tri := Nat × Nat × Nat
/-- the tasks of the first operators, with their numbers -/
def upto (par : List Int) : Nat → List Tri
  | 0 => []
  | i + 1 => upto par i ++ (List.range (par.getD i 0).toNat).map fun s => ((upto par i).length + s, i, s)
def uptoT (par : List Int) (i t : Nat) : List Tri := upto par i ++ (List.range t).map fun s => ((upto par i).length + s, i, s)
def spotsN (par : List Int) : List Tri := upto par par.length
section
variable {par : List Int} {i j t : Nat}
theorem upto_succ : upto par (i + 1) = uptoT par i (par.getD i 0).toNat := rfl
theorem uptoT_zero : uptoT par i 0 = upto par i := by simp [uptoT]
theorem uptoT_snoc : uptoT par i (t + 1) = uptoT par i t ++ [((upto par i).length + t, i, t)] := by simp [uptoT, List.range_succ]
theorem uptoT_len : (uptoT par i t).length = (upto par i).length + t := by simp [uptoT]
theorem uptoT_pre {s : Nat} (h : s ≤ t) : uptoT par i s <+: uptoT par i t := by
  induction t with
  | zero => rw [show s = 0 by omega]; exact List.prefix_refl _
  | succ t ih =>
    by_cases e : s = t + 1
    · subst e; exact List.prefix_refl _
    · exact (ih (by omega)).trans (by rw [uptoT_snoc]; exact List.prefix_append _ _)
theorem upto_pre (h : i ≤ j) : upto par i <+: upto par j := by
  induction j with
  | zero => rw [show i = 0 by omega]; exact List.prefix_refl _
  | succ j ih =>
    by_cases e : i = j + 1
    · subst e; exact List.prefix_refl _
    · refine (ih (by omega)).trans ?_
      rw [upto_succ]; exact List.prefix_append _ _
theorem uptoT_in (hi : i < par.length) (ht : t ≤ (par.getD i 0).toNat) : uptoT par i t <+: spotsN par := by
  have h1 := uptoT_pre (par := par) (i := i) ht
  rw [← upto_succ] at h1
  exact h1.trans (upto_pre (by omega))
theorem upto_le (hi : i ≤ par.length) : (upto par i).length ≤ (spotsN par).length := (upto_pre hi).length_le
/-- each has its place for a number -/
theorem upto_num : ∀ (i k : Nat) (h : k < (upto par i).length), (upto par i)[k].1 = k
  | 0, k, h => by simp [upto] at h
  | i + 1, k, h => by
    by_cases hk : k < (upto par i).length
    · have e : (upto par (i + 1))[k] = (upto par i)[k] := by simp only [upto]; rw [List.getElem_append_left hk]
      rw [e]; exact upto_num i k hk
    · have e : (upto par (i + 1))[k] = ((upto par i).length + (k - (upto par i).length), i, k - (upto par i).length) := by
        simp only [upto]; rw [List.getElem_append_right (by omega)]; simp
      rw [e]; simp only; omega
/-- what a task is -/
theorem mem_upto : ∀ (i : Nat) (x : Tri), x ∈ upto par i → x.2.1 < i ∧ (x.2.2 : Int) < par.getD x.2.1 0
  | 0, x, h => by simp [upto] at h
  | i + 1, x, h => by
    simp only [upto, List.mem_append, List.mem_map, List.mem_range] at h
    rcases h with h | ⟨s, hs, rfl⟩
    · have := mem_upto i x h; exact ⟨by omega, this.2⟩
    · simp only; omega
theorem mem_spots {x : Tri} (h : x ∈ spotsN par) : x.2.1 < par.length ∧ (x.2.2 : Int) < par.getD x.2.1 0 := mem_upto _ _ h
end
/-- as the program holds them -/
def prs (l : List Tri) : List (Int × Int) := l.map fun x => ((x.2.1 : Int), (x.2.2 : Int))
def spotsP (par : List Int) : List (Int × Int) := prs (spotsN par)
theorem prs_len (l : List Tri) : (prs l).length = l.length := by simp [prs]
theorem prs_snoc (l : List Tri) (x : Tri) : prs (l ++ [x]) = prs l ++ [((x.2.1 : Int), (x.2.2 : Int))] := by simp [prs]
theorem spotsP_len (par : List Int) : (spotsP par).length = (spotsN par).length := prs_len _
/-- few numbers, none great -/
def Few (par : List Int) : Prop := par.length ≤ 12 ∧ ∀ x ∈ par, x ≤ 8
theorem upto_few {par : List Int} (h : ∀ x ∈ par, x ≤ 8) : ∀ i, (upto par i).length ≤ 8 * i
  | 0 => by simp [upto]
  | i + 1 => by
    have ih := upto_few h i
    have : (par.getD i 0).toNat ≤ 8 := by
      rw [List.getD_eq_getElem?_getD]
      by_cases hi : i < par.length
      · rw [List.getElem?_eq_getElem hi]
        have := h _ (List.getElem_mem hi)
        simp only [Option.getD_some]; omega
      · rw [List.getElem?_eq_none (by omega)]; simp
    simp only [upto, List.length_append, List.length_map, List.length_range]; omega
theorem Few.len {par : List Int} (h : Few par) : (spotsN par).length ≤ 96 := by
  have := upto_few h.2 par.length
  have := h.1
  unfold spotsN; omega
end Go.Proofs.Ytjinpmengjfmpaa.Gp
