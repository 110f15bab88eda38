/- Edges found each with each; where things stand of which something is so; numbers of tasks. No program in sight. -/
import Derived.Test.YtjinpmengjfmpaaGpE
import Derived.Test.YtjinpmengjfmpaaPick
namespace Go.Proofs.Ytjinpmengjfmpaa.Gp
open Go M Sp

/-- an edge from each task of an operator -/
def sel (m : Int) (n : Nat) : Nat → List (Int × Int) → List (Int × Int)
  | _, [] => []
  | p, y :: ys => if y.1 = m then ((p : Int), (n : Int)) :: sel m n (p + 1) ys else sel m n (p + 1) ys
theorem sel_append {m : Int} {n : Nat} : ∀ (p : Nat) (a b : List (Int × Int)), sel m n p (a ++ b) = sel m n p a ++ sel m n (p + a.length) b
  | p, [], b => by simp [sel]
  | p, y :: ys, b => by
    have ih := sel_append (m := m) (n := n) (p + 1) ys b
    simp only [List.cons_append, sel, ih, List.length_cons]
    rw [show p + 1 + ys.length = p + (ys.length + 1) by omega]
    split <;> simp
theorem sel_none {m : Int} {n : Nat} : ∀ (p : Nat) (L : List (Int × Int)), (∀ y ∈ L, y.1 ≠ m) → sel m n p L = []
  | _, [], _ => rfl
  | p, y :: ys, h => by
    unfold sel
    rw [if_neg (h y (by simp))]
    exact sel_none (p + 1) ys fun z hz => h z (by simp [hz])
theorem sel_all {m : Int} {n p : Nat} {f : Nat → Int} (t : Nat) : sel m n p ((List.range t).map fun s => (m, f s)) = (List.range t).map fun s => (((p + s : Nat) : Int), (n : Int)) := by
  induction t with
  | zero => rfl
  | succ t ih =>
    rw [List.range_succ, List.map_append, List.map_append, sel_append, ih]
    simp [sel]
theorem upto_rest (par : List Int) (m : Nat) : ∀ r, ∃ R, upto par (m + 1 + r) = upto par (m + 1) ++ R ∧ ∀ x ∈ R, m < x.2.1
  | 0 => ⟨[], by simp, fun x hx => absurd hx (by simp)⟩
  | r + 1 => by
    obtain ⟨R, h1, h2⟩ := upto_rest par m r
    refine ⟨R ++ (List.range (par.getD (m + 1 + r) 0).toNat).map fun s => ((upto par (m + 1 + r)).length + s, m + 1 + r, s), ?_, ?_⟩
    · show upto par (m + 1 + r + 1) = _
      simp only [upto]
      rw [← List.append_assoc]
      congr 1
    · intro x hx
      rcases List.mem_append.1 hx with hx | hx
      · exact h2 x hx
      · obtain ⟨s, -, rfl⟩ := List.mem_map.1 hx
        simp only; omega
theorem sel_spots {par : List Int} {m n : Nat} (hm : m < par.length) : sel (m : Int) n 0 (spotsP par) = edgesI par n (m : Int) (par.getD m 0).toNat := by
  obtain ⟨R, h1, h2⟩ := upto_rest par m (par.length - (m + 1))
  rw [show m + 1 + (par.length - (m + 1)) = par.length by omega] at h1
  have e : spotsP par = prs (upto par m) ++ (((List.range (par.getD m 0).toNat).map fun s : Nat => ((m : Int), (s : Int))) ++ prs R) := by
    unfold spotsP spotsN
    rw [h1, upto_succ]
    simp [prs, uptoT]
  rw [e, sel_append, sel_append, sel_none 0 (prs (upto par m)), sel_all, sel_none _ (prs R)]
  · simp only [List.nil_append, List.append_nil, prs_len, Nat.zero_add]
    rfl
  · intro y hy
    obtain ⟨x, hx, rfl⟩ := List.mem_map.1 hy
    have := h2 x hx
    simp only; omega
  · intro y hy
    obtain ⟨x, hx, rfl⟩ := List.mem_map.1 hy
    have := (mem_upto m x hx).1
    simp only; omega
theorem take_pair {L : List (Int × Int)} {j : Nat} {y : Int × Int} (hj : j < L.length) (hy : L.getD j (0, 0) = y) : L.take (j + 1) = L.take j ++ [y] := pairs_take hj hy
theorem sel_snoc {m : Int} {n : Nat} {L : List (Int × Int)} {j : Nat} {y : Int × Int} (hj : j < L.length) (hy : L.getD j (0, 0) = y) : sel m n 0 (L.take (j + 1)) = sel m n 0 (L.take j) ++ (if y.1 = m then [((j : Int), (n : Int))] else []) := by
  rw [take_pair hj hy, sel_append]
  congr 1
  rw [List.length_take, Nat.min_eq_left (by omega), Nat.zero_add]
  unfold sel
  split <;> rfl

/-- where those stand of which something is so -/
def posF (f : Int × Int → Bool) : Nat → List (Int × Int) → List Int
  | _, [] => []
  | p, y :: ys => if f y then (p : Int) :: posF f (p + 1) ys else posF f (p + 1) ys
theorem posF_append {f : Int × Int → Bool} : ∀ (p : Nat) (a b : List (Int × Int)), posF f p (a ++ b) = posF f p a ++ posF f (p + a.length) b
  | p, [], b => by simp [posF]
  | p, y :: ys, b => by
    have ih := posF_append (f := f) (p + 1) ys b
    simp only [List.cons_append, posF, ih, List.length_cons]
    rw [show p + 1 + ys.length = p + (ys.length + 1) by omega]
    split <;> simp
theorem posF_snoc {f : Int × Int → Bool} {L : List (Int × Int)} {j : Nat} {y : Int × Int} (hj : j < L.length) (hy : L.getD j (0, 0) = y) : posF f 0 (L.take (j + 1)) = posF f 0 (L.take j) ++ (if f y then [(j : Int)] else []) := by
  rw [take_pair hj hy, posF_append]
  congr 1
  rw [List.length_take, Nat.min_eq_left (by omega), Nat.zero_add]
  unfold posF
  split <;> rfl
theorem posF_len {f : Int × Int → Bool} : ∀ (p : Nat) (L : List (Int × Int)), (posF f p L).length ≤ L.length
  | _, [] => Nat.le_refl _
  | p, y :: ys => by
    have := posF_len (f := f) (p + 1) ys
    unfold posF
    split <;> simp <;> omega
def toF (task : Int) (x : Int × Int) : Bool := x.2 == task
def fromF (task : Int) (x : Int × Int) : Bool := x.1 == task
def insP (L : List (Int × Int)) (task : Int) : List Int := posF (toF task) 0 L
def outsP (L : List (Int × Int)) (task : Int) : List Int := posF (fromF task) 0 L

/-- numbers of tasks of any numbers -/
def parsF (xs : List Int) (n : Nat) : List Int := (List.range n).map fun i => if i < xs.length then 1 + pickF (xs.getD i 0) 8 else 1
theorem parsF_snoc (xs : List Int) (n : Nat) : parsF xs (n + 1) = parsF xs n ++ [if n < xs.length then 1 + pickF (xs.getD n 0) 8 else 1] := by simp [parsF, List.range_succ]
theorem parsF_len (xs : List Int) (n : Nat) : (parsF xs n).length = n := by simp [parsF]
theorem parsF_bd (xs : List Int) (n : Nat) : ∀ x ∈ parsF xs n, 1 ≤ x ∧ x ≤ 8 := by
  intro x hx
  obtain ⟨i, -, rfl⟩ := List.mem_map.1 hx
  have := pickF_bd (k := xs.getD i 0) (n := 8) (by omega)
  split <;> omega
/-- few numbers? -/
def fewB (par : List Int) : Bool := par.all (fun x => decide (x ≤ 8)) && decide (par.length ≤ 12)
theorem fewB_iff {par : List Int} : fewB par = true ↔ Few par := by
  unfold fewB Few
  simp [and_comm]
end Go.Proofs.Ytjinpmengjfmpaa.Gp
