/- What a source needs, in plain Lean. -/
import Derived.Test.YtcechimilefihaaZo

namespace Go.Proofs.Ytcechimilefihaa.So
open Go.ChangeShapes Go.WideShapes Go.ChangeAt Go.RowKit M Sp Fr

def enMs (i b : Nat) : List Q4 := [((i : Int), (i : Int), (b : Int), ((0 : Nat) : Int)), (((1 : Nat) : Int), ((1 : Nat) : Int), ((1 : Nat) : Int), ((0 : Nat) : Int)), (((1 : Nat) : Int), ((0 : Nat) : Int), ((1 : Nat) : Int), ((0 : Nat) : Int))]
theorem mul_le {a b x y : Nat} (h : a ≤ x) (k : b ≤ y) : a * b ≤ x * y := Nat.mul_le_mul h k
theorem lim_0 (most rate : Int) : limF 8 most (lineL rate) 0 = min most 8 := by
  unfold limF
  rw [if_pos (show kindOf (lineL rate) 0 = 1 from rfl)]
  show min (min (min most 8) 8) 8 = _
  omega
theorem low_right {P Q : Nat} (hQ : 0 < Q) (h : (rightR P Q).ok = true) : Lowest (rightR P Q).n (rightR P Q).d := Lowest.of_right hQ h
theorem as_right {P Q : Nat} (h : (rightR P Q).ok = true) : (⟨(rightR P Q).n, (rightR P Q).d, true⟩ : R) = rightR P Q := (R_eta h).symm
theorem rate_right {r : Nat} (h0 : 1 ≤ r) (h1 : r ≤ 1048576) : (⟨(r : Int), 1, true⟩ : R) = rightR r 1 := by
  rw [rightR_yes (by rw [Nat.gcd_one_right, Nat.div_one]; unfold M63; omega) (by rw [Nat.gcd_one_right]; decide), Nat.gcd_one_right, Nat.div_one]; rfl
theorem enough_sol {r i b : Nat} {most : Int} (hr : 1 ≤ r ∧ r ≤ 1048576) (hi : 1 ≤ i ∧ i ≤ 1048576) (hb : 1 ≤ b ∧ b ≤ 1048576) :
    ∃ x1 x2, (solF 8 most (lineL r) (enMs i b) [1, 1, 1]).out = [cutF (ceilR ((r : Int) * b) ((i : Int) * 100)) (min most 8), x1, x2] ∧ (solF 8 most (lineL r) (enMs i b) [1, 1, 1]).first = 0 := by
  have p1 : r * i ≤ 1048576 * 1048576 := mul_le hr.2 hi.2
  have p2 : r * b ≤ 1048576 * 1048576 := mul_le hr.2 hb.2
  have n0 := need_right (P := r) (Q := 1) (i := i) (o := i) (b := b) (x := 0) (by omega) (by omega) (by omega) (by unfold M63; omega) (by unfold M63; omega) (by unfold M63; omega) (by unfold M63; omega) (by unfold M63; omega) (by unfold M63; omega)
  have n1 := need_right (P := r * i) (Q := 1 * i) (i := 1) (o := 1) (b := 1) (x := 0) (by omega) (by omega) (by omega) (by unfold M63; omega) (by unfold M63; omega) (by unfold M63; omega) (by unfold M63; omega) (by decide) (by decide)
  have n2 := need_right (P := r * i * 1) (Q := 1 * i * 1) (i := 1) (o := 0) (b := 1) (x := 0) (by omega) (by omega) (by omega) (by unfold M63; omega) (by unfold M63; omega) (by unfold M63; omega) (by unfold M63; omega) (by decide) (by decide)
  have k1 := right_ok (n := r * i) (d := 1 * i) (by unfold M63; omega) (by unfold M63; omega)
  have k2 := right_ok (n := r * i * 1) (d := 1 * i * 1) (by unfold M63; omega) (by unfold M63; omega)
  rw [← rate_right hr.1 hr.2] at n0
  rw [← as_right k1] at n1
  rw [← as_right k2] at n2
  obtain ⟨s1, s2⟩ := line_sol (rate := r) (most := most) (a := 1) (b := 1) (c := 1) n0 (low_right (by omega) k1) n1 (low_right (by omega) k2) n2
  rw [lim_0, show ((r * b : Nat) : Int) = (r : Int) * b from Int.natCast_mul r b, show ((1 * (i * 100) : Nat) : Int) = (i : Int) * 100 by rw [Nat.one_mul, Int.natCast_mul]; rfl] at s1
  exact ⟨_, _, s1, s2⟩
/-- enough, and no more than that -/
theorem enough_law {r i b : Int} {most : Int} (hi : 1 ≤ i) (hm : 1 ≤ most) : ∃ n, n = cutF (ceilR (r * b) (i * 100)) (min most 8) ∧ 1 ≤ n ∧ n ≤ min most 8 ∧ (n < min most 8 → ¬ n * 100 * i < r * b) ∧ (n = 1 ∨ (n - 1) * 100 * i < r * b) := by
  have hl : 1 ≤ min most 8 := by omega
  have hb := cut_bd (t := ceilR (r * b) (i * 100)) hl
  have hc := cut_min (t := ceilR (r * b) (i * 100)) hl
  refine ⟨_, rfl, hb.1, hb.2, fun h => ?_, ?_⟩
  · rw [hc] at h ⊢
    have h1 : ceilR (r * b) (i * 100) ≤ min (max (ceilR (r * b) (i * 100)) 1) (min most 8) := by omega
    have h2 := (ceil_le (show 0 < i * 100 by omega)).1 h1
    have e : min (max (ceilR (r * b) (i * 100)) 1) (min most 8) * 100 * i = min (max (ceilR (r * b) (i * 100)) 1) (min most 8) * (i * 100) := by rw [Int.mul_assoc, Int.mul_comm 100 i]
    rw [e]; omega
  · rw [hc]
    by_cases h1 : min (max (ceilR (r * b) (i * 100)) 1) (min most 8) = 1
    · exact .inl h1
    · right
      have h2 : ¬ ceilR (r * b) (i * 100) ≤ min (max (ceilR (r * b) (i * 100)) 1) (min most 8) - 1 := by omega
      have h3 : ¬ r * b ≤ (min (max (ceilR (r * b) (i * 100)) 1) (min most 8) - 1) * (i * 100) := fun h => h2 ((ceil_le (show 0 < i * 100 by omega)).2 h)
      have e : (min (max (ceilR (r * b) (i * 100)) 1) (min most 8) - 1) * 100 * i = (min (max (ceilR (r * b) (i * 100)) 1) (min most 8) - 1) * (i * 100) := by rw [Int.mul_assoc, Int.mul_comm 100 i]
      rw [e]; omega

end Go.Proofs.Ytcechimilefihaa.So
