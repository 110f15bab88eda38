/- Of a greater rate, and of a greater cost, what the line needs, in plain Lean. -/
import Derived.Test.YtcechimilefihaaSoEY

namespace Go.Proofs.Ytcechimilefihaa.So
open Go.ChangeShapes Go.WideShapes Go.ChangeAt Go.RowKit M Sp Fr

def moMs (i o b b1 : Nat) : List Q4 := [((i : Int), (o : Int), (b : Int), ((0 : Nat) : Int)), (((7 : Nat) : Int), (o : Int), (b1 : Int), ((0 : Nat) : Int)), ((i : Int), ((0 : Nat) : Int), ((9 : Nat) : Int), ((0 : Nat) : Int))]
theorem lim_1 (most rate : Int) : limF 8 most (lineL rate) 1 = min most 8 := by
  unfold limF
  rw [if_neg (show kindOf (lineL rate) 1 ≠ 1 from by show (2 : Int) ≠ 1; decide)]
  omega
theorem lim_2 (most rate : Int) : limF 8 most (lineL rate) 2 = min most 8 := by
  unfold limF
  rw [if_neg (show kindOf (lineL rate) 2 ≠ 1 from by show (8 : Int) ≠ 1; decide)]
  omega
def needC (p q : Nat) (most : Int) : Int := cutF (ceilR ((p : Nat) : Int) ((q : Nat) : Int)) (min most 8)
theorem more_sol {r i o b b1 : Nat} {most : Int} (hr : 1 ≤ r ∧ r ≤ 1048576) (hi : 1 ≤ i ∧ i ≤ 1024) (ho : o ≤ 1024) (hb : 1 ≤ b ∧ b ≤ 1024) (hb1 : 1 ≤ b1 ∧ b1 ≤ 2048) :
    (solF 8 most (lineL r) (moMs i o b b1) [1, 1, 1]).out = [needC (r * b) (1 * (i * 100)) most, needC (r * o * b1) (1 * i * (7 * 100)) most, needC (r * o * o * 9) (1 * i * 7 * (i * 100)) most] ∧ (solF 8 most (lineL r) (moMs i o b b1) [1, 1, 1]).first = 0 := by
  have p1 : r * o ≤ 1048576 * 1024 := mul_le hr.2 ho
  have p2 : r * b ≤ 1048576 * 1024 := mul_le hr.2 hb.2
  have p3 : r * o * o ≤ 1048576 * 1024 * 1024 := mul_le p1 ho
  have p4 : r * o * b1 ≤ 1048576 * 1024 * 2048 := mul_le p1 hb1.2
  have p5 : 1 * i * 7 * i ≤ 7168 * 1024 := mul_le (by omega) hi.2
  have n0 := need_right (P := r) (Q := 1) (i := i) (o := o) (b := b) (x := 0) (by omega) (by omega) (by omega) (by unfold M63; omega) (by unfold M63; omega) (by unfold M63; omega) (by unfold M63; omega) (by unfold M63; omega) (by unfold M63; omega)
  have n1 := need_right (P := r * o) (Q := 1 * i) (i := 7) (o := o) (b := b1) (x := 0) (by omega) (by omega) (by omega) (by unfold M63; omega) (by unfold M63; omega) (by unfold M63; omega) (by unfold M63; omega) (by unfold M63; omega) (by unfold M63; omega)
  have n2 := need_right (P := r * o * o) (Q := 1 * i * 7) (i := i) (o := 0) (b := 9) (x := 0) (by omega) (by omega) (by omega) (by unfold M63; omega) (by unfold M63; omega) (by unfold M63; omega) (by unfold M63; omega) (by unfold M63; omega) (by unfold M63; omega)
  have k1 := right_ok (n := r * o) (d := 1 * i) (by unfold M63; omega) (by unfold M63; omega)
  have k2 := right_ok (n := r * o * o) (d := 1 * i * 7) (by unfold M63; omega) (by unfold M63; omega)
  rw [← rate_right hr.1 hr.2] at n0
  rw [← as_right k1] at n1
  rw [← as_right k2] at n2
  obtain ⟨s1, s2⟩ := line_sol (rate := r) (most := most) (a := 1) (b := 1) (c := 1) n0 (low_right (by omega) k1) n1 (low_right (by omega) k2) n2
  rw [lim_0, lim_1, lim_2] at s1
  exact ⟨s1, s2⟩
theorem need_mono {p p' q : Nat} {most : Int} (hm : 1 ≤ most) (hq : 0 < q) (h : p ≤ p') : needC p q most ≤ needC p' q most :=
  cut_mono (by omega) (ceil_mono (by omega) (by omega))

/-- the three answers -/
theorem more_law {rate more i o b b1 most : Int} (hr : 1 ≤ rate) (hm : 0 ≤ more) (hrm : rate + more ≤ 1048576) (hi : 1 ≤ i ∧ i ≤ 1024) (ho : 0 ≤ o ∧ o ≤ 1024) (hb : 1 ≤ b ∧ b ≤ 1024) (hb1 : b ≤ b1 ∧ b1 ≤ 2048) (hmo : 1 ≤ most) :
    ∃ a0 a1 a2 d0 d1 d2 e1, ((solF 8 most (lineL rate) [(i, o, b, 0), (7, o, b, 0), (i, 0, 9, 0)] [1, 1, 1]).out = [a0, a1, a2] ∧ (solF 8 most (lineL rate) [(i, o, b, 0), (7, o, b, 0), (i, 0, 9, 0)] [1, 1, 1]).first = 0)
      ∧ ((solF 8 most (lineL (rate + more)) [(i, o, b, 0), (7, o, b, 0), (i, 0, 9, 0)] [1, 1, 1]).out = [d0, d1, d2] ∧ (solF 8 most (lineL (rate + more)) [(i, o, b, 0), (7, o, b, 0), (i, 0, 9, 0)] [1, 1, 1]).first = 0)
      ∧ ((solF 8 most (lineL rate) [(i, o, b, 0), (7, o, b1, 0), (i, 0, 9, 0)] [1, 1, 1]).out = [a0, e1, a2] ∧ (solF 8 most (lineL rate) [(i, o, b, 0), (7, o, b1, 0), (i, 0, 9, 0)] [1, 1, 1]).first = 0)
      ∧ a0 ≤ d0 ∧ a1 ≤ d1 ∧ a2 ≤ d2 ∧ a1 ≤ e1 := by
  obtain ⟨r', rfl⟩ : ∃ r' : Nat, rate = r' := ⟨rate.toNat, by omega⟩
  obtain ⟨m', rfl⟩ : ∃ m' : Nat, more = m' := ⟨more.toNat, by omega⟩
  obtain ⟨i', rfl⟩ : ∃ i' : Nat, i = i' := ⟨i.toNat, by omega⟩
  obtain ⟨o', rfl⟩ : ∃ o' : Nat, o = o' := ⟨o.toNat, by omega⟩
  obtain ⟨b', rfl⟩ : ∃ b' : Nat, b = b' := ⟨b.toNat, by omega⟩
  obtain ⟨c', rfl⟩ : ∃ c' : Nat, b1 = c' := ⟨b1.toNat, by omega⟩
  have s1 := more_sol (r := r') (i := i') (o := o') (b := b') (b1 := b') (most := most) (by omega) (by omega) (by omega) (by omega) (by omega)
  have s2 := more_sol (r := r' + m') (i := i') (o := o') (b := b') (b1 := b') (most := most) (by omega) (by omega) (by omega) (by omega) (by omega)
  have s3 := more_sol (r := r') (i := i') (o := o') (b := b') (b1 := c') (most := most) (by omega) (by omega) (by omega) (by omega) (by omega)
  have q1 : 0 < 1 * i' * 7 * (i' * 100) := Nat.mul_pos (by omega) (by omega)
  have l0 : r' * b' ≤ (r' + m') * b' := Nat.mul_le_mul (by omega) (by omega)
  have l1 : r' * o' ≤ (r' + m') * o' := Nat.mul_le_mul (by omega) (by omega)
  have l2 : r' * o' * o' ≤ (r' + m') * o' * o' := Nat.mul_le_mul l1 (by omega)
  refine ⟨_, _, _, _, _, _, _, s1, ?_, s3, need_mono hmo (by omega) l0, need_mono hmo (by omega) (Nat.mul_le_mul l1 (Nat.le_refl _)), need_mono hmo q1 (Nat.mul_le_mul l2 (Nat.le_refl _)), need_mono hmo (by omega) (Nat.mul_le_mul (Nat.le_refl _) (by omega))⟩
  rw [← Int.natCast_add]
  exact s2
end Go.Proofs.Ytcechimilefihaa.So
