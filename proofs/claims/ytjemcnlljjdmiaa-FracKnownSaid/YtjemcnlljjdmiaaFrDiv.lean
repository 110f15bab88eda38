/- A number of 128 bits by one of 64, two digits of 32 bits at a time: the plain law. No program is named. -/
import Derived.Test.YtjemcnlljjdmiaaFrPlain
namespace Go.Proofs.Ytjemcnlljjdmiaa.Fr
open Go

theorem knuth_iff {q r y1 y0 u u1 : Nat} (hr : r + q * y1 = u) : q * (y1 * 4294967296 + y0) ≤ u * 4294967296 + u1 ↔ q * y0 ≤ 4294967296 * r + u1 := by
  subst hr
  rw [Nat.mul_add, ← Nat.mul_assoc, Nat.add_mul]
  generalize q * y1 = A
  generalize q * y0 = B
  omega

/-- the digit: U / v -/
def digit (u u1 v : Nat) : Nat := (u * 4294967296 + u1) / v
theorem digit_le {q u u1 v : Nat} (hv : 0 < v) : q ≤ digit u u1 v ↔ q * v ≤ u * 4294967296 + u1 := by
  unfold digit; exact Nat.le_div_iff_mul_le hv
theorem digit_lt {u u1 v : Nat} (hu : u < v) (h1 : u1 < 4294967296) : digit u u1 v < 4294967296 := by
  unfold digit
  rw [Nat.div_lt_iff_lt_mul (by omega)]
  have : (u + 1) * 4294967296 ≤ v * 4294967296 := Nat.mul_le_mul_right _ hu
  omega

/-- what a trial digit q, with what is left r, is: not below the digit -/
structure Trial (u u1 y1 y0 q r : Nat) : Prop where
  eq : r + q * y1 = u
  ge : digit u u1 (y1 * 4294967296 + y0) ≤ q
  le : q ≤ 4294967297

theorem Trial.start {u u1 y1 y0 : Nat} (hy : 2147483648 ≤ y1) (h0 : y0 < 4294967296) (hu : u < y1 * 4294967296 + y0) (_h1 : u1 < 4294967296) :
    Trial u u1 y1 y0 (u / y1) (u % y1) := by
  have e := Nat.div_add_mod u y1
  refine ⟨by rw [Nat.mul_comm]; omega, ?_, ?_⟩
  · rcases Nat.lt_or_ge (u / y1) (digit u u1 (y1 * 4294967296 + y0)) with h | h
    · exfalso
      have h2 := (digit_le (by omega)).1 h
      have m := Nat.mod_lt u (show 0 < y1 by omega)
      have h3 : (u / y1 + 1) * (y1 * 4294967296) ≤ (u / y1 + 1) * (y1 * 4294967296 + y0) := Nat.mul_le_mul_left _ (by omega)
      have h4 : (u / y1 + 1) * (y1 * 4294967296) = (y1 * (u / y1)) * 4294967296 + y1 * 4294967296 := by rw [Nat.add_mul, Nat.one_mul, ← Nat.mul_assoc, Nat.mul_comm (u / y1) y1]
      have h5 : Nat.succ (u / y1) = u / y1 + 1 := rfl
      rw [h5] at h2
      generalize y1 * (u / y1) = A at *
      omega
    · exact h
  · have : u / y1 < 4294967298 := by
      rw [Nat.div_lt_iff_lt_mul (by omega)]; omega
    omega

/-- the trial digit is too great: it was tested so -/
theorem Trial.great {u u1 y1 y0 q r : Nat} (h : Trial u u1 y1 y0 q r) (_hy : 2147483648 ≤ y1) (hu : u < y1 * 4294967296 + y0) (h1 : u1 < 4294967296)
    (ht : 4294967296 ≤ q ∨ 4294967296 * r + u1 < q * y0) : digit u u1 (y1 * 4294967296 + y0) ≤ q - 1 ∧ 1 ≤ q := by
  rcases ht with ht | ht
  · have := digit_lt hu h1
    omega
  · have hq : ¬ q ≤ digit u u1 (y1 * 4294967296 + y0) := fun hq => by
      have := (knuth_iff h.eq).1 ((digit_le (by omega)).1 hq)
      omega
    have := h.ge
    omega

theorem Trial.next {u u1 y1 y0 q r : Nat} (h : Trial u u1 y1 y0 q r) (hy : 2147483648 ≤ y1) (hu : u < y1 * 4294967296 + y0) (h1 : u1 < 4294967296)
    (ht : 4294967296 ≤ q ∨ 4294967296 * r + u1 < q * y0) : Trial u u1 y1 y0 (q - 1) (r + y1) := by
  obtain ⟨g, g1⟩ := h.great hy hu h1 ht
  refine ⟨?_, g, by have := h.le; omega⟩
  have := h.eq
  have e : (q - 1) * y1 + y1 = q * y1 := by rw [← Nat.succ_mul]; congr 1; omega
  omega

theorem Trial.done {u u1 y1 y0 q r : Nat} (h : Trial u u1 y1 y0 q r) (hy : 2147483648 ≤ y1) (ht : q * y0 ≤ 4294967296 * r + u1) : q = digit u u1 (y1 * 4294967296 + y0) := by
  have h2 := (knuth_iff (y0 := y0) (u1 := u1) h.eq).2 ht
  have h3 := (digit_le (u := u) (u1 := u1) (show 0 < y1 * 4294967296 + y0 by omega)).2 h2
  have := h.ge
  omega

/-- it is left because what is left has grown: the digit is right then -/
theorem Trial.left {u u1 y1 y0 q r : Nat} (h : Trial u u1 y1 y0 q r) (hy : 2147483648 ≤ y1) (h0 : y0 < 4294967296) (hr : 4294967296 ≤ r) (hq : q ≤ 4294967296) : q = digit u u1 (y1 * 4294967296 + y0) := by
  apply h.done hy
  have a : q * y0 ≤ 4294967296 * 4294967295 := Nat.mul_le_mul hq (by omega)
  omega

theorem two_gen {U u0 v B : Nat} (hv : 0 < v) :
    (U * B + u0) / v = U / v * B + (U % v * B + u0) / v ∧ (U * B + u0) % v = (U % v * B + u0) % v := by
  have e := Nat.div_add_mod U v
  have e2 : U * B + u0 = (U % v * B + u0) + v * (U / v * B) := by
    have h : U * B = (v * (U / v) + U % v) * B := by rw [e]
    rw [h, Nat.add_mul, Nat.mul_assoc]
    generalize v * (U / v * B) = X
    generalize U % v * B = Y
    omega
  constructor
  · rw [e2, Nat.add_mul_div_left _ _ hv, Nat.add_comm]
  · rw [e2, Nat.add_mul_mod_self_left]

/-- two digits are the quotient -/
theorem two_digits {u u1 u0 v : Nat} (hv : 0 < v) :
    ((u * 4294967296 + u1) * 4294967296 + u0) / v = digit u u1 v * 4294967296 + digit ((u * 4294967296 + u1) % v) u0 v ∧
    ((u * 4294967296 + u1) * 4294967296 + u0) % v = (((u * 4294967296 + u1) % v) * 4294967296 + u0) % v :=
  two_gen hv

/-- shifted alike, the quotient is the same, and what is left is shifted -/
theorem shifted {n y p : Nat} (hp : 0 < p) : (n * p) / (y * p) = n / y ∧ (n * p) % (y * p) / p = n % y := by
  refine ⟨Nat.mul_div_mul_right _ _ hp, ?_⟩
  rw [Nat.mul_mod_mul_right, Nat.mul_div_cancel _ hp]
end Go.Proofs.Ytjemcnlljjdmiaa.Fr
