/- Fractions and numbers of 128 bits in plain Lean: what the program's functions come to, and why both answers are one. No program is named. -/
import Derived.IntWalk
import Derived.Laws.Bits64
namespace Go.Proofs.Ytjemcnlljjdmiaa.Fr
open Go

/-! ### a number of 128 bits by its halves -/
def hiW (x : Nat) : Int := ((x / 18446744073709551616 : Nat) : Int)
def loW (x : Nat) : Int := ((x % 18446744073709551616 : Nat) : Int)
/-- modulo 2^128 -/
def m128 (x : Nat) : Nat := x % 340282366920938463463374607431768211456
def Lt128 (x : Nat) : Prop := x < 340282366920938463463374607431768211456
def Lt127 (x : Nat) : Prop := x < 170141183460469231731687303715884105728
def Lt64 (x : Nat) : Prop := x < 18446744073709551616

theorem m128_lt (x : Nat) : Lt128 (m128 x) := Nat.mod_lt _ (by decide)
theorem m128_id {x : Nat} (h : Lt128 x) : m128 x = x := Nat.mod_eq_of_lt h
theorem hi_bd {x : Nat} (h : Lt128 x) : 0 ≤ hiW x ∧ hiW x ≤ 18446744073709551615 := by unfold Lt128 at h; unfold hiW; omega
theorem lo_bd (x : Nat) : 0 ≤ loW x ∧ loW x ≤ 18446744073709551615 := by unfold loW; omega
theorem small_hi {x : Nat} (h : Lt64 x) : hiW x = 0 := by unfold Lt64 at h; unfold hiW; omega
theorem small_lo {x : Nat} (h : Lt64 x) : loW x = x := by unfold Lt64 at h; unfold loW; omega

theorem plus_lo (x y : Nat) : IntKind.u64.wrap (loW x + loW y) = loW (m128 (x + y)) := by
  rw [IntKind.wrap_u64]; unfold loW m128; omega
theorem plus_hi {x y : Nat} (h : ¬ loW (m128 (x + y)) < loW x) : IntKind.u64.wrap (hiW x + hiW y) = hiW (m128 (x + y)) := by
  rw [IntKind.wrap_u64]; unfold loW m128 at h; unfold hiW m128; omega
theorem plus_carry {x y : Nat} (h : loW (m128 (x + y)) < loW x) : IntKind.u64.wrap (IntKind.u64.wrap (hiW x + hiW y) + 1) = hiW (m128 (x + y)) := by
  rw [IntKind.wrap_u64, IntKind.wrap_u64]; unfold loW m128 at h; unfold hiW m128; omega
theorem minus_lo {x y : Nat} (hy : y ≤ x) : IntKind.u64.wrap (loW x - loW y) = loW (x - y) := by
  rw [IntKind.wrap_u64]; unfold loW; omega
theorem minus_hi {x y : Nat} (hx : Lt128 x) (hy : y ≤ x) (h : ¬ loW x < loW y) : IntKind.u64.wrap (hiW x - hiW y) = hiW (x - y) := by
  rw [IntKind.wrap_u64]; unfold Lt128 at hx; unfold loW at h; unfold hiW; omega
theorem minus_borrow {x y : Nat} (hx : Lt128 x) (hy : y ≤ x) (h : loW x < loW y) : IntKind.u64.wrap (IntKind.u64.wrap (hiW x - hiW y) - 1) = hiW (x - y) := by
  rw [IntKind.wrap_u64, IntKind.wrap_u64]; unfold Lt128 at hx; unfold loW at h; unfold hiW; omega
theorem less_iff {x y : Nat} : x < y ↔ (hiW x < hiW y ∨ (hiW x = hiW y ∧ loW x < loW y)) := by
  unfold hiW loW; omega
theorem same_iff {x y : Nat} : x = y ↔ (hiW x = hiW y ∧ loW x = loW y) := by unfold hiW loW; omega

/-! ### Euclid's steps -/
theorem mod_half {a b : Nat} (h0 : 0 < b) (h : b < a) : 2 * (a % b) < a := by
  have h1 := Nat.mod_lt a h0
  have h2 := Nat.div_add_mod a b
  have h3 : 1 ≤ a / b := (Nat.one_le_div_iff h0).2 (by omega)
  have h4 : b * 1 ≤ b * (a / b) := Nat.mul_le_mul_left b h3
  omega

/-- behind i steps: how small the second number is -/
def Step (i a b : Nat) : Prop := ∃ j, (i = 2 * j ∧ b * 2 ^ j < 170141183460469231731687303715884105728) ∨ (i = 2 * j + 1 ∧ b < a ∧ a * 2 ^ j < 170141183460469231731687303715884105728)
theorem Step.start {a b : Nat} (h : Lt127 b) : Step 0 a b := ⟨0, .inl ⟨rfl, by unfold Lt127 at h; omega⟩⟩
theorem Step.next {i a b : Nat} (h : Step i a b) (hb : 0 < b) : Step (i + 1) b (a % b) := by
  obtain ⟨j, ⟨rfl, h1⟩ | ⟨rfl, h1, h2⟩⟩ := h
  · exact ⟨j, .inr ⟨rfl, Nat.mod_lt _ hb, h1⟩⟩
  · refine ⟨j + 1, .inl ⟨by omega, ?_⟩⟩
    have := mod_half hb h1
    rw [Nat.pow_succ, ← Nat.mul_assoc, Nat.mul_right_comm]
    exact Nat.lt_of_le_of_lt (Nat.mul_le_mul_right _ (by omega)) h2
theorem Step.few {i a b : Nat} (h : Step i a b) (hb : 0 < b) : i < 299 := by
  rcases Nat.lt_or_ge i 299 with h' | h'
  · exact h'
  · exfalso
    obtain ⟨j, ⟨rfl, h1⟩ | ⟨rfl, h1, h2⟩⟩ := h
    · have : (2 : Nat) ^ 127 ≤ 2 ^ j := Nat.pow_le_pow_right (by omega) (by omega)
      have h3 : 1 * 2 ^ j ≤ b * 2 ^ j := Nat.mul_le_mul_right _ hb
      have : (2 : Nat) ^ 127 = 170141183460469231731687303715884105728 := by decide
      omega
    · have : (2 : Nat) ^ 127 ≤ 2 ^ j := Nat.pow_le_pow_right (by omega) (by omega)
      have h3 : 1 * 2 ^ j ≤ a * 2 ^ j := Nat.mul_le_mul_right _ (by omega)
      have : (2 : Nat) ^ 127 = 170141183460469231731687303715884105728 := by decide
      omega
theorem gcd_step (a b : Nat) : Nat.gcd b (a % b) = Nat.gcd a b := by
  rw [Nat.gcd_comm b, ← Nat.gcd_rec b a, Nat.gcd_comm]

/-! ### right fractions -/
/-- a result: numerator, denominator, and whether it can be told -/
structure R where
  n : Int
  d : Int
  ok : Bool
def M63 : Nat := 9223372036854775807
def bigB (p q : Nat) : Bool := decide (M63 < p) || decide (M63 < q)
/-- n by d in lowest terms -/
def rightR (n d : Nat) : R := if bigB (n / Nat.gcd n d) (d / Nat.gcd n d) then ⟨0, 0, false⟩ else ⟨((n / Nat.gcd n d : Nat) : Int), ((d / Nat.gcd n d : Nat) : Int), true⟩
def ofR (n d : Int) : R := if n < 0 ∨ d < 1 then ⟨0, 0, false⟩ else rightR n.toNat d.toNat
def timesR (a b c d : Int) : R := rightR (a.toNat * c.toNat) (b.toNat * d.toNat)
def plusR (a b c d : Int) : R := rightR (a.toNat * d.toNat + c.toNat * b.toNat) (b.toNat * d.toNat)
def cmpR (a b c d : Int) : Int := if a * d = c * b then 0 else if a * d < c * b then -1 else 1
def ceilR (a b : Int) : Int := (a + b - 1) / b

/-- n by d is in lowest terms, and can be told -/
def Lowest (n d : Int) : Prop := 0 ≤ n ∧ n ≤ 9223372036854775807 ∧ 1 ≤ d ∧ d ≤ 9223372036854775807 ∧ Nat.gcd n.toNat d.toNat = 1

theorem rightR_no {n d : Nat} (h : M63 < n / Nat.gcd n d ∨ M63 < d / Nat.gcd n d) : rightR n d = ⟨0, 0, false⟩ := by
  unfold rightR bigB; rw [if_pos (by simpa using h)]
theorem rightR_yes {n d : Nat} (h1 : n / Nat.gcd n d ≤ M63) (h2 : d / Nat.gcd n d ≤ M63) : rightR n d = ⟨((n / Nat.gcd n d : Nat) : Int), ((d / Nat.gcd n d : Nat) : Int), true⟩ := by
  unfold rightR bigB; rw [if_neg (by simp; omega)]

theorem gcd_div {n d : Nat} (h : 0 < d) : Nat.gcd (n / Nat.gcd n d) (d / Nat.gcd n d) = 1 :=
  Nat.gcd_div_gcd_div_gcd_of_pos_right h

theorem Lowest.of_right {n d : Nat} (hd : 0 < d) (h : (rightR n d).ok = true) : Lowest (rightR n d).n (rightR n d).d := by
  by_cases hb : M63 < n / Nat.gcd n d ∨ M63 < d / Nat.gcd n d
  · rw [rightR_no hb] at h; cases h
  · have h1 : n / Nat.gcd n d ≤ M63 := by omega
    have h2 : d / Nat.gcd n d ≤ M63 := by omega
    have hg : 0 < Nat.gcd n d := Nat.gcd_pos_of_pos_right _ hd
    have hq : 0 < d / Nat.gcd n d := Nat.div_pos (Nat.le_of_dvd hd (Nat.gcd_dvd_right n d)) hg
    rw [rightR_yes h1 h2]
    unfold M63 at h1 h2
    refine ⟨Int.natCast_nonneg _, by show ((n / Nat.gcd n d : Nat) : Int) ≤ _; omega, by show _ ≤ ((d / Nat.gcd n d : Nat) : Int); omega, by show ((d / Nat.gcd n d : Nat) : Int) ≤ _; omega, ?_⟩
    show Nat.gcd ((n / Nat.gcd n d : Nat) : Int).toNat ((d / Nat.gcd n d : Nat) : Int).toNat = 1
    rw [Int.toNat_natCast, Int.toNat_natCast]
    exact gcd_div hd

/-- what a product of two right fractions is, as the program makes it -/
theorem gcd_times {a b c d : Nat} (hb : 0 < b) (hd : 0 < d) (hab : Nat.gcd a b = 1) (hcd : Nat.gcd c d = 1) :
    Nat.gcd (a * c) (b * d) = Nat.gcd a d * Nat.gcd c b := by
  have hg : 0 < Nat.gcd a d := Nat.gcd_pos_of_pos_right _ hd
  have hh : 0 < Nat.gcd c b := Nat.gcd_pos_of_pos_right _ hb
  obtain ⟨a', ha⟩ := Nat.gcd_dvd_left a d
  obtain ⟨d', hd'⟩ := Nat.gcd_dvd_right a d
  obtain ⟨c', hc⟩ := Nat.gcd_dvd_left c b
  obtain ⟨b', hb'⟩ := Nat.gcd_dvd_right c b
  have c1 : Nat.Coprime a' d' := by
    have : Nat.gcd (Nat.gcd a d * a') (Nat.gcd a d * d') = Nat.gcd a d := by rw [← ha, ← hd']
    rw [Nat.gcd_mul_left] at this
    exact Nat.eq_of_mul_eq_mul_left hg (by rw [this, Nat.mul_one])
  have c2 : Nat.Coprime c' b' := by
    have : Nat.gcd (Nat.gcd c b * c') (Nat.gcd c b * b') = Nat.gcd c b := by rw [← hc, ← hb']
    rw [Nat.gcd_mul_left] at this
    exact Nat.eq_of_mul_eq_mul_left hh (by rw [this, Nat.mul_one])
  have c3 : Nat.Coprime a' b' := Nat.Coprime.coprime_dvd_left ⟨Nat.gcd a d, by rw [Nat.mul_comm]; exact ha⟩ (Nat.Coprime.coprime_dvd_right ⟨Nat.gcd c b, by rw [Nat.mul_comm]; exact hb'⟩ hab)
  have c4 : Nat.Coprime c' d' := Nat.Coprime.coprime_dvd_left ⟨Nat.gcd c b, by rw [Nat.mul_comm]; exact hc⟩ (Nat.Coprime.coprime_dvd_right ⟨Nat.gcd a d, by rw [Nat.mul_comm]; exact hd'⟩ hcd)
  have c5 : Nat.Coprime (a' * c') (b' * d') := Nat.Coprime.mul_left (Nat.Coprime.mul_right c3 c1) (Nat.Coprime.mul_right c2 c4)
  have e1 : a * c = (Nat.gcd a d * Nat.gcd c b) * (a' * c') := by
    have h1 : a * c = (Nat.gcd a d * a') * (Nat.gcd c b * c') := by rw [← ha, ← hc]
    rw [h1]; ac_rfl
  have e2 : b * d = (Nat.gcd a d * Nat.gcd c b) * (b' * d') := by
    have h1 : b * d = (Nat.gcd c b * b') * (Nat.gcd a d * d') := by rw [← hb', ← hd']
    rw [h1]; ac_rfl
  rw [e1, e2, Nat.gcd_mul_left, c5.gcd_eq_one, Nat.mul_one]

/-- the sum of two right fractions: what n is, and what it has in common with the denominator -/
theorem gcd_plus {a b c d : Nat} (_hb : 0 < b) (hd : 0 < d) (hab : Nat.gcd a b = 1) (hcd : Nat.gcd c d = 1) :
    Nat.gcd (a * d + c * b) (b * d) = Nat.gcd b d * Nat.gcd (a * (d / Nat.gcd b d) + c * (b / Nat.gcd b d)) (Nat.gcd b d) ∧
    a * d + c * b = Nat.gcd b d * (a * (d / Nat.gcd b d) + c * (b / Nat.gcd b d)) := by
  have hg : 0 < Nat.gcd b d := Nat.gcd_pos_of_pos_right _ hd
  obtain ⟨b', hb'⟩ := Nat.gcd_dvd_left b d
  obtain ⟨d', hd'⟩ := Nat.gcd_dvd_right b d
  have eb : b / Nat.gcd b d = b' := by
    have : b / Nat.gcd b d = Nat.gcd b d * b' / Nat.gcd b d := by rw [← hb']
    rw [this, Nat.mul_div_cancel_left _ hg]
  have ed : d / Nat.gcd b d = d' := by
    have : d / Nat.gcd b d = Nat.gcd b d * d' / Nat.gcd b d := by rw [← hd']
    rw [this, Nat.mul_div_cancel_left _ hg]
  rw [eb, ed]
  have c1 : Nat.Coprime b' d' := by
    have : Nat.gcd (Nat.gcd b d * b') (Nat.gcd b d * d') = Nat.gcd b d := by rw [← hb', ← hd']
    rw [Nat.gcd_mul_left] at this
    exact Nat.eq_of_mul_eq_mul_left hg (by rw [this, Nat.mul_one])
  have c2 : Nat.Coprime a b' := Nat.Coprime.coprime_dvd_right ⟨Nat.gcd b d, by rw [Nat.mul_comm]; exact hb'⟩ hab
  have c3 : Nat.Coprime c d' := Nat.Coprime.coprime_dvd_right ⟨Nat.gcd b d, by rw [Nat.mul_comm]; exact hd'⟩ hcd
  have e1 : a * d + c * b = Nat.gcd b d * (a * d' + c * b') := by
    have h1 : a * d + c * b = a * (Nat.gcd b d * d') + c * (Nat.gcd b d * b') := by rw [← hb', ← hd']
    rw [h1, Nat.mul_add]
    have : ∀ x y z : Nat, x * (y * z) = y * (x * z) := fun x y z => by ac_rfl
    rw [this, this c]
  have e2 : b * d = Nat.gcd b d * (b' * d' * Nat.gcd b d) := by
    have h1 : b * d = (Nat.gcd b d * b') * (Nat.gcd b d * d') := by rw [← hb', ← hd']
    rw [h1]; ac_rfl
  have c4 : Nat.Coprime (a * d' + c * b') b' := by
    unfold Nat.Coprime
    rw [Nat.gcd_add_mul_right_left]
    exact Nat.Coprime.mul_left c2 c1.symm
  have c5 : Nat.Coprime (a * d' + c * b') d' := by
    unfold Nat.Coprime
    rw [Nat.add_comm, Nat.gcd_add_mul_right_left]
    exact Nat.Coprime.mul_left c3 c1
  refine ⟨?_, e1⟩
  rw [e1, e2, Nat.gcd_mul_left]
  congr 1
  have c6 : Nat.Coprime (a * d' + c * b') (b' * d') := Nat.Coprime.mul_right c4 c5
  exact Nat.Coprime.gcd_mul_left_cancel_right _ c6.symm
end Go.Proofs.Ytjemcnlljjdmiaa.Fr
