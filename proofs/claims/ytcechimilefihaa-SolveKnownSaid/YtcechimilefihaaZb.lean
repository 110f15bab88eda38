/- Fractions and numbers of 128 bits in plain Lean: what the program's functions come to, and why both answers are one. No program is named. What the program's and the document's functions on ints return, each from any memory, which they leave as it is: sums, products, common divisors. What the program's functions on ints return: products of 128 bits, products, the greatest common divisor, fractions. Fractions, as the program makes and compares them. Fractions: products. A number of 128 bits by one of 64, two digits of 32 bits at a time: the plain law. No program is named. Division of 128 bits by 64, as the library's text does it. Division of 128 bits by 64. -/
import Derived.IntWalk
import Derived.Laws.Bits64
import Derived.Test.YtcechimilefihaaRows
import Derived.Test.YtcechimilefihaaZa
import Derived.WalkKit
import Derived.ProofKit
import Derived.OpenShut
import Derived.Outline
import Derived.Handy
import Derived.WalkLawsBesides
import Derived.Lib.Hide
import Derived.Lib.Mul64
import Derived.Laws.Bits64b
import Derived.Shelf.Bits.Mul64
import Derived.Deep.QuietTactic
import Derived.BigQuiet
import Derived.RegionTactic
import Derived.BigRegion
import Derived.Deep.RegionHeld3
import Derived.Deep.DeepCutAuto
import Derived.StillTailTactics
import Derived.Lib.Strings
import Derived.Lib.Slices
import Derived.Lib.Small
import Derived.Lib.Walk
import Derived.Lib.BitFns
import Derived.Lib.ItoaNum

namespace Go.Proofs.Ytcechimilefihaa.Fr
open Go

/-! ### a number of 128 bits by its halves -/
def hiW (x : Nat) : Int := ((x / 18446744073709551616 : Nat) : Int)
def loW (x : Nat) : Int := ((x % 18446744073709551616 : Nat) : Int)
/-- modulo 2^128 -/
def m128 (x : Nat) : Nat := x % 340282366920938463463374607431768211456
def Lt128 (x : Nat) : Prop := x < 340282366920938463463374607431768211456
def Lt127 (x : Nat) : Prop := x < 170141183460469231731687303715884105728
def Lt64 (x : Nat) : Prop := x < 18446744073709551616

theorem m128_lt (x : Nat) : Lt128 (m128 x) := Nat.mod_lt _ (by decide)
theorem m128_id {x : Nat} (h : Lt128 x) : m128 x = x := Nat.mod_eq_of_lt h
theorem hi_bd {x : Nat} (h : Lt128 x) : 0 ≤ hiW x ∧ hiW x ≤ 18446744073709551615 := by unfold Lt128 at h; unfold hiW; omega
theorem lo_bd (x : Nat) : 0 ≤ loW x ∧ loW x ≤ 18446744073709551615 := by unfold loW; omega
theorem small_hi {x : Nat} (h : Lt64 x) : hiW x = 0 := by unfold Lt64 at h; unfold hiW; omega
theorem small_lo {x : Nat} (h : Lt64 x) : loW x = x := by unfold Lt64 at h; unfold loW; omega

theorem plus_lo (x y : Nat) : IntKind.u64.wrap (loW x + loW y) = loW (m128 (x + y)) := by
  rw [IntKind.wrap_u64]; unfold loW m128; omega
theorem plus_hi {x y : Nat} (h : ¬ loW (m128 (x + y)) < loW x) : IntKind.u64.wrap (hiW x + hiW y) = hiW (m128 (x + y)) := by
  rw [IntKind.wrap_u64]; unfold loW m128 at h; unfold hiW m128; omega
theorem plus_carry {x y : Nat} (h : loW (m128 (x + y)) < loW x) : IntKind.u64.wrap (IntKind.u64.wrap (hiW x + hiW y) + 1) = hiW (m128 (x + y)) := by
  rw [IntKind.wrap_u64, IntKind.wrap_u64]; unfold loW m128 at h; unfold hiW m128; omega
theorem minus_lo {x y : Nat} (hy : y ≤ x) : IntKind.u64.wrap (loW x - loW y) = loW (x - y) := by
  rw [IntKind.wrap_u64]; unfold loW; omega
theorem minus_hi {x y : Nat} (hx : Lt128 x) (hy : y ≤ x) (h : ¬ loW x < loW y) : IntKind.u64.wrap (hiW x - hiW y) = hiW (x - y) := by
  rw [IntKind.wrap_u64]; unfold Lt128 at hx; unfold loW at h; unfold hiW; omega
theorem minus_borrow {x y : Nat} (hx : Lt128 x) (hy : y ≤ x) (h : loW x < loW y) : IntKind.u64.wrap (IntKind.u64.wrap (hiW x - hiW y) - 1) = hiW (x - y) := by
  rw [IntKind.wrap_u64, IntKind.wrap_u64]; unfold Lt128 at hx; unfold loW at h; unfold hiW; omega
theorem less_iff {x y : Nat} : x < y ↔ (hiW x < hiW y ∨ (hiW x = hiW y ∧ loW x < loW y)) := by
  unfold hiW loW; omega
theorem same_iff {x y : Nat} : x = y ↔ (hiW x = hiW y ∧ loW x = loW y) := by unfold hiW loW; omega

/-! ### Euclid's steps -/
theorem mod_half {a b : Nat} (h0 : 0 < b) (h : b < a) : 2 * (a % b) < a := by
  have h1 := Nat.mod_lt a h0
  have h2 := Nat.div_add_mod a b
  have h3 : 1 ≤ a / b := (Nat.one_le_div_iff h0).2 (by omega)
  have h4 : b * 1 ≤ b * (a / b) := Nat.mul_le_mul_left b h3
  omega

/-- behind i steps: how small the second number is -/
def Step (i a b : Nat) : Prop := ∃ j, (i = 2 * j ∧ b * 2 ^ j < 170141183460469231731687303715884105728) ∨ (i = 2 * j + 1 ∧ b < a ∧ a * 2 ^ j < 170141183460469231731687303715884105728)
theorem Step.start {a b : Nat} (h : Lt127 b) : Step 0 a b := ⟨0, .inl ⟨rfl, by unfold Lt127 at h; omega⟩⟩
theorem Step.next {i a b : Nat} (h : Step i a b) (hb : 0 < b) : Step (i + 1) b (a % b) := by
  obtain ⟨j, ⟨rfl, h1⟩ | ⟨rfl, h1, h2⟩⟩ := h
  · exact ⟨j, .inr ⟨rfl, Nat.mod_lt _ hb, h1⟩⟩
  · refine ⟨j + 1, .inl ⟨by omega, ?_⟩⟩
    have := mod_half hb h1
    rw [Nat.pow_succ, ← Nat.mul_assoc, Nat.mul_right_comm]
    exact Nat.lt_of_le_of_lt (Nat.mul_le_mul_right _ (by omega)) h2
theorem Step.few {i a b : Nat} (h : Step i a b) (hb : 0 < b) : i < 299 := by
  rcases Nat.lt_or_ge i 299 with h' | h'
  · exact h'
  · exfalso
    obtain ⟨j, ⟨rfl, h1⟩ | ⟨rfl, h1, h2⟩⟩ := h
    · have : (2 : Nat) ^ 127 ≤ 2 ^ j := Nat.pow_le_pow_right (by omega) (by omega)
      have h3 : 1 * 2 ^ j ≤ b * 2 ^ j := Nat.mul_le_mul_right _ hb
      have : (2 : Nat) ^ 127 = 170141183460469231731687303715884105728 := by decide
      omega
    · have : (2 : Nat) ^ 127 ≤ 2 ^ j := Nat.pow_le_pow_right (by omega) (by omega)
      have h3 : 1 * 2 ^ j ≤ a * 2 ^ j := Nat.mul_le_mul_right _ (by omega)
      have : (2 : Nat) ^ 127 = 170141183460469231731687303715884105728 := by decide
      omega
theorem gcd_step (a b : Nat) : Nat.gcd b (a % b) = Nat.gcd a b := by
  rw [Nat.gcd_comm b, ← Nat.gcd_rec b a, Nat.gcd_comm]

/-! ### right fractions -/
/-- a result: numerator, denominator, and whether it can be told -/
structure R where
  n : Int
  d : Int
  ok : Bool
def M63 : Nat := 9223372036854775807
def bigB (p q : Nat) : Bool := decide (M63 < p) || decide (M63 < q)
/-- n by d in lowest terms -/
def rightR (n d : Nat) : R := if bigB (n / Nat.gcd n d) (d / Nat.gcd n d) then ⟨0, 0, false⟩ else ⟨((n / Nat.gcd n d : Nat) : Int), ((d / Nat.gcd n d : Nat) : Int), true⟩
def ofR (n d : Int) : R := if n < 0 ∨ d < 1 then ⟨0, 0, false⟩ else rightR n.toNat d.toNat
def timesR (a b c d : Int) : R := rightR (a.toNat * c.toNat) (b.toNat * d.toNat)
def plusR (a b c d : Int) : R := rightR (a.toNat * d.toNat + c.toNat * b.toNat) (b.toNat * d.toNat)
def cmpR (a b c d : Int) : Int := if a * d = c * b then 0 else if a * d < c * b then -1 else 1
def ceilR (a b : Int) : Int := (a + b - 1) / b

/-- n by d is in lowest terms, and can be told -/
def Lowest (n d : Int) : Prop := 0 ≤ n ∧ n ≤ 9223372036854775807 ∧ 1 ≤ d ∧ d ≤ 9223372036854775807 ∧ Nat.gcd n.toNat d.toNat = 1

theorem rightR_no {n d : Nat} (h : M63 < n / Nat.gcd n d ∨ M63 < d / Nat.gcd n d) : rightR n d = ⟨0, 0, false⟩ := by
  unfold rightR bigB; rw [if_pos (by simpa using h)]
theorem rightR_yes {n d : Nat} (h1 : n / Nat.gcd n d ≤ M63) (h2 : d / Nat.gcd n d ≤ M63) : rightR n d = ⟨((n / Nat.gcd n d : Nat) : Int), ((d / Nat.gcd n d : Nat) : Int), true⟩ := by
  unfold rightR bigB; rw [if_neg (by simp; omega)]

theorem gcd_div {n d : Nat} (h : 0 < d) : Nat.gcd (n / Nat.gcd n d) (d / Nat.gcd n d) = 1 :=
  Nat.gcd_div_gcd_div_gcd_of_pos_right h

theorem Lowest.of_right {n d : Nat} (hd : 0 < d) (h : (rightR n d).ok = true) : Lowest (rightR n d).n (rightR n d).d := by
  by_cases hb : M63 < n / Nat.gcd n d ∨ M63 < d / Nat.gcd n d
  · rw [rightR_no hb] at h; cases h
  · have h1 : n / Nat.gcd n d ≤ M63 := by omega
    have h2 : d / Nat.gcd n d ≤ M63 := by omega
    have hg : 0 < Nat.gcd n d := Nat.gcd_pos_of_pos_right _ hd
    have hq : 0 < d / Nat.gcd n d := Nat.div_pos (Nat.le_of_dvd hd (Nat.gcd_dvd_right n d)) hg
    rw [rightR_yes h1 h2]
    unfold M63 at h1 h2
    refine ⟨Int.natCast_nonneg _, by show ((n / Nat.gcd n d : Nat) : Int) ≤ _; omega, by show _ ≤ ((d / Nat.gcd n d : Nat) : Int); omega, by show ((d / Nat.gcd n d : Nat) : Int) ≤ _; omega, ?_⟩
    show Nat.gcd ((n / Nat.gcd n d : Nat) : Int).toNat ((d / Nat.gcd n d : Nat) : Int).toNat = 1
    rw [Int.toNat_natCast, Int.toNat_natCast]
    exact gcd_div hd

/-- what a product of two right fractions is, as the program makes it -/
theorem gcd_times {a b c d : Nat} (hb : 0 < b) (hd : 0 < d) (hab : Nat.gcd a b = 1) (hcd : Nat.gcd c d = 1) :
    Nat.gcd (a * c) (b * d) = Nat.gcd a d * Nat.gcd c b := by
  have hg : 0 < Nat.gcd a d := Nat.gcd_pos_of_pos_right _ hd
  have hh : 0 < Nat.gcd c b := Nat.gcd_pos_of_pos_right _ hb
  obtain ⟨a', ha⟩ := Nat.gcd_dvd_left a d
  obtain ⟨d', hd'⟩ := Nat.gcd_dvd_right a d
  obtain ⟨c', hc⟩ := Nat.gcd_dvd_left c b
  obtain ⟨b', hb'⟩ := Nat.gcd_dvd_right c b
  have c1 : Nat.Coprime a' d' := by
    have : Nat.gcd (Nat.gcd a d * a') (Nat.gcd a d * d') = Nat.gcd a d := by rw [← ha, ← hd']
    rw [Nat.gcd_mul_left] at this
    exact Nat.eq_of_mul_eq_mul_left hg (by rw [this, Nat.mul_one])
  have c2 : Nat.Coprime c' b' := by
    have : Nat.gcd (Nat.gcd c b * c') (Nat.gcd c b * b') = Nat.gcd c b := by rw [← hc, ← hb']
    rw [Nat.gcd_mul_left] at this
    exact Nat.eq_of_mul_eq_mul_left hh (by rw [this, Nat.mul_one])
  have c3 : Nat.Coprime a' b' := Nat.Coprime.coprime_dvd_left ⟨Nat.gcd a d, by rw [Nat.mul_comm]; exact ha⟩ (Nat.Coprime.coprime_dvd_right ⟨Nat.gcd c b, by rw [Nat.mul_comm]; exact hb'⟩ hab)
  have c4 : Nat.Coprime c' d' := Nat.Coprime.coprime_dvd_left ⟨Nat.gcd c b, by rw [Nat.mul_comm]; exact hc⟩ (Nat.Coprime.coprime_dvd_right ⟨Nat.gcd a d, by rw [Nat.mul_comm]; exact hd'⟩ hcd)
  have c5 : Nat.Coprime (a' * c') (b' * d') := Nat.Coprime.mul_left (Nat.Coprime.mul_right c3 c1) (Nat.Coprime.mul_right c2 c4)
  have e1 : a * c = (Nat.gcd a d * Nat.gcd c b) * (a' * c') := by
    have h1 : a * c = (Nat.gcd a d * a') * (Nat.gcd c b * c') := by rw [← ha, ← hc]
    rw [h1]; ac_rfl
  have e2 : b * d = (Nat.gcd a d * Nat.gcd c b) * (b' * d') := by
    have h1 : b * d = (Nat.gcd c b * b') * (Nat.gcd a d * d') := by rw [← hb', ← hd']
    rw [h1]; ac_rfl
  rw [e1, e2, Nat.gcd_mul_left, c5.gcd_eq_one, Nat.mul_one]

/-- the sum of two right fractions: what n is, and what it has in common with the denominator -/
theorem gcd_plus {a b c d : Nat} (_hb : 0 < b) (hd : 0 < d) (hab : Nat.gcd a b = 1) (hcd : Nat.gcd c d = 1) :
    Nat.gcd (a * d + c * b) (b * d) = Nat.gcd b d * Nat.gcd (a * (d / Nat.gcd b d) + c * (b / Nat.gcd b d)) (Nat.gcd b d) ∧
    a * d + c * b = Nat.gcd b d * (a * (d / Nat.gcd b d) + c * (b / Nat.gcd b d)) := by
  have hg : 0 < Nat.gcd b d := Nat.gcd_pos_of_pos_right _ hd
  obtain ⟨b', hb'⟩ := Nat.gcd_dvd_left b d
  obtain ⟨d', hd'⟩ := Nat.gcd_dvd_right b d
  have eb : b / Nat.gcd b d = b' := by
    have : b / Nat.gcd b d = Nat.gcd b d * b' / Nat.gcd b d := by rw [← hb']
    rw [this, Nat.mul_div_cancel_left _ hg]
  have ed : d / Nat.gcd b d = d' := by
    have : d / Nat.gcd b d = Nat.gcd b d * d' / Nat.gcd b d := by rw [← hd']
    rw [this, Nat.mul_div_cancel_left _ hg]
  rw [eb, ed]
  have c1 : Nat.Coprime b' d' := by
    have : Nat.gcd (Nat.gcd b d * b') (Nat.gcd b d * d') = Nat.gcd b d := by rw [← hb', ← hd']
    rw [Nat.gcd_mul_left] at this
    exact Nat.eq_of_mul_eq_mul_left hg (by rw [this, Nat.mul_one])
  have c2 : Nat.Coprime a b' := Nat.Coprime.coprime_dvd_right ⟨Nat.gcd b d, by rw [Nat.mul_comm]; exact hb'⟩ hab
  have c3 : Nat.Coprime c d' := Nat.Coprime.coprime_dvd_right ⟨Nat.gcd b d, by rw [Nat.mul_comm]; exact hd'⟩ hcd
  have e1 : a * d + c * b = Nat.gcd b d * (a * d' + c * b') := by
    have h1 : a * d + c * b = a * (Nat.gcd b d * d') + c * (Nat.gcd b d * b') := by rw [← hb', ← hd']
    rw [h1, Nat.mul_add]
    have : ∀ x y z : Nat, x * (y * z) = y * (x * z) := fun x y z => by ac_rfl
    rw [this, this c]
  have e2 : b * d = Nat.gcd b d * (b' * d' * Nat.gcd b d) := by
    have h1 : b * d = (Nat.gcd b d * b') * (Nat.gcd b d * d') := by rw [← hb', ← hd']
    rw [h1]; ac_rfl
  have c4 : Nat.Coprime (a * d' + c * b') b' := by
    unfold Nat.Coprime
    rw [Nat.gcd_add_mul_right_left]
    exact Nat.Coprime.mul_left c2 c1.symm
  have c5 : Nat.Coprime (a * d' + c * b') d' := by
    unfold Nat.Coprime
    rw [Nat.add_comm, Nat.gcd_add_mul_right_left]
    exact Nat.Coprime.mul_left c3 c1
  refine ⟨?_, e1⟩
  rw [e1, e2, Nat.gcd_mul_left]
  congr 1
  have c6 : Nat.Coprime (a * d' + c * b') (b' * d') := Nat.Coprime.mul_right c4 c5
  exact Nat.Coprime.gcd_mul_left_cancel_right _ c6.symm
end Go.Proofs.Ytcechimilefihaa.Fr

namespace Go.Proofs.Ytcechimilefihaa.Fr
open Go.ChangeShapes Go.WideShapes Go.ChangeAt Go.RowKit M

def I64 (x : Int) : Prop := -9223372036854775808 ≤ x ∧ x ≤ 9223372036854775807
def fits (x : Int) : Bool := decide (-9223372036854775808 ≤ x) && decide (x ≤ 9223372036854775807)
/-- a number, if it can be an int -/
def asInt (x : Int) : Int := if fits x then x else 0
theorem fits_yes {x : Int} (h : I64 x) : fits x = true := by unfold I64 at h; simp [fits]; omega
theorem fits_no {x : Int} (h : ¬ I64 x) : fits x = false := by
  unfold I64 at h; cases hf : fits x with
  | false => rfl
  | true => simp [fits] at hf; exact absurd hf h

theorem ret_ib {a b : Int} {p q : Bool} (h : a = b) (k : p = q) : Ending.returned (.tuple #[.int .i64 a, .bool p]) = .returned (.tuple #[.int .i64 b, .bool q]) := by rw [h, k]
theorem ret_int {k : IntKind} {a b : Int} (h : a = b) : Ending.returned (.int k a) = .returned (.int k b) := by rw [h]

theorem add_any (a b : Int) (w : World) (ha : I64 a) (hb : I64 b) :
    Calls Try.prog 74 #[.int .i64 a, .int .i64 b] w fun e w' => e = .returned (.tuple #[.int .i64 (asInt (a + b)), .bool (fits (a + b))]) ∧ w = w' := by
  by_cases h : I64 (a + b)
  · have E := Lib.hid (fits_yes h)
    unfold I64 at ha hb h
    have F := Lib.hid (show asInt (a + b) = a + b by unfold asInt; rw [E.out]; rfl)
    rcases (show 0 < b ∨ b < 0 ∨ b = 0 by omega) with h0 | h0 | h0
    · go_enter Try.func74, Try.ntmps74
      go_wp2
      go_returns
      exact ⟨by rw [E.out, F.out]; rfl, rfl⟩
    · go_enter Try.func74, Try.ntmps74
      go_wp2
      go_returns
      exact ⟨by rw [E.out, F.out]; rfl, rfl⟩
    · subst h0
      go_enter Try.func74, Try.ntmps74
      go_wp2
      go_returns
      exact ⟨by rw [E.out, F.out]; first | rfl | simp, rfl⟩
  · have E := Lib.hid (fits_no h)
    unfold I64 at ha hb h
    have F := Lib.hid (show asInt (a + b) = 0 by unfold asInt; rw [E.out]; rfl)
    rcases (show 0 < b ∧ 9223372036854775807 - b < a ∨ b < 0 ∧ a < -9223372036854775808 - b by omega) with ⟨h0, h1⟩ | ⟨h0, h1⟩
    all_goals
      clear h
      go_enter Try.func74, Try.ntmps74
      go_wp2
      go_returns
      exact ⟨by rw [E.out, F.out]; rfl, rfl⟩

theorem refAdd_any (a b : Int) (w : World) (ha : I64 a) (hb : I64 b) :
    Calls Try.prog 75 #[.int .i64 a, .int .i64 b] w fun e w' => e = .returned (.tuple #[.int .i64 (asInt (a + b)), .bool (fits (a + b))]) ∧ w = w' := by
  by_cases h : I64 (a + b)
  · have E := Lib.hid (fits_yes h)
    unfold I64 at ha hb h
    have F := Lib.hid (show asInt (a + b) = a + b by unfold asInt; rw [E.out]; rfl)
    rcases (show 0 ≤ a ∧ 0 ≤ b ∨ 0 ≤ a ∧ b < 0 ∨ a < 0 ∧ b < 0 ∨ a < 0 ∧ 0 ≤ b by omega) with ⟨h0, h1⟩ | ⟨h0, h1⟩ | ⟨h0, h1⟩ | ⟨h0, h1⟩
    all_goals
      go_enter Try.func75, Try.ntmps75
      go_wp2
      go_returns
      exact ⟨by rw [E.out, F.out]; rfl, rfl⟩
  · have E := Lib.hid (fits_no h)
    unfold I64 at ha hb h
    have F := Lib.hid (show asInt (a + b) = 0 by unfold asInt; rw [E.out]; rfl)
    rcases (show 0 ≤ a ∧ 0 ≤ b ∧ 9223372036854775807 < a + b ∨ a < 0 ∧ b < 0 ∧ a + b < -9223372036854775808 by omega) with ⟨h0, h1, h2⟩ | ⟨h0, h1, h2⟩
    · have hw : wrap64 (a + b) < 0 := by unfold wrap64; omega
      clear h
      go_enter Try.func75, Try.ntmps75
      go_wp2
      go_returns
      exact ⟨by rw [E.out, F.out]; rfl, rfl⟩
    · have hw : 0 ≤ wrap64 (a + b) := by unfold wrap64; omega
      clear h
      go_enter Try.func75, Try.ntmps75
      go_wp2
      go_returns
      exact ⟨by rw [E.out, F.out]; rfl, rfl⟩

/-- how far a number is from 0 -/
def abs64 (a : Int) : Int := (a.natAbs : Int)
theorem abs64_bd {a : Int} (h : I64 a) : 0 ≤ abs64 a ∧ abs64 a ≤ 9223372036854775808 := by unfold I64 at h; unfold abs64; omega
theorem abs_neg {a : Int} (h : I64 a) (h0 : a < 0) : IntKind.u64.wrap (-(IntKind.u64.wrap a)) = abs64 a := by
  unfold I64 at h; rw [IntKind.wrap_u64, IntKind.wrap_u64]; unfold abs64; omega
theorem abs_pos {a : Int} (h : I64 a) (h0 : 0 ≤ a) : IntKind.u64.wrap a = abs64 a := by
  unfold I64 at h; rw [IntKind.wrap_u64]; unfold abs64; omega

theorem size_any (a : Int) (w : World) (ha : I64 a) :
    Calls Try.prog 88 #[.int .i64 a] w fun e w' => e = .returned (.int .u64 (abs64 a)) ∧ w = w' := by
  by_cases h0 : a < 0
  · have E := Lib.hid (abs_neg ha h0)
    clear ha
    go_enter Try.func88, Try.ntmps88
    go_wp2
    go_returns
    exact ⟨ret_int E.out, rfl⟩
  · have E := Lib.hid (abs_pos ha (by omega))
    have hu : IntKind.u64.wrap a = a := by rw [E.out]; unfold abs64; omega
    have HU := Lib.hid hu
    clear ha hu
    go_enter Try.func88, Try.ntmps88
    go_wp2
    go_returns
    exact ⟨ret_int (by first | exact E.out | (rw [← E.out, HU.out])), rfl⟩

theorem refSize_any (a : Int) (w : World) (ha : I64 a) :
    Calls Try.prog 106 #[.int .i64 a] w fun e w' => e = .returned (.int .u64 (abs64 a)) ∧ w = w' := by
  by_cases h0 : a < 0
  · have E := Lib.hid (abs_neg ha h0)
    clear ha
    go_enter Try.func106, Try.ntmps106
    go_wp2
    go_returns
    exact ⟨ret_int E.out, rfl⟩
  · have E := Lib.hid (abs_pos ha (by omega))
    have hu : IntKind.u64.wrap a = a := by rw [E.out]; unfold abs64; omega
    have HU := Lib.hid hu
    clear ha hu
    go_enter Try.func106, Try.ntmps106
    go_wp2
    go_returns
    exact ⟨ret_int (by first | exact E.out | (rw [← E.out, HU.out])), rfl⟩
end Go.Proofs.Ytcechimilefihaa.Fr

namespace Go.Proofs.Ytcechimilefihaa.Fr
open Go.ChangeShapes Go.WideShapes Go.ChangeAt Go.RowKit M

set_option maxHeartbeats 1000000 in
theorem mul64_any (x y : Nat) (hx : x < 18446744073709551616) (hy : y < 18446744073709551616) (w : World) :
    Calls Try.prog 87 #[.int .u64 x, .int .u64 y] w fun e w' => e = .returned (.tuple #[.int .u64 (hiW (x * y)), .int .u64 (loW (x * y))]) ∧ w = w' := by
  obtain ⟨bd, bt, bw, hhi⟩ := Lib.mul64_hi x y hx hy
  have ba := Lib.half_mul_le (a := x / 4294967296) (b := y / 4294967296) (by omega) (by omega)
  have bb := Lib.half_mul_le (a := x / 4294967296) (b := y % 4294967296) (by omega) (by omega)
  have bc := Lib.half_mul_le (a := x % 4294967296) (b := y / 4294967296) (by omega) (by omega)
  have ba' : x / 4294967296 * (y / 4294967296) < 18446744073709551616 := by omega
  have bb' : x / 4294967296 * (y % 4294967296) < 18446744073709551616 := by omega
  have bc' : x % 4294967296 * (y / 4294967296) < 18446744073709551616 := by omega
  have bh1 : x / 4294967296 * (y / 4294967296) + (x / 4294967296 * (y % 4294967296) + x % 4294967296 * (y % 4294967296) / 4294967296) / 4294967296 < 18446744073709551616 := by omega
  have bh : x / 4294967296 * (y / 4294967296) + (x / 4294967296 * (y % 4294967296) + x % 4294967296 * (y % 4294967296) / 4294967296) / 4294967296 + ((x / 4294967296 * (y % 4294967296) + x % 4294967296 * (y % 4294967296) / 4294967296) % 4294967296 + x % 4294967296 * (y / 4294967296)) / 4294967296 < 18446744073709551616 := by omega
  go_enter Try.func87, Try.ntmps87
  go_wp2
  simp only [Mul64.maskN x hx, Mul64.maskN y hy, Mul64.divN, Mul64.mulN, Mul64.addN, Mul64.wrapN _ bd, Mul64.wrapN _ bb', Mul64.wrapN _ bt, Mul64.maskN _ bt, Mul64.wrapN _ bc', Mul64.wrapN _ bw, Mul64.wrapN _ ba', Mul64.wrapN _ bh1, Mul64.wrapN _ bh, Mul64.wrapM (x * y)]
  rw [hhi]
  go_ret2
  exact ⟨rfl, rfl⟩

theorem mul64_int (x y : Int) (hx : 0 ≤ x ∧ x ≤ 18446744073709551615) (hy : 0 ≤ y ∧ y ≤ 18446744073709551615) (w : World) :
    Calls Try.prog 87 #[.int .u64 x, .int .u64 y] w fun e w' => e = .returned (.tuple #[.int .u64 (hiW (x.toNat * y.toNat)), .int .u64 (loW (x.toNat * y.toNat))]) ∧ w = w' := by
  have := mul64_any x.toNat y.toNat (by omega) (by omega) w
  rwa [Int.toNat_of_nonneg hx.1, Int.toNat_of_nonneg hy.1] at this

/-- what a product needs, by its two halves -/
theorem mul_halves {a b : Int} : (abs64 a).toNat * (abs64 b).toNat = (a * b).natAbs := by
  unfold abs64; rw [Int.toNat_natCast, Int.toNat_natCast, Int.natAbs_mul]

theorem wrap_neg {l : Int} (h0 : 0 ≤ l) (h1 : l ≤ 9223372036854775808) : wrap64 (IntKind.u64.wrap (-l)) = -l := by
  rw [IntKind.wrap_u64]; unfold wrap64; omega

theorem mul_any (a b : Int) (w : World) (ha : I64 a) (hb : I64 b) :
    Calls Try.prog 38 #[.int .i64 a, .int .i64 b] w fun e w' => e = .returned (.tuple #[.int .i64 (asInt (a * b)), .bool (fits (a * b))]) ∧ w = w' := by
  have ba := abs64_bd ha
  have bb := abs64_bd hb
  have HM := Lib.hid (mul64_int (abs64 a) (abs64 b) (by omega) (by omega))
  rw [mul_halves] at HM
  have SA := Lib.hid (size_any a · ha)
  have SB := Lib.hid (size_any b · hb)
  have hl := lo_bd (a * b).natAbs
  have hh : 0 ≤ hiW (a * b).natAbs := by unfold hiW; omega
  have hn : ((a * b).natAbs : Int) = hiW (a * b).natAbs * 18446744073709551616 + loW (a * b).natAbs := by unfold hiW loW; omega
  rcases (show (0 ≤ a ∧ 0 ≤ b) ∨ (a < 0 ∧ b < 0) ∨ (0 ≤ a ∧ b < 0) ∨ (a < 0 ∧ 0 ≤ b) by omega) with ⟨s1, s2⟩ | ⟨s1, s2⟩ | ⟨s1, s2⟩ | ⟨s1, s2⟩
  case inl | inr.inl =>
    have hm1 : (decide (a < 0) == decide (b < 0)) = true := by rw [beq_iff_eq, decide_eq_decide]; omega
    have hm2 : (decide (a < 0) != decide (b < 0)) = false := by rw [bne, hm1]; rfl
    have hab : 0 ≤ a * b := by first | exact Int.mul_nonneg s1 s2 | exact Int.mul_nonneg_of_nonpos_of_nonpos (by omega) (by omega)
    rcases (show (hiW (a * b).natAbs = 0 ∧ loW (a * b).natAbs = a * b ∧ a * b ≤ 9223372036854775807) ∨ (hiW (a * b).natAbs = 0 ∧ 9223372036854775807 < loW (a * b).natAbs ∧ 9223372036854775807 < a * b) ∨ (1 ≤ hiW (a * b).natAbs ∧ 9223372036854775807 < a * b) by omega) with ⟨h1, h2, h3⟩ | ⟨h1, h2, h3⟩ | ⟨h1, h3⟩
    · have E := Lib.hid (fits_yes (x := a * b) ⟨by omega, h3⟩)
      have F := Lib.hid (show asInt (a * b) = a * b by unfold asInt; rw [E.out]; rfl)
      clear hn ha hb hl hh
      go_enter Try.func38, Try.ntmps38
      go_wp2_with fail
      refine (SA.out _).mono ?_; rintro e w' ⟨rfl, rfl⟩
      go_wp2_with fail
      refine (SB.out _).mono ?_; rintro e w' ⟨rfl, rfl⟩
      go_wp2_with fail
      refine (HM.out _).mono ?_; rintro e w' ⟨rfl, rfl⟩
      go_wp2
      go_returns
      exact ⟨by rw [E.out, F.out]; rfl, rfl⟩
    all_goals
      have E := Lib.hid (fits_no (x := a * b) (fun h => by unfold I64 at h; omega))
      have F := Lib.hid (show asInt (a * b) = 0 by unfold asInt; rw [E.out]; rfl)
      clear hn ha hb
      go_enter Try.func38, Try.ntmps38
      go_wp2_with fail
      refine (SA.out _).mono ?_; rintro e w' ⟨rfl, rfl⟩
      go_wp2_with fail
      refine (SB.out _).mono ?_; rintro e w' ⟨rfl, rfl⟩
      go_wp2_with fail
      refine (HM.out _).mono ?_; rintro e w' ⟨rfl, rfl⟩
      go_wp2
      all_goals first | (exfalso; omega) | (go_returns; exact ⟨by rw [E.out, F.out]; rfl, rfl⟩)
  all_goals
    have hm1 : (decide (a < 0) == decide (b < 0)) = false := by rw [beq_eq_false_iff_ne, ne_eq, decide_eq_decide]; omega
    have hm2 : (decide (a < 0) != decide (b < 0)) = true := by rw [bne, hm1]; rfl
    try have hm3 : decide (a < 0) = false := decide_eq_false (by omega)
    try have hm4 : decide (b < 0) = false := decide_eq_false (by omega)
    have hab : a * b ≤ 0 := by first | exact Int.mul_nonpos_of_nonneg_of_nonpos s1 (by omega) | exact Int.mul_nonpos_of_nonpos_of_nonneg (by omega) s2
    rcases (show (hiW (a * b).natAbs = 0 ∧ loW (a * b).natAbs ≤ 9223372036854775808 ∧ -loW (a * b).natAbs = a * b) ∨ (hiW (a * b).natAbs = 0 ∧ 9223372036854775808 < loW (a * b).natAbs ∧ a * b < -9223372036854775808) ∨ (1 ≤ hiW (a * b).natAbs ∧ a * b < -9223372036854775808) by omega) with ⟨h1, h2, h3⟩ | ⟨h1, h2, h3⟩ | ⟨h1, h3⟩
    · have E := Lib.hid (fits_yes (x := a * b) ⟨by omega, by omega⟩)
      have F := Lib.hid (show asInt (a * b) = a * b by unfold asInt; rw [E.out]; rfl)
      have G := Lib.hid (wrap_neg hl.1 h2)
      have H3 := Lib.hid h3
      clear hn ha hb h3 hab
      go_enter Try.func38, Try.ntmps38
      go_wp2_with fail
      refine (SA.out _).mono ?_; rintro e w' ⟨rfl, rfl⟩
      go_wp2_with fail
      refine (SB.out _).mono ?_; rintro e w' ⟨rfl, rfl⟩
      go_wp2_with fail
      refine (HM.out _).mono ?_; rintro e w' ⟨rfl, rfl⟩
      go_wp2
      go_returns
      exact ⟨ret_ib (by rw [F.out, G.out, H3.out]) E.out.symm, rfl⟩
    all_goals
      have E := Lib.hid (fits_no (x := a * b) (fun h => by unfold I64 at h; omega))
      have F := Lib.hid (show asInt (a * b) = 0 by unfold asInt; rw [E.out]; rfl)
      clear hn ha hb
      go_enter Try.func38, Try.ntmps38
      go_wp2_with fail
      refine (SA.out _).mono ?_; rintro e w' ⟨rfl, rfl⟩
      go_wp2_with fail
      refine (SB.out _).mono ?_; rintro e w' ⟨rfl, rfl⟩
      go_wp2_with fail
      refine (HM.out _).mono ?_; rintro e w' ⟨rfl, rfl⟩
      go_wp2
      all_goals first | (exfalso; omega) | (go_returns; exact ⟨by rw [E.out, F.out]; rfl, rfl⟩)

/-- the greatest common divisor; 0 of what is below 0 -/
def gcdF (a b : Int) : Int := if a < 0 ∨ b < 0 then 0 else (Nat.gcd a.toNat b.toNat : Int)

theorem gcd_any (a b : Int) (w : World) (ha : I64 a) (hb : I64 b) :
    Calls Try.prog 77 #[.int .i64 a, .int .i64 b] w fun e w' => e = .returned (.int .i64 (gcdF a b)) ∧ ∃ n, w' = w.drewN n := by
  by_cases h : a < 0 ∨ b < 0
  · have E := Lib.hid (show gcdF a b = 0 from if_pos h)
    rcases (show a < 0 ∨ (0 ≤ a ∧ b < 0) by omega) with h1 | ⟨h1, h2⟩
    all_goals
      clear h
      go_enter Try.func77, Try.ntmps77
      go_wp2
      go_returns
      exact ⟨ret_int E.out.symm, 0, rfl⟩
  · have E := Lib.hid (show gcdF a b = (Nat.gcd a.toNat b.toNat : Int) from if_neg h)
    unfold I64 at ha hb
    have h1 : 0 ≤ a := by omega
    have h2 : 0 ≤ b := by omega
    have hd : (decide (a < 0) || decide (b < 0)) = false := by simp; omega
    go_enter Try.func77, Try.ntmps77
    go_wp2
    go_loopw [0, 1] (fun x y wr => ∃ p q m : Nat, wr = w.drewN m ∧ (p : Int) ≤ 9223372036854775807 ∧ (q : Int) ≤ 9223372036854775807 ∧ Nat.gcd p q = Nat.gcd a.toNat b.toNat ∧ x = .int .i64 p ∧ y = .int .i64 q) (fun _ y _ => (intOf y).toNat)
    case atStart => exact ⟨a.toNat, b.toNat, 0, rfl, by omega, by omega, rfl, by rw [Int.toNat_of_nonneg h1], by rw [Int.toNat_of_nonneg h2]⟩
    case round =>
      obtain ⟨p, q, m, rfl, hp, hq, hg, rfl, rfl⟩ := hrel
      have HG := Lib.hid hg
      clear hg
      by_cases h0 : 0 < q
      · have hm : ((p : Int) % (q : Int)) = ((p % q : Nat) : Int) := (Int.natCast_emod p q).symm
        have hlt := Nat.mod_lt p h0
        have hq0 : ((q : Int) == 0) = false := by simp; omega
        have hq1 : (1 : Int) ≤ q := by omega
        have HMM := Lib.hid hm
        clear hm
        go_wp2
        go_quiet (fail)
        go_wp2
        go_roundw
        case rel => exact ⟨q, p % q, m + nq, by rw [World.drewN_drewN], hq, by omega, by rw [gcd_step]; exact HG.out, rfl, by rw [HMM.out]⟩
        case measure => rw [HMM.out]; simp only [intOf, Int.toNat_natCast]; exact hlt
      · obtain rfl : q = 0 := by omega
        go_wp2
        go_returns
        exact ⟨ret_int (by rw [E.out, ← HG.out, Nat.gcd_zero_right]), m, rfl⟩
end Go.Proofs.Ytcechimilefihaa.Fr

namespace Go.Proofs.Ytcechimilefihaa.Fr
open Go.ChangeShapes Go.WideShapes Go.ChangeAt Go.RowKit M

theorem gcdF_yes {a b : Int} (ha : 0 ≤ a) (hb : 0 ≤ b) : gcdF a b = (Nat.gcd a.toNat b.toNat : Int) := if_neg (by omega)
theorem gcdF_pos {a b : Int} (ha : 0 ≤ a) (hb : 1 ≤ b) : 1 ≤ gcdF a b := by
  rw [gcdF_yes ha (by omega)]; have := Nat.gcd_pos_of_pos_right a.toNat (show 0 < b.toNat by omega); omega
theorem gcdF_le {a b : Int} (ha : 0 ≤ a) (hb : 1 ≤ b) : gcdF a b ≤ b := by
  rw [gcdF_yes ha (by omega)]; have := Nat.gcd_le_right a.toNat (show 0 < b.toNat by omega); omega

theorem of_any (n d : Int) (w : World) (hn : I64 n) (hd : I64 d) :
    Calls Try.prog 39 #[.int .i64 n, .int .i64 d] w fun e w' => e = .returned (.tuple #[.agg #[.int .i64 (ofR n d).n, .int .i64 (ofR n d).d], .bool (ofR n d).ok]) ∧ Below w.heap.size w w' := by
  by_cases h : n < 0 ∨ d < 1
  · have E := Lib.hid (show ofR n d = ⟨0, 0, false⟩ from if_pos h)
    rcases (show n < 0 ∨ (0 ≤ n ∧ d < 1) by omega) with h1 | ⟨h1, h2⟩
    all_goals
      clear h
      go_enter Try.func39, Try.ntmps39
      go_wp2
      go_returns
      exact ⟨by rw [E.out], by go_grown⟩
  · have h1 : 0 ≤ n := by omega
    have h2 : 1 ≤ d := by omega
    have gp := gcdF_pos h1 h2
    have gl := gcdF_le h1 h2
    have G := Lib.hid (gcd_any n d · hn hd)
    have e : ofR n d = ⟨n / gcdF n d, d / gcdF n d, true⟩ := by
      unfold ofR
      rw [if_neg h]
      have hg := gcdF_yes h1 (show 0 ≤ d by omega)
      have hb1 : n.toNat / Nat.gcd n.toNat d.toNat ≤ M63 := by
        refine Nat.le_trans (Nat.div_le_self _ _) ?_
        unfold I64 at hn; unfold M63; omega
      have hb2 : d.toNat / Nat.gcd n.toNat d.toNat ≤ M63 := by
        refine Nat.le_trans (Nat.div_le_self _ _) ?_
        unfold I64 at hd; unfold M63; omega
      rw [rightR_yes hb1 hb2, hg]
      have en : n = (n.toNat : Int) := by omega
      have ed : d = (d.toNat : Int) := by omega
      rw [Int.natCast_ediv, Int.natCast_ediv, ← en, ← ed]
    have E := Lib.hid e
    clear e h
    generalize gcdF n d = g at *
    unfold I64 at hn hd
    have b1 : 0 ≤ n / g ∧ n / g ≤ n := ⟨Int.ediv_nonneg h1 (by omega), Int.ediv_le_self _ h1⟩
    have b2 : 0 ≤ d / g ∧ d / g ≤ d := ⟨Int.ediv_nonneg (by omega) (by omega), Int.ediv_le_self _ (by omega)⟩
    go_enter Try.func39, Try.ntmps39
    go_wp2_with fail
    refine (G.out _).mono ?_; rintro e w' ⟨rfl, m, rfl⟩
    go_wp2
    go_region
    all_goals go_wp2
    all_goals go_returns
    all_goals exact ⟨by rw [E.out], by repeat' (first | exact Below.refl _ _ | refine Below.setCell ?_ ?_ _ | refine below_drewN ?_ _ | refine Below.drew ?_ | refine Below.alloc ?_ ?_ _ | exact Nat.le_refl _ | (simp; done) | (simp; omega))⟩

theorem ceil_any (a b : Int) (w : World) (h : Lowest a b) :
    Calls Try.prog 41 #[.agg #[.int .i64 a, .int .i64 b]] w fun e w' => e = .returned (.int .i64 (ceilR a b)) ∧ Below w.heap.size w w' := by
  obtain ⟨h0, h1, h2, h3, -⟩ := h
  have q0 : 0 ≤ a / b ∧ a / b ≤ a := ⟨Int.ediv_nonneg h0 (by omega), Int.ediv_le_self _ h0⟩
  have m0 := Int.emod_nonneg a (show b ≠ 0 by omega)
  have m1 := Int.emod_lt_of_pos a (show 0 < b by omega)
  have dm := Int.mul_ediv_add_emod a b
  by_cases hm : 0 < a % b
  · have e : ceilR a b = a / b + 1 := by
      unfold ceilR
      rw [show a + b - 1 = (a % b - 1) + b * (a / b + 1) by rw [Int.mul_add]; omega, Int.add_mul_ediv_left _ _ (by omega), Int.ediv_eq_zero_of_lt (by omega) (by omega)]; omega
    have hq : a / b + 1 ≤ 9223372036854775807 := by
      have hb : 2 ≤ b := by omega
      have := Int.mul_le_mul_of_nonneg_right hb q0.1
      omega
    have E := Lib.hid e
    clear e
    go_enter Try.func41, Try.ntmps41
    go_wp2
    go_returns
    exact ⟨ret_int E.out.symm, by go_grown⟩
  · have e : ceilR a b = a / b := by
      unfold ceilR
      rw [show a + b - 1 = (b - 1) + b * (a / b) by omega, Int.add_mul_ediv_left _ _ (by omega), Int.ediv_eq_zero_of_lt (by omega) (by omega)]; omega
    have E := Lib.hid e
    clear e
    go_enter Try.func41, Try.ntmps41
    go_wp2
    go_returns
    exact ⟨ret_int E.out.symm, by go_grown⟩

theorem le_64 {x : Int} (h0 : 0 ≤ x) (h1 : x ≤ 9223372036854775807) : IntKind.u64.wrap x = x := by rw [IntKind.wrap_u64]; omega

theorem fTimes_any (a b : Int) (w : World) (h0 : 0 ≤ a ∧ a ≤ 9223372036854775807) (h1 : 0 ≤ b ∧ b ≤ 9223372036854775807) :
    Calls Try.prog 89 #[.int .i64 a, .int .i64 b] w fun e w' => e = .returned (.agg #[.int .u64 (hiW (a.toNat * b.toNat)), .int .u64 (loW (a.toNat * b.toNat))]) ∧ w' = w.alloc (.cells #[.int .u64 (hiW (a.toNat * b.toNat)), .int .u64 (loW (a.toNat * b.toNat))] 90) := by
  have e1 := le_64 h0.1 h0.2
  have e2 := le_64 h1.1 h1.2
  have HM := Lib.hid (mul64_int a b (by omega) (by omega))
  generalize hiW (a.toNat * b.toNat) = hi at *
  generalize loW (a.toNat * b.toNat) = lo at *
  go_enter Try.func89, Try.ntmps89
  go_wp2_with fail
  refine (HM.out _).mono ?_; rintro e w' ⟨rfl, rfl⟩
  go_wp2
  go_returns
  exact ⟨rfl, by first | rfl | (simp; done)⟩

theorem whole_any (a b c d : Int) (w : World) (ha : I64 a) (hb : I64 b) (hc : I64 c) (hd : I64 d) :
    Calls Try.prog 110 #[.int .i64 a, .int .i64 b, .int .i64 c, .int .i64 d] w fun e w' =>
      e = .returned (.tuple #[.agg #[.int .i64 (if fits (a * b) && fits (c * d) then a * b else 0), .int .i64 (if fits (a * b) && fits (c * d) then c * d else 0)], .bool (fits (a * b) && fits (c * d))]) ∧ Below w.heap.size w w' := by
  have M1 := Lib.hid (mul_any a b · ha hb)
  have M2 := Lib.hid (mul_any c d · hc hd)
  cases h1 : fits (a * b) <;> cases h2 : fits (c * d)
  all_goals
    rw [h1] at M1
    rw [h2] at M2
    have V1 := Lib.hid (show asInt (a * b) = if fits (a * b) then a * b else 0 from rfl)
    have V2 := Lib.hid (show asInt (c * d) = if fits (c * d) then c * d else 0 from rfl)
    rw [h1] at V1
    rw [h2] at V2
    clear h1 h2 ha hb hc hd
    go_enter Try.func110, Try.ntmps110
    go_wp2_with fail
    refine (M1.out _).mono ?_; rintro e w' ⟨rfl, rfl⟩
    go_wp2_with fail
    refine (M2.out _).mono ?_; rintro e w' ⟨rfl, rfl⟩
    go_wp2_with fail
    go_returns
    exact ⟨by first | rfl | (rw [V1.out, V2.out]; rfl), by go_grown⟩

theorem s4_below {W w1 : World} {B : Nat} {va vb vc vd : Value} (hsz : B + 2 ≤ W.heap.size)
    (h : W.cell? ⟨B, 0, none⟩ = some va ∧ W.cell? ⟨B, 1, none⟩ = some vb ∧ W.cell? ⟨B + 1, 0, none⟩ = some vc ∧ W.cell? ⟨B + 1, 1, none⟩ = some vd) (hb : Below W.heap.size W w1) :
    w1.cell? ⟨B, 0, none⟩ = some va ∧ w1.cell? ⟨B, 1, none⟩ = some vb ∧ w1.cell? ⟨B + 1, 0, none⟩ = some vc ∧ w1.cell? ⟨B + 1, 1, none⟩ = some vd :=
  have e : ∀ b o, b < W.heap.size → w1.cell? ⟨b, o, none⟩ = W.cell? ⟨b, o, none⟩ := fun b o hb' => hb.cell (p := ⟨b, o, none⟩) hb'
  ⟨(e _ _ (by omega)).trans h.1, (e _ _ (by omega)).trans h.2.1, (e _ _ (by omega)).trans h.2.2.1, (e _ _ (by omega)).trans h.2.2.2⟩

theorem two_sizes {W w1 w2 : World} {B : Nat} (hsz : W.heap.size = B + 2) (h1 : Below W.drew.heap.size W.drew w1) (h2 : Below w1.heap.size w1 w2) : B + 2 ≤ w2.heap.size := by
  have a := h1.size
  have b := h2.size
  have c : W.drew.heap.size = W.heap.size := rfl
  omega





@[go_sem] theorem eq_product (a b c d : Int) (w : World) : (Op.equalIn 10000 90 (.agg #[.int .u64 a, .int .u64 b]) (.agg #[.int .u64 c, .int .u64 d])).run Try.prog w = .ok (a == c && b == d) w := by
  have u3 := Try.underlying85
  have a3 := Try.isAgg85
  have z3 := Try.sizeOf85
  rw [show (10000 : Nat) = 9999 + 1 from rfl, Op.equalIn]
  simp only [Sem.run_bind, run_underlying Try.underlying90, Result.andThen_ok]
  simp only [Std.Legacy.Range.forIn_eq_forIn_range', Std.Legacy.Range.size, Nat.sub_zero, Nat.add_sub_cancel, Nat.div_one, List.range'_succ, List.range'_zero, List.forIn_cons, List.forIn_nil]
  go_simp
  by_cases h1 : a = c <;> by_cases h2 : b = d <;> simp [h1, h2]

theorem below_over {W X w : World} {B : Nat} (hB : B ≤ W.heap.size) (h : Below B w W) (k : Below W.heap.size W X) : Below B w X := h.trans (k.mono hB)
theorem blk_new {w : World} {t : TypeId} {cs : Array Value} {g : Nat} (h : g = w.heap.size) : Blk (w.alloc (.cells cs t)) g t cs := h ▸ Blk.new w t cs

set_option maxHeartbeats 4000000 in
theorem cmp_any (a b c d : Int) (w : World) (h : Lowest a b) (k : Lowest c d) :
    Calls Try.prog 40 #[.agg #[.int .i64 a, .int .i64 b], .agg #[.int .i64 c, .int .i64 d]] w fun e w' => e = .returned (.int .i64 (cmpR a b c d)) ∧ Below w.heap.size w w' := by
  obtain ⟨h0, h1, h2, h3, -⟩ := h
  obtain ⟨k0, k1, k2, k3, -⟩ := k
  have T1 := Lib.hid (fTimes_any a d · ⟨h0, h1⟩ ⟨by omega, k3⟩)
  have T2 := Lib.hid (fTimes_any c b · ⟨k0, k1⟩ ⟨by omega, h3⟩)
  have e1 : ((a.toNat * d.toNat : Nat) : Int) = a * d := by rw [Int.natCast_mul, Int.toNat_of_nonneg h0, Int.toNat_of_nonneg (by omega)]
  have e2 : ((c.toNat * b.toNat : Nat) : Int) = c * b := by rw [Int.natCast_mul, Int.toNat_of_nonneg k0, Int.toNat_of_nonneg (by omega)]
  have C : cmpR a b c d = if a.toNat * d.toNat = c.toNat * b.toNat then 0 else if a.toNat * d.toNat < c.toNat * b.toNat then -1 else 1 := by
    unfold cmpR; rw [← e1, ← e2]; simp only [Int.natCast_inj, Int.ofNat_lt]
  generalize a.toNat * d.toNat = X at *
  generalize c.toNat * b.toNat = Y at *
  have L := @less_iff X Y
  have S := @same_iff X Y
  have HC := Lib.hid C
  clear e1 e2 C
  obtain ⟨B, hB⟩ : ∃ B, w.heap.size = B := ⟨_, rfl⟩
  go_enter Try.func40, Try.ntmps40
  go_wp2_with fail
  obtain ⟨W, hW⟩ : ∃ W, ((w.alloc (.cells #[.int .i64 a, .int .i64 b] 43)).alloc (.cells #[.int .i64 c, .int .i64 d] 43)) = W := ⟨_, rfl⟩
  rw [hW]
  have hb2 : Below w.heap.size w W := by rw [← hW]; exact ((Below.refl _ _).alloc (Nat.le_refl _) _).alloc (by simp) _
  have b1 : Blk W B 43 #[.int .i64 a, .int .i64 b] := by rw [← hW, ← hB]; exact (Blk.new _ _ _).alloc _
  have b2 : Blk W (B + 1) 43 #[.int .i64 c, .int .i64 d] := by
    rw [← hW, ← hB]; have := Blk.new (w.alloc (.cells #[.int .i64 a, .int .i64 b] 43)) 43 #[.int .i64 c, .int .i64 d]
    simpa using this
  have hsz : W.heap.size = B + 2 := by rw [← hW, ← hB]; simp
  rw [hB] at hb2
  clear hW
  have z0 := b1.cell 0; have z1 := b1.cell 1; have z2 := b2.cell 0; have z3 := b2.cell 1
  simp at z0 z1 z2 z3
  have HZ := Lib.hid (And.intro z0 (And.intro z1 (And.intro z2 z3)))
  have HB2 := Lib.hid hb2
  have b1' := Lib.hid b1; have b2' := Lib.hid b2; have HSZ := Lib.hid hsz
  clear b1 b2 hb2 hsz
  go_cut [5, 6] (fun s5 s6 wc => ∃ g1 g2, s5 = .pointer (some ⟨g1, 0, none⟩) ∧ s6 = .pointer (some ⟨g2, 0, none⟩) ∧ Below B w wc ∧ Blk wc g1 90 #[.int .u64 (hiW X), .int .u64 (loW X)] ∧ Blk wc g2 90 #[.int .u64 (hiW Y), .int .u64 (loW Y)])
  case first =>
    go_region_held3 (fun w' => w'.cell? ⟨B, 0, none⟩ = some (.int .i64 a) ∧ w'.cell? ⟨B, 1, none⟩ = some (.int .i64 b) ∧ w'.cell? ⟨B + 1, 0, none⟩ = some (.int .i64 c) ∧ w'.cell? ⟨B + 1, 1, none⟩ = some (.int .i64 d))
      (first | exact ⟨z0, z1, z2, z3⟩ | exact s4_below (W := W) (Nat.le_of_eq HSZ.out.symm) HZ.out (by (repeat' (first | (with_reducible exact Below.refl _ _) | (with_reducible assumption) | (with_reducible exact Nat.le_refl _) | (with_reducible refine Below.alloc ?_ ?_ _) | (with_reducible refine Below.drew ?_) | (with_reducible refine Below.setCell ?_ ?_ _) | ((with_reducible refine through ?_ ?_ (by with_reducible assumption))) | exact Nat.zero_le _ | (with_reducible refine size_through ?_) | (simp; omega)))))
      ((first
        | (go_at_call_of 89 (Value.int .i64 d); refine (T1.out _).mono ?_; rintro e w1 ⟨rfl, rfl⟩)
        | (go_at_call 89; refine (T2.out _).mono ?_; rintro e w2 ⟨rfl, rfl⟩)))
    all_goals go_wp2_with (fail)
    all_goals go_meet
    all_goals refine ⟨_, _, rfl, rfl, below_over (by rw [HSZ.out]; omega) HB2.out (by (repeat' (first | (with_reducible exact Below.refl _ _) | (with_reducible assumption) | (with_reducible exact Nat.le_refl _) | (with_reducible refine Below.alloc ?_ ?_ _) | (with_reducible refine Below.drew ?_) | (with_reducible refine Below.setCell ?_ ?_ _) | ((with_reducible refine through ?_ ?_ (by with_reducible assumption))) | exact Nat.zero_le _ | (with_reducible refine size_through ?_) | (simp; omega)))), ?_, ?_⟩
    all_goals (repeat' (first | (with_reducible refine Blk.drew ?_) | (with_reducible refine blk_new ?_; (simp; done)) | (with_reducible refine Blk.alloc ?_ _)))
  case rest =>
    obtain ⟨g1, g2, e5, rfl, hbc, k1, k2⟩ := hcut
    cases e5
    have c0 := k1.cell 0; have c1 := k1.cell 1; have c2 := k2.cell 0; have c3 := k2.cell 1
    simp at c0 c1 c2 c3
    have HBC := Lib.hid hbc
    clear hbc k1 k2
    have HL := Lib.hid L
    have HS := Lib.hid S
    clear L S
    by_cases q : X = Y
    · have HE := Lib.hid (HC.out.trans (if_pos q))
      obtain ⟨q1, q2⟩ := HS.out.mp q
      have HQ := Lib.hid (show (hiW X == hiW Y && loW X == loW Y) = true by simp [q1, q2])
      have hq := HQ.out
      clear q q1 q2
      go_wp2
      go_returns
      exact ⟨ret_int HE.out.symm, by first | exact HBC.out | (rw [hB]; exact HBC.out)⟩
    · have hq : (hiW X == hiW Y && loW X == loW Y) = false := by
        rw [Bool.eq_false_iff]; intro h; simp at h; exact q (HS.out.mpr h)
      by_cases q' : X < Y
      · have HE := Lib.hid (HC.out.trans ((if_neg q).trans (if_pos q')))
        rcases HL.out.mp q' with h | ⟨h, h'⟩
        all_goals clear q q'
        all_goals go_wp2
        all_goals go_returns
        all_goals exact ⟨ret_int HE.out.symm, by first | exact HBC.out | (rw [hB]; exact HBC.out)⟩
      · have HE := Lib.hid (HC.out.trans ((if_neg q).trans (if_neg q')))
        have h : ¬ hiW X < hiW Y := fun h => q' (HL.out.mpr (.inl h))
        rcases (show hiW X = hiW Y ∨ hiW X ≠ hiW Y by omega) with h2 | h2
        · have h' : ¬ loW X < loW Y := fun h' => q' (HL.out.mpr (.inr ⟨h2, h'⟩))
          have hn : loW X ≠ loW Y := fun e => q (HS.out.mpr ⟨h2, e⟩)
          clear q q'
          go_wp2
          all_goals first | (go_returns; exact ⟨ret_int HE.out.symm, by first | exact HBC.out | (rw [hB]; exact HBC.out)⟩) | (exfalso; omega) | (exfalso; simp_all; done)
        · clear q q'
          go_wp2
          all_goals go_returns
          all_goals exact ⟨ret_int HE.out.symm, by first | exact HBC.out | (rw [hB]; exact HBC.out)⟩
end Go.Proofs.Ytcechimilefihaa.Fr

namespace Go.Proofs.Ytcechimilefihaa.Fr
open Go.ChangeShapes Go.WideShapes Go.ChangeAt Go.RowKit M

theorem rightR_zero {m : Nat} (h : 0 < m) : rightR 0 m = ⟨0, 1, true⟩ := by
  unfold rightR bigB M63
  rw [Nat.gcd_zero_left, Nat.div_self h, Nat.zero_div]
  rfl

/-- two products, or nothing -/
def bothR (n m : Int) : R := ⟨if fits n && fits m then n else 0, if fits n && fits m then m else 0, fits n && fits m⟩

theorem fits_nat (n : Nat) : fits (n : Int) = decide (n ≤ M63) := by
  unfold fits M63
  rw [Bool.eq_iff_iff]; simp; omega

theorem rightR_both {n d p q : Nat} (hp : n / Nat.gcd n d = p) (hq : d / Nat.gcd n d = q) : rightR n d = bothR p q := by
  unfold rightR bothR
  rw [hp, hq, fits_nat, fits_nat]
  unfold bigB
  by_cases h : M63 < p ∨ M63 < q
  · rw [if_pos (by simpa using h)]
    have : (decide (p ≤ M63) && decide (q ≤ M63)) = false := by
      rw [Bool.eq_false_iff]; simp; omega
    rw [this]; rfl
  · rw [if_neg (by simpa using h)]
    have : (decide (p ≤ M63) && decide (q ≤ M63)) = true := by simp; omega
    rw [this]; rfl

theorem times_zero {a b c d : Int} (h : Lowest a b) (k : Lowest c d) (z : a = 0 ∨ c = 0) : timesR a b c d = ⟨0, 1, true⟩ := by
  obtain ⟨h0, h1, h2, h3, h4⟩ := h
  obtain ⟨k0, k1, k2, k3, k4⟩ := k
  unfold timesR
  have e : a.toNat * c.toNat = 0 := by rcases z with rfl | rfl <;> simp
  rw [e]
  exact rightR_zero (Nat.mul_pos (by omega) (by omega))

theorem times_some {a b c d : Int} (h : Lowest a b) (k : Lowest c d) : timesR a b c d = bothR (a / gcdF a d * (c / gcdF c b)) (b / gcdF c b * (d / gcdF a d)) := by
  obtain ⟨h0, h1, h2, h3, h4⟩ := h
  obtain ⟨k0, k1, k2, k3, k4⟩ := k
  rw [gcdF_yes h0 (by omega), gcdF_yes k0 (by omega)]
  unfold timesR
  have ea : a = (a.toNat : Int) := by omega
  have eb : b = (b.toNat : Int) := by omega
  have ec : c = (c.toNat : Int) := by omega
  have ed : d = (d.toNat : Int) := by omega
  have pb : 0 < b.toNat := by omega
  have pd : 0 < d.toNat := by omega
  generalize a.toNat = A at *
  generalize b.toNat = B at *
  generalize c.toNat = C at *
  generalize d.toNat = D at *
  subst ea; subst eb; subst ec; subst ed
  have g := gcd_times pb pd h4 k4
  rw [rightR_both (p := A / Nat.gcd A D * (C / Nat.gcd C B)) (q := B / Nat.gcd C B * (D / Nat.gcd A D))]
  · simp only [Int.natCast_mul, Int.natCast_ediv]
  · rw [g]; exact (Nat.div_mul_div_comm (Nat.gcd_dvd_left A D) (Nat.gcd_dvd_left C B)).symm
  · rw [g, Nat.mul_comm (Nat.gcd A D)]; exact (Nat.div_mul_div_comm (Nat.gcd_dvd_right C B) (Nat.gcd_dvd_right A D)).symm

def rV (r : R) : Ending := .returned (.tuple #[.agg #[.int .i64 r.n, .int .i64 r.d], .bool r.ok])

theorem div_bd {a g : Int} (h0 : 0 ≤ a) (h1 : a ≤ 9223372036854775807) (hg : 1 ≤ g) : 0 ≤ a / g ∧ a / g ≤ 9223372036854775807 := ⟨Int.ediv_nonneg h0 (by omega), Int.le_trans (Int.ediv_le_self _ h0) h1⟩

theorem wraps4 {x y z u : Int} (hx : 0 ≤ x ∧ x ≤ 9223372036854775807) (hy : 0 ≤ y ∧ y ≤ 9223372036854775807) (hz : 0 ≤ z ∧ z ≤ 9223372036854775807) (hu : 0 ≤ u ∧ u ≤ 9223372036854775807) :
    IntKind.i64.wrap x = x ∧ IntKind.i64.wrap y = y ∧ IntKind.i64.wrap z = z ∧ IntKind.i64.wrap u = u := by
  simp only [IntKind.wrap_i64]; omega

theorem keep4 {X w1 : World} {B : Nat} {va vb vc vd : Value} (hs : X.heap.size = B + 3)
    (h : X.cell? ⟨B, 0, none⟩ = some va ∧ X.cell? ⟨B, 1, none⟩ = some vb ∧ X.cell? ⟨B + 1, 0, none⟩ = some vc ∧ X.cell? ⟨B + 1, 1, none⟩ = some vd) (hb : Below X.drew.heap.size X.drew w1) :
    w1.cell? ⟨B, 0, none⟩ = some va ∧ w1.cell? ⟨B, 1, none⟩ = some vb ∧ w1.cell? ⟨B + 1, 0, none⟩ = some vc ∧ w1.cell? ⟨B + 1, 1, none⟩ = some vd :=
  s4_below (W := X.drew) (show B + 2 ≤ X.heap.size by omega) h hb

theorem keep4_set {X w1 : World} {B : Nat} {va vb vc vd u u' : Value} (hs : X.heap.size = B + 3)
    (h : X.cell? ⟨B, 0, none⟩ = some va ∧ X.cell? ⟨B, 1, none⟩ = some vb ∧ X.cell? ⟨B + 1, 0, none⟩ = some vc ∧ X.cell? ⟨B + 1, 1, none⟩ = some vd) (hb : Below X.drew.heap.size X.drew w1) :
    ((w1.setCell ⟨B + 1 + 1, 0, none⟩ u).setCell ⟨B + 1 + 1, 1, none⟩ u').cell? ⟨B, 0, none⟩ = some va ∧ ((w1.setCell ⟨B + 1 + 1, 0, none⟩ u).setCell ⟨B + 1 + 1, 1, none⟩ u').cell? ⟨B, 1, none⟩ = some vb ∧ ((w1.setCell ⟨B + 1 + 1, 0, none⟩ u).setCell ⟨B + 1 + 1, 1, none⟩ u').cell? ⟨B + 1, 0, none⟩ = some vc ∧ ((w1.setCell ⟨B + 1 + 1, 0, none⟩ u).setCell ⟨B + 1 + 1, 1, none⟩ u').cell? ⟨B + 1, 1, none⟩ = some vd := by
  have a := keep4 hs h hb
  have e : ∀ b o, b < B + 2 → ((w1.setCell ⟨B + 1 + 1, 0, none⟩ u).setCell ⟨B + 1 + 1, 1, none⟩ u').cell? ⟨b, o, none⟩ = w1.cell? ⟨b, o, none⟩ := fun b o hb' => by
    rw [World.cell?_setCell_other _ _ _ _ (by intro e; injection e; omega), World.cell?_setCell_other _ _ _ _ (by intro e; injection e; omega)]
  exact ⟨(e _ _ (by omega)).trans a.1, (e _ _ (by omega)).trans a.2.1, (e _ _ (by omega)).trans a.2.2.1, (e _ _ (by omega)).trans a.2.2.2⟩

theorem res_cell {X w1 : World} {B : Nat} (hs : X.heap.size = B + 3) (k : Blk X (B + 1 + 1) 43 #[.int .i64 0, .int .i64 0]) (hb : Below X.drew.heap.size X.drew w1) :
    w1.cell? ⟨B + 1 + 1, 0, none⟩ = some (.int .i64 0) ∧ w1.cell? ⟨B + 1 + 1, 1, none⟩ = some (.int .i64 0) ∧ w1.frozen? ⟨B + 1 + 1, 0, none⟩ = false ∧ w1.frozen? ⟨B + 1 + 1, 1, none⟩ = false := by
  have k' : Blk w1 (B + 1 + 1) 43 #[.int .i64 0, .int .i64 0] := k.drew.below hb (show B + 1 + 1 < X.heap.size by omega)
  have c0 := k'.cell 0; have c1 := k'.cell 1
  exact ⟨by simpa using c0, by simpa using c1, k'.frozen 0, k'.frozen 1⟩

theorem res_set {X w1 : World} {B : Nat} (hs : X.heap.size = B + 3) (k : Blk X (B + 1 + 1) 43 #[.int .i64 0, .int .i64 0]) (hb : Below X.drew.heap.size X.drew w1) (u v : Value) :
    ((w1.setCell ⟨B + 1 + 1, 0, none⟩ u).setCell ⟨B + 1 + 1, 1, none⟩ v).cell? ⟨B + 1 + 1, 0, none⟩ = some u ∧ ((w1.setCell ⟨B + 1 + 1, 0, none⟩ u).setCell ⟨B + 1 + 1, 1, none⟩ v).cell? ⟨B + 1 + 1, 1, none⟩ = some v := by
  have k' : Blk w1 (B + 1 + 1) 43 #[.int .i64 0, .int .i64 0] := k.drew.below hb (show B + 1 + 1 < X.heap.size by omega)
  have k2 := (k'.set_ 0 u).set_ 1 v
  have c0 := k2.cell 0; have c1 := k2.cell 1
  exact ⟨by simpa using c0, by simpa using c1⟩

set_option maxHeartbeats 4000000 in
theorem times_any (a b c d : Int) (w : World) (h : Lowest a b) (k : Lowest c d) :
    Calls Try.prog 81 #[.agg #[.int .i64 a, .int .i64 b], .agg #[.int .i64 c, .int .i64 d]] w fun e w' => e = rV (timesR a b c d) ∧ Below w.heap.size w w' := by
  by_cases z : a = 0 ∨ c = 0
  · have E := Lib.hid (times_zero h k z)
    clear h k
    rcases (show a = 0 ∨ (a ≠ 0 ∧ c = 0) by omega) with rfl | ⟨z1, rfl⟩
    all_goals
      clear z
      go_enter Try.func81, Try.ntmps81
      go_wp2
      go_returns
      exact ⟨by rw [E.out]; rfl, by go_grown⟩
  · have E := times_some h k
    obtain ⟨h0, h1, h2, h3, -⟩ := h
    obtain ⟨k0, k1, k2, k3, -⟩ := k
    have g0 := gcdF_pos h0 k2
    have g1 := gcdF_pos k0 h2
    have G1 := Lib.hid (gcd_any a d · (by unfold I64; omega) (by unfold I64; omega))
    have G2 := Lib.hid (gcd_any c b · (by unfold I64; omega) (by unfold I64; omega))
    generalize gcdF a d = g at *
    generalize gcdF c b = hh at *
    have b1 := div_bd h0 h1 g0
    have b2 := div_bd k0 k1 g1
    have b3 := div_bd (show 0 ≤ b by omega) h3 g1
    have b4 := div_bd (show 0 ≤ d by omega) k3 g0
    have t1 : a.tdiv g = a / g := Int.tdiv_eq_ediv_of_nonneg h0
    have t2 : c.tdiv hh = c / hh := Int.tdiv_eq_ediv_of_nonneg k0
    have t3 : b.tdiv hh = b / hh := Int.tdiv_eq_ediv_of_nonneg (by omega)
    have t4 : d.tdiv g = d / g := Int.tdiv_eq_ediv_of_nonneg (by omega)
    have W1 : ∀ x, Calls Try.prog 110 #[.int .i64 (a / g), .int .i64 (c / hh), .int .i64 (b / hh), .int .i64 (d / g)] x fun e w' => e = rV (bothR (a / g * (c / hh)) (b / hh * (d / g))) ∧ Below x.heap.size x w' :=
      fun x => whole_any (a / g) (c / hh) (b / hh) (d / g) x (by unfold I64; omega) (by unfold I64; omega) (by unfold I64; omega) (by unfold I64; omega)
    generalize bothR (a / g * (c / hh)) (b / hh * (d / g)) = r at *
    obtain ⟨rn, rd, ro⟩ := r
    unfold rV at W1
    simp only at W1
    have W := Lib.hid W1
    clear W1
    have HE := Lib.hid E
    have hz : ((a == 0) || (c == 0)) = false := by simp; omega
    have hz1 : (a == 0) = false := by simp; omega
    have hz2 : (c == 0) = false := by simp; omega
    clear E z
    go_enter Try.func81, Try.ntmps81
    go_wp2
    go_quiet (first | (go_at_call_of 77 (Value.int .i64 d); exact Calls.quiet_of (G1.out _)) | (go_at_call 77; exact Calls.quiet_of (G2.out _)))
    go_wp2
    obtain ⟨X, hX⟩ : ∃ X, ((((w.alloc (Obj.cells #[Value.int IntKind.i64 a, Value.int IntKind.i64 b] 43)).alloc (Obj.cells #[Value.int IntKind.i64 c, Value.int IntKind.i64 d] 43)).alloc (Obj.cells #[Value.int IntKind.i64 0, Value.int IntKind.i64 0] 43)).drewN nq) = X := ⟨_, rfl⟩
    rw [hX]
    have hb : Below w.heap.size w X := by rw [← hX]; exact below_drewN (by go_grown) _
    have hs : X.heap.size = w.heap.size + 3 := by rw [← hX]; simp
    have k1 : Blk X w.heap.size 43 #[.int .i64 a, .int .i64 b] := by rw [← hX]; refine Blk.drewN ?_ _; (repeat' (first | (with_reducible refine Blk.drew ?_) | (with_reducible refine blk_new ?_; (simp; done)) | (with_reducible refine Blk.alloc ?_ _)))
    have k2 : Blk X (w.heap.size + 1) 43 #[.int .i64 c, .int .i64 d] := by rw [← hX]; refine Blk.drewN ?_ _; (repeat' (first | (with_reducible refine Blk.drew ?_) | (with_reducible refine blk_new ?_; (simp; done)) | (with_reducible refine Blk.alloc ?_ _)))
    have k3 : Blk X (w.heap.size + 1 + 1) 43 #[.int .i64 0, .int .i64 0] := by rw [← hX]; refine Blk.drewN ?_ _; (repeat' (first | (with_reducible refine Blk.drew ?_) | (with_reducible refine blk_new ?_; (simp; done)) | (with_reducible refine Blk.alloc ?_ _)))
    clear hX
    have c0 := k1.cell 0; have c1 := k1.cell 1; have c2 := k2.cell 0; have c3 := k2.cell 1
    simp at c0 c1 c2 c3
    have HK := Lib.hid k3; have HB := Lib.hid hb; have HS := Lib.hid hs
    clear k1 k2 k3 hb hs
    have wr := wraps4 b1 b2 b3 b4
    have n1 : g ≠ 0 := by omega
    have n2 : hh ≠ 0 := by omega
    go_region_held3 (fun w' => w'.cell? ⟨w.heap.size, 0, none⟩ = some (.int .i64 a) ∧ w'.cell? ⟨w.heap.size, 1, none⟩ = some (.int .i64 b) ∧ w'.cell? ⟨w.heap.size + 1, 0, none⟩ = some (.int .i64 c) ∧ w'.cell? ⟨w.heap.size + 1, 1, none⟩ = some (.int .i64 d))
      (first | exact ⟨c0, c1, c2, c3⟩ | exact keep4 HS.out ⟨c0, c1, c2, c3⟩ hb1 | exact keep4_set HS.out ⟨c0, c1, c2, c3⟩ hb1)
      ((first
        | (go_at_call 110; refine (W.out _).mono ?_; rintro e w1 ⟨rfl, hb1⟩; obtain ⟨r0, r1, r2, r3⟩ := res_cell HS.out HK.out hb1)))
    obtain ⟨q0, q1⟩ := res_set HS.out HK.out hb1 (.int .i64 rn) (.int .i64 rd)
    obtain ⟨Z, hZ⟩ : ∃ Z, ((w1.setCell ⟨w.heap.size + 1 + 1, 0, none⟩ (.int .i64 rn)).setCell ⟨w.heap.size + 1 + 1, 1, none⟩ (.int .i64 rd)) = Z := ⟨_, rfl⟩
    rw [hZ] at q0 q1
    rw [hZ]
    go_wp2
    (try simp only [Exit.inBlock, Exit.then])
    refine bodyPost_ret (by simp [results, Try.results81, go_sem, q0, q1]; try rfl) rfl ?_
    exact ⟨by rw [HE.out]; rfl, hZ ▸ (((through HB.out.drew (Nat.le_refl _) hb1).setCell (by show _ ≤ w.heap.size + 1 + 1; omega) _).setCell (by show _ ≤ w.heap.size + 1 + 1; omega) _)⟩
end Go.Proofs.Ytcechimilefihaa.Fr

namespace Go.Proofs.Ytcechimilefihaa.Fr
open Go

theorem knuth_iff {q r y1 y0 u u1 : Nat} (hr : r + q * y1 = u) : q * (y1 * 4294967296 + y0) ≤ u * 4294967296 + u1 ↔ q * y0 ≤ 4294967296 * r + u1 := by
  subst hr
  rw [Nat.mul_add, ← Nat.mul_assoc, Nat.add_mul]
  generalize q * y1 = A
  generalize q * y0 = B
  omega

/-- the digit: U / v -/
def digit (u u1 v : Nat) : Nat := (u * 4294967296 + u1) / v
theorem digit_le {q u u1 v : Nat} (hv : 0 < v) : q ≤ digit u u1 v ↔ q * v ≤ u * 4294967296 + u1 := by
  unfold digit; exact Nat.le_div_iff_mul_le hv
theorem digit_lt {u u1 v : Nat} (hu : u < v) (h1 : u1 < 4294967296) : digit u u1 v < 4294967296 := by
  unfold digit
  rw [Nat.div_lt_iff_lt_mul (by omega)]
  have : (u + 1) * 4294967296 ≤ v * 4294967296 := Nat.mul_le_mul_right _ hu
  omega

/-- what a trial digit q, with what is left r, is: not below the digit -/
structure Trial (u u1 y1 y0 q r : Nat) : Prop where
  eq : r + q * y1 = u
  ge : digit u u1 (y1 * 4294967296 + y0) ≤ q
  le : q ≤ 4294967297

theorem Trial.start {u u1 y1 y0 : Nat} (hy : 2147483648 ≤ y1) (h0 : y0 < 4294967296) (hu : u < y1 * 4294967296 + y0) (_h1 : u1 < 4294967296) :
    Trial u u1 y1 y0 (u / y1) (u % y1) := by
  have e := Nat.div_add_mod u y1
  refine ⟨by rw [Nat.mul_comm]; omega, ?_, ?_⟩
  · rcases Nat.lt_or_ge (u / y1) (digit u u1 (y1 * 4294967296 + y0)) with h | h
    · exfalso
      have h2 := (digit_le (by omega)).1 h
      have m := Nat.mod_lt u (show 0 < y1 by omega)
      have h3 : (u / y1 + 1) * (y1 * 4294967296) ≤ (u / y1 + 1) * (y1 * 4294967296 + y0) := Nat.mul_le_mul_left _ (by omega)
      have h4 : (u / y1 + 1) * (y1 * 4294967296) = (y1 * (u / y1)) * 4294967296 + y1 * 4294967296 := by rw [Nat.add_mul, Nat.one_mul, ← Nat.mul_assoc, Nat.mul_comm (u / y1) y1]
      have h5 : Nat.succ (u / y1) = u / y1 + 1 := rfl
      rw [h5] at h2
      generalize y1 * (u / y1) = A at *
      omega
    · exact h
  · have : u / y1 < 4294967298 := by
      rw [Nat.div_lt_iff_lt_mul (by omega)]; omega
    omega

/-- the trial digit is too great: it was tested so -/
theorem Trial.great {u u1 y1 y0 q r : Nat} (h : Trial u u1 y1 y0 q r) (_hy : 2147483648 ≤ y1) (hu : u < y1 * 4294967296 + y0) (h1 : u1 < 4294967296)
    (ht : 4294967296 ≤ q ∨ 4294967296 * r + u1 < q * y0) : digit u u1 (y1 * 4294967296 + y0) ≤ q - 1 ∧ 1 ≤ q := by
  rcases ht with ht | ht
  · have := digit_lt hu h1
    omega
  · have hq : ¬ q ≤ digit u u1 (y1 * 4294967296 + y0) := fun hq => by
      have := (knuth_iff h.eq).1 ((digit_le (by omega)).1 hq)
      omega
    have := h.ge
    omega

theorem Trial.next {u u1 y1 y0 q r : Nat} (h : Trial u u1 y1 y0 q r) (hy : 2147483648 ≤ y1) (hu : u < y1 * 4294967296 + y0) (h1 : u1 < 4294967296)
    (ht : 4294967296 ≤ q ∨ 4294967296 * r + u1 < q * y0) : Trial u u1 y1 y0 (q - 1) (r + y1) := by
  obtain ⟨g, g1⟩ := h.great hy hu h1 ht
  refine ⟨?_, g, by have := h.le; omega⟩
  have := h.eq
  have e : (q - 1) * y1 + y1 = q * y1 := by rw [← Nat.succ_mul]; congr 1; omega
  omega

theorem Trial.done {u u1 y1 y0 q r : Nat} (h : Trial u u1 y1 y0 q r) (hy : 2147483648 ≤ y1) (ht : q * y0 ≤ 4294967296 * r + u1) : q = digit u u1 (y1 * 4294967296 + y0) := by
  have h2 := (knuth_iff (y0 := y0) (u1 := u1) h.eq).2 ht
  have h3 := (digit_le (u := u) (u1 := u1) (show 0 < y1 * 4294967296 + y0 by omega)).2 h2
  have := h.ge
  omega

/-- it is left because what is left has grown: the digit is right then -/
theorem Trial.left {u u1 y1 y0 q r : Nat} (h : Trial u u1 y1 y0 q r) (hy : 2147483648 ≤ y1) (h0 : y0 < 4294967296) (hr : 4294967296 ≤ r) (hq : q ≤ 4294967296) : q = digit u u1 (y1 * 4294967296 + y0) := by
  apply h.done hy
  have a : q * y0 ≤ 4294967296 * 4294967295 := Nat.mul_le_mul hq (by omega)
  omega

theorem two_gen {U u0 v B : Nat} (hv : 0 < v) :
    (U * B + u0) / v = U / v * B + (U % v * B + u0) / v ∧ (U * B + u0) % v = (U % v * B + u0) % v := by
  have e := Nat.div_add_mod U v
  have e2 : U * B + u0 = (U % v * B + u0) + v * (U / v * B) := by
    have h : U * B = (v * (U / v) + U % v) * B := by rw [e]
    rw [h, Nat.add_mul, Nat.mul_assoc]
    generalize v * (U / v * B) = X
    generalize U % v * B = Y
    omega
  constructor
  · rw [e2, Nat.add_mul_div_left _ _ hv, Nat.add_comm]
  · rw [e2, Nat.add_mul_mod_self_left]

/-- two digits are the quotient -/
theorem two_digits {u u1 u0 v : Nat} (hv : 0 < v) :
    ((u * 4294967296 + u1) * 4294967296 + u0) / v = digit u u1 v * 4294967296 + digit ((u * 4294967296 + u1) % v) u0 v ∧
    ((u * 4294967296 + u1) * 4294967296 + u0) % v = (((u * 4294967296 + u1) % v) * 4294967296 + u0) % v :=
  two_gen hv

/-- shifted alike, the quotient is the same, and what is left is shifted -/
theorem shifted {n y p : Nat} (hp : 0 < p) : (n * p) / (y * p) = n / y ∧ (n * p) % (y * p) / p = n % y := by
  refine ⟨Nat.mul_div_mul_right _ _ hp, ?_⟩
  rw [Nat.mul_mod_mul_right, Nat.mul_div_cancel _ hp]
end Go.Proofs.Ytcechimilefihaa.Fr

namespace Go.Proofs.Ytcechimilefihaa.Fr
open Go.ChangeShapes Go.WideShapes Go.ChangeAt Go.RowKit M

attribute [local go_sem] Lib.len8tab_size
theorem tab_get (y : Int) (h : y.toNat < Lib.len8tab.size) (h0 : 0 ≤ y) (h1 : y ≤ 255) : ((Lib.len8tab[y.toNat]'h).toNat : Int) = (Lib.bitLen y.toNat : Int) := by
  rw [← Lib.len8_of y h0 h1]; unfold Lib.len8; rw [getElem?_pos Lib.len8tab y.toNat h]; rfl

theorem len_bd {n : Nat} (h : n < 256) : Lib.bitLen n ≤ 8 := Lib.bitLen_le8 ⟨n, h⟩
theorem wrap_two {n : Nat} (h : n ≤ 8) : wrap64 (wrap64 (n : Int)) = n := by unfold wrap64; omega
theorem wrap_sum (k n m : Nat) (hk : k ≤ 56) (hn : n ≤ 8) (s : m = k + n) : wrap64 ((k : Int) + wrap64 (n : Int)) = m := by
  unfold wrap64; omega

set_option maxHeartbeats 4000000 in
set_option maxRecDepth 100000 in
theorem len64_any (x : Int) (w : World) (h0 : 0 ≤ x) (h1 : x ≤ 18446744073709551615) :
    Calls Try.prog 122 #[.int .u64 x] w fun e w' => e = .returned (.int .i64 (Lib.bitLen x.toNat)) ∧ w' = w := by
  go_enter Try.func122, Try.ntmps122
  go_wp2
  all_goals (go_ret; refine ⟨congrArg Ending.returned (congrArg (Value.int IntKind.i64) ?_), rfl⟩)
  all_goals first
    | (rw [tab_get (x / 4294967296 / 65536 / 256) _ (by omega) (by omega), show (x / 4294967296 / 65536 / 256).toNat = x.toNat / 72057594037927936 by omega]
       exact wrap_sum 56 _ _ (by decide) (len_bd (by omega)) (Lib.bitLen_shift56 x.toNat (by omega) (by omega)))
    | (rw [tab_get (x / 4294967296 / 65536) _ (by omega) (by omega), show (x / 4294967296 / 65536).toNat = x.toNat / 281474976710656 by omega]
       exact wrap_sum 48 _ _ (by decide) (len_bd (by omega)) (Lib.bitLen_shift48 x.toNat (by omega) (by omega)))
    | (rw [tab_get (x / 4294967296 / 256) _ (by omega) (by omega), show (x / 4294967296 / 256).toNat = x.toNat / 1099511627776 by omega]
       exact wrap_sum 40 _ _ (by decide) (len_bd (by omega)) (Lib.bitLen_shift40 x.toNat (by omega) (by omega)))
    | (rw [tab_get (x / 4294967296) _ (by omega) (by omega), show (x / 4294967296).toNat = x.toNat / 4294967296 by omega]
       exact wrap_sum 32 _ _ (by decide) (len_bd (by omega)) (Lib.bitLen_shift32 x.toNat (by omega) (by omega)))
    | (rw [tab_get (x / 65536 / 256) _ (by omega) (by omega), show (x / 65536 / 256).toNat = x.toNat / 16777216 by omega]
       exact wrap_sum 24 _ _ (by decide) (len_bd (by omega)) (Lib.bitLen_shift24 x.toNat (by omega) (by omega)))
    | (rw [tab_get (x / 65536) _ (by omega) (by omega), show (x / 65536).toNat = x.toNat / 65536 by omega]
       exact wrap_sum 16 _ _ (by decide) (len_bd (by omega)) (Lib.bitLen_shift16 x.toNat (by omega) (by omega)))
    | (rw [tab_get (x / 256) _ (by omega) (by omega), show (x / 256).toNat = x.toNat / 256 by omega]
       exact wrap_sum 8 _ _ (by decide) (len_bd (by omega)) (Lib.bitLen_shift8 x.toNat (by omega) (by omega)))
    | (rw [tab_get x _ (by omega) (by omega)]
       exact wrap_two (len_bd (by omega)))

theorem zeros64_any (x : Int) (w : World) (h0 : 0 ≤ x) (h1 : x ≤ 18446744073709551615) :
    Calls Try.prog 119 #[.int .u64 x] w fun e w' => e = .returned (.int .i64 (64 - (Lib.bitLen x.toNat : Int))) ∧ w' = w := by
  have l := Lib.bitLen_le x.toNat 64 (by omega) (show x.toNat < 18446744073709551616 by omega)
  have L := Lib.hid (len64_any x · h0 h1)
  generalize Lib.bitLen x.toNat = n at *
  go_enter Try.func119, Try.ntmps119
  go_wp2_with fail
  refine (L.out _).mono ?_; rintro e w' ⟨rfl, rfl⟩
  go_wp2
  go_returns
  exact ⟨rfl, rfl⟩

/-- shifted by its leading zeros, it fills the word -/
theorem zeros_fill {y : Nat} (h0 : 0 < y) (h1 : y < 18446744073709551616) :
    Lib.bitLen y ≤ 64 ∧ 1 ≤ Lib.bitLen y ∧ 9223372036854775808 ≤ y * 2 ^ (64 - Lib.bitLen y) ∧ y * 2 ^ (64 - Lib.bitLen y) < 18446744073709551616 := by
  obtain ⟨a, b, c⟩ := Lib.bitLenAux_bounds 64 y h1 (by omega)
  change 1 ≤ Lib.bitLen y at a
  change 2 ^ (Lib.bitLen y - 1) ≤ y at b
  change y < 2 ^ Lib.bitLen y at c
  have l := Lib.bitLen_le y 64 (by omega) h1
  generalize Lib.bitLen y = n at *
  have p : 0 < 2 ^ (64 - n) := Nat.two_pow_pos _
  refine ⟨l, a, ?_, ?_⟩
  · have := Nat.mul_le_mul_right (2 ^ (64 - n)) b
    rw [← Nat.pow_add, show n - 1 + (64 - n) = 63 by omega] at this
    exact this
  · have := Nat.mul_lt_mul_of_pos_right c p
    rw [← Nat.pow_add, show n + (64 - n) = 64 by omega] at this
    exact this
end Go.Proofs.Ytcechimilefihaa.Fr

namespace Go.Proofs.Ytcechimilefihaa.Fr
open Go.ChangeShapes Go.WideShapes Go.ChangeAt Go.RowKit M

theorem setup_sum {hi lo p B C : Nat} (e : lo * p = B * 18446744073709551616 + C) (e2 : hi * 18446744073709551616 * p = hi * p * 18446744073709551616) (hb : C < 18446744073709551616) :
    (hi * 18446744073709551616 + lo) * p = (hi * p + B) * 18446744073709551616 + lo * p % 18446744073709551616 := by
  rw [Nat.add_mul, e2, e]
  generalize hi * p = D
  omega

/-- what stands in the variables once both are shifted to the word's top -/
theorem div_setup {hi lo y n : Nat} (h1 : lo < 18446744073709551616) (k1 : hi < y) (hn : n ≤ 64) (hn1 : 1 ≤ n) (z4 : y * 2 ^ (64 - n) < 18446744073709551616) :
    IntKind.u64.wrap ((y : Int) * 2 ^ (64 - n)) = ((y * 2 ^ (64 - n) : Nat) : Int) ∧
    bits BinOp.or IntKind.u64 (IntKind.u64.wrap ((hi : Int) * 2 ^ (64 - n))) ((lo : Int) / 2 ^ (64 - (64 - n))) = ((hi * 2 ^ (64 - n) + lo / 2 ^ n : Nat) : Int) ∧
    IntKind.u64.wrap ((lo : Int) * 2 ^ (64 - n)) = ((lo * 2 ^ (64 - n) % 18446744073709551616 : Nat) : Int) ∧
    hi * 2 ^ (64 - n) + lo / 2 ^ n < y * 2 ^ (64 - n) ∧
    (hi * 18446744073709551616 + lo) * 2 ^ (64 - n) = (hi * 2 ^ (64 - n) + lo / 2 ^ n) * 18446744073709551616 + lo * 2 ^ (64 - n) % 18446744073709551616 := by
  have pq : 2 ^ n * 2 ^ (64 - n) = 18446744073709551616 := by rw [← Nat.pow_add, show n + (64 - n) = 64 by omega]
  have cast : ∀ a : Nat, (a : Int) * 2 ^ (64 - n) = ((a * 2 ^ (64 - n) : Nat) : Int) := fun a => by rw [Int.natCast_mul, Int.natCast_pow]; rfl
  have hp : 0 < 2 ^ (64 - n) := Nat.two_pow_pos _
  have hq : lo / 2 ^ n < 2 ^ (64 - n) := by rw [Nat.div_lt_iff_lt_mul (Nat.two_pow_pos _), Nat.mul_comm, pq]; exact h1
  have hlt : hi * 2 ^ (64 - n) + 2 ^ (64 - n) ≤ y * 2 ^ (64 - n) := by
    have := Nat.mul_le_mul_right (2 ^ (64 - n)) (show hi + 1 ≤ y by omega)
    rwa [Nat.add_mul, Nat.one_mul] at this
  have ed : (lo : Int) / 2 ^ (64 - (64 - n)) = ((lo / 2 ^ n : Nat) : Int) := by
    rw [show 64 - (64 - n) = n by omega, Int.natCast_ediv, Int.natCast_pow]; rfl
  refine ⟨?_, ?_, ?_, by omega, ?_⟩
  · rw [cast]; exact Mul64.wrapN _ z4
  · rw [cast, Mul64.wrapN _ (by omega), ed, bits_or_u64_nat _ _ (by omega) (by omega), ← Nat.shiftLeft_eq, Nat.shiftLeft_add_eq_or_of_lt hq]
  · rw [cast]; exact Mul64.wrapM _
  · have e : lo * 2 ^ (64 - n) = lo / 2 ^ n * 18446744073709551616 + lo % 2 ^ n * 2 ^ (64 - n) := by
      have e0 := Nat.div_add_mod lo (2 ^ n)
      have : lo * 2 ^ (64 - n) = (2 ^ n * (lo / 2 ^ n) + lo % 2 ^ n) * 2 ^ (64 - n) := by rw [e0]
      rw [this, Nat.add_mul, ← pq]
      congr 1
      ac_rfl
    have hb : lo % 2 ^ n * 2 ^ (64 - n) < 18446744073709551616 := by
      have := Nat.mul_lt_mul_of_pos_right (Nat.mod_lt lo (Nat.two_pow_pos n)) hp
      rwa [pq] at this
    have e2 : hi * 18446744073709551616 * 2 ^ (64 - n) = hi * 2 ^ (64 - n) * 18446744073709551616 := by ac_rfl
    exact setup_sum e e2 hb

theorem div64_zero (lo y : Int) (w : World) (h0 : 0 ≤ lo) (h1 : lo ≤ 18446744073709551615) (hy : 1 ≤ y) (hy1 : y ≤ 18446744073709551615) :
    Calls Try.prog 112 #[.int .u64 0, .int .u64 lo, .int .u64 y] w fun e w' => e = .returned (.tuple #[.int .u64 (lo / y), .int .u64 (lo % y)]) ∧ ∃ n, w' = w.drewN n := by
  have b0 : 0 ≤ lo / y := Int.ediv_nonneg h0 (by omega)
  have b1 : lo / y ≤ lo := Int.ediv_le_self _ h0
  have m0 := Int.emod_nonneg lo (show y ≠ 0 by omega)
  have m1 := Int.emod_lt_of_pos lo (show 0 < y by omega)
  have n0 : y ≠ 0 := by omega
  have e1 : (y == 0) = false := by simp; omega
  have e2 : decide (y ≤ 0) = false := by simp; omega
  have t1 : lo.tdiv y = lo / y := Int.tdiv_eq_ediv_of_nonneg h0
  have t2 : lo.tmod y = lo % y := Int.tmod_eq_emod_of_nonneg h0
  go_enter Try.func112, Try.ntmps112
  go_wp2

  go_quiet (fail)
  go_wp2

  go_returns
  exact ⟨rfl, _, rfl⟩
end Go.Proofs.Ytcechimilefihaa.Fr
