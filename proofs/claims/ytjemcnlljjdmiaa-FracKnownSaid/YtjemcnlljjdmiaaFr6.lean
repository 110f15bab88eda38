/- Division of 128 bits by 64. -/
import Derived.Test.YtjemcnlljjdmiaaFr5
import Derived.BigRegion
import Derived.Laws.Bits64b
namespace Go.Proofs.Ytjemcnlljjdmiaa.Fr
open Go.ChangeShapes Go.WideShapes Go.ChangeAt Go.RowKit M

theorem setup_sum {hi lo p B C : Nat} (e : lo * p = B * 18446744073709551616 + C) (e2 : hi * 18446744073709551616 * p = hi * p * 18446744073709551616) (hb : C < 18446744073709551616) :
    (hi * 18446744073709551616 + lo) * p = (hi * p + B) * 18446744073709551616 + lo * p % 18446744073709551616 := by
  rw [Nat.add_mul, e2, e]
  generalize hi * p = D
  omega

/-- what stands in the variables once both are shifted to the word's top -/
theorem div_setup {hi lo y n : Nat} (h1 : lo < 18446744073709551616) (k1 : hi < y) (hn : n ≤ 64) (hn1 : 1 ≤ n) (z4 : y * 2 ^ (64 - n) < 18446744073709551616) :
    IntKind.u64.wrap ((y : Int) * 2 ^ (64 - n)) = ((y * 2 ^ (64 - n) : Nat) : Int) ∧
    bits BinOp.or IntKind.u64 (IntKind.u64.wrap ((hi : Int) * 2 ^ (64 - n))) ((lo : Int) / 2 ^ (64 - (64 - n))) = ((hi * 2 ^ (64 - n) + lo / 2 ^ n : Nat) : Int) ∧
    IntKind.u64.wrap ((lo : Int) * 2 ^ (64 - n)) = ((lo * 2 ^ (64 - n) % 18446744073709551616 : Nat) : Int) ∧
    hi * 2 ^ (64 - n) + lo / 2 ^ n < y * 2 ^ (64 - n) ∧
    (hi * 18446744073709551616 + lo) * 2 ^ (64 - n) = (hi * 2 ^ (64 - n) + lo / 2 ^ n) * 18446744073709551616 + lo * 2 ^ (64 - n) % 18446744073709551616 := by
  have pq : 2 ^ n * 2 ^ (64 - n) = 18446744073709551616 := by rw [← Nat.pow_add, show n + (64 - n) = 64 by omega]
  have cast : ∀ a : Nat, (a : Int) * 2 ^ (64 - n) = ((a * 2 ^ (64 - n) : Nat) : Int) := fun a => by rw [Int.natCast_mul, Int.natCast_pow]; rfl
  have hp : 0 < 2 ^ (64 - n) := Nat.two_pow_pos _
  have hq : lo / 2 ^ n < 2 ^ (64 - n) := by rw [Nat.div_lt_iff_lt_mul (Nat.two_pow_pos _), Nat.mul_comm, pq]; exact h1
  have hlt : hi * 2 ^ (64 - n) + 2 ^ (64 - n) ≤ y * 2 ^ (64 - n) := by
    have := Nat.mul_le_mul_right (2 ^ (64 - n)) (show hi + 1 ≤ y by omega)
    rwa [Nat.add_mul, Nat.one_mul] at this
  have ed : (lo : Int) / 2 ^ (64 - (64 - n)) = ((lo / 2 ^ n : Nat) : Int) := by
    rw [show 64 - (64 - n) = n by omega, Int.natCast_ediv, Int.natCast_pow]; rfl
  refine ⟨?_, ?_, ?_, by omega, ?_⟩
  · rw [cast]; exact Mul64.wrapN _ z4
  · rw [cast, Mul64.wrapN _ (by omega), ed, bits_or_u64_nat _ _ (by omega) (by omega), ← Nat.shiftLeft_eq, Nat.shiftLeft_add_eq_or_of_lt hq]
  · rw [cast]; exact Mul64.wrapM _
  · have e : lo * 2 ^ (64 - n) = lo / 2 ^ n * 18446744073709551616 + lo % 2 ^ n * 2 ^ (64 - n) := by
      have e0 := Nat.div_add_mod lo (2 ^ n)
      have : lo * 2 ^ (64 - n) = (2 ^ n * (lo / 2 ^ n) + lo % 2 ^ n) * 2 ^ (64 - n) := by rw [e0]
      rw [this, Nat.add_mul, ← pq]
      congr 1
      ac_rfl
    have hb : lo % 2 ^ n * 2 ^ (64 - n) < 18446744073709551616 := by
      have := Nat.mul_lt_mul_of_pos_right (Nat.mod_lt lo (Nat.two_pow_pos n)) hp
      rwa [pq] at this
    have e2 : hi * 18446744073709551616 * 2 ^ (64 - n) = hi * 2 ^ (64 - n) * 18446744073709551616 := by ac_rfl
    exact setup_sum e e2 hb

theorem div64_zero (lo y : Int) (w : World) (h0 : 0 ≤ lo) (h1 : lo ≤ 18446744073709551615) (hy : 1 ≤ y) (hy1 : y ≤ 18446744073709551615) :
    Calls Try.prog 73 #[.int .u64 0, .int .u64 lo, .int .u64 y] w fun e w' => e = .returned (.tuple #[.int .u64 (lo / y), .int .u64 (lo % y)]) ∧ ∃ n, w' = w.drewN n := by
  have b0 : 0 ≤ lo / y := Int.ediv_nonneg h0 (by omega)
  have b1 : lo / y ≤ lo := Int.ediv_le_self _ h0
  have m0 := Int.emod_nonneg lo (show y ≠ 0 by omega)
  have m1 := Int.emod_lt_of_pos lo (show 0 < y by omega)
  have n0 : y ≠ 0 := by omega
  have e1 : (y == 0) = false := by simp; omega
  have e2 : decide (y ≤ 0) = false := by simp; omega
  have t1 : lo.tdiv y = lo / y := Int.tdiv_eq_ediv_of_nonneg h0
  have t2 : lo.tmod y = lo % y := Int.tmod_eq_emod_of_nonneg h0
  go_enter Try.func73, Try.ntmps73
  go_wp2

  go_quiet (fail)
  go_wp2

  go_returns
  exact ⟨rfl, _, rfl⟩
end Go.Proofs.Ytjemcnlljjdmiaa.Fr
