/- Division of 128 bits by 64, whole; sums with a carry. -/
import Derived.Test.YtjemcnlljjdmiaaFr7
import Derived.Laws.Externs
namespace Go.Proofs.Ytjemcnlljjdmiaa.Fr
open Go.ChangeShapes Go.WideShapes Go.ChangeAt Go.RowKit M

/-- a number of 128 bits by one of 64: the quotient, the rest -/
def quoI (hi lo y : Int) : Int := ((hi.toNat * 18446744073709551616 + lo.toNat) / y.toNat : Nat)
def remI (hi lo y : Int) : Int := ((hi.toNat * 18446744073709551616 + lo.toNat) % y.toNat : Nat)

theorem div64_any (hi lo y : Int) (w : World) (h0 : 0 ≤ hi) (h1 : hi < y) (l0 : 0 ≤ lo) (l1 : lo ≤ 18446744073709551615) (hy : y ≤ 18446744073709551615) :
    Calls Try.prog 73 #[.int .u64 hi, .int .u64 lo, .int .u64 y] w fun e w' => e = .returned (.tuple #[.int .u64 (quoI hi lo y), .int .u64 (remI hi lo y)]) ∧ ∃ n, w' = w.drewN n := by
  rcases (show hi = 0 ∨ 1 ≤ hi by omega) with rfl | h
  · refine (div64_zero lo y w l0 l1 (by omega) hy).mono fun e w' ⟨he, hw⟩ => ⟨?_, hw⟩
    rw [he]
    unfold quoI remI
    rw [show (0 : Int).toNat = 0 from rfl, Nat.zero_mul, Nat.zero_add]
    have el : lo = (lo.toNat : Int) := by omega
    have ey : y = (y.toNat : Int) := by omega
    exact ret_two (by rw [Int.natCast_ediv, ← el, ← ey]) (by rw [Int.natCast_emod, ← el, ← ey])
  · have := div64_pos hi.toNat lo.toNat y.toNat w (by omega) (by omega) (by omega) (by omega)
    rw [Int.toNat_of_nonneg h0, Int.toNat_of_nonneg l0, Int.toNat_of_nonneg (show 0 ≤ y by omega)] at this
    refine this.mono fun e w' ⟨he, hw⟩ => ⟨he, 0, hw⟩

theorem add64 (x y c : Int) (hx : 0 ≤ x) (hx1 : x ≤ 18446744073709551615) (hy : 0 ≤ y) (hy1 : y ≤ 18446744073709551615) (hc0 : 0 ≤ c) (hc : c ≤ 1) (w : World) : (callFunc 72 #[.int .u64 x, .int .u64 y, .int .u64 c]).run Try.prog w =
    .ok (.value (.tuple #[.int .u64 ((x + y + c) % 18446744073709551616), .int .u64 ((x + y + c) / 18446744073709551616)])) w := by
  obtain ⟨x, rfl⟩ := Int.eq_ofNat_of_zero_le hx
  obtain ⟨y, rfl⟩ := Int.eq_ofNat_of_zero_le hy
  obtain ⟨c, rfl⟩ := Int.eq_ofNat_of_zero_le hc0
  rw [run_callFunc_extern Try.func72 (by kernel_rfl) (by kernel_rfl) (by kernel_rfl) (e := add64Entry) (by kernel_rfl), run_add64 x y c (by omega) (by omega) (by omega) (by omega)]
  rfl

/-! ### the plain law of a sum -/
/-- what the program makes of a sum: S over k, and the denominator -/
theorem plus_some {a b c d : Int} (h : Lowest a b) (k : Lowest c d) {g S t : Nat} (hg : Nat.gcd b.toNat d.toNat = g) (hS : a.toNat * (d.toNat / g) + c.toNat * (b.toNat / g) = S) (ht : Nat.gcd S g = t) :
    plusR a b c d = bothR ((S / t : Nat) : Int) ((b.toNat / g * (d.toNat / t) : Nat) : Int) := by
  obtain ⟨h0, h1, h2, h3, h4⟩ := h
  obtain ⟨k0, k1, k2, k3, k4⟩ := k
  have pb : 0 < b.toNat := by omega
  have pd : 0 < d.toNat := by omega
  unfold plusR
  generalize a.toNat = A at *
  generalize b.toNat = B at *
  generalize c.toNat = C at *
  generalize d.toNat = D at *
  obtain ⟨g1, g2⟩ := gcd_plus pb pd h4 k4
  rw [hg, hS] at g1 g2
  rw [ht] at g1
  have pg : 0 < g := hg ▸ Nat.gcd_pos_of_pos_right _ pd
  have pt : 0 < t := ht ▸ Nat.gcd_pos_of_pos_right _ pg
  rw [rightR_both (p := S / t) (q := B / g * (D / t))]
  · rw [g1, g2]; exact Nat.mul_div_mul_left _ _ pg
  · rw [g1]
    have d1 : g ∣ B := hg ▸ Nat.gcd_dvd_left B D
    have d2 : t ∣ D := Nat.dvd_trans (ht ▸ Nat.gcd_dvd_right S g) (hg ▸ Nat.gcd_dvd_right B D)
    exact (Nat.div_mul_div_comm d1 d2).symm
end Go.Proofs.Ytjemcnlljjdmiaa.Fr
