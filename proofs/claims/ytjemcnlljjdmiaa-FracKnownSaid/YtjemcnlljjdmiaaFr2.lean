/- What the program's functions on ints return: products of 128 bits, products, the greatest common divisor, fractions. -/
import Derived.Test.YtjemcnlljjdmiaaFr
import Derived.Shelf.Bits.Mul64
import Derived.Deep.QuietTactic
import Derived.BigQuiet
namespace Go.Proofs.Ytjemcnlljjdmiaa.Fr
open Go.ChangeShapes Go.WideShapes Go.ChangeAt Go.RowKit M

set_option maxHeartbeats 1000000 in
theorem mul64_any (x y : Nat) (hx : x < 18446744073709551616) (hy : y < 18446744073709551616) (w : World) :
    Calls Try.prog 49 #[.int .u64 x, .int .u64 y] w fun e w' => e = .returned (.tuple #[.int .u64 (hiW (x * y)), .int .u64 (loW (x * y))]) ∧ w = w' := by
  obtain ⟨bd, bt, bw, hhi⟩ := Lib.mul64_hi x y hx hy
  have ba := Lib.half_mul_le (a := x / 4294967296) (b := y / 4294967296) (by omega) (by omega)
  have bb := Lib.half_mul_le (a := x / 4294967296) (b := y % 4294967296) (by omega) (by omega)
  have bc := Lib.half_mul_le (a := x % 4294967296) (b := y / 4294967296) (by omega) (by omega)
  have ba' : x / 4294967296 * (y / 4294967296) < 18446744073709551616 := by omega
  have bb' : x / 4294967296 * (y % 4294967296) < 18446744073709551616 := by omega
  have bc' : x % 4294967296 * (y / 4294967296) < 18446744073709551616 := by omega
  have bh1 : x / 4294967296 * (y / 4294967296) + (x / 4294967296 * (y % 4294967296) + x % 4294967296 * (y % 4294967296) / 4294967296) / 4294967296 < 18446744073709551616 := by omega
  have bh : x / 4294967296 * (y / 4294967296) + (x / 4294967296 * (y % 4294967296) + x % 4294967296 * (y % 4294967296) / 4294967296) / 4294967296 + ((x / 4294967296 * (y % 4294967296) + x % 4294967296 * (y % 4294967296) / 4294967296) % 4294967296 + x % 4294967296 * (y / 4294967296)) / 4294967296 < 18446744073709551616 := by omega
  go_enter Try.func49, Try.ntmps49
  go_wp2
  simp only [Mul64.maskN x hx, Mul64.maskN y hy, Mul64.divN, Mul64.mulN, Mul64.addN, Mul64.wrapN _ bd, Mul64.wrapN _ bb', Mul64.wrapN _ bt, Mul64.maskN _ bt, Mul64.wrapN _ bc', Mul64.wrapN _ bw, Mul64.wrapN _ ba', Mul64.wrapN _ bh1, Mul64.wrapN _ bh, Mul64.wrapM (x * y)]
  rw [hhi]
  go_ret2
  exact ⟨rfl, rfl⟩

theorem mul64_int (x y : Int) (hx : 0 ≤ x ∧ x ≤ 18446744073709551615) (hy : 0 ≤ y ∧ y ≤ 18446744073709551615) (w : World) :
    Calls Try.prog 49 #[.int .u64 x, .int .u64 y] w fun e w' => e = .returned (.tuple #[.int .u64 (hiW (x.toNat * y.toNat)), .int .u64 (loW (x.toNat * y.toNat))]) ∧ w = w' := by
  have := mul64_any x.toNat y.toNat (by omega) (by omega) w
  rwa [Int.toNat_of_nonneg hx.1, Int.toNat_of_nonneg hy.1] at this

/-- what a product needs, by its two halves -/
theorem mul_halves {a b : Int} : (abs64 a).toNat * (abs64 b).toNat = (a * b).natAbs := by
  unfold abs64; rw [Int.toNat_natCast, Int.toNat_natCast, Int.natAbs_mul]

theorem wrap_neg {l : Int} (h0 : 0 ≤ l) (h1 : l ≤ 9223372036854775808) : wrap64 (IntKind.u64.wrap (-l)) = -l := by
  rw [IntKind.wrap_u64]; unfold wrap64; omega

theorem mul_any (a b : Int) (w : World) (ha : I64 a) (hb : I64 b) :
    Calls Try.prog 15 #[.int .i64 a, .int .i64 b] w fun e w' => e = .returned (.tuple #[.int .i64 (asInt (a * b)), .bool (fits (a * b))]) ∧ w = w' := by
  have ba := abs64_bd ha
  have bb := abs64_bd hb
  have HM := Lib.hid (mul64_int (abs64 a) (abs64 b) (by omega) (by omega))
  rw [mul_halves] at HM
  have SA := Lib.hid (size_any a · ha)
  have SB := Lib.hid (size_any b · hb)
  have hl := lo_bd (a * b).natAbs
  have hh : 0 ≤ hiW (a * b).natAbs := by unfold hiW; omega
  have hn : ((a * b).natAbs : Int) = hiW (a * b).natAbs * 18446744073709551616 + loW (a * b).natAbs := by unfold hiW loW; omega
  rcases (show (0 ≤ a ∧ 0 ≤ b) ∨ (a < 0 ∧ b < 0) ∨ (0 ≤ a ∧ b < 0) ∨ (a < 0 ∧ 0 ≤ b) by omega) with ⟨s1, s2⟩ | ⟨s1, s2⟩ | ⟨s1, s2⟩ | ⟨s1, s2⟩
  case inl | inr.inl =>
    have hm1 : (decide (a < 0) == decide (b < 0)) = true := by rw [beq_iff_eq, decide_eq_decide]; omega
    have hm2 : (decide (a < 0) != decide (b < 0)) = false := by rw [bne, hm1]; rfl
    have hab : 0 ≤ a * b := by first | exact Int.mul_nonneg s1 s2 | exact Int.mul_nonneg_of_nonpos_of_nonpos (by omega) (by omega)
    rcases (show (hiW (a * b).natAbs = 0 ∧ loW (a * b).natAbs = a * b ∧ a * b ≤ 9223372036854775807) ∨ (hiW (a * b).natAbs = 0 ∧ 9223372036854775807 < loW (a * b).natAbs ∧ 9223372036854775807 < a * b) ∨ (1 ≤ hiW (a * b).natAbs ∧ 9223372036854775807 < a * b) by omega) with ⟨h1, h2, h3⟩ | ⟨h1, h2, h3⟩ | ⟨h1, h3⟩
    · have E := Lib.hid (fits_yes (x := a * b) ⟨by omega, h3⟩)
      have F := Lib.hid (show asInt (a * b) = a * b by unfold asInt; rw [E.out]; rfl)
      clear hn ha hb hl hh
      go_enter Try.func15, Try.ntmps15
      go_wp2_with fail
      refine (SA.out _).mono ?_; rintro e w' ⟨rfl, rfl⟩
      go_wp2_with fail
      refine (SB.out _).mono ?_; rintro e w' ⟨rfl, rfl⟩
      go_wp2_with fail
      refine (HM.out _).mono ?_; rintro e w' ⟨rfl, rfl⟩
      go_wp2
      go_returns
      exact ⟨by rw [E.out, F.out]; rfl, rfl⟩
    all_goals
      have E := Lib.hid (fits_no (x := a * b) (fun h => by unfold I64 at h; omega))
      have F := Lib.hid (show asInt (a * b) = 0 by unfold asInt; rw [E.out]; rfl)
      clear hn ha hb
      go_enter Try.func15, Try.ntmps15
      go_wp2_with fail
      refine (SA.out _).mono ?_; rintro e w' ⟨rfl, rfl⟩
      go_wp2_with fail
      refine (SB.out _).mono ?_; rintro e w' ⟨rfl, rfl⟩
      go_wp2_with fail
      refine (HM.out _).mono ?_; rintro e w' ⟨rfl, rfl⟩
      go_wp2
      all_goals first | (exfalso; omega) | (go_returns; exact ⟨by rw [E.out, F.out]; rfl, rfl⟩)
  all_goals
    have hm1 : (decide (a < 0) == decide (b < 0)) = false := by rw [beq_eq_false_iff_ne, ne_eq, decide_eq_decide]; omega
    have hm2 : (decide (a < 0) != decide (b < 0)) = true := by rw [bne, hm1]; rfl
    try have hm3 : decide (a < 0) = false := decide_eq_false (by omega)
    try have hm4 : decide (b < 0) = false := decide_eq_false (by omega)
    have hab : a * b ≤ 0 := by first | exact Int.mul_nonpos_of_nonneg_of_nonpos s1 (by omega) | exact Int.mul_nonpos_of_nonpos_of_nonneg (by omega) s2
    rcases (show (hiW (a * b).natAbs = 0 ∧ loW (a * b).natAbs ≤ 9223372036854775808 ∧ -loW (a * b).natAbs = a * b) ∨ (hiW (a * b).natAbs = 0 ∧ 9223372036854775808 < loW (a * b).natAbs ∧ a * b < -9223372036854775808) ∨ (1 ≤ hiW (a * b).natAbs ∧ a * b < -9223372036854775808) by omega) with ⟨h1, h2, h3⟩ | ⟨h1, h2, h3⟩ | ⟨h1, h3⟩
    · have E := Lib.hid (fits_yes (x := a * b) ⟨by omega, by omega⟩)
      have F := Lib.hid (show asInt (a * b) = a * b by unfold asInt; rw [E.out]; rfl)
      have G := Lib.hid (wrap_neg hl.1 h2)
      have H3 := Lib.hid h3
      clear hn ha hb h3 hab
      go_enter Try.func15, Try.ntmps15
      go_wp2_with fail
      refine (SA.out _).mono ?_; rintro e w' ⟨rfl, rfl⟩
      go_wp2_with fail
      refine (SB.out _).mono ?_; rintro e w' ⟨rfl, rfl⟩
      go_wp2_with fail
      refine (HM.out _).mono ?_; rintro e w' ⟨rfl, rfl⟩
      go_wp2
      go_returns
      exact ⟨ret_ib (by rw [F.out, G.out, H3.out]) E.out.symm, rfl⟩
    all_goals
      have E := Lib.hid (fits_no (x := a * b) (fun h => by unfold I64 at h; omega))
      have F := Lib.hid (show asInt (a * b) = 0 by unfold asInt; rw [E.out]; rfl)
      clear hn ha hb
      go_enter Try.func15, Try.ntmps15
      go_wp2_with fail
      refine (SA.out _).mono ?_; rintro e w' ⟨rfl, rfl⟩
      go_wp2_with fail
      refine (SB.out _).mono ?_; rintro e w' ⟨rfl, rfl⟩
      go_wp2_with fail
      refine (HM.out _).mono ?_; rintro e w' ⟨rfl, rfl⟩
      go_wp2
      all_goals first | (exfalso; omega) | (go_returns; exact ⟨by rw [E.out, F.out]; rfl, rfl⟩)

/-- the greatest common divisor; 0 of what is below 0 -/
def gcdF (a b : Int) : Int := if a < 0 ∨ b < 0 then 0 else (Nat.gcd a.toNat b.toNat : Int)

theorem gcd_any (a b : Int) (w : World) (ha : I64 a) (hb : I64 b) :
    Calls Try.prog 39 #[.int .i64 a, .int .i64 b] w fun e w' => e = .returned (.int .i64 (gcdF a b)) ∧ ∃ n, w' = w.drewN n := by
  by_cases h : a < 0 ∨ b < 0
  · have E := Lib.hid (show gcdF a b = 0 from if_pos h)
    rcases (show a < 0 ∨ (0 ≤ a ∧ b < 0) by omega) with h1 | ⟨h1, h2⟩
    all_goals
      clear h
      go_enter Try.func39, Try.ntmps39
      go_wp2
      go_returns
      exact ⟨ret_int E.out.symm, 0, rfl⟩
  · have E := Lib.hid (show gcdF a b = (Nat.gcd a.toNat b.toNat : Int) from if_neg h)
    unfold I64 at ha hb
    have h1 : 0 ≤ a := by omega
    have h2 : 0 ≤ b := by omega
    have hd : (decide (a < 0) || decide (b < 0)) = false := by simp; omega
    go_enter Try.func39, Try.ntmps39
    go_wp2
    go_loopw [0, 1] (fun x y wr => ∃ p q m : Nat, wr = w.drewN m ∧ (p : Int) ≤ 9223372036854775807 ∧ (q : Int) ≤ 9223372036854775807 ∧ Nat.gcd p q = Nat.gcd a.toNat b.toNat ∧ x = .int .i64 p ∧ y = .int .i64 q) (fun _ y _ => (intOf y).toNat)
    case atStart => exact ⟨a.toNat, b.toNat, 0, rfl, by omega, by omega, rfl, by rw [Int.toNat_of_nonneg h1], by rw [Int.toNat_of_nonneg h2]⟩
    case round =>
      obtain ⟨p, q, m, rfl, hp, hq, hg, rfl, rfl⟩ := hrel
      have HG := Lib.hid hg
      clear hg
      by_cases h0 : 0 < q
      · have hm : ((p : Int) % (q : Int)) = ((p % q : Nat) : Int) := (Int.natCast_emod p q).symm
        have hlt := Nat.mod_lt p h0
        have hq0 : ((q : Int) == 0) = false := by simp; omega
        have hq1 : (1 : Int) ≤ q := by omega
        have HMM := Lib.hid hm
        clear hm
        go_wp2
        go_quiet (fail)
        go_wp2
        go_roundw
        case rel => exact ⟨q, p % q, m + nq, by rw [World.drewN_drewN], hq, by omega, by rw [gcd_step]; exact HG.out, rfl, by rw [HMM.out]⟩
        case measure => rw [HMM.out]; simp only [intOf, Int.toNat_natCast]; exact hlt
      · obtain rfl : q = 0 := by omega
        go_wp2
        go_returns
        exact ⟨ret_int (by rw [E.out, ← HG.out, Nat.gcd_zero_right]), m, rfl⟩
end Go.Proofs.Ytjemcnlljjdmiaa.Fr
