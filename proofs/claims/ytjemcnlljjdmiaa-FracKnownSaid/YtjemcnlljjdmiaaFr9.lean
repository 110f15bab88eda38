/- Fractions: sums, as the program makes them: the plain law of the numbers that it goes through. -/
import Derived.Test.YtjemcnlljjdmiaaFr8
import Derived.Test.YtjemcnlljjdmiaaFrW9
namespace Go.Proofs.Ytjemcnlljjdmiaa.Fr
open Go.ChangeShapes Go.WideShapes Go.ChangeAt Go.RowKit M

theorem carry_lo {X Y : Nat} : (loW X + loW Y + 0) % 18446744073709551616 = loW (X + Y) := by unfold loW; omega
theorem carry_hi {X Y : Nat} (h : X + Y < 340282366920938463463374607431768211456) : (hiW X + hiW Y + (loW X + loW Y + 0) / 18446744073709551616) % 18446744073709551616 = hiW (X + Y) := by unfold hiW loW; omega

theorem rem_of {S g : Nat} (hg : 0 < g) : ((hiW S % (g : Int)).toNat * 18446744073709551616 + (loW S).toNat) % g = S % g := by
  unfold hiW loW
  have e : ((S / 18446744073709551616 : Nat) : Int) % (g : Int) = ((S / 18446744073709551616 % g : Nat) : Int) := (Int.natCast_emod _ _).symm
  rw [e, Int.toNat_natCast, Int.toNat_natCast]
  obtain ⟨-, e2⟩ := two_gen (U := S / 18446744073709551616) (u0 := S % 18446744073709551616) (B := 18446744073709551616) hg
  rw [← e2]
  congr 1; omega

theorem quo_of {S t : Nat} (ht : 0 < t) :
    S / t = S / 18446744073709551616 / t * 18446744073709551616 + (S / 18446744073709551616 % t * 18446744073709551616 + S % 18446744073709551616) / t := by
  obtain ⟨e1, -⟩ := two_gen (U := S / 18446744073709551616) (u0 := S % 18446744073709551616) (B := 18446744073709551616) ht
  rw [← e1]
  congr 1; omega

theorem low_lt {S t : Nat} (ht : 0 < t) : (S / 18446744073709551616 % t * 18446744073709551616 + S % 18446744073709551616) / t < 18446744073709551616 := by
  rw [Nat.div_lt_iff_lt_mul ht]
  have h := Nat.mod_lt (S / 18446744073709551616) ht
  have : (S / 18446744073709551616 % t + 1) * 18446744073709551616 ≤ t * 18446744073709551616 := Nat.mul_le_mul_right _ h
  rw [Nat.mul_comm 18446744073709551616 t]
  omega

/-- two products in two blocks -/
def PairAt (w : World) (B : Nat) (a b c d : Int) (X Y : Nat) (p q : Value) (wr : World) : Prop :=
  ∃ g1 g2, p = .pointer (some ⟨g1, 0, none⟩) ∧ q = .pointer (some ⟨g2, 0, none⟩) ∧ Below B w wr ∧ Thr wr B a b c d ∧ Blk wr g1 72 #[.int .u64 (hiW X), .int .u64 (loW X)] ∧ Blk wr g2 72 #[.int .u64 (hiW Y), .int .u64 (loW Y)]

theorem plus_fits {S t : Nat} (ht : 0 < t) :
    fits ((S / t : Nat) : Int) = decide (S / 18446744073709551616 / t = 0 ∧ (S / 18446744073709551616 % t * 18446744073709551616 + S % 18446744073709551616) / t ≤ M63) ∧
    (S / 18446744073709551616 / t = 0 → S / t = (S / 18446744073709551616 % t * 18446744073709551616 + S % 18446744073709551616) / t) := by
  have e := quo_of (S := S) ht
  have l := low_lt (S := S) ht
  generalize (S / 18446744073709551616 % t * 18446744073709551616 + S % 18446744073709551616) / t = n at *
  generalize S / 18446744073709551616 / t = o at *
  constructor
  · rw [fits_nat, decide_eq_decide]; unfold M63; omega
  · intro h; omega
theorem bothR_no {x y : Int} (h : fits x = false ∨ fits y = false) : bothR x y = ⟨0, 0, false⟩ := by
  unfold bothR
  rcases h with h | h
  · rw [h]; rfl
  · rw [h, Bool.and_false]; rfl
theorem bothR_yes {x y : Int} (h : fits x = true) (k : fits y = true) : bothR x y = ⟨x, y, true⟩ := by
  unfold bothR; rw [h, k]; rfl
end Go.Proofs.Ytjemcnlljjdmiaa.Fr
