/- Fractions as numbers: what sums and products come to, whichever way they are put together: the plain law. -/
import Derived.Test.YtjemcnlljjdmiaaFrQ
namespace Go.Proofs.Ytjemcnlljjdmiaa.Fr
open Go

/-- n by d, in lowest terms, is V by W -/
structure Val (n d V W : Int) : Prop where
  low : Lowest n d
  pos : 0 < W
  eq : n * W = V * d

theorem Val.self {a b : Int} (h : Lowest a b) : Val a b a b := ⟨h, by have := h.2.2.1; omega, rfl⟩
theorem Val.uniq {a b c d V W V' W' : Int} (h : Val a b V W) (k : Val c d V' W') (e : V = V') (e' : W = W') : a = c ∧ b = d := by
  subst e; subst e'
  obtain ⟨h1, h2, h3⟩ := h
  obtain ⟨k1, k2, k3⟩ := k
  have x : a * d = c * b := by
    have : a * d * W = c * b * W := by
      have e1 : a * d * W = a * W * d := Int.mul_right_comm _ _ _
      have e2 : c * b * W = c * W * b := Int.mul_right_comm _ _ _
      rw [e1, e2, h3, k3, Int.mul_right_comm]
    exact Int.eq_of_mul_eq_mul_right (by omega) this
  exact (cmp_same h1 k1).1 (cmp_zero.2 x)

theorem right_val {N D : Nat} (hd : 0 < D) (h : (rightR N D).ok = true) {V W : Int} (hW : 0 < W) (e : (N : Int) * W = V * (D : Int)) : Val (rightR N D).n (rightR N D).d V W := by
  obtain ⟨g, g0, g1, g2⟩ := right_scale hd h
  refine ⟨Lowest.of_right hd h, hW, ?_⟩
  rw [g1, g2] at e
  generalize (rightR N D).n = x at *
  generalize (rightR N D).d = y at *
  have : g * (x * W) = g * (V * y) := by
    rw [← Int.mul_assoc, e, Int.mul_left_comm]
  exact Int.eq_of_mul_eq_mul_left (by omega) this

theorem Val.plus {a b c d V W V' W' : Int} (h : Val a b V W) (k : Val c d V' W') (o : (plusR a b c d).ok = true) : Val (plusR a b c d).n (plusR a b c d).d (V * W' + V' * W) (W * W') := by
  obtain ⟨⟨h0, h1, h2, h3, -⟩, hp, he⟩ := h
  obtain ⟨⟨k0, k1, k2, k3, -⟩, kp, ke⟩ := k
  unfold plusR at *
  refine right_val (Nat.mul_pos (by omega) (by omega)) o (Int.mul_pos hp kp) ?_
  rw [Int.natCast_add, int_prod h0 (by omega), int_prod k0 (by omega), int_prod (by omega) (by omega)]
  have e1 : a * d * (W * W') = V * W' * (b * d) := by
    have : a * d * (W * W') = a * W * (d * W') := by ac_rfl
    rw [this, he]; ac_rfl
  have e2 : c * b * (W * W') = V' * W * (b * d) := by
    have : c * b * (W * W') = c * W' * (b * W) := by ac_rfl
    rw [this, ke]; ac_rfl
  rw [Int.add_mul, Int.add_mul, e1, e2]

theorem Val.times {a b c d V W V' W' : Int} (h : Val a b V W) (k : Val c d V' W') (o : (timesR a b c d).ok = true) : Val (timesR a b c d).n (timesR a b c d).d (V * V') (W * W') := by
  obtain ⟨⟨h0, h1, h2, h3, -⟩, hp, he⟩ := h
  obtain ⟨⟨k0, k1, k2, k3, -⟩, kp, ke⟩ := k
  unfold timesR at *
  refine right_val (Nat.mul_pos (by omega) (by omega)) o (Int.mul_pos hp kp) ?_
  rw [int_prod h0 k0, int_prod (by omega) (by omega)]
  have : a * c * (W * W') = a * W * (c * W') := by ac_rfl
  rw [this, he, ke]; ac_rfl

theorem plus_comm (a b c d : Int) : plusR a b c d = plusR c d a b := by
  unfold plusR; rw [Nat.add_comm, Nat.mul_comm b.toNat]
theorem times_comm (a b c d : Int) : timesR a b c d = timesR c d a b := by
  unfold timesR; rw [Nat.mul_comm, Nat.mul_comm b.toNat]
theorem right_self {a b : Int} (h : Lowest a b) : rightR a.toNat b.toNat = ⟨a, b, true⟩ := by
  obtain ⟨h0, h1, h2, h3, h4⟩ := h
  have e := rightR_yes (n := a.toNat) (d := b.toNat) (by rw [h4, Nat.div_one]; unfold M63; omega) (by rw [h4, Nat.div_one]; unfold M63; omega)
  rw [e, h4, Nat.div_one, Nat.div_one, Int.toNat_of_nonneg h0, Int.toNat_of_nonneg (by omega)]
theorem plus_nought {a b : Int} (h : Lowest a b) : plusR a b 0 1 = ⟨a, b, true⟩ := by
  unfold plusR
  rw [show (0 : Int).toNat = 0 from rfl, show (1 : Int).toNat = 1 from rfl, Nat.mul_one, Nat.zero_mul, Nat.add_zero, Nat.mul_one]
  exact right_self h
theorem times_one {a b : Int} (h : Lowest a b) : timesR a b 1 1 = ⟨a, b, true⟩ := by
  unfold timesR
  rw [show (1 : Int).toNat = 1 from rfl, Nat.mul_one, Nat.mul_one]
  exact right_self h
theorem low_01 : Lowest 0 1 := ⟨by decide, by decide, by decide, by decide, by decide⟩
theorem low_11 : Lowest 1 1 := ⟨by decide, by decide, by decide, by decide, by decide⟩
theorem times_none {a b : Int} (h : Lowest a b) : timesR a b 0 1 = ⟨0, 1, true⟩ := times_zero h low_01 (.inr rfl)

theorem plus_more {a b c d : Int} (h : Lowest a b) (k : Lowest c d) (o : (plusR a b c d).ok = true) : ¬ cmpR (plusR a b c d).n (plusR a b c d).d a b < 0 := by
  obtain ⟨v1, v2, v3⟩ := (Val.self h).plus (Val.self k) o
  rw [cmp_lt]
  generalize (plusR a b c d).n = x at *
  generalize (plusR a b c d).d = y at *
  obtain ⟨h0, h1, h2, h3, -⟩ := h
  obtain ⟨k0, k1, k2, k3, -⟩ := k
  have y0 := v1.2.2.1
  intro hl
  have l2 := Int.mul_lt_mul_of_pos_right hl (show 0 < d by omega)
  have e1 : x * b * d = x * (b * d) := Int.mul_assoc _ _ _
  rw [e1, v3, Int.add_mul] at l2
  have e2 : a * y * d = a * d * y := Int.mul_right_comm _ _ _
  have e3 : 0 ≤ c * b * y := Int.mul_nonneg (Int.mul_nonneg k0 (by omega)) (by omega)
  omega

theorem plus_assoc {a b c d e f : Int} (h : Lowest a b) (k : Lowest c d) (l : Lowest e f) (o1 : (plusR a b c d).ok = true) (o2 : (plusR c d e f).ok = true)
    (o3 : (plusR (plusR a b c d).n (plusR a b c d).d e f).ok = true) (o4 : (plusR a b (plusR c d e f).n (plusR c d e f).d).ok = true) :
    (plusR (plusR a b c d).n (plusR a b c d).d e f).n = (plusR a b (plusR c d e f).n (plusR c d e f).d).n ∧ (plusR (plusR a b c d).n (plusR a b c d).d e f).d = (plusR a b (plusR c d e f).n (plusR c d e f).d).d := by
  have v1 := ((Val.self h).plus (Val.self k) o1).plus (Val.self l) o3
  have v2 := (Val.self h).plus ((Val.self k).plus (Val.self l) o2) o4
  refine v1.uniq v2 ?_ ?_
  · rw [Int.add_mul, Int.add_mul, Int.add_assoc]
    congr 1
    · ac_rfl
    · congr 1 <;> ac_rfl
  · ac_rfl

theorem plus_times {a b c d e f : Int} (h : Lowest a b) (k : Lowest c d) (l : Lowest e f) (o1 : (plusR a b c d).ok = true) (o2 : (timesR a b e f).ok = true) (o3 : (timesR c d e f).ok = true)
    (o4 : (plusR (timesR a b e f).n (timesR a b e f).d (timesR c d e f).n (timesR c d e f).d).ok = true) (o5 : (timesR (plusR a b c d).n (plusR a b c d).d e f).ok = true) :
    (plusR (timesR a b e f).n (timesR a b e f).d (timesR c d e f).n (timesR c d e f).d).n = (timesR (plusR a b c d).n (plusR a b c d).d e f).n ∧
    (plusR (timesR a b e f).n (timesR a b e f).d (timesR c d e f).n (timesR c d e f).d).d = (timesR (plusR a b c d).n (plusR a b c d).d e f).d := by
  obtain ⟨v1, v2, v3⟩ := ((Val.self h).times (Val.self l) o2).plus ((Val.self k).times (Val.self l) o3) o4
  have u := ((Val.self h).plus (Val.self k) o1).times (Val.self l) o5
  have f0 : 0 < f := by have := l.2.2.1; omega
  have w : Val (timesR (plusR a b c d).n (plusR a b c d).d e f).n (timesR (plusR a b c d).n (plusR a b c d).d e f).d (a * e * (d * f) + c * e * (b * f)) (b * f * (d * f)) := by
    refine ⟨u.low, v2, ?_⟩
    have e1 : b * f * (d * f) = b * d * f * f := by ac_rfl
    have e2 : a * e * (d * f) + c * e * (b * f) = (a * d + c * b) * e * f := by
      rw [Int.add_mul, Int.add_mul]
      congr 1 <;> ac_rfl
    rw [e1, e2, ← Int.mul_assoc, u.eq, Int.mul_right_comm]
  exact Val.uniq ⟨v1, v2, v3⟩ w rfl rfl
end Go.Proofs.Ytjemcnlljjdmiaa.Fr
