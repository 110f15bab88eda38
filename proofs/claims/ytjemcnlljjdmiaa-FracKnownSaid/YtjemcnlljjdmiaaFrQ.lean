/- Fractions scaled, and with the same added: the order stays: the plain law. -/
import Derived.Test.YtjemcnlljjdmiaaFrO
namespace Go.Proofs.Ytjemcnlljjdmiaa.Fr
open Go.ChangeShapes Go.WideShapes Go.ChangeAt Go.RowKit M

theorem cmp_scale {a b c d g h : Int} (hg : 0 < g) (hh : 0 < h) : cmpR (g * a) (g * b) (h * c) (h * d) = cmpR a b c d := by
  have e1 : g * a * (h * d) = (a * d) * (g * h) := by
    rw [Int.mul_assoc, Int.mul_comm a (h * d), ← Int.mul_assoc, ← Int.mul_assoc, Int.mul_assoc (g * h) d a, Int.mul_comm d a, Int.mul_comm]
  have e2 : h * c * (g * b) = (c * b) * (g * h) := by
    rw [Int.mul_assoc, Int.mul_comm c (g * b), ← Int.mul_assoc, ← Int.mul_assoc, Int.mul_assoc (h * g) b c, Int.mul_comm b c, Int.mul_comm h g, Int.mul_comm]
  have gh : 0 < g * h := Int.mul_pos hg hh
  unfold cmpR
  rw [e1, e2]
  rcases (show a * d < c * b ∨ a * d = c * b ∨ c * b < a * d by omega) with k | k | k
  · have := Int.mul_lt_mul_of_pos_right k gh
    rw [if_neg (by omega), if_pos this, if_neg (by omega), if_pos k]
  · rw [if_pos (by rw [k]), if_pos k]
  · have := Int.mul_lt_mul_of_pos_right k gh
    rw [if_neg (by omega), if_neg (by omega), if_neg (by omega), if_neg (by omega)]

theorem right_scale {n d : Nat} (hd : 0 < d) (h : (rightR n d).ok = true) : ∃ g : Int, 0 < g ∧ (n : Int) = g * (rightR n d).n ∧ (d : Int) = g * (rightR n d).d := by
  by_cases hb : M63 < n / Nat.gcd n d ∨ M63 < d / Nat.gcd n d
  · rw [rightR_no hb] at h; cases h
  · rw [rightR_yes (by omega) (by omega)]
    have hg : 0 < Nat.gcd n d := Nat.gcd_pos_of_pos_right _ hd
    refine ⟨(Nat.gcd n d : Int), by omega, ?_, ?_⟩
    · show (n : Int) = (Nat.gcd n d : Int) * ((n / Nat.gcd n d : Nat) : Int)
      rw [← Int.natCast_mul, Nat.mul_div_cancel' (Nat.gcd_dvd_left n d)]
    · show (d : Int) = (Nat.gcd n d : Int) * ((d / Nat.gcd n d : Nat) : Int)
      rw [← Int.natCast_mul, Nat.mul_div_cancel' (Nat.gcd_dvd_right n d)]

theorem cmp_right {n d m e : Nat} (hd : 0 < d) (he : 0 < e) (h : (rightR n d).ok = true) (k : (rightR m e).ok = true) :
    cmpR (rightR n d).n (rightR n d).d (rightR m e).n (rightR m e).d = cmpR n d m e := by
  obtain ⟨g, g0, g1, g2⟩ := right_scale hd h
  obtain ⟨f, f0, f1, f2⟩ := right_scale he k
  rw [g1, g2, f1, f2, cmp_scale g0 f0]

theorem times_order {a b c d e f : Int} (h : Lowest a b) (k : Lowest c d) (l : Lowest e f) (e0 : 0 < e) (o1 : (timesR a b e f).ok = true) (o2 : (timesR c d e f).ok = true) :
    Lowest (timesR a b e f).n (timesR a b e f).d ∧ Lowest (timesR c d e f).n (timesR c d e f).d ∧
    cmpR (timesR a b e f).n (timesR a b e f).d (timesR c d e f).n (timesR c d e f).d = cmpR a b c d := by
  obtain ⟨h0, h1, h2, h3, -⟩ := h
  obtain ⟨k0, k1, k2, k3, -⟩ := k
  obtain ⟨l0, l1, l2, l3, -⟩ := l
  unfold timesR at *
  have d1 : 0 < b.toNat * f.toNat := Nat.mul_pos (by omega) (by omega)
  have d2 : 0 < d.toNat * f.toNat := Nat.mul_pos (by omega) (by omega)
  refine ⟨Lowest.of_right d1 o1, Lowest.of_right d2 o2, ?_⟩
  rw [cmp_right d1 d2 o1 o2, int_prod h0 l0, int_prod (by omega) (by omega), int_prod k0 l0, int_prod (by omega) (by omega)]
  unfold cmpR
  have e1 : a * e * (d * f) = (a * d) * (e * f) := by rw [Int.mul_assoc, Int.mul_left_comm e d f, ← Int.mul_assoc]
  have e2 : c * e * (b * f) = (c * b) * (e * f) := by rw [Int.mul_assoc, Int.mul_left_comm e b f, ← Int.mul_assoc]
  have gh : 0 < e * f := Int.mul_pos e0 (by omega)
  rw [e1, e2]
  rcases (show a * d < c * b ∨ a * d = c * b ∨ c * b < a * d by omega) with k | k | k
  · have := Int.mul_lt_mul_of_pos_right k gh
    rw [if_neg (by omega), if_pos this, if_neg (by omega), if_pos k]
  · rw [if_pos (by rw [k]), if_pos k]
  · have := Int.mul_lt_mul_of_pos_right k gh
    rw [if_neg (by omega), if_neg (by omega), if_neg (by omega), if_neg (by omega)]

theorem plus_order {a b c d e f : Int} (h : Lowest a b) (k : Lowest c d) (l : Lowest e f) (o1 : (plusR a b e f).ok = true) (o2 : (plusR c d e f).ok = true) :
    Lowest (plusR a b e f).n (plusR a b e f).d ∧ Lowest (plusR c d e f).n (plusR c d e f).d ∧
    cmpR (plusR a b e f).n (plusR a b e f).d (plusR c d e f).n (plusR c d e f).d = cmpR a b c d := by
  obtain ⟨h0, h1, h2, h3, -⟩ := h
  obtain ⟨k0, k1, k2, k3, -⟩ := k
  obtain ⟨l0, l1, l2, l3, -⟩ := l
  unfold plusR at *
  have d1 : 0 < b.toNat * f.toNat := Nat.mul_pos (by omega) (by omega)
  have d2 : 0 < d.toNat * f.toNat := Nat.mul_pos (by omega) (by omega)
  refine ⟨Lowest.of_right d1 o1, Lowest.of_right d2 o2, ?_⟩
  rw [cmp_right d1 d2 o1 o2, Int.natCast_add, Int.natCast_add, int_prod h0 (by omega), int_prod l0 (by omega), int_prod (by omega) (by omega), int_prod k0 (by omega), int_prod l0 (by omega), int_prod (by omega) (by omega)]
  unfold cmpR
  have e1 : (a * f + e * b) * (d * f) = (a * d) * (f * f) + e * b * (d * f) := by rw [Int.add_mul, Int.mul_assoc a f, Int.mul_left_comm f d f, ← Int.mul_assoc]
  have e2 : (c * f + e * d) * (b * f) = (c * b) * (f * f) + e * b * (d * f) := by
    rw [Int.add_mul, Int.mul_assoc c f, Int.mul_left_comm f b f, ← Int.mul_assoc, Int.mul_assoc e d, Int.mul_left_comm d b f, ← Int.mul_assoc e b]
  have gh : 0 < f * f := Int.mul_pos (by omega) (by omega)
  rw [e1, e2]
  generalize e * b * (d * f) = z
  rcases (show a * d < c * b ∨ a * d = c * b ∨ c * b < a * d by omega) with k | k | k
  · have := Int.mul_lt_mul_of_pos_right k gh
    rw [if_neg (by omega), if_pos (by omega), if_neg (by omega), if_pos k]
  · rw [if_pos (by rw [k]), if_pos k]
  · have := Int.mul_lt_mul_of_pos_right k gh
    rw [if_neg (by omega), if_neg (by omega), if_neg (by omega), if_neg (by omega)]
end Go.Proofs.Ytjemcnlljjdmiaa.Fr
