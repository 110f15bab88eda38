/- The order of fractions: the plain law, and three fractions in memory. -/
import Derived.Test.YtjemcnlljjdmiaaFrL
namespace Go.Proofs.Ytjemcnlljjdmiaa.Fr
open Go.ChangeShapes Go.WideShapes Go.ChangeAt Go.RowKit M

theorem cmp_bd (a b c d : Int) : -1 ≤ cmpR a b c d ∧ cmpR a b c d ≤ 1 := by
  unfold cmpR; split
  · omega
  · split <;> omega
theorem cmp_neg (a b c d : Int) : cmpR c d a b = -cmpR a b c d := by
  unfold cmpR
  rcases (show a * d < c * b ∨ a * d = c * b ∨ c * b < a * d by omega) with h | h | h
  · rw [if_neg (by omega), if_neg (by omega), if_neg (by omega), if_pos h]; rfl
  · rw [if_pos h.symm, if_pos h]; rfl
  · rw [if_neg (by omega), if_pos h, if_neg (by omega), if_neg (by omega)]
theorem cmp_self (a b : Int) : cmpR a b a b = 0 := by unfold cmpR; rw [if_pos rfl]
theorem cmp_le {a b c d : Int} : cmpR a b c d ≤ 0 ↔ a * d ≤ c * b := by
  unfold cmpR
  rcases (show a * d < c * b ∨ a * d = c * b ∨ c * b < a * d by omega) with h | h | h
  · rw [if_neg (by omega), if_pos h]; omega
  · rw [if_pos h]; omega
  · rw [if_neg (by omega), if_neg (by omega)]; omega
theorem cmp_zero {a b c d : Int} : cmpR a b c d = 0 ↔ a * d = c * b := by
  unfold cmpR
  rcases (show a * d < c * b ∨ a * d = c * b ∨ c * b < a * d by omega) with h | h | h
  · rw [if_neg (by omega), if_pos h]; omega
  · rw [if_pos h]; omega
  · rw [if_neg (by omega), if_neg (by omega)]; omega
theorem cmp_lt {a b c d : Int} : cmpR a b c d < 0 ↔ a * d < c * b := by
  have h1 := @cmp_le a b c d
  have h2 := @cmp_zero a b c d
  omega

theorem lowest_eq {a b c d : Nat} (_hb : 0 < b) (_hd : 0 < d) (h : Nat.gcd a b = 1) (k : Nat.gcd c d = 1) (e : a * d = c * b) : a = c ∧ b = d := by
  have h1 : a ∣ c := Nat.Coprime.dvd_of_dvd_mul_right (show Nat.Coprime a b from h) ⟨d, e.symm⟩
  have h2 : c ∣ a := Nat.Coprime.dvd_of_dvd_mul_right (show Nat.Coprime c d from k) ⟨b, e⟩
  have h3 := Nat.dvd_antisymm h1 h2
  subst h3
  refine ⟨rfl, ?_⟩
  rcases Nat.eq_zero_or_pos a with rfl | ha
  · rw [Nat.gcd_zero_left] at h k; omega
  · exact (Nat.eq_of_mul_eq_mul_left ha e).symm

theorem cmp_same {a b c d : Int} (h : Lowest a b) (k : Lowest c d) : cmpR a b c d = 0 ↔ (a = c ∧ b = d) := by
  rw [cmp_zero]
  obtain ⟨h0, h1, h2, h3, h4⟩ := h
  obtain ⟨k0, k1, k2, k3, k4⟩ := k
  constructor
  · intro e
    have e' : a.toNat * d.toNat = c.toNat * b.toNat := by
      have := int_prod h0 (show 0 ≤ d by omega)
      have := int_prod k0 (show 0 ≤ b by omega)
      omega
    have := lowest_eq (by omega) (by omega) h4 k4 e'
    omega
  · rintro ⟨rfl, rfl⟩; rfl

theorem cmp_trans {a b c d e f : Int} (h : Lowest a b) (k : Lowest c d) (l : Lowest e f) (x : cmpR a b c d ≤ 0) (y : cmpR c d e f ≤ 0) : cmpR a b e f ≤ 0 := by
  rw [cmp_le] at *
  obtain ⟨h0, h1, h2, h3, h4⟩ := h
  obtain ⟨k0, k1, k2, k3, k4⟩ := k
  obtain ⟨l0, l1, l2, l3, l4⟩ := l
  have p1 := Int.mul_le_mul_of_nonneg_right x (show 0 ≤ f by omega)
  have p2 := Int.mul_le_mul_of_nonneg_right y (show 0 ≤ b by omega)
  have e1 : a * d * f = a * f * d := Int.mul_right_comm _ _ _
  have e2 : c * b * f = c * f * b := Int.mul_right_comm _ _ _
  have e3 : e * d * b = e * b * d := Int.mul_right_comm _ _ _
  exact Int.le_of_mul_le_mul_right (by rw [← e1, ← e3]; omega) (show 0 < d by omega)

theorem low_one {n : Int} (h0 : 0 ≤ n) (h1 : n ≤ 9223372036854775807) : Lowest n 1 := ⟨h0, h1, by decide, by decide, Nat.gcd_one_right _⟩
theorem ceil_law {a b : Int} (h : Lowest a b) : 0 ≤ ceilR a b ∧ ceilR a b ≤ 9223372036854775807 ∧ 0 ≤ cmpR (ceilR a b) 1 a b ∧ cmpR (ceilR a b - 1) 1 a b < 0 := by
  obtain ⟨h0, h1, h2, h3, -⟩ := h
  have e := Int.mul_ediv_add_emod (a + b - 1) b
  have m0 := Int.emod_nonneg (a + b - 1) (show b ≠ 0 by omega)
  have m1 := Int.emod_lt_of_pos (a + b - 1) (show 0 < b by omega)
  have q0 : 0 ≤ (a + b - 1) / b := Int.ediv_nonneg (by omega) (by omega)
  have hn : ceilR a b = (a + b - 1) / b := rfl
  rw [← hn] at e q0
  generalize ceilR a b = n at *
  have lt : cmpR (n - 1) 1 a b < 0 := by
    rw [cmp_lt, Int.sub_mul, Int.mul_one, Int.one_mul, Int.mul_comm n b]; omega
  have ge : ¬ cmpR n 1 a b < 0 := by
    rw [cmp_lt, Int.mul_one, Int.mul_comm n b]; omega
  refine ⟨q0, ?_, by omega, lt⟩
  rw [cmp_lt, Int.mul_one] at lt
  have : (n - 1) * 1 ≤ (n - 1) * b ∨ n < 1 := by
    rcases (show n < 1 ∨ 1 ≤ n by omega) with h | h
    · exact .inr h
    · exact .inl (Int.mul_le_mul_of_nonneg_left (by omega) (by omega))
  omega

/-! ### three fractions in memory -/
def Tr3 (w : World) (B : Nat) (a b c d e f : Int) : Prop := FracAt w B a b ∧ FracAt w (B + 1) c d ∧ FracAt w (B + 1 + 1) e f
section
variable {w w' : World} {B : Nat} {a b c d e f x y : Int}
theorem Tr3.below (h : Tr3 w B a b c d e f) (hb : Below w.heap.size w w') : Tr3 w' B a b c d e f := ⟨h.1.below hb h.1.lt, h.2.1.below hb h.2.1.lt, h.2.2.below hb h.2.2.lt⟩
theorem Tr3.alloc (h : Tr3 w B a b c d e f) (o : Obj) : Tr3 (w.alloc o) B a b c d e f := ⟨h.1.alloc o, h.2.1.alloc o, h.2.2.alloc o⟩
theorem Tr3.put0 (h : Tr3 w B a b c d e f) : Tr3 ((w.setCell ⟨B, 0, none⟩ (.int .i64 x)).setCell ⟨B, 1, none⟩ (.int .i64 y)) B x y c d e f := ⟨h.1.put, h.2.1.far (by omega) _ _, h.2.2.far (by omega) _ _⟩
theorem Tr3.put1 (h : Tr3 w B a b c d e f) : Tr3 ((w.setCell ⟨B + 1, 0, none⟩ (.int .i64 x)).setCell ⟨B + 1, 1, none⟩ (.int .i64 y)) B a b x y e f := ⟨h.1.far (by omega) _ _, h.2.1.put, h.2.2.far (by omega) _ _⟩
theorem Tr3.put2 (h : Tr3 w B a b c d e f) : Tr3 ((w.setCell ⟨B + 1 + 1, 0, none⟩ (.int .i64 x)).setCell ⟨B + 1 + 1, 1, none⟩ (.int .i64 y)) B a b c d x y := ⟨h.1.far (by omega) _ _, h.2.1.far (by omega) _ _, h.2.2.put⟩
theorem Tr3.cells (h : Tr3 w B a b c d e f) : (w.cell? ⟨B, 0, none⟩ = some (.int .i64 a) ∧ w.cell? ⟨B, 1, none⟩ = some (.int .i64 b) ∧ w.frozen? ⟨B, 0, none⟩ = false ∧ w.frozen? ⟨B, 1, none⟩ = false) ∧
    (w.cell? ⟨B + 1, 0, none⟩ = some (.int .i64 c) ∧ w.cell? ⟨B + 1, 1, none⟩ = some (.int .i64 d) ∧ w.frozen? ⟨B + 1, 0, none⟩ = false ∧ w.frozen? ⟨B + 1, 1, none⟩ = false) ∧
    (w.cell? ⟨B + 1 + 1, 0, none⟩ = some (.int .i64 e) ∧ w.cell? ⟨B + 1 + 1, 1, none⟩ = some (.int .i64 f) ∧ w.frozen? ⟨B + 1 + 1, 0, none⟩ = false ∧ w.frozen? ⟨B + 1 + 1, 1, none⟩ = false) :=
  ⟨h.1.cells, h.2.1.cells, h.2.2.cells⟩
end
theorem tr3_new (w : World) (a b c d e f : Int) : Below w.heap.size w (((w.alloc (fob a b)).alloc (fob c d)).alloc (fob e f)) ∧ Tr3 (((w.alloc (fob a b)).alloc (fob c d)).alloc (fob e f)) w.heap.size a b c d e f := by
  refine ⟨by go_grown, ((frac_at _ _ _ _ rfl).alloc _).alloc _, (frac_at _ _ _ _ ?_).alloc _, frac_at _ _ _ _ ?_⟩ <;> simp only [World.size_alloc]

/-- where three fractions have been made right: the world, and what lies in it -/
def At3 (w : World) (B : Nat) (a b c d e f : Int) (wr : World) : Prop := Below B w wr ∧ Tr3 wr B a b c d e f
theorem At3.step {w wr w1 : World} {B : Nat} {a b c d e f : Int} (h : At3 w B a b c d e f wr) (hB : B ≤ w.heap.size) (hb : Below wr.heap.size wr w1) : At3 w B a b c d e f w1 := ⟨through h.1 hB hb, h.2.below hb⟩
end Go.Proofs.Ytjemcnlljjdmiaa.Fr
