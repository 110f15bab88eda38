/- What the document's functions on fractions return: a product, a sum. -/
import Derived.Test.YtjemcnlljjdmiaaFrW8
namespace Go.Proofs.Ytjemcnlljjdmiaa.Fr
open Go.ChangeShapes Go.WideShapes Go.ChangeAt Go.RowKit M

/-- two fractions that came in, and the place for the result -/
def Thr (w : World) (B : Nat) (a b c d : Int) : Prop := FracAt w B a b ∧ FracAt w (B + 1) c d ∧ FracAt w (B + 1 + 1) 0 0
section
variable {w w' : World} {B : Nat} {a b c d : Int}
theorem Thr.below (h : Thr w B a b c d) (hb : Below w.heap.size w w') : Thr w' B a b c d := ⟨h.1.below hb h.1.lt, h.2.1.below hb h.2.1.lt, h.2.2.below hb h.2.2.lt⟩
theorem Thr.drew (h : Thr w B a b c d) : Thr w.drew B a b c d := h
theorem Thr.alloc (h : Thr w B a b c d) (o : Obj) : Thr (w.alloc o) B a b c d := ⟨h.1.alloc o, h.2.1.alloc o, h.2.2.alloc o⟩
theorem Thr.four (h : Thr w B a b c d) : w.cell? ⟨B, 0, none⟩ = some (.int .i64 a) ∧ w.cell? ⟨B, 1, none⟩ = some (.int .i64 b) ∧ w.cell? ⟨B + 1, 0, none⟩ = some (.int .i64 c) ∧ w.cell? ⟨B + 1, 1, none⟩ = some (.int .i64 d) :=
  ⟨h.1.cells.1, h.1.cells.2.1, h.2.1.cells.1, h.2.1.cells.2.1⟩
theorem Thr.set_ (h : Thr w B a b c d) (u v : Value) : Two ((w.setCell ⟨B + 1 + 1, 0, none⟩ u).setCell ⟨B + 1 + 1, 1, none⟩ v) B a b c d := ⟨h.1.far (by omega) _ _, h.2.1.far (by omega) _ _⟩
theorem Two.four (h : Two w B a b c d) : w.cell? ⟨B, 0, none⟩ = some (.int .i64 a) ∧ w.cell? ⟨B, 1, none⟩ = some (.int .i64 b) ∧ w.cell? ⟨B + 1, 0, none⟩ = some (.int .i64 c) ∧ w.cell? ⟨B + 1, 1, none⟩ = some (.int .i64 d) :=
  ⟨h.1.cells.1, h.1.cells.2.1, h.2.cells.1, h.2.cells.2.1⟩
end
theorem thr_new (w : World) (a b c d : Int) : Below w.heap.size w (((w.alloc (fob a b)).alloc (fob c d)).alloc (fob 0 0)) ∧ Thr (((w.alloc (fob a b)).alloc (fob c d)).alloc (fob 0 0)) w.heap.size a b c d := by
  refine ⟨by go_grown, ((frac_at _ _ _ _ rfl).alloc _).alloc _, (frac_at _ _ _ _ ?_).alloc _, frac_at _ _ _ _ ?_⟩ <;> simp only [World.size_alloc]
theorem drewBelow {n : Nat} {W X w2 : World} (h : Below n W X) (hn : n ≤ W.heap.size) (hb : Below X.drew.heap.size X.drew w2) : Below n W w2 := through h.drew hn hb

theorem prod_bd {a b : Int} (ha : 0 ≤ a ∧ a ≤ 9223372036854775807) (hb : 0 ≤ b ∧ b ≤ 9223372036854775807) : a.toNat * b.toNat ≤ 85070591730234615847396907784232501249 := by
  have h : a.toNat * b.toNat ≤ 9223372036854775807 * 9223372036854775807 := Nat.mul_le_mul (by omega) (by omega)
  omega
theorem prod_pos {a b : Int} (ha : 1 ≤ a) (hb : 1 ≤ b) : 0 < a.toNat * b.toNat := Nat.mul_pos (by omega) (by omega)

set_option maxHeartbeats 4000000 in
theorem rTimesF_any (a b c d : Int) (w : World) (h : Lowest a b) (k : Lowest c d) :
    Calls Try.prog 44 #[.agg #[.int .i64 a, .int .i64 b], .agg #[.int .i64 c, .int .i64 d]] w fun e w' => e = rV (timesR a b c d) ∧ Below w.heap.size w w' := by
  obtain ⟨h0, h1, h2, h3, -⟩ := h
  obtain ⟨k0, k1, k2, k3, -⟩ := k
  have T1 := Lib.hid (rTimes_int a c · ⟨h0, h1⟩ ⟨k0, k1⟩)
  have T2 := Lib.hid (rTimes_int b d · ⟨by omega, h3⟩ ⟨by omega, k3⟩)
  have R := fun z => right_any (a.toNat * c.toNat) (b.toNat * d.toNat) z (by have := prod_bd ⟨h0, h1⟩ ⟨k0, k1⟩; unfold Lt127; omega) (by have := prod_bd (a := b) (b := d) ⟨by omega, h3⟩ ⟨by omega, k3⟩; unfold Lt127; omega) (prod_pos h2 k2)
  change ∀ z, Calls _ _ _ _ fun e w' => e = rV (timesR a b c d) ∧ _ at R
  have ea := le_64 h0 h1
  have eb := le_64 (show 0 ≤ b by omega) h3
  have ec := le_64 k0 k1
  have ed := le_64 (show 0 ≤ d by omega) k3
  obtain ⟨x, hx⟩ : ∃ x, a.toNat * c.toNat = x := ⟨_, rfl⟩
  obtain ⟨y, hy⟩ : ∃ x, b.toNat * d.toNat = x := ⟨_, rfl⟩
  rw [hx] at T1 R
  rw [hy] at T2 R
  generalize timesR a b c d = r at *
  obtain ⟨rn, rd, ro⟩ := r
  have HE : rV ⟨rn, rd, ro⟩ = rV ⟨rn, rd, ro⟩ := rfl
  unfold rV at R
  simp only at R
  have HR := Lib.hid R
  clear R HE hx hy
  obtain ⟨B, hB⟩ : ∃ B, w.heap.size = B := ⟨_, rfl⟩
  have HB := Lib.hid hB
  obtain ⟨n1, n2⟩ := thr_new w a b c d
  rw [hB] at n1 n2
  obtain ⟨X0, hX0⟩ : ∃ X, (((w.alloc (fob a b)).alloc (fob c d)).alloc (fob 0 0)) = X := ⟨_, rfl⟩
  rw [hX0] at n1 n2
  have H0 := Lib.hid n1
  have Hs0 := Lib.hid n2
  clear n1 n2
  unfold fob at hX0
  go_enter Try.func44, Try.ntmps44
  go_upto_region 1 with (fail)
  (try rw [hX0])
  clear hX0
  have S0 := Hs0.out.four
  go_region_held3 (fun w' => w'.cell? ⟨B, 0, none⟩ = some (.int .i64 a) ∧ w'.cell? ⟨B, 1, none⟩ = some (.int .i64 b) ∧ w'.cell? ⟨B + 1, 0, none⟩ = some (.int .i64 c) ∧ w'.cell? ⟨B + 1, 1, none⟩ = some (.int .i64 d))
    (first | exact S0 | exact s1.four | exact s2.four | exact s3.four | exact (s3.set_ _ _).four)
    ((first
      | (go_at_call_of 66 (Value.int .u64 a); refine (T1.out _).mono ?_; rintro e w1 ⟨rfl, hb1⟩; have s1 := Hs0.out.drew.below hb1)
      | (go_at_call 66; refine (T2.out _).mono ?_; rintro e w2 ⟨rfl, hb2⟩; have s2 := s1.below hb2)
      | (go_at_call 70; refine (HR.out _).mono ?_; rintro e w3 ⟨rfl, hb3⟩; have s3 := s2.below hb3; obtain ⟨r0, r1, r2, r3⟩ := s3.2.2.cells)))
  all_goals
    obtain ⟨q0, q1⟩ := s3.2.2.back rn rd
    have HN := Lib.hid ((((through (through (drewBelow H0.out (by rw [HB.out]; exact Nat.le_refl _) hb1) (by rw [HB.out]; exact Nat.le_refl _) hb2) (by rw [HB.out]; exact Nat.le_refl _) hb3)).setCell (p := ⟨B + 1 + 1, 0, none⟩) (by show B ≤ B + 1 + 1; omega) (.int .i64 rn)).setCell (p := ⟨B + 1 + 1, 1, none⟩) (by show B ≤ B + 1 + 1; omega) (.int .i64 rd))
    clear hb1 hb2 hb3 s1 s2 s3
    go_wp2
    (try simp only [Exit.inBlock, Exit.then])
    refine bodyPost_ret (by simp [results, Try.results44, go_sem, q0, q1]; try rfl) rfl ?_
    exact ⟨rfl, by rw [HB.out]; exact HN.out⟩
end Go.Proofs.Ytjemcnlljjdmiaa.Fr
