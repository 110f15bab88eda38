/- What each law on fractions asks: a sum that is too great, a half; right fractions, of any numbers. -/
import Derived.Test.YtjemcnlljjdmiaaFrA
import Derived.Test.YtjemcnlljjdmiaaFrWA
namespace Go.Proofs.Ytjemcnlljjdmiaa.Fr
open Go.ChangeShapes Go.WideShapes Go.ChangeAt Go.RowKit M

theorem low_16 : Lowest 1 6 := ⟨by decide, by decide, by decide, by decide, by decide⟩
theorem low_13 : Lowest 1 3 := ⟨by decide, by decide, by decide, by decide, by decide⟩
theorem low_72 : Lowest 7 2 := ⟨by decide, by decide, by decide, by decide, by decide⟩
theorem half : plusR 1 6 1 3 = ⟨1, 2, true⟩ := by unfold plusR; rw [rightR_yes (by decide) (by decide)]; rfl
theorem four : ceilR 7 2 = 4 := by decide

set_option maxRecDepth 100000 in
theorem known_any (w : World) : Calls Try.prog 19 #[] w fun e w' => e = .returned (.bool true) ∧ Below w.heap.size w w' := by
  have A1 := fun x => add_any 9223372036854775807 1 x (by unfold I64; omega) (by unfold I64; omega)
  have f : fits (9223372036854775807 + 1) = false := by decide
  have f2 : asInt (9223372036854775807 + 1) = 0 := by decide
  rw [f, f2] at A1
  have P := fun x => fPlus_any 1 6 1 3 x low_16 low_13
  rw [half] at P
  have C := fun x => ceil_any 7 2 x low_72
  rw [four] at C
  unfold rV at P
  simp only at P
  have HA := Lib.hid A1; have HP := Lib.hid P; have HC := Lib.hid C
  clear A1 f f2 P C
  go_enter Try.func19, Try.ntmps19
  go_wp2_with fail
  refine (HA.out _).mono ?_; rintro e w' ⟨rfl, rfl⟩
  go_wp2_with fail
  refine (HP.out _).mono ?_; rintro e w1 ⟨rfl, hb1⟩
  go_wp2_with fail
  refine (HC.out _).mono ?_; rintro e w2 ⟨rfl, hb2⟩
  go_wp2
  go_returns
  exact ⟨rfl, throughAlloc hb1 (Nat.le_refl _) hb2⟩

/-- a right fraction, of any numbers -/
def rgt (a b : Int) : R := ofR (max 0 a) (max 1 b)
theorem rgt_ok {a b : Int} (ha : I64 a) (hb : I64 b) : (rgt a b).ok = true ∧ Lowest (rgt a b).n (rgt a b).d := by
  unfold I64 at ha hb
  unfold rgt ofR
  rw [if_neg (by omega)]
  have h1 : (max 0 a).toNat / Nat.gcd (max 0 a).toNat (max 1 b).toNat ≤ M63 := Nat.le_trans (Nat.div_le_self _ _) (by unfold M63; omega)
  have h2 : (max 1 b).toNat / Nat.gcd (max 0 a).toNat (max 1 b).toNat ≤ M63 := Nat.le_trans (Nat.div_le_self _ _) (by unfold M63; omega)
  have e : (rightR (max 0 a).toNat (max 1 b).toNat).ok = true := by rw [rightR_yes h1 h2]
  exact ⟨e, Lowest.of_right (by omega) e⟩

set_option maxHeartbeats 1000000 in
theorem right_law (a b : Int) (w : World) (ha : I64 a) (hb : I64 b) :
    Calls Try.prog 42 #[.agg #[.int .i64 a, .int .i64 b]] w fun e w' => e = .returned (.agg #[.int .i64 (rgt a b).n, .int .i64 (rgt a b).d]) ∧ Below w.heap.size w w' := by
  have O := fun x => rOf_any (max 0 a) (max 1 b) x (by unfold I64 at *; omega) (by unfold I64 at *; omega)
  change ∀ x, Calls _ _ _ _ fun e w' => e = rV (rgt a b) ∧ _ at O
  generalize rgt a b = r at *
  obtain ⟨rn, rd, ro⟩ := r
  unfold rV at O
  simp only at O
  have HO := Lib.hid O
  clear O
  obtain ⟨B, hB⟩ : ∃ B, w.heap.size = B := ⟨_, rfl⟩
  have HB := Lib.hid hB
  have n0 : FracAt ((w.alloc (fob a b)).alloc (fob 0 0)) (B + 1) 0 0 := frac_at _ _ _ _ (by rw [World.size_alloc, hB])
  have b0 : Below B w ((w.alloc (fob a b)).alloc (fob 0 0)) := by rw [← hB]; go_grown
  obtain ⟨X0, hX0⟩ : ∃ X, ((w.alloc (fob a b)).alloc (fob 0 0)) = X := ⟨_, rfl⟩
  have a0 : FracAt ((w.alloc (fob a b)).alloc (fob 0 0)) B a b := (frac_at _ _ _ _ hB).alloc _
  rw [hX0] at n0 b0 a0
  obtain ⟨e0, e1, -, -⟩ := a0.cells
  clear a0
  have H0 := Lib.hid b0
  have Hn0 := Lib.hid n0
  clear b0 n0
  unfold fob at hX0
  go_enter Try.func42, Try.ntmps42
  go_wp2_with fail
  refine (HO.out _).mono ?_; rintro e w1 ⟨rfl, hb1⟩
  (try rw [hX0] at hb1)
  clear e0 e1
  have H1 := Lib.hid (through H0.out (by rw [HB.out]; exact Nat.le_refl _) hb1)
  have n1 := Hn0.out.below hb1 Hn0.out.lt
  clear hb1
  obtain ⟨k, hk⟩ : ∃ k, w1.heap.size = k := ⟨_, rfl⟩
  have kB : B + 1 < k := by have := n1.lt; omega
  go_upto_region 2 with (fail)
  obtain ⟨X1, hX1, m1⟩ : ∃ X, (w1.alloc (fob rn rd)) = X ∧ FracAt X k rn rd := ⟨_, rfl, frac_at _ _ _ _ hk⟩
  have n2 := n1.alloc (fob rn rd)
  have H2 := Lib.hid (H1.out.alloc (show B ≤ w1.heap.size by omega) (fob rn rd))
  rw [hX1] at H2 n2
  unfold fob at hX1
  rw [hX1]
  clear hX1 hk n1
  obtain ⟨c0, c1, -, -⟩ := m1.cells
  obtain ⟨d0, d1, d2, d3⟩ := n2.cells
  obtain ⟨q0, q1⟩ := n2.back rn rd
  have HN := Lib.hid ((H2.out.setCell (p := ⟨B + 1, 0, none⟩) (by show B ≤ B + 1; omega) (.int .i64 rn)).setCell (p := ⟨B + 1, 1, none⟩) (by show B ≤ B + 1; omega) (.int .i64 rd))
  clear n2 m1
  go_wp2
  (try simp only [Exit.inBlock, Exit.then])
  refine bodyPost_ret (by simp [results, Try.results42, go_sem, q0, q1]; try rfl) rfl ?_
  exact ⟨rfl, by rw [HB.out]; exact HN.out⟩

set_option maxRecDepth 100000 in
theorem ints_any (a b : Int) (w : World) (ha : I64 a) (hb : I64 b) : Calls Try.prog 10 #[.int .i64 a, .int .i64 b] w fun e w' => e = .returned (.bool true) ∧ Below w.heap.size w w' := by
  have C1 := Lib.hid (fun x => add_any a b x ha hb)
  have C2 := Lib.hid (fun x => refAdd_any a b x ha hb)
  have C3 := Lib.hid (fun x => mul_any a b x ha hb)
  have C4 := Lib.hid (fun x => rMul_any a b x ha hb)
  have C5 := Lib.hid (fun x => gcd_any a b x ha hb)
  have C6 := Lib.hid (fun x => rGcd_any a b x ha hb)
  obtain ⟨s, hs⟩ : ∃ s, asInt (a + b) = s := ⟨_, rfl⟩
  obtain ⟨f, hf⟩ : ∃ s, fits (a + b) = s := ⟨_, rfl⟩
  obtain ⟨p, hp⟩ : ∃ s, asInt (a * b) = s := ⟨_, rfl⟩
  obtain ⟨g, hg⟩ : ∃ s, fits (a * b) = s := ⟨_, rfl⟩
  obtain ⟨d, hd⟩ : ∃ s, gcdF a b = s := ⟨_, rfl⟩
  rw [hs, hf] at C1 C2
  rw [hp, hg] at C3 C4
  rw [hd] at C5 C6
  clear hs hf hp hg hd
  go_enter Try.func10, Try.ntmps10
  go_wp2_with fail
  refine (C1.out _).mono ?_; rintro e w' ⟨rfl, rfl⟩
  go_wp2_with fail
  refine (C2.out _).mono ?_; rintro e w' ⟨rfl, rfl⟩
  go_wp2_with fail
  refine (C3.out _).mono ?_; rintro e w' ⟨rfl, rfl⟩
  go_wp2_with fail
  refine (C4.out _).mono ?_; rintro e w1 ⟨rfl, hb1⟩
  go_wp2_with fail
  refine (C5.out _).mono ?_; rintro e w2 ⟨rfl, m, rfl⟩
  go_wp2_with fail
  refine (C6.out _).mono ?_; rintro e w3 ⟨rfl, hb3⟩
  go_wp2_with fail
  refine (known_any _).mono ?_; rintro e w4 ⟨rfl, hb4⟩
  go_wp2
  go_returns
  exact ⟨rfl, through (through (below_drewN hb1 m) (Nat.le_refl _) hb3) (Nat.le_refl _) hb4⟩
end Go.Proofs.Ytjemcnlljjdmiaa.Fr
