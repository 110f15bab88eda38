/- What the document's functions on ints and fractions return: the greatest common divisor, a fraction of two ints, a product of two ints, the order, the least whole number. -/
import Derived.Test.YtjemcnlljjdmiaaFrW6
namespace Go.Proofs.Ytjemcnlljjdmiaa.Fr
open Go.ChangeShapes Go.WideShapes Go.ChangeAt Go.RowKit M

theorem small_wide {a : Int} (h0 : 0 ≤ a) (h1 : a ≤ 9223372036854775807) : Lt127 a.toNat ∧ hiW a.toNat = 0 ∧ loW a.toNat = a := by
  refine ⟨by unfold Lt127; omega, small_hi (by unfold Lt64; omega), ?_⟩
  rw [small_lo (by unfold Lt64; omega)]; omega

theorem gcd_small {a b : Nat} (ha : a ≤ 9223372036854775807) (hb : b ≤ 9223372036854775807) : Nat.gcd a b ≤ M63 := by
  unfold M63
  rcases Nat.eq_zero_or_pos a with rfl | h
  · rw [Nat.gcd_zero_left]; exact hb
  · exact Nat.le_trans (Nat.gcd_le_left b h) ha

theorem rGcd_any (a b : Int) (w : World) (ha : I64 a) (hb : I64 b) :
    Calls Try.prog 40 #[.int .i64 a, .int .i64 b] w fun e w' => e = .returned (.int .i64 (gcdF a b)) ∧ Below w.heap.size w w' := by
  unfold I64 at ha hb
  by_cases h : a < 0 ∨ b < 0
  · have E := Lib.hid (show gcdF a b = 0 from if_pos h)
    rcases (show a < 0 ∨ (0 ≤ a ∧ b < 0) by omega) with h1 | ⟨h1, h2⟩
    all_goals
      clear h
      go_enter Try.func40, Try.ntmps40
      go_wp2
      go_returns
      exact ⟨ret_int E.out.symm, by go_grown⟩
  · have h1 : 0 ≤ a := by omega
    have h2 : 0 ≤ b := by omega
    obtain ⟨s1, s2, s3⟩ := small_wide h1 ha.2
    obtain ⟨t1, t2, t3⟩ := small_wide h2 hb.2
    have C := Lib.hid (fun x => common_any a.toNat b.toNat x s1 t1)
    rw [s2, s3, t2, t3] at C
    have gs := gcd_small (a := a.toNat) (b := b.toNat) (by omega) (by omega)
    have A1 := Lib.hid (fun x => as_any (Nat.gcd a.toNat b.toNat) x (by unfold M63 at gs; unfold Lt128; omega))
    rw [(as_yes gs).1, (as_yes gs).2] at A1
    have E := Lib.hid (show gcdF a b = (Nat.gcd a.toNat b.toNat : Int) from if_neg h)
    have e1 := le_64 h1 ha.2
    have e2 := le_64 h2 hb.2
    have d1 : (decide (a < 0) || decide (b < 0)) = false := by simp; omega
    obtain ⟨g, hg⟩ : ∃ g, Nat.gcd a.toNat b.toNat = g := ⟨_, rfl⟩
    rw [hg] at C A1 E
    clear s1 s2 s3 t1 t2 t3 gs hg h
    go_enter Try.func40, Try.ntmps40
    go_wp2_with fail
    refine (C.out _).mono ?_; rintro e w1 ⟨rfl, hb1⟩
    go_wp2_with fail
    refine (A1.out _).mono ?_; rintro e w2 ⟨rfl, hb2⟩
    go_wp2
    go_returns
    exact ⟨ret_int E.out.symm, hb1.trans (hb2.mono hb1.size)⟩

theorem rOf_any (n d : Int) (w : World) (hn : I64 n) (hd : I64 d) :
    Calls Try.prog 41 #[.int .i64 n, .int .i64 d] w fun e w' => e = rV (ofR n d) ∧ Below w.heap.size w w' := by
  unfold I64 at hn hd
  by_cases h : n < 0 ∨ d < 1
  · have E := Lib.hid (show ofR n d = ⟨0, 0, false⟩ from if_pos h)
    rcases (show n < 0 ∨ (0 ≤ n ∧ d < 1) by omega) with h1 | ⟨h1, h2⟩
    all_goals
      clear h
      go_enter Try.func41, Try.ntmps41
      go_wp2
      go_returns
      exact ⟨by rw [E.out]; rfl, by go_grown⟩
  · have h1 : 0 ≤ n := by omega
    have h2 : 1 ≤ d := by omega
    obtain ⟨s1, s2, s3⟩ := small_wide h1 hn.2
    obtain ⟨t1, t2, t3⟩ := small_wide (show 0 ≤ d by omega) hd.2
    have R := Lib.hid (fun x => right_any n.toNat d.toNat x s1 t1 (by omega))
    rw [s2, s3, t2, t3] at R
    have E := Lib.hid (show ofR n d = rightR n.toNat d.toNat from if_neg h)
    have e1 := le_64 h1 hn.2
    have e2 := le_64 (show 0 ≤ d by omega) hd.2
    have d1 : (decide (n < 0) || decide (d < 1)) = false := by simp; omega
    generalize rightR n.toNat d.toNat = r at *
    obtain ⟨rn, rd, ro⟩ := r
    unfold rV at R
    simp only at R
    clear s1 s2 s3 t1 t2 t3 h
    obtain ⟨X, hX, f0⟩ : ∃ X, (w.alloc (fob 0 0)) = X ∧ FracAt X w.heap.size 0 0 := ⟨_, rfl, frac_at _ _ _ _ rfl⟩
    have H0 : Below w.heap.size w X := hX ▸ (Below.refl _ _).alloc (Nat.le_refl _) _
    unfold fob at hX
    have Hf := Lib.hid f0
    have HH := Lib.hid H0
    clear f0 H0
    go_enter Try.func41, Try.ntmps41
    go_wp2_with fail
    refine (R.out _).mono ?_; rintro e w1 ⟨rfl, hb1⟩
    have f1 := Hf.out.below hb1 Hf.out.lt
    obtain ⟨c0, c1, c2, c3⟩ := f1.cells
    obtain ⟨q0, q1⟩ := f1.back rn rd
    have HN := Lib.hid (((through HH.out (Nat.le_refl _) hb1).setCell (p := ⟨w.heap.size, 0, none⟩) (Nat.le_refl _) (.int .i64 rn)).setCell (p := ⟨w.heap.size, 1, none⟩) (Nat.le_refl _) (.int .i64 rd))
    clear hb1 f1 hX
    go_wp2
    (try simp only [Exit.inBlock, Exit.then])
    refine bodyPost_ret (by simp [results, Try.results41, go_sem, q0, q1]; try rfl) rfl ?_
    exact ⟨by rw [E.out]; rfl, HN.out⟩

theorem rCeil_any (a b : Int) (w : World) (h : Lowest a b) :
    Calls Try.prog 48 #[.agg #[.int .i64 a, .int .i64 b]] w fun e w' => e = .returned (.int .i64 (ceilR a b)) ∧ Below w.heap.size w w' := by
  obtain ⟨h0, h1, h2, h3, -⟩ := h
  have q0 : 0 ≤ a / b ∧ a / b ≤ a := ⟨Int.ediv_nonneg h0 (by omega), Int.ediv_le_self _ h0⟩
  have m0 := Int.emod_nonneg a (show b ≠ 0 by omega)
  have m1 := Int.emod_lt_of_pos a (show 0 < b by omega)
  have dm := Int.mul_ediv_add_emod a b
  by_cases hm : 0 < a % b
  · have e : ceilR a b = a / b + 1 := by
      unfold ceilR
      rw [show a + b - 1 = (a % b - 1) + b * (a / b + 1) by rw [Int.mul_add]; omega, Int.add_mul_ediv_left _ _ (by omega), Int.ediv_eq_zero_of_lt (by omega) (by omega)]; omega
    have hq : a / b + 1 ≤ 9223372036854775807 := by
      have hb : 2 ≤ b := by omega
      have := Int.mul_le_mul_of_nonneg_right hb q0.1
      omega
    have E := Lib.hid e
    have d1 : (a % b == 0) = false := by simp; omega
    clear e
    go_enter Try.func48, Try.ntmps48
    go_wp2
    go_returns
    exact ⟨ret_int E.out.symm, by go_grown⟩
  · have e : ceilR a b = a / b := by
      unfold ceilR
      rw [show a + b - 1 = (b - 1) + b * (a / b) by omega, Int.add_mul_ediv_left _ _ (by omega), Int.ediv_eq_zero_of_lt (by omega) (by omega)]; omega
    have E := Lib.hid e
    have d1 : (a % b == 0) = true := by simp; omega
    clear e
    go_enter Try.func48, Try.ntmps48
    go_wp2
    go_returns
    exact ⟨ret_int E.out.symm, by go_grown⟩
end Go.Proofs.Ytjemcnlljjdmiaa.Fr
