/- The law of lowest terms, walked. -/
import Derived.Test.YtjemcnlljjdmiaaFrR0
namespace Go.Proofs.Ytjemcnlljjdmiaa.Fr
open Go.ChangeShapes Go.WideShapes Go.ChangeAt Go.RowKit M

theorem asInt_64 (x : Int) : I64 (asInt x) := by
  by_cases h : I64 x
  · have : asInt x = x := by unfold asInt; rw [fits_yes h]; rfl
    rw [this]; exact h
  · have : asInt x = 0 := by unfold asInt; rw [fits_no h]; rfl
    rw [this]; exact ⟨by decide, by decide⟩

theorem low_facts {n d : Int} (hn : 0 ≤ n) (hd : 1 ≤ d) :
    gcdF n d = (Nat.gcd n.toNat d.toNat : Int) ∧ n % gcdF n d = 0 ∧ d % gcdF n d = 0 ∧ n / gcdF n d * gcdF n d = n ∧ d / gcdF n d * gcdF n d = d ∧ gcdF (n / gcdF n d) (d / gcdF n d) = 1 ∧ 1 ≤ d / gcdF n d ∧
    ∀ k : Int, 0 < k → n % k = 0 → d % k = 0 → gcdF n d % k = 0 := by
  have g0 := gcdF_pos hn hd
  have e := gcdF_yes hn (show 0 ≤ d by omega)
  have d1 : gcdF n d ∣ n := by
    rw [e, show n = (n.toNat : Int) by omega]; exact Int.natCast_dvd_natCast.2 (by rw [Int.toNat_natCast]; exact Nat.gcd_dvd_left _ _)
  have d2 : gcdF n d ∣ d := by
    rw [e]
    have : d = (d.toNat : Int) := by omega
    rw [this, Int.toNat_natCast]; exact Int.natCast_dvd_natCast.2 (Nat.gcd_dvd_right _ _)
  have m1 := Int.ediv_mul_cancel d1
  have m2 := Int.ediv_mul_cancel d2
  have q1 : 0 ≤ n / gcdF n d := Int.ediv_nonneg hn (by omega)
  have q2 : 1 ≤ d / gcdF n d := by
    rcases (show d / gcdF n d < 1 ∨ 1 ≤ d / gcdF n d by omega) with h | h
    · have h0 : 0 ≤ d / gcdF n d := Int.ediv_nonneg (by omega) (by omega)
      have : d / gcdF n d = 0 := by omega
      rw [this] at m2; omega
    · exact h
  refine ⟨e, Int.emod_eq_zero_of_dvd d1, Int.emod_eq_zero_of_dvd d2, m1, m2, ?_, q2, ?_⟩
  · rw [gcdF_yes q1 (by omega), e, toNat_div hn, toNat_div (by omega), gcd_div (by omega)]; rfl
  · intro k k0 a b
    have a' := Int.dvd_of_emod_eq_zero a
    have b' := Int.dvd_of_emod_eq_zero b
    refine Int.emod_eq_zero_of_dvd ?_
    rw [e]
    have hk : k = (k.toNat : Int) := by omega
    have en : n = (n.toNat : Int) := by omega
    have ed : d = (d.toNat : Int) := by omega
    rw [hk] at a' b' ⊢
    rw [en] at a'
    rw [ed] at b'
    exact Int.natCast_dvd_natCast.2 (Nat.dvd_gcd (Int.natCast_dvd_natCast.1 a') (Int.natCast_dvd_natCast.1 b'))

theorem of_val {n d : Int} (hn : 0 ≤ n) (hn1 : n ≤ 9223372036854775807) (hd : 1 ≤ d) (hd1 : d ≤ 9223372036854775807) : ofR n d = ⟨n / gcdF n d, d / gcdF n d, true⟩ := by
  unfold ofR
  rw [if_neg (by omega)]
  have hg := gcdF_yes hn (show 0 ≤ d by omega)
  have hb1 : n.toNat / Nat.gcd n.toNat d.toNat ≤ M63 := Nat.le_trans (Nat.div_le_self _ _) (by unfold M63; omega)
  have hb2 : d.toNat / Nat.gcd n.toNat d.toNat ≤ M63 := Nat.le_trans (Nat.div_le_self _ _) (by unfold M63; omega)
  rw [rightR_yes hb1 hb2, hg]
  have en : n = (n.toNat : Int) := by omega
  have ed : d = (d.toNat : Int) := by omega
  rw [Int.natCast_ediv, Int.natCast_ediv, ← en, ← ed]

theorem of_mul {n d k : Int} (hn : 0 ≤ n) (hd : 1 ≤ d) (hk : 1 ≤ k) : ofR (n * k) (d * k) = ofR n d := by
  have h1 : 0 ≤ n * k := Int.mul_nonneg hn (by omega)
  have h2 : 0 < d * k := Int.mul_pos (by omega) (by omega)
  unfold ofR
  rw [if_neg (by omega), if_neg (by omega), Int.toNat_mul hn (by omega), Int.toNat_mul (by omega) (by omega)]
  unfold rightR
  have kp : 0 < k.toNat := by omega
  rw [Nat.gcd_mul_right, Nat.mul_div_mul_right _ _ kp, Nat.mul_div_mul_right _ _ kp]

set_option maxRecDepth 100000 in
set_option maxHeartbeats 4000000 in
theorem lowest_no (n d k : Int) (w : World) (hn : I64 n) (hd : I64 d) (h : n < 0 ∨ d < 1) :
    Calls Try.prog 14 #[.int .i64 n, .int .i64 d, .int .i64 k] w fun r w' => r = .returned (.bool true) ∧ Below w.heap.size w w' := by
  have O := fun z => of_any n d z hn hd
  rw [show ofR n d = ⟨0, 0, false⟩ from if_pos h] at O
  simp only at O
  have HO := Lib.hid O
  have HG := Lib.hid (fun z => gcd_any n d z hn hd)
  have hg : n < 0 ∧ gcdF n d = 0 ∨ 0 ≤ n ∧ d < 0 ∧ gcdF n d = 0 ∨ 0 ≤ n ∧ d = 0 ∧ gcdF n d = n := by
    rcases (show n < 0 ∨ 0 ≤ n ∧ d < 0 ∨ 0 ≤ n ∧ d = 0 by omega) with g | g | g
    · exact .inl ⟨g, if_pos (.inl g)⟩
    · exact .inr (.inl ⟨g.1, g.2, if_pos (.inr g.2)⟩)
    · refine .inr (.inr ⟨g.1, g.2, ?_⟩)
      rw [gcdF_yes g.1 (by omega), g.2, show (0 : Int).toNat = 0 from rfl, Nat.gcd_zero_right]; omega
  unfold I64 at hn hd
  obtain ⟨g, eg⟩ : ∃ g, gcdF n d = g := ⟨_, rfl⟩
  rw [eg] at HG hg
  have gb : 0 ≤ g := by omega
  clear O eg
  have hcases : (n < 0 ∧ g = 0) ∨ (0 ≤ n ∧ d < 0 ∧ g = 0 ∧ n = 0) ∨ (0 ≤ n ∧ d < 0 ∧ g = 0 ∧ n ≠ 0) ∨ (n = 0 ∧ d = 0 ∧ g = 0) ∨ (0 < n ∧ d = 0 ∧ g ≠ 0) := by omega
  have HC := Lib.hid hcases
  clear hg hcases h
  have HH := Lib.hid hn; have HD := Lib.hid hd
  go_enter Try.func14, Try.ntmps14
  go_wp2_with fail
  refine (HO.out _).mono ?_; rintro e w1 ⟨rfl, hb1⟩
  obtain ⟨g1, hg1⟩ : ∃ k, w1.heap.size = k := ⟨_, rfl⟩
  have HB1 := Lib.hid hb1
  clear hb1
  go_upto_region 2 with (fail)
  obtain ⟨X1, hX1, m1⟩ : ∃ X, (w1.alloc (fob 0 0)) = X ∧ FracAt X g1 0 0 := ⟨_, rfl, frac_at _ _ _ _ hg1⟩
  have H1 := Lib.hid (HB1.out.alloc HB1.out.size (fob 0 0))
  rw [hX1] at H1
  unfold fob at hX1
  rw [hX1]
  clear hX1 hg1
  obtain ⟨x0, x1, -, -⟩ := m1.cells
  clear m1
  rcases HC.out with ⟨h1, h2⟩ | ⟨h1, h2, h3, h4⟩ | ⟨h1, h2, h3, h4⟩ | ⟨h1, h2, h3⟩ | ⟨h1, h2, h3⟩
  · have e1 : (g == 0) = true := beq_iff_eq.2 h2
    have e2 : (n == 0) = false := beq_eq_false_iff_ne.2 (by omega)
    have e3 : (n != 0) = true := by rw [bne, e2]; rfl
    clear h2
    (go_wp2_with fail; refine (HG.out _).mono ?_; rintro e w2 ⟨rfl, m, rfl⟩; go_wp2_with fail; refine (known_any _).mono ?_; rintro e w3 ⟨rfl, hb⟩; go_wp2; go_returns; exact ⟨rfl, through (below_drewN H1.out m) (Nat.le_refl _) hb⟩)
  · have e1 : (g == 0) = true := beq_iff_eq.2 h3
    have e2 : (n == 0) = true := beq_iff_eq.2 h4
    have e3 : (n != 0) = false := by rw [bne, e2]; rfl
    have e4 : (d == 0) = false := beq_eq_false_iff_ne.2 (by omega)
    have e5 : (d != 0) = true := by rw [bne, e4]; rfl
    clear h3 h4
    (go_wp2_with fail; refine (HG.out _).mono ?_; rintro e w2 ⟨rfl, m, rfl⟩; go_wp2_with fail; refine (known_any _).mono ?_; rintro e w3 ⟨rfl, hb⟩; go_wp2; go_returns; exact ⟨rfl, through (below_drewN H1.out m) (Nat.le_refl _) hb⟩)
  · have e1 : (g == 0) = true := beq_iff_eq.2 h3
    have e2 : (n == 0) = false := beq_eq_false_iff_ne.2 h4
    have e3 : (n != 0) = true := by rw [bne, e2]; rfl
    clear h3 h4
    (go_wp2_with fail; refine (HG.out _).mono ?_; rintro e w2 ⟨rfl, m, rfl⟩; go_wp2_with fail; refine (known_any _).mono ?_; rintro e w3 ⟨rfl, hb⟩; go_wp2; go_returns; exact ⟨rfl, through (below_drewN H1.out m) (Nat.le_refl _) hb⟩)
  · have e1 : (g == 0) = true := beq_iff_eq.2 h3
    have e2 : (n == 0) = true := beq_iff_eq.2 h1
    have e3 : (n != 0) = false := by rw [bne, e2]; rfl
    have e4 : (d == 0) = true := beq_iff_eq.2 h2
    have e5 : (d != 0) = false := by rw [bne, e4]; rfl
    have e6 : decide (n < 0) = false := decide_eq_false (by omega)
    have e7 : decide (d < 0) = false := decide_eq_false (by omega)
    have e8 : decide (0 ≤ n) = true := decide_eq_true (by omega)
    have e9 : decide (1 ≤ d) = false := decide_eq_false (by omega)
    clear h1 h2 h3
    (go_wp2_with fail; refine (HG.out _).mono ?_; rintro e w2 ⟨rfl, m, rfl⟩; go_wp2_with fail; refine (known_any _).mono ?_; rintro e w3 ⟨rfl, hb⟩; go_wp2; go_returns; exact ⟨rfl, through (below_drewN H1.out m) (Nat.le_refl _) hb⟩)
  · have e1 : (g == 0) = false := beq_eq_false_iff_ne.2 h3
    have e7 : decide (d < 0) = false := decide_eq_false (by omega)
    have e9 : decide (1 ≤ d) = false := decide_eq_false (by omega)
    have e6 : decide (n < 0) = false := decide_eq_false (by omega)
    clear h2 h3
    (go_wp2_with fail; refine (HG.out _).mono ?_; rintro e w2 ⟨rfl, m, rfl⟩; go_wp2_with fail; refine (known_any _).mono ?_; rintro e w3 ⟨rfl, hb⟩; go_wp2; go_returns; exact ⟨rfl, through (below_drewN H1.out m) (Nat.le_refl _) hb⟩)
end Go.Proofs.Ytjemcnlljjdmiaa.Fr
