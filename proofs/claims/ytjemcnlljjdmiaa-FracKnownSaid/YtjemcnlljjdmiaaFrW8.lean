/- What the document's functions on ints and fractions return: a product of two ints, the order. -/
import Derived.Test.YtjemcnlljjdmiaaFrW7
namespace Go.Proofs.Ytjemcnlljjdmiaa.Fr
open Go.ChangeShapes Go.WideShapes Go.ChangeAt Go.RowKit M

theorem nat_as {z : Int} (h : 0 ≤ z) : asN z.natAbs = asInt z ∧ asB z.natAbs = fits z := by
  by_cases hf : z.natAbs ≤ M63
  · have : I64 z := by unfold M63 at hf; unfold I64; omega
    rw [(as_yes hf).1, (as_yes hf).2, fits_yes this]
    refine ⟨?_, rfl⟩
    unfold asInt; rw [fits_yes this, if_pos rfl]; omega
  · have : ¬ I64 z := by unfold M63 at hf; unfold I64; omega
    rw [(as_no hf).1, (as_no hf).2, fits_no this]
    refine ⟨?_, rfl⟩
    unfold asInt; rw [fits_no this]; rfl

set_option maxHeartbeats 1000000 in
theorem rMul_any (a b : Int) (w : World) (ha : I64 a) (hb : I64 b) :
    Calls Try.prog 38 #[.int .i64 a, .int .i64 b] w fun e w' => e = .returned (.tuple #[.int .i64 (asInt (a * b)), .bool (fits (a * b))]) ∧ Below w.heap.size w w' := by
  have SA := Lib.hid (refSize_any a · ha)
  have SB := Lib.hid (refSize_any b · hb)
  have T := fun x => rTimes_any a.natAbs b.natAbs x (by unfold I64 at ha; omega) (by unfold I64 at hb; omega)
  rw [← Int.natAbs_mul] at T
  change ∀ x, Calls _ _ #[.int .u64 (abs64 a), .int .u64 (abs64 b)] _ _ at T
  have HT := Lib.hid T
  have nl : Lt128 (a * b).natAbs := by
    rw [Int.natAbs_mul]; unfold Lt128
    have : a.natAbs * b.natAbs ≤ 9223372036854775808 * 9223372036854775808 := Nat.mul_le_mul (by unfold I64 at ha; omega) (by unfold I64 at hb; omega)
    omega
  have A1 := fun x => as_any (a * b).natAbs x nl
  clear T
  have hl := lo_bd (a * b).natAbs
  have hh : 0 ≤ hiW (a * b).natAbs := by unfold hiW; omega
  have hn : ((a * b).natAbs : Int) = hiW (a * b).natAbs * 18446744073709551616 + loW (a * b).natAbs := by unfold hiW loW; omega
  rcases (show (0 ≤ a ∧ 0 ≤ b) ∨ (a < 0 ∧ b < 0) ∨ (0 ≤ a ∧ b < 0) ∨ (a < 0 ∧ 0 ≤ b) by omega) with ⟨s1, s2⟩ | ⟨s1, s2⟩ | ⟨s1, s2⟩ | ⟨s1, s2⟩
  case inl | inr.inl =>
    have hm1 : (decide (a < 0) == decide (b < 0)) = true := by rw [beq_iff_eq, decide_eq_decide]; omega
    have hab : 0 ≤ a * b := by first | exact Int.mul_nonneg s1 s2 | exact Int.mul_nonneg_of_nonpos_of_nonpos (by omega) (by omega)
    rw [(nat_as hab).1, (nat_as hab).2] at A1
    have HA := Lib.hid A1
    clear A1 hn nl hl hh hab
    go_enter Try.func38, Try.ntmps38
    go_wp2_with fail
    refine (SA.out _).mono ?_; rintro e w' ⟨rfl, rfl⟩
    go_wp2_with fail
    refine (SB.out _).mono ?_; rintro e w' ⟨rfl, rfl⟩
    go_wp2_with fail
    refine (HT.out _).mono ?_; rintro e w1 ⟨rfl, hb1⟩
    have HB1 := Lib.hid hb1
    clear hb1
    go_upto_region 2 with (fail)
    obtain ⟨X, hX, m1⟩ : ∃ X, (w1.alloc (wob (a * b).natAbs)) = X ∧ WideAt X w1.heap.size (a * b).natAbs := ⟨_, rfl, wide_at _ _ _ rfl⟩
    have H2 := Lib.hid (HB1.out.alloc HB1.out.size (wob (a * b).natAbs))
    rw [hX] at H2
    unfold wob at hX
    rw [hX]
    clear hX
    obtain ⟨c0, c1, -, -⟩ := m1.cells
    have Hm := Lib.hid m1
    clear m1
    go_wp2_with fail
    refine (HA.out _).mono ?_; rintro e w2 ⟨rfl, hb2⟩
    go_wp2
    go_returns
    exact ⟨rfl, H2.out.trans (hb2.mono H2.out.size)⟩
  all_goals
    have hm1 : (decide (a < 0) == decide (b < 0)) = false := by rw [beq_eq_false_iff_ne, ne_eq, decide_eq_decide]; omega
    have hab : a * b ≤ 0 := by first | exact Int.mul_nonpos_of_nonneg_of_nonpos s1 (by omega) | exact Int.mul_nonpos_of_nonpos_of_nonneg (by omega) s2
    clear A1 nl
    rcases (show (hiW (a * b).natAbs = 0 ∧ loW (a * b).natAbs ≤ 9223372036854775808 ∧ -loW (a * b).natAbs = a * b) ∨ (hiW (a * b).natAbs = 0 ∧ 9223372036854775808 < loW (a * b).natAbs ∧ a * b < -9223372036854775808) ∨ (1 ≤ hiW (a * b).natAbs ∧ a * b < -9223372036854775808) by omega) with ⟨h1, h2, h3⟩ | ⟨h1, h2, h3⟩ | ⟨h1, h3⟩
    · have E := Lib.hid (fits_yes (x := a * b) ⟨by omega, by omega⟩)
      have F := Lib.hid (show asInt (a * b) = a * b by unfold asInt; rw [E.out]; rfl)
      have G := Lib.hid (wrap_neg hl.1 h2)
      have H3 := Lib.hid h3
      have d1 : decide (0 < hiW (a * b).natAbs) = false := by rw [h1]; rfl
      have d2 : decide (9223372036854775808 < loW (a * b).natAbs) = false := decide_eq_false (by omega)
      clear hn hab h3 h1
      go_enter Try.func38, Try.ntmps38
      go_wp2_with fail
      refine (SA.out _).mono ?_; rintro e w' ⟨rfl, rfl⟩
      go_wp2_with fail
      refine (SB.out _).mono ?_; rintro e w' ⟨rfl, rfl⟩
      go_wp2_with fail
      refine (HT.out _).mono ?_; rintro e w1 ⟨rfl, hb1⟩
      have HB1 := Lib.hid hb1
      clear hb1
      go_upto_region 2 with (fail)
      obtain ⟨X, hX, m1⟩ : ∃ X, (w1.alloc (wob (a * b).natAbs)) = X ∧ WideAt X w1.heap.size (a * b).natAbs := ⟨_, rfl, wide_at _ _ _ rfl⟩
      have H2 := Lib.hid (HB1.out.alloc HB1.out.size (wob (a * b).natAbs))
      rw [hX] at H2
      unfold wob at hX
      rw [hX]
      clear hX
      obtain ⟨c0, c1, -, -⟩ := m1.cells
      clear m1
      go_wp2
      go_returns
      exact ⟨ret_ib (by rw [F.out, G.out, H3.out]) E.out.symm, H2.out⟩
    all_goals
      have E := Lib.hid (fits_no (x := a * b) (fun h => by unfold I64 at h; omega))
      have F := Lib.hid (show asInt (a * b) = 0 by unfold asInt; rw [E.out]; rfl)
      have d1 : decide (0 < hiW (a * b).natAbs) = true ∨ (decide (0 < hiW (a * b).natAbs) = false ∧ decide (9223372036854775808 < loW (a * b).natAbs) = true) := by
        first | exact .inl (decide_eq_true (by omega)) | exact .inr ⟨by rw [h1]; rfl, decide_eq_true h2⟩
      clear hn hab h3 h1 hl hh
      rcases d1 with d1 | ⟨d1, d2⟩
      all_goals
        go_enter Try.func38, Try.ntmps38
        go_wp2_with fail
        refine (SA.out _).mono ?_; rintro e w' ⟨rfl, rfl⟩
        go_wp2_with fail
        refine (SB.out _).mono ?_; rintro e w' ⟨rfl, rfl⟩
        go_wp2_with fail
        refine (HT.out _).mono ?_; rintro e w1 ⟨rfl, hb1⟩
        have HB1 := Lib.hid hb1
        clear hb1
        go_upto_region 2 with (fail)
        obtain ⟨X, hX, m1⟩ : ∃ X, (w1.alloc (wob (a * b).natAbs)) = X ∧ WideAt X w1.heap.size (a * b).natAbs := ⟨_, rfl, wide_at _ _ _ rfl⟩
        have H2 := Lib.hid (HB1.out.alloc HB1.out.size (wob (a * b).natAbs))
        rw [hX] at H2
        unfold wob at hX
        rw [hX]
        clear hX
        obtain ⟨c0, c1, -, -⟩ := m1.cells
        clear m1
        go_wp2
        go_returns
        exact ⟨ret_ib F.out.symm E.out.symm, H2.out⟩

/-- two fractions that came in -/
def Two (w : World) (B : Nat) (a b c d : Int) : Prop := FracAt w B a b ∧ FracAt w (B + 1) c d
theorem Two.below {w w' : World} {B : Nat} {a b c d : Int} (h : Two w B a b c d) (hb : Below w.heap.size w w') : Two w' B a b c d := ⟨h.1.below hb h.1.lt, h.2.below hb h.2.lt⟩
theorem Two.alloc {w : World} {B : Nat} {a b c d : Int} (h : Two w B a b c d) (o : Obj) : Two (w.alloc o) B a b c d := ⟨h.1.alloc o, h.2.alloc o⟩
theorem two_new (w : World) (a b c d : Int) : Below w.heap.size w ((w.alloc (fob a b)).alloc (fob c d)) ∧ Two ((w.alloc (fob a b)).alloc (fob c d)) w.heap.size a b c d := by
  refine ⟨by go_grown, (frac_at _ _ _ _ rfl).alloc _, frac_at _ _ _ _ ?_⟩ ; simp only [World.size_alloc]
theorem int_prod {a b : Int} (h0 : 0 ≤ a) (h1 : 0 ≤ b) : ((a.toNat * b.toNat : Nat) : Int) = a * b := by
  rw [Int.natCast_mul, Int.toNat_of_nonneg h0, Int.toNat_of_nonneg h1]

theorem rTimes_int (a b : Int) (w : World) (ha : 0 ≤ a ∧ a ≤ 9223372036854775807) (hb : 0 ≤ b ∧ b ≤ 9223372036854775807) :
    Calls Try.prog 66 #[.int .u64 a, .int .u64 b] w fun e w' => e = .returned (.agg #[.int .u64 (hiW (a.toNat * b.toNat)), .int .u64 (loW (a.toNat * b.toNat))]) ∧ Below w.heap.size w w' := by
  have := rTimes_any a.toNat b.toNat w (by omega) (by omega)
  rwa [Int.toNat_of_nonneg ha.1, Int.toNat_of_nonneg hb.1] at this

theorem cmp_nat {a b c d : Int} (h0 : 0 ≤ a) (h1 : 0 ≤ b) (h2 : 0 ≤ c) (h3 : 0 ≤ d) :
    cmpR a b c d = if a.toNat * d.toNat = c.toNat * b.toNat then 0 else if a.toNat * d.toNat < c.toNat * b.toNat then -1 else 1 := by
  unfold cmpR; rw [← int_prod h0 h3, ← int_prod h2 h1]; simp only [Int.natCast_inj, Int.ofNat_lt]

theorem wide_eq {x y : Nat} (h : x = y) : (hiW x == hiW y) = true ∧ (loW x == loW y) = true := by rw [h]; exact ⟨beq_self_eq_true _, beq_self_eq_true _⟩
theorem wide_ne {x y : Nat} (h : x ≠ y) : (hiW x == hiW y) = false ∨ ((hiW x == hiW y) = true ∧ (loW x == loW y) = false) := by
  rcases (show hiW x ≠ hiW y ∨ (hiW x = hiW y ∧ loW x ≠ loW y) by unfold hiW loW; omega) with h1 | ⟨h1, h2⟩
  · exact .inl (beq_eq_false_iff_ne.2 h1)
  · exact .inr ⟨by rw [h1]; exact beq_self_eq_true _, beq_eq_false_iff_ne.2 h2⟩

set_option maxRecDepth 100000 in
set_option maxHeartbeats 4000000 in
theorem rCmp_any (a b c d : Int) (w : World) (h : Lowest a b) (k : Lowest c d) :
    Calls Try.prog 47 #[.agg #[.int .i64 a, .int .i64 b], .agg #[.int .i64 c, .int .i64 d]] w fun e w' => e = .returned (.int .i64 (cmpR a b c d)) ∧ Below w.heap.size w w' := by
  obtain ⟨h0, h1, h2, h3, -⟩ := h
  obtain ⟨k0, k1, k2, k3, -⟩ := k
  have C := cmp_nat h0 (show 0 ≤ b by omega) k0 (show 0 ≤ d by omega)
  have T1 := Lib.hid (rTimes_int a d · ⟨h0, h1⟩ ⟨by omega, k3⟩)
  have T2 := Lib.hid (rTimes_int c b · ⟨k0, k1⟩ ⟨by omega, h3⟩)
  obtain ⟨x, hx⟩ : ∃ x, a.toNat * d.toNat = x := ⟨_, rfl⟩
  obtain ⟨y, hy⟩ : ∃ x, c.toNat * b.toNat = x := ⟨_, rfl⟩
  rw [hx, hy] at C
  rw [hx] at T1
  rw [hy] at T2
  have HC := Lib.hid C
  have ea := le_64 h0 h1
  have eb := le_64 (show 0 ≤ b by omega) h3
  have ec := le_64 k0 k1
  have ed := le_64 (show 0 ≤ d by omega) k3
  clear hx hy C
  obtain ⟨B, hB⟩ : ∃ B, w.heap.size = B := ⟨_, rfl⟩
  have HB := Lib.hid hB
  obtain ⟨n1, n2⟩ := two_new w a b c d
  rw [hB] at n1 n2
  obtain ⟨X0, hX0⟩ : ∃ X, ((w.alloc (fob a b)).alloc (fob c d)) = X := ⟨_, rfl⟩
  rw [hX0] at n1 n2
  have H0 := Lib.hid n1
  have Hs0 := Lib.hid n2
  clear n1 n2
  unfold fob at hX0
  go_enter Try.func47, Try.ntmps47
  go_upto_region 1 with (fail)
  (try rw [hX0])
  clear hX0
  obtain ⟨a0, a1, -, -⟩ := Hs0.out.1.cells
  obtain ⟨b0, b1, -, -⟩ := Hs0.out.2.cells
  go_wp2_with fail
  refine (T1.out _).mono ?_; rintro e w1 ⟨rfl, hb1⟩
  clear a0 a1 b0 b1
  have H1 := Lib.hid (through H0.out (by rw [HB.out]; exact Nat.le_refl _) hb1)
  have Hs1 := Lib.hid (Hs0.out.below hb1)
  clear hb1
  obtain ⟨k1', hk1⟩ : ∃ k, w1.heap.size = k := ⟨_, rfl⟩
  go_upto_region 2 with (fail)
  obtain ⟨X1, hX1, m1⟩ : ∃ X, (w1.alloc (wob x)) = X ∧ WideAt X k1' x := ⟨_, rfl, wide_at _ _ _ hk1⟩
  have H2 := Lib.hid (H1.out.alloc (show B ≤ w1.heap.size by have := size_le H1.out; omega) (wob x))
  have Hs2 := Lib.hid (Hs1.out.alloc (wob x))
  rw [hX1] at H2 Hs2
  unfold wob at hX1
  rw [hX1]
  clear hX1 hk1
  obtain ⟨a0, a1, -, -⟩ := Hs2.out.1.cells
  obtain ⟨b0, b1, -, -⟩ := Hs2.out.2.cells
  have Hm1 := Lib.hid m1
  clear m1
  go_wp2_with fail
  refine (T2.out _).mono ?_; rintro e w2 ⟨rfl, hb2⟩
  clear a0 a1 b0 b1
  have H3 := Lib.hid (through H2.out (by rw [HB.out]; exact Nat.le_refl _) hb2)
  have Hm3 := Lib.hid (Hm1.out.below hb2 Hm1.out.lt)
  clear hb2
  obtain ⟨k2', hk2⟩ : ∃ k, w2.heap.size = k := ⟨_, rfl⟩
  go_upto_region 3 with (fail)
  obtain ⟨X2, hX2, m2⟩ : ∃ X, (w2.alloc (wob y)) = X ∧ WideAt X k2' y := ⟨_, rfl, wide_at _ _ _ hk2⟩
  have H4 := Lib.hid (H3.out.alloc (show B ≤ w2.heap.size by have := size_le H3.out; omega) (wob y))
  have Hm4 := Lib.hid (Hm3.out.alloc (wob y))
  rw [hX2] at H4 Hm4
  unfold wob at hX2
  rw [hX2]
  clear hX2 hk2
  obtain ⟨c0, c1, -, -⟩ := Hm4.out.cells
  obtain ⟨d0, d1, -, -⟩ := m2.cells
  have Hm2 := Lib.hid m2
  clear m2
  by_cases q : x = y
  · have HE := Lib.hid (HC.out.trans (if_pos q))
    obtain ⟨e1, e2⟩ := wide_eq q
    clear q
    go_wp2
    go_returns
    exact ⟨ret_int HE.out.symm, by rw [HB.out]; exact H4.out⟩
  · have ne := wide_ne q
    have L := Lib.hid (fun z => less_any x y z)
    by_cases lt : x < y
    · have HE := Lib.hid (HC.out.trans ((if_neg q).trans (if_pos lt)))
      rw [decide_eq_true lt] at L
      clear q lt
      rcases ne with ne | ⟨ne, ne2⟩
      all_goals
        go_wp2_with fail
        refine (L.out _).mono ?_; rintro e w5 ⟨rfl, hb5⟩
        go_wp2
        go_returns
        exact ⟨ret_int HE.out.symm, through (by rw [HB.out]; exact H4.out) (Nat.le_refl _) hb5⟩
    · have HE := Lib.hid (HC.out.trans ((if_neg q).trans (if_neg lt)))
      rw [decide_eq_false lt] at L
      clear q lt
      rcases ne with ne | ⟨ne, ne2⟩
      all_goals
        go_wp2_with fail
        refine (L.out _).mono ?_; rintro e w5 ⟨rfl, hb5⟩
        go_wp2
        go_returns
        exact ⟨ret_int HE.out.symm, through (by rw [HB.out]; exact H4.out) (Nat.le_refl _) hb5⟩
end Go.Proofs.Ytjemcnlljjdmiaa.Fr
