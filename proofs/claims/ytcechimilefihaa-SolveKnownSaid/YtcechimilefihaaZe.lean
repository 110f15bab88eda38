/- What the document's functions on ints and fractions return: a product of two ints, the order. What the document's functions on fractions return: a product, a sum. What the document's functions on fractions return: a sum. Fractions: sums, as the program makes them: the plain law of the numbers that it goes through. Fractions: sums, as the program makes them. -/
import Derived.Test.YtcechimilefihaaZd
import Derived.Test.YtcechimilefihaaZc
import Derived.Deep.QuietTactic
import Derived.BigQuiet

namespace Go.Proofs.Ytcechimilefihaa.Fr
open Go.ChangeShapes Go.WideShapes Go.ChangeAt Go.RowKit M

theorem nat_as {z : Int} (h : 0 ≤ z) : asN z.natAbs = asInt z ∧ asB z.natAbs = fits z := by
  by_cases hf : z.natAbs ≤ M63
  · have : I64 z := by unfold M63 at hf; unfold I64; omega
    rw [(as_yes hf).1, (as_yes hf).2, fits_yes this]
    refine ⟨?_, rfl⟩
    unfold asInt; rw [fits_yes this, if_pos rfl]; omega
  · have : ¬ I64 z := by unfold M63 at hf; unfold I64; omega
    rw [(as_no hf).1, (as_no hf).2, fits_no this]
    refine ⟨?_, rfl⟩
    unfold asInt; rw [fits_no this]; rfl

set_option maxHeartbeats 1000000 in
theorem rMul_any (a b : Int) (w : World) (ha : I64 a) (hb : I64 b) :
    Calls Try.prog 76 #[.int .i64 a, .int .i64 b] w fun e w' => e = .returned (.tuple #[.int .i64 (asInt (a * b)), .bool (fits (a * b))]) ∧ Below w.heap.size w w' := by
  have SA := Lib.hid (refSize_any a · ha)
  have SB := Lib.hid (refSize_any b · hb)
  have T := fun x => rTimes_any a.natAbs b.natAbs x (by unfold I64 at ha; omega) (by unfold I64 at hb; omega)
  rw [← Int.natAbs_mul] at T
  change ∀ x, Calls _ _ #[.int .u64 (abs64 a), .int .u64 (abs64 b)] _ _ at T
  have HT := Lib.hid T
  have nl : Lt128 (a * b).natAbs := by
    rw [Int.natAbs_mul]; unfold Lt128
    have : a.natAbs * b.natAbs ≤ 9223372036854775808 * 9223372036854775808 := Nat.mul_le_mul (by unfold I64 at ha; omega) (by unfold I64 at hb; omega)
    omega
  have A1 := fun x => as_any (a * b).natAbs x nl
  clear T
  have hl := lo_bd (a * b).natAbs
  have hh : 0 ≤ hiW (a * b).natAbs := by unfold hiW; omega
  have hn : ((a * b).natAbs : Int) = hiW (a * b).natAbs * 18446744073709551616 + loW (a * b).natAbs := by unfold hiW loW; omega
  rcases (show (0 ≤ a ∧ 0 ≤ b) ∨ (a < 0 ∧ b < 0) ∨ (0 ≤ a ∧ b < 0) ∨ (a < 0 ∧ 0 ≤ b) by omega) with ⟨s1, s2⟩ | ⟨s1, s2⟩ | ⟨s1, s2⟩ | ⟨s1, s2⟩
  case inl | inr.inl =>
    have hm1 : (decide (a < 0) == decide (b < 0)) = true := by rw [beq_iff_eq, decide_eq_decide]; omega
    have hab : 0 ≤ a * b := by first | exact Int.mul_nonneg s1 s2 | exact Int.mul_nonneg_of_nonpos_of_nonpos (by omega) (by omega)
    rw [(nat_as hab).1, (nat_as hab).2] at A1
    have HA := Lib.hid A1
    clear A1 hn nl hl hh hab
    go_enter Try.func76, Try.ntmps76
    go_wp2_with fail
    refine (SA.out _).mono ?_; rintro e w' ⟨rfl, rfl⟩
    go_wp2_with fail
    refine (SB.out _).mono ?_; rintro e w' ⟨rfl, rfl⟩
    go_wp2_with fail
    refine (HT.out _).mono ?_; rintro e w1 ⟨rfl, hb1⟩
    have HB1 := Lib.hid hb1
    clear hb1
    go_upto_region 2 with (fail)
    obtain ⟨X, hX, m1⟩ : ∃ X, (w1.alloc (wob (a * b).natAbs)) = X ∧ WideAt X w1.heap.size (a * b).natAbs := ⟨_, rfl, wide_at _ _ _ rfl⟩
    have H2 := Lib.hid (HB1.out.alloc HB1.out.size (wob (a * b).natAbs))
    rw [hX] at H2
    unfold wob at hX
    rw [hX]
    clear hX
    obtain ⟨c0, c1, -, -⟩ := m1.cells
    have Hm := Lib.hid m1
    clear m1
    go_wp2_with fail
    refine (HA.out _).mono ?_; rintro e w2 ⟨rfl, hb2⟩
    go_wp2
    go_returns
    exact ⟨rfl, H2.out.trans (hb2.mono H2.out.size)⟩
  all_goals
    have hm1 : (decide (a < 0) == decide (b < 0)) = false := by rw [beq_eq_false_iff_ne, ne_eq, decide_eq_decide]; omega
    have hab : a * b ≤ 0 := by first | exact Int.mul_nonpos_of_nonneg_of_nonpos s1 (by omega) | exact Int.mul_nonpos_of_nonpos_of_nonneg (by omega) s2
    clear A1 nl
    rcases (show (hiW (a * b).natAbs = 0 ∧ loW (a * b).natAbs ≤ 9223372036854775808 ∧ -loW (a * b).natAbs = a * b) ∨ (hiW (a * b).natAbs = 0 ∧ 9223372036854775808 < loW (a * b).natAbs ∧ a * b < -9223372036854775808) ∨ (1 ≤ hiW (a * b).natAbs ∧ a * b < -9223372036854775808) by omega) with ⟨h1, h2, h3⟩ | ⟨h1, h2, h3⟩ | ⟨h1, h3⟩
    · have E := Lib.hid (fits_yes (x := a * b) ⟨by omega, by omega⟩)
      have F := Lib.hid (show asInt (a * b) = a * b by unfold asInt; rw [E.out]; rfl)
      have G := Lib.hid (wrap_neg hl.1 h2)
      have H3 := Lib.hid h3
      have d1 : decide (0 < hiW (a * b).natAbs) = false := by rw [h1]; rfl
      have d2 : decide (9223372036854775808 < loW (a * b).natAbs) = false := decide_eq_false (by omega)
      clear hn hab h3 h1
      go_enter Try.func76, Try.ntmps76
      go_wp2_with fail
      refine (SA.out _).mono ?_; rintro e w' ⟨rfl, rfl⟩
      go_wp2_with fail
      refine (SB.out _).mono ?_; rintro e w' ⟨rfl, rfl⟩
      go_wp2_with fail
      refine (HT.out _).mono ?_; rintro e w1 ⟨rfl, hb1⟩
      have HB1 := Lib.hid hb1
      clear hb1
      go_upto_region 2 with (fail)
      obtain ⟨X, hX, m1⟩ : ∃ X, (w1.alloc (wob (a * b).natAbs)) = X ∧ WideAt X w1.heap.size (a * b).natAbs := ⟨_, rfl, wide_at _ _ _ rfl⟩
      have H2 := Lib.hid (HB1.out.alloc HB1.out.size (wob (a * b).natAbs))
      rw [hX] at H2
      unfold wob at hX
      rw [hX]
      clear hX
      obtain ⟨c0, c1, -, -⟩ := m1.cells
      clear m1
      go_wp2
      go_returns
      exact ⟨ret_ib (by rw [F.out, G.out, H3.out]) E.out.symm, H2.out⟩
    all_goals
      have E := Lib.hid (fits_no (x := a * b) (fun h => by unfold I64 at h; omega))
      have F := Lib.hid (show asInt (a * b) = 0 by unfold asInt; rw [E.out]; rfl)
      have d1 : decide (0 < hiW (a * b).natAbs) = true ∨ (decide (0 < hiW (a * b).natAbs) = false ∧ decide (9223372036854775808 < loW (a * b).natAbs) = true) := by
        first | exact .inl (decide_eq_true (by omega)) | exact .inr ⟨by rw [h1]; rfl, decide_eq_true h2⟩
      clear hn hab h3 h1 hl hh
      rcases d1 with d1 | ⟨d1, d2⟩
      all_goals
        go_enter Try.func76, Try.ntmps76
        go_wp2_with fail
        refine (SA.out _).mono ?_; rintro e w' ⟨rfl, rfl⟩
        go_wp2_with fail
        refine (SB.out _).mono ?_; rintro e w' ⟨rfl, rfl⟩
        go_wp2_with fail
        refine (HT.out _).mono ?_; rintro e w1 ⟨rfl, hb1⟩
        have HB1 := Lib.hid hb1
        clear hb1
        go_upto_region 2 with (fail)
        obtain ⟨X, hX, m1⟩ : ∃ X, (w1.alloc (wob (a * b).natAbs)) = X ∧ WideAt X w1.heap.size (a * b).natAbs := ⟨_, rfl, wide_at _ _ _ rfl⟩
        have H2 := Lib.hid (HB1.out.alloc HB1.out.size (wob (a * b).natAbs))
        rw [hX] at H2
        unfold wob at hX
        rw [hX]
        clear hX
        obtain ⟨c0, c1, -, -⟩ := m1.cells
        clear m1
        go_wp2
        go_returns
        exact ⟨ret_ib F.out.symm E.out.symm, H2.out⟩

/-- two fractions that came in -/
def Two (w : World) (B : Nat) (a b c d : Int) : Prop := FracAt w B a b ∧ FracAt w (B + 1) c d
theorem Two.below {w w' : World} {B : Nat} {a b c d : Int} (h : Two w B a b c d) (hb : Below w.heap.size w w') : Two w' B a b c d := ⟨h.1.below hb h.1.lt, h.2.below hb h.2.lt⟩
theorem Two.alloc {w : World} {B : Nat} {a b c d : Int} (h : Two w B a b c d) (o : Obj) : Two (w.alloc o) B a b c d := ⟨h.1.alloc o, h.2.alloc o⟩
theorem two_new (w : World) (a b c d : Int) : Below w.heap.size w ((w.alloc (fob a b)).alloc (fob c d)) ∧ Two ((w.alloc (fob a b)).alloc (fob c d)) w.heap.size a b c d := by
  refine ⟨by go_grown, (frac_at _ _ _ _ rfl).alloc _, frac_at _ _ _ _ ?_⟩ ; simp only [World.size_alloc]
theorem int_prod {a b : Int} (h0 : 0 ≤ a) (h1 : 0 ≤ b) : ((a.toNat * b.toNat : Nat) : Int) = a * b := by
  rw [Int.natCast_mul, Int.toNat_of_nonneg h0, Int.toNat_of_nonneg h1]

theorem rTimes_int (a b : Int) (w : World) (ha : 0 ≤ a ∧ a ≤ 9223372036854775807) (hb : 0 ≤ b ∧ b ≤ 9223372036854775807) :
    Calls Try.prog 105 #[.int .u64 a, .int .u64 b] w fun e w' => e = .returned (.agg #[.int .u64 (hiW (a.toNat * b.toNat)), .int .u64 (loW (a.toNat * b.toNat))]) ∧ Below w.heap.size w w' := by
  have := rTimes_any a.toNat b.toNat w (by omega) (by omega)
  rwa [Int.toNat_of_nonneg ha.1, Int.toNat_of_nonneg hb.1] at this

theorem cmp_nat {a b c d : Int} (h0 : 0 ≤ a) (h1 : 0 ≤ b) (h2 : 0 ≤ c) (h3 : 0 ≤ d) :
    cmpR a b c d = if a.toNat * d.toNat = c.toNat * b.toNat then 0 else if a.toNat * d.toNat < c.toNat * b.toNat then -1 else 1 := by
  unfold cmpR; rw [← int_prod h0 h3, ← int_prod h2 h1]; simp only [Int.natCast_inj, Int.ofNat_lt]

theorem wide_eq {x y : Nat} (h : x = y) : (hiW x == hiW y) = true ∧ (loW x == loW y) = true := by rw [h]; exact ⟨beq_self_eq_true _, beq_self_eq_true _⟩
theorem wide_ne {x y : Nat} (h : x ≠ y) : (hiW x == hiW y) = false ∨ ((hiW x == hiW y) = true ∧ (loW x == loW y) = false) := by
  rcases (show hiW x ≠ hiW y ∨ (hiW x = hiW y ∧ loW x ≠ loW y) by unfold hiW loW; omega) with h1 | ⟨h1, h2⟩
  · exact .inl (beq_eq_false_iff_ne.2 h1)
  · exact .inr ⟨by rw [h1]; exact beq_self_eq_true _, beq_eq_false_iff_ne.2 h2⟩

set_option maxRecDepth 100000 in
set_option maxHeartbeats 4000000 in
theorem rCmp_any (a b c d : Int) (w : World) (h : Lowest a b) (k : Lowest c d) :
    Calls Try.prog 85 #[.agg #[.int .i64 a, .int .i64 b], .agg #[.int .i64 c, .int .i64 d]] w fun e w' => e = .returned (.int .i64 (cmpR a b c d)) ∧ Below w.heap.size w w' := by
  obtain ⟨h0, h1, h2, h3, -⟩ := h
  obtain ⟨k0, k1, k2, k3, -⟩ := k
  have C := cmp_nat h0 (show 0 ≤ b by omega) k0 (show 0 ≤ d by omega)
  have T1 := Lib.hid (rTimes_int a d · ⟨h0, h1⟩ ⟨by omega, k3⟩)
  have T2 := Lib.hid (rTimes_int c b · ⟨k0, k1⟩ ⟨by omega, h3⟩)
  obtain ⟨x, hx⟩ : ∃ x, a.toNat * d.toNat = x := ⟨_, rfl⟩
  obtain ⟨y, hy⟩ : ∃ x, c.toNat * b.toNat = x := ⟨_, rfl⟩
  rw [hx, hy] at C
  rw [hx] at T1
  rw [hy] at T2
  have HC := Lib.hid C
  have ea := le_64 h0 h1
  have eb := le_64 (show 0 ≤ b by omega) h3
  have ec := le_64 k0 k1
  have ed := le_64 (show 0 ≤ d by omega) k3
  clear hx hy C
  obtain ⟨B, hB⟩ : ∃ B, w.heap.size = B := ⟨_, rfl⟩
  have HB := Lib.hid hB
  obtain ⟨n1, n2⟩ := two_new w a b c d
  rw [hB] at n1 n2
  obtain ⟨X0, hX0⟩ : ∃ X, ((w.alloc (fob a b)).alloc (fob c d)) = X := ⟨_, rfl⟩
  rw [hX0] at n1 n2
  have H0 := Lib.hid n1
  have Hs0 := Lib.hid n2
  clear n1 n2
  unfold fob at hX0
  go_enter Try.func85, Try.ntmps85
  go_upto_region 1 with (fail)
  (try rw [hX0])
  clear hX0
  obtain ⟨a0, a1, -, -⟩ := Hs0.out.1.cells
  obtain ⟨b0, b1, -, -⟩ := Hs0.out.2.cells
  go_wp2_with fail
  refine (T1.out _).mono ?_; rintro e w1 ⟨rfl, hb1⟩
  clear a0 a1 b0 b1
  have H1 := Lib.hid (through H0.out (by rw [HB.out]; exact Nat.le_refl _) hb1)
  have Hs1 := Lib.hid (Hs0.out.below hb1)
  clear hb1
  obtain ⟨k1', hk1⟩ : ∃ k, w1.heap.size = k := ⟨_, rfl⟩
  go_upto_region 2 with (fail)
  obtain ⟨X1, hX1, m1⟩ : ∃ X, (w1.alloc (wob x)) = X ∧ WideAt X k1' x := ⟨_, rfl, wide_at _ _ _ hk1⟩
  have H2 := Lib.hid (H1.out.alloc (show B ≤ w1.heap.size by have := size_le H1.out; omega) (wob x))
  have Hs2 := Lib.hid (Hs1.out.alloc (wob x))
  rw [hX1] at H2 Hs2
  unfold wob at hX1
  rw [hX1]
  clear hX1 hk1
  obtain ⟨a0, a1, -, -⟩ := Hs2.out.1.cells
  obtain ⟨b0, b1, -, -⟩ := Hs2.out.2.cells
  have Hm1 := Lib.hid m1
  clear m1
  go_wp2_with fail
  refine (T2.out _).mono ?_; rintro e w2 ⟨rfl, hb2⟩
  clear a0 a1 b0 b1
  have H3 := Lib.hid (through H2.out (by rw [HB.out]; exact Nat.le_refl _) hb2)
  have Hm3 := Lib.hid (Hm1.out.below hb2 Hm1.out.lt)
  clear hb2
  obtain ⟨k2', hk2⟩ : ∃ k, w2.heap.size = k := ⟨_, rfl⟩
  go_upto_region 3 with (fail)
  obtain ⟨X2, hX2, m2⟩ : ∃ X, (w2.alloc (wob y)) = X ∧ WideAt X k2' y := ⟨_, rfl, wide_at _ _ _ hk2⟩
  have H4 := Lib.hid (H3.out.alloc (show B ≤ w2.heap.size by have := size_le H3.out; omega) (wob y))
  have Hm4 := Lib.hid (Hm3.out.alloc (wob y))
  rw [hX2] at H4 Hm4
  unfold wob at hX2
  rw [hX2]
  clear hX2 hk2
  obtain ⟨c0, c1, -, -⟩ := Hm4.out.cells
  obtain ⟨d0, d1, -, -⟩ := m2.cells
  have Hm2 := Lib.hid m2
  clear m2
  by_cases q : x = y
  · have HE := Lib.hid (HC.out.trans (if_pos q))
    obtain ⟨e1, e2⟩ := wide_eq q
    clear q
    go_wp2
    go_returns
    exact ⟨ret_int HE.out.symm, by rw [HB.out]; exact H4.out⟩
  · have ne := wide_ne q
    have L := Lib.hid (fun z => less_any x y z)
    by_cases lt : x < y
    · have HE := Lib.hid (HC.out.trans ((if_neg q).trans (if_pos lt)))
      rw [decide_eq_true lt] at L
      clear q lt
      rcases ne with ne | ⟨ne, ne2⟩
      all_goals
        go_wp2_with fail
        refine (L.out _).mono ?_; rintro e w5 ⟨rfl, hb5⟩
        go_wp2
        go_returns
        exact ⟨ret_int HE.out.symm, through (by rw [HB.out]; exact H4.out) (Nat.le_refl _) hb5⟩
    · have HE := Lib.hid (HC.out.trans ((if_neg q).trans (if_neg lt)))
      rw [decide_eq_false lt] at L
      clear q lt
      rcases ne with ne | ⟨ne, ne2⟩
      all_goals
        go_wp2_with fail
        refine (L.out _).mono ?_; rintro e w5 ⟨rfl, hb5⟩
        go_wp2
        go_returns
        exact ⟨ret_int HE.out.symm, through (by rw [HB.out]; exact H4.out) (Nat.le_refl _) hb5⟩
end Go.Proofs.Ytcechimilefihaa.Fr

namespace Go.Proofs.Ytcechimilefihaa.Fr
open Go.ChangeShapes Go.WideShapes Go.ChangeAt Go.RowKit M

/-- two fractions that came in, and the place for the result -/
def Thr (w : World) (B : Nat) (a b c d : Int) : Prop := FracAt w B a b ∧ FracAt w (B + 1) c d ∧ FracAt w (B + 1 + 1) 0 0
section
variable {w w' : World} {B : Nat} {a b c d : Int}
theorem Thr.below (h : Thr w B a b c d) (hb : Below w.heap.size w w') : Thr w' B a b c d := ⟨h.1.below hb h.1.lt, h.2.1.below hb h.2.1.lt, h.2.2.below hb h.2.2.lt⟩
theorem Thr.drew (h : Thr w B a b c d) : Thr w.drew B a b c d := h
theorem Thr.alloc (h : Thr w B a b c d) (o : Obj) : Thr (w.alloc o) B a b c d := ⟨h.1.alloc o, h.2.1.alloc o, h.2.2.alloc o⟩
theorem Thr.four (h : Thr w B a b c d) : w.cell? ⟨B, 0, none⟩ = some (.int .i64 a) ∧ w.cell? ⟨B, 1, none⟩ = some (.int .i64 b) ∧ w.cell? ⟨B + 1, 0, none⟩ = some (.int .i64 c) ∧ w.cell? ⟨B + 1, 1, none⟩ = some (.int .i64 d) :=
  ⟨h.1.cells.1, h.1.cells.2.1, h.2.1.cells.1, h.2.1.cells.2.1⟩
theorem Thr.set_ (h : Thr w B a b c d) (u v : Value) : Two ((w.setCell ⟨B + 1 + 1, 0, none⟩ u).setCell ⟨B + 1 + 1, 1, none⟩ v) B a b c d := ⟨h.1.far (by omega) _ _, h.2.1.far (by omega) _ _⟩
theorem Two.four (h : Two w B a b c d) : w.cell? ⟨B, 0, none⟩ = some (.int .i64 a) ∧ w.cell? ⟨B, 1, none⟩ = some (.int .i64 b) ∧ w.cell? ⟨B + 1, 0, none⟩ = some (.int .i64 c) ∧ w.cell? ⟨B + 1, 1, none⟩ = some (.int .i64 d) :=
  ⟨h.1.cells.1, h.1.cells.2.1, h.2.cells.1, h.2.cells.2.1⟩
end
theorem thr_new (w : World) (a b c d : Int) : Below w.heap.size w (((w.alloc (fob a b)).alloc (fob c d)).alloc (fob 0 0)) ∧ Thr (((w.alloc (fob a b)).alloc (fob c d)).alloc (fob 0 0)) w.heap.size a b c d := by
  refine ⟨by go_grown, ((frac_at _ _ _ _ rfl).alloc _).alloc _, (frac_at _ _ _ _ ?_).alloc _, frac_at _ _ _ _ ?_⟩ <;> simp only [World.size_alloc]
theorem drewBelow {n : Nat} {W X w2 : World} (h : Below n W X) (hn : n ≤ W.heap.size) (hb : Below X.drew.heap.size X.drew w2) : Below n W w2 := through h.drew hn hb

theorem prod_bd {a b : Int} (ha : 0 ≤ a ∧ a ≤ 9223372036854775807) (hb : 0 ≤ b ∧ b ≤ 9223372036854775807) : a.toNat * b.toNat ≤ 85070591730234615847396907784232501249 := by
  have h : a.toNat * b.toNat ≤ 9223372036854775807 * 9223372036854775807 := Nat.mul_le_mul (by omega) (by omega)
  omega
theorem prod_pos {a b : Int} (ha : 1 ≤ a) (hb : 1 ≤ b) : 0 < a.toNat * b.toNat := Nat.mul_pos (by omega) (by omega)

set_option maxHeartbeats 4000000 in
theorem rTimesF_any (a b c d : Int) (w : World) (h : Lowest a b) (k : Lowest c d) :
    Calls Try.prog 82 #[.agg #[.int .i64 a, .int .i64 b], .agg #[.int .i64 c, .int .i64 d]] w fun e w' => e = rV (timesR a b c d) ∧ Below w.heap.size w w' := by
  obtain ⟨h0, h1, h2, h3, -⟩ := h
  obtain ⟨k0, k1, k2, k3, -⟩ := k
  have T1 := Lib.hid (rTimes_int a c · ⟨h0, h1⟩ ⟨k0, k1⟩)
  have T2 := Lib.hid (rTimes_int b d · ⟨by omega, h3⟩ ⟨by omega, k3⟩)
  have R := fun z => right_any (a.toNat * c.toNat) (b.toNat * d.toNat) z (by have := prod_bd ⟨h0, h1⟩ ⟨k0, k1⟩; unfold Lt127; omega) (by have := prod_bd (a := b) (b := d) ⟨by omega, h3⟩ ⟨by omega, k3⟩; unfold Lt127; omega) (prod_pos h2 k2)
  change ∀ z, Calls _ _ _ _ fun e w' => e = rV (timesR a b c d) ∧ _ at R
  have ea := le_64 h0 h1
  have eb := le_64 (show 0 ≤ b by omega) h3
  have ec := le_64 k0 k1
  have ed := le_64 (show 0 ≤ d by omega) k3
  obtain ⟨x, hx⟩ : ∃ x, a.toNat * c.toNat = x := ⟨_, rfl⟩
  obtain ⟨y, hy⟩ : ∃ x, b.toNat * d.toNat = x := ⟨_, rfl⟩
  rw [hx] at T1 R
  rw [hy] at T2 R
  generalize timesR a b c d = r at *
  obtain ⟨rn, rd, ro⟩ := r
  have HE : rV ⟨rn, rd, ro⟩ = rV ⟨rn, rd, ro⟩ := rfl
  unfold rV at R
  simp only at R
  have HR := Lib.hid R
  clear R HE hx hy
  obtain ⟨B, hB⟩ : ∃ B, w.heap.size = B := ⟨_, rfl⟩
  have HB := Lib.hid hB
  obtain ⟨n1, n2⟩ := thr_new w a b c d
  rw [hB] at n1 n2
  obtain ⟨X0, hX0⟩ : ∃ X, (((w.alloc (fob a b)).alloc (fob c d)).alloc (fob 0 0)) = X := ⟨_, rfl⟩
  rw [hX0] at n1 n2
  have H0 := Lib.hid n1
  have Hs0 := Lib.hid n2
  clear n1 n2
  unfold fob at hX0
  go_enter Try.func82, Try.ntmps82
  go_upto_region 1 with (fail)
  (try rw [hX0])
  clear hX0
  have S0 := Hs0.out.four
  go_region_held3 (fun w' => w'.cell? ⟨B, 0, none⟩ = some (.int .i64 a) ∧ w'.cell? ⟨B, 1, none⟩ = some (.int .i64 b) ∧ w'.cell? ⟨B + 1, 0, none⟩ = some (.int .i64 c) ∧ w'.cell? ⟨B + 1, 1, none⟩ = some (.int .i64 d))
    (first | exact S0 | exact s1.four | exact s2.four | exact s3.four | exact (s3.set_ _ _).four)
    ((first
      | (go_at_call_of 105 (Value.int .u64 a); refine (T1.out _).mono ?_; rintro e w1 ⟨rfl, hb1⟩; have s1 := Hs0.out.drew.below hb1)
      | (go_at_call 105; refine (T2.out _).mono ?_; rintro e w2 ⟨rfl, hb2⟩; have s2 := s1.below hb2)
      | (go_at_call 109; refine (HR.out _).mono ?_; rintro e w3 ⟨rfl, hb3⟩; have s3 := s2.below hb3; obtain ⟨r0, r1, r2, r3⟩ := s3.2.2.cells)))
  all_goals
    obtain ⟨q0, q1⟩ := s3.2.2.back rn rd
    have HN := Lib.hid ((((through (through (drewBelow H0.out (by rw [HB.out]; exact Nat.le_refl _) hb1) (by rw [HB.out]; exact Nat.le_refl _) hb2) (by rw [HB.out]; exact Nat.le_refl _) hb3)).setCell (p := ⟨B + 1 + 1, 0, none⟩) (by show B ≤ B + 1 + 1; omega) (.int .i64 rn)).setCell (p := ⟨B + 1 + 1, 1, none⟩) (by show B ≤ B + 1 + 1; omega) (.int .i64 rd))
    clear hb1 hb2 hb3 s1 s2 s3
    go_wp2
    (try simp only [Exit.inBlock, Exit.then])
    refine bodyPost_ret (by simp [results, Try.results82, go_sem, q0, q1]; try rfl) rfl ?_
    exact ⟨rfl, by rw [HB.out]; exact HN.out⟩
end Go.Proofs.Ytcechimilefihaa.Fr

namespace Go.Proofs.Ytcechimilefihaa.Fr
open Go.ChangeShapes Go.WideShapes Go.ChangeAt Go.RowKit M

theorem WideAt.on {w w' : World} {g x : Nat} (h : WideAt w g x) (hb : Below w.heap.size w w') : WideAt w' g x := h.below hb h.lt
theorem WideAt.drew {w : World} {g x : Nat} (h : WideAt w g x) : WideAt w.drew g x := h
theorem Thr.setFar {w : World} {B g : Nat} {a b c d : Int} (h : Thr w B a b c d) (hg : B + 1 + 1 < g) (u v : Value) : Thr ((w.setCell ⟨g, 0, none⟩ u).setCell ⟨g, 1, none⟩ v) B a b c d :=
  ⟨h.1.far (by omega) _ _, h.2.1.far (by omega) _ _, h.2.2.far (by omega) _ _⟩
theorem setFarB {n g : Nat} {W w : World} (h : Below n W w) (hg : n ≤ g) (u v : Value) : Below n W ((w.setCell ⟨g, 0, none⟩ u).setCell ⟨g, 1, none⟩ v) := (h.setCell hg _).setCell hg _
theorem throughAlloc {n : Nat} {W X w2 : World} {o : Obj} (h : Below n W X) (hn : n ≤ W.heap.size) (hb : Below (X.alloc o).heap.size (X.alloc o) w2) : Below n W w2 := through (h.alloc (Nat.le_trans hn h.size) o) hn hb
/-- what stands behind the first statement of a sum -/
def SumAt (w : World) (B : Nat) (a b c d : Int) (N : Nat) (p : Value) (wr : World) : Prop :=
  ∃ g, p = .pointer (some ⟨g, 0, none⟩) ∧ Below B w wr ∧ Thr wr B a b c d ∧ WideAt wr g N ∧ B + 1 + 1 < g
theorem m_lt {w : World} {B : Nat} {a b c d : Int} (h : Thr w B a b c d) : B + 1 + 1 < w.heap.size := h.2.2.lt
theorem r_four2 {w : World} {B g N : Nat} {a b c d : Int} (h : Two w B a b c d) (m : WideAt w g N) : w.cell? ⟨B, 1, none⟩ = some (.int .i64 b) ∧ w.cell? ⟨B + 1, 1, none⟩ = some (.int .i64 d) ∧ w.cell? ⟨g, 0, none⟩ = some (.int .u64 (hiW N)) ∧ w.cell? ⟨g, 1, none⟩ = some (.int .u64 (loW N)) :=
  ⟨h.four.2.1, h.four.2.2.2, m.cells.1, m.cells.2.1⟩
theorem r_four {w : World} {B g N : Nat} {a b c d : Int} (h : Thr w B a b c d) (m : WideAt w g N) : w.cell? ⟨B, 1, none⟩ = some (.int .i64 b) ∧ w.cell? ⟨B + 1, 1, none⟩ = some (.int .i64 d) ∧ w.cell? ⟨g, 0, none⟩ = some (.int .u64 (hiW N)) ∧ w.cell? ⟨g, 1, none⟩ = some (.int .u64 (loW N)) :=
  r_four2 ⟨h.1, h.2.1⟩ m

set_option maxHeartbeats 4000000 in
theorem rPlus_any (a b c d : Int) (w : World) (h : Lowest a b) (k : Lowest c d) :
    Calls Try.prog 84 #[.agg #[.int .i64 a, .int .i64 b], .agg #[.int .i64 c, .int .i64 d]] w fun e w' => e = rV (plusR a b c d) ∧ Below w.heap.size w w' := by
  obtain ⟨h0, h1, h2, h3, -⟩ := h
  obtain ⟨k0, k1, k2, k3, -⟩ := k
  have T1 := Lib.hid (rTimes_int a d · ⟨h0, h1⟩ ⟨by omega, k3⟩)
  have T2 := Lib.hid (rTimes_int c b · ⟨k0, k1⟩ ⟨by omega, h3⟩)
  have T3 := Lib.hid (rTimes_int b d · ⟨by omega, h3⟩ ⟨by omega, k3⟩)
  have p1 := prod_bd (a := a) (b := d) ⟨h0, h1⟩ ⟨by omega, k3⟩
  have p2 := prod_bd (a := c) (b := b) ⟨k0, k1⟩ ⟨by omega, h3⟩
  have p3 := prod_bd (a := b) (b := d) ⟨by omega, h3⟩ ⟨by omega, k3⟩
  have R := fun z => right_any (a.toNat * d.toNat + c.toNat * b.toNat) (b.toNat * d.toNat) z (by unfold Lt127; omega) (by unfold Lt127; omega) (prod_pos h2 k2)
  change ∀ z, Calls _ _ _ _ fun e w' => e = rV (plusR a b c d) ∧ _ at R
  have P := Lib.hid (fun z => plus_any (a.toNat * d.toNat) (c.toNat * b.toNat) z (by unfold Lt128; omega) (by unfold Lt128; omega))
  rw [m128_id (x := a.toNat * d.toNat + c.toNat * b.toNat) (by unfold Lt128; omega)] at P
  have ea := le_64 h0 h1
  have eb := le_64 (show 0 ≤ b by omega) h3
  have ec := le_64 k0 k1
  have ed := le_64 (show 0 ≤ d by omega) k3
  clear p1 p2 p3
  obtain ⟨x, hx⟩ : ∃ x, a.toNat * d.toNat = x := ⟨_, rfl⟩
  obtain ⟨y, hy⟩ : ∃ x, c.toNat * b.toNat = x := ⟨_, rfl⟩
  obtain ⟨D, hD⟩ : ∃ x, b.toNat * d.toNat = x := ⟨_, rfl⟩
  rw [hx] at T1 P R
  rw [hy] at T2 P R
  rw [hD] at T3 R
  obtain ⟨N, hN⟩ : ∃ N, x + y = N := ⟨_, rfl⟩
  rw [hN] at P R
  generalize plusR a b c d = r at *
  obtain ⟨rn, rd, ro⟩ := r
  unfold rV at R
  simp only at R
  have HR := Lib.hid R
  clear R hx hy hD hN
  obtain ⟨B, hB⟩ : ∃ B, w.heap.size = B := ⟨_, rfl⟩
  have HB := Lib.hid hB
  have nB : B ≤ w.heap.size := Nat.le_of_eq hB.symm
  have HnB := Lib.hid nB
  clear nB
  obtain ⟨n1, n2⟩ := thr_new w a b c d
  rw [hB] at n1 n2
  obtain ⟨X0, hX0⟩ : ∃ X, (((w.alloc (fob a b)).alloc (fob c d)).alloc (fob 0 0)) = X := ⟨_, rfl⟩
  rw [hX0] at n1 n2
  have H0 := Lib.hid n1
  have Hs0 := Lib.hid n2
  clear n1 n2
  unfold fob at hX0
  go_enter Try.func84, Try.ntmps84
  go_upto_region 1 with (fail)
  (try rw [hX0])
  clear hX0
  go_cut [6] (fun p wc => SumAt w B a b c d N p wc)
  case first =>
    have S0 := Hs0.out.four
    go_region_held3 (fun w' => w'.cell? ⟨B, 0, none⟩ = some (.int .i64 a) ∧ w'.cell? ⟨B, 1, none⟩ = some (.int .i64 b) ∧ w'.cell? ⟨B + 1, 0, none⟩ = some (.int .i64 c) ∧ w'.cell? ⟨B + 1, 1, none⟩ = some (.int .i64 d))
      (first | exact S0 | exact s1.four | exact s2.four | exact s3.four | exact (Hs0.out.drew.alloc _).four | exact (s1.alloc _).four | exact (s2.alloc _).four | exact (s3.alloc _).four | exact (s3.setFar (m_lt Hs0.out) _ _).four | exact (s3.setFar (m_lt s1) _ _).four | exact (s3.setFar (m_lt s2) _ _).four | exact ((s3.alloc _).setFar (m_lt s3) _ _).four)
      ((first
        | (go_at_call_of 105 (Value.int .u64 d); refine (T1.out _).mono ?_; rintro e w1 ⟨rfl, hb1⟩; have s1 : Thr w1 B a b c d := (by first | exact Hs0.out.drew.below hb1 | exact (Hs0.out.drew.alloc _).below hb1); have q1 : Below B w w1 := (by first | exact through H0.out.drew HnB.out hb1 | exact throughAlloc H0.out.drew HnB.out hb1); obtain ⟨hc1, hf1⟩ := below_cells hb1; have hz1 := hb1.size; (try simp at hz1))
        | (go_at_call 105; refine (T2.out _).mono ?_; rintro e w2 ⟨rfl, hb2⟩; have s2 : Thr w2 B a b c d := (by first | exact s1.below hb2 | exact (s1.alloc _).below hb2); have q2 : Below B w w2 := (by first | exact through q1 HnB.out hb2 | exact throughAlloc q1 HnB.out hb2); obtain ⟨hc2, hf2⟩ := below_cells hb2; have hz2 := hb2.size; (try simp at hz2))
        | (go_at_call 113; refine (P.out _).mono ?_; rintro e w3 ⟨rfl, hb3⟩; have s3 : Thr w3 B a b c d := (by first | exact s2.below hb3 | exact (s2.alloc _).below hb3); have q3 : Below B w w3 := (by first | exact through q2 HnB.out hb3 | exact throughAlloc q2 HnB.out hb3); obtain ⟨hc3, hf3⟩ := below_cells hb3; have hz3 := hb3.size; (try simp at hz3); (try have y1 : X0.heap.size < w1.heap.size := (by omega)); (try have y2 : X0.heap.size < w2.heap.size := (by omega)); (try have y3 : w1.heap.size < w2.heap.size := (by omega)))))
    all_goals go_wp2_with (fail)
    all_goals go_meet
    all_goals first
      | exact ⟨_, rfl, q3.alloc (Nat.le_of_lt (Nat.lt_of_le_of_lt (Nat.le_add_right B 2) (m_lt s3))) _, s3.alloc _, wide_at w3 N _ rfl, m_lt s3⟩
      | exact ⟨_, rfl, setFarB q3 (Nat.le_of_lt (Nat.lt_of_le_of_lt (Nat.le_add_right B 2) (m_lt s2))) _ _, s3.setFar (m_lt s2) _ _, ((wide_at w2 0 _ rfl).on hb3).put, m_lt s2⟩
      | exact ⟨_, rfl, setFarB q3 (Nat.le_of_lt (Nat.lt_of_le_of_lt (Nat.le_add_right B 2) (m_lt s1))) _ _, s3.setFar (m_lt s1) _ _, (((wide_at w1 0 _ rfl).on hb2).on hb3).put, m_lt s1⟩
      | exact ⟨_, rfl, setFarB q3 (Nat.le_of_lt (Nat.lt_of_le_of_lt (Nat.le_add_right B 2) (m_lt Hs0.out))) _ _, s3.setFar (m_lt Hs0.out) _ _, ((((wide_at X0.drew 0 _ rfl).on hb1).on hb2).on hb3).put, m_lt Hs0.out⟩
  case rest =>
    obtain ⟨g, rfl, hbw, thr, wa, hg⟩ := hcut
    have S0 : wc.cell? ⟨B, 1, none⟩ = some (.int .i64 b) ∧ wc.cell? ⟨B + 1, 1, none⟩ = some (.int .i64 d) ∧ wc.cell? ⟨g, 0, none⟩ = some (.int .u64 (hiW N)) ∧ wc.cell? ⟨g, 1, none⟩ = some (.int .u64 (loW N)) := ⟨thr.four.2.1, thr.four.2.2.2, wa.cells.1, wa.cells.2.1⟩
    have H2 := Lib.hid hbw
    have Ht := Lib.hid thr
    have Hw := Lib.hid wa
    clear hbw thr wa
    go_upto_region 2 with (fail)
    go_region_held3 (fun w' => w'.cell? ⟨B, 1, none⟩ = some (.int .i64 b) ∧ w'.cell? ⟨B + 1, 1, none⟩ = some (.int .i64 d) ∧ w'.cell? ⟨g, 0, none⟩ = some (.int .u64 (hiW N)) ∧ w'.cell? ⟨g, 1, none⟩ = some (.int .u64 (loW N)))
      (first | exact S0 | exact r_four s4 m4 | exact r_four s5 m5 | exact r_four2 (s5.set_ _ _) (m5.far (Nat.ne_of_gt hg) _ _))
      ((first
        | (go_at_call 105; refine (T3.out _).mono ?_; rintro e w4 ⟨rfl, hb4⟩; have s4 := Ht.out.drew.below hb4; have m4 := Hw.out.drew.on hb4)
        | (go_at_call 109; refine (HR.out _).mono ?_; rintro e w5 ⟨rfl, hb5⟩; have s5 := s4.below hb5; have m5 := m4.on hb5; obtain ⟨r0, r1, r2, r3⟩ := s5.2.2.cells)))
    all_goals
      obtain ⟨q0, q1⟩ := s5.2.2.back rn rd
      have HN := Lib.hid (((through (drewBelow H2.out HnB.out hb4) HnB.out hb5).setCell (p := ⟨B + 1 + 1, 0, none⟩) (by show B ≤ B + 1 + 1; omega) (.int .i64 rn)).setCell (p := ⟨B + 1 + 1, 1, none⟩) (by show B ≤ B + 1 + 1; omega) (.int .i64 rd))
      clear hb4 hb5 s4 s5 m4 m5
      go_wp2
      (try simp only [Exit.inBlock, Exit.then])
      refine bodyPost_ret (by simp [results, Try.results84, go_sem, q0, q1]; try rfl) rfl ?_
      exact ⟨rfl, by rw [HB.out]; exact HN.out⟩
end Go.Proofs.Ytcechimilefihaa.Fr

namespace Go.Proofs.Ytcechimilefihaa.Fr
open Go.ChangeShapes Go.WideShapes Go.ChangeAt Go.RowKit M

theorem carry_lo {X Y : Nat} : (loW X + loW Y + 0) % 18446744073709551616 = loW (X + Y) := by unfold loW; omega
theorem carry_hi {X Y : Nat} (h : X + Y < 340282366920938463463374607431768211456) : (hiW X + hiW Y + (loW X + loW Y + 0) / 18446744073709551616) % 18446744073709551616 = hiW (X + Y) := by unfold hiW loW; omega

theorem rem_of {S g : Nat} (hg : 0 < g) : ((hiW S % (g : Int)).toNat * 18446744073709551616 + (loW S).toNat) % g = S % g := by
  unfold hiW loW
  have e : ((S / 18446744073709551616 : Nat) : Int) % (g : Int) = ((S / 18446744073709551616 % g : Nat) : Int) := (Int.natCast_emod _ _).symm
  rw [e, Int.toNat_natCast, Int.toNat_natCast]
  obtain ⟨-, e2⟩ := two_gen (U := S / 18446744073709551616) (u0 := S % 18446744073709551616) (B := 18446744073709551616) hg
  rw [← e2]
  congr 1; omega

theorem quo_of {S t : Nat} (ht : 0 < t) :
    S / t = S / 18446744073709551616 / t * 18446744073709551616 + (S / 18446744073709551616 % t * 18446744073709551616 + S % 18446744073709551616) / t := by
  obtain ⟨e1, -⟩ := two_gen (U := S / 18446744073709551616) (u0 := S % 18446744073709551616) (B := 18446744073709551616) ht
  rw [← e1]
  congr 1; omega

theorem low_lt {S t : Nat} (ht : 0 < t) : (S / 18446744073709551616 % t * 18446744073709551616 + S % 18446744073709551616) / t < 18446744073709551616 := by
  rw [Nat.div_lt_iff_lt_mul ht]
  have h := Nat.mod_lt (S / 18446744073709551616) ht
  have : (S / 18446744073709551616 % t + 1) * 18446744073709551616 ≤ t * 18446744073709551616 := Nat.mul_le_mul_right _ h
  rw [Nat.mul_comm 18446744073709551616 t]
  omega

/-- two products in two blocks -/
def PairAt (w : World) (B : Nat) (a b c d : Int) (X Y : Nat) (p q : Value) (wr : World) : Prop :=
  ∃ g1 g2, p = .pointer (some ⟨g1, 0, none⟩) ∧ q = .pointer (some ⟨g2, 0, none⟩) ∧ Below B w wr ∧ Thr wr B a b c d ∧ Blk wr g1 90 #[.int .u64 (hiW X), .int .u64 (loW X)] ∧ Blk wr g2 90 #[.int .u64 (hiW Y), .int .u64 (loW Y)]

theorem plus_fits {S t : Nat} (ht : 0 < t) :
    fits ((S / t : Nat) : Int) = decide (S / 18446744073709551616 / t = 0 ∧ (S / 18446744073709551616 % t * 18446744073709551616 + S % 18446744073709551616) / t ≤ M63) ∧
    (S / 18446744073709551616 / t = 0 → S / t = (S / 18446744073709551616 % t * 18446744073709551616 + S % 18446744073709551616) / t) := by
  have e := quo_of (S := S) ht
  have l := low_lt (S := S) ht
  generalize (S / 18446744073709551616 % t * 18446744073709551616 + S % 18446744073709551616) / t = n at *
  generalize S / 18446744073709551616 / t = o at *
  constructor
  · rw [fits_nat, decide_eq_decide]; unfold M63; omega
  · intro h; omega
theorem bothR_no {x y : Int} (h : fits x = false ∨ fits y = false) : bothR x y = ⟨0, 0, false⟩ := by
  unfold bothR
  rcases h with h | h
  · rw [h]; rfl
  · rw [h, Bool.and_false]; rfl
theorem bothR_yes {x y : Int} (h : fits x = true) (k : fits y = true) : bothR x y = ⟨x, y, true⟩ := by
  unfold bothR; rw [h, k]; rfl
end Go.Proofs.Ytcechimilefihaa.Fr

namespace Go.Proofs.Ytcechimilefihaa.Fr
open Go.ChangeShapes Go.WideShapes Go.ChangeAt Go.RowKit M

theorem Thr.drewN {w : World} {B : Nat} {a b c d : Int} (h : Thr w B a b c d) (n : Nat) : Thr (w.drewN n) B a b c d := h
theorem nat_div {a b : Int} {A C : Nat} (ha : a = (A : Int)) (hc : b = (C : Int)) : a / b = ((A / C : Nat) : Int) := by rw [ha, hc]; exact (Int.natCast_ediv A C).symm
theorem toNat_div {a : Int} {g : Nat} (ha : 0 ≤ a) : (a / (g : Int)).toNat = a.toNat / g := by
  rw [nat_div (A := a.toNat) (by omega) rfl, Int.toNat_natCast]
theorem setFarB' {n g : Nat} {W w : World} (h : Below n W w) (hg : n ≤ g) (u v : Value) : Below n W ((w.setCell ⟨g, 0, none⟩ u).setCell ⟨g, 1, none⟩ v) := (h.setCell hg _).setCell hg _
theorem frac_results {fn : Func} {a t : Tmp} (h : fn.results = #[.cell a 43, .tmp t]) (tmps : Array Value) (w : World) {g : Nat} {x y : Value} (hp : tmps.getD a undef = .pointer (some ⟨g, 0, none⟩))
    (c0 : w.cell? ⟨g, 0, none⟩ = some x) (c1 : w.cell? ⟨g, 1, none⟩ = some y) : (results fn tmps).run Try.prog w = .ok (.tuple #[.agg #[x, y], tmps.getD t undef]) w := by
  simp [results, h, go_sem] at hp ⊢
  simp [hp, go_sem, c0, c1]
theorem cells2 {w : World} {g : Nat} {t : TypeId} {u v : Value} (h : Blk w g t #[u, v]) : w.cell? ⟨g, 0, none⟩ = some u ∧ w.cell? ⟨g, 1, none⟩ = some v := by
  have c0 := h.cell 0; have c1 := h.cell 1
  exact ⟨by simpa using c0, by simpa using c1⟩

set_option maxRecDepth 100000 in
set_option maxHeartbeats 4000000 in
theorem fPlus_any (a b c d : Int) (w : World) (h : Lowest a b) (k : Lowest c d) :
    Calls Try.prog 83 #[.agg #[.int .i64 a, .int .i64 b], .agg #[.int .i64 c, .int .i64 d]] w fun e w' => e = rV (plusR a b c d) ∧ Below w.heap.size w w' := by
  have PS := fun g S t => plus_some (g := g) (S := S) (t := t) h k
  obtain ⟨h0, h1, h2, h3, -⟩ := h
  obtain ⟨k0, k1, k2, k3, -⟩ := k
  have G1 := (gcd_any b d · (by unfold I64; omega) (by unfold I64; omega))
  rw [gcdF_yes (by omega) (by omega)] at G1
  have gl := Nat.gcd_le_right b.toNat (show 0 < d.toNat by omega)
  have gp := Nat.gcd_pos_of_pos_right b.toNat (show 0 < d.toNat by omega)
  obtain ⟨g, hg⟩ : ∃ g, Nat.gcd b.toNat d.toNat = g := ⟨_, rfl⟩
  rw [hg] at G1 gl gp
  have HG1 := Lib.hid G1
  clear G1
  have gI : (1 : Int) ≤ g ∧ (g : Int) ≤ 9223372036854775807 := by omega
  have bd := div_bd (show 0 ≤ d by omega) k3 gI.1
  have bb := div_bd (show 0 ≤ b by omega) h3 gI.1
  have T1 := (fTimes_any a (d / g) · ⟨h0, h1⟩ bd)
  have T2 := (fTimes_any c (b / g) · ⟨k0, k1⟩ bb)
  have x0 := prod_bd (a := a) (b := d / g) ⟨h0, h1⟩ bd
  have y0 := prod_bd (a := c) (b := b / g) ⟨k0, k1⟩ bb
  rw [toNat_div (show 0 ≤ d by omega)] at T1 x0
  rw [toNat_div (show 0 ≤ b by omega)] at T2 y0
  obtain ⟨X, hX⟩ : ∃ X, a.toNat * (d.toNat / g) = X := ⟨_, rfl⟩
  obtain ⟨Y, hY⟩ : ∃ X, c.toNat * (b.toNat / g) = X := ⟨_, rfl⟩
  rw [hX] at T1 x0
  rw [hY] at T2 y0
  have HT1 := Lib.hid T1
  have HT2 := Lib.hid T2
  clear T1 T2
  -- the sum of the two products
  obtain ⟨S, hS⟩ : ∃ S, X + Y = S := ⟨_, rfl⟩
  have sB : S ≤ 170141183460469231694793815568465002498 := by omega
  have lX := lo_bd X; have lY := lo_bd Y
  have hXb := hi_bd (x := X) (by unfold Lt128; omega); have hYb := hi_bd (x := Y) (by unfold Lt128; omega)
  have A1 := fun W => add64 (loW X) (loW Y) 0 lX.1 lX.2 lY.1 lY.2 (Int.le_refl 0) (by decide) W
  obtain ⟨cy, hcy⟩ : ∃ cy, (loW X + loW Y + 0) / 18446744073709551616 = cy := ⟨_, rfl⟩
  have A2 := fun W => add64 (hiW X) (hiW Y) cy hXb.1 hXb.2 hYb.1 hYb.2 (by omega) (by omega) W
  rw [carry_lo, hcy, hS] at A1
  have ch := carry_hi (X := X) (Y := Y) (by omega)
  rw [hcy, hS] at ch
  rw [ch] at A2
  obtain ⟨c2, hc2⟩ : ∃ c2, (hiW X + hiW Y + cy) / 18446744073709551616 = c2 := ⟨_, rfl⟩
  rw [hc2] at A2
  have sl := lo_bd S
  have sh := hi_bd (x := S) (by unfold Lt128; omega)
  have sh2 : hiW S ≤ 9223372036854775807 := by unfold hiW; omega
  clear ch hc2
  -- its rest by g, and what it has in common with g
  have hm0 := Int.emod_nonneg (hiW S) (show (g : Int) ≠ 0 by omega)
  have hm1 := Int.emod_lt_of_pos (hiW S) (show (0 : Int) < g by omega)
  have D1 := (div64_any (hiW S % g) (loW S) g · hm0 hm1 sl.1 sl.2 (by omega))
  have er : remI (hiW S % g) (loW S) g = ((S % g : Nat) : Int) := by unfold remI; rw [Int.toNat_natCast, rem_of gp]
  rw [er] at D1
  obtain ⟨q1, hq1⟩ : ∃ q, quoI (hiW S % g) (loW S) g = q := ⟨_, rfl⟩
  rw [hq1] at D1
  have rl := Nat.mod_lt S gp
  have G2 := (gcd_any ((S % g : Nat) : Int) (g : Int) · (by unfold I64; omega) (by unfold I64; omega))
  rw [gcdF_yes (by omega) (by omega), Int.toNat_natCast, Int.toNat_natCast] at G2
  have et : Nat.gcd (S % g) g = Nat.gcd S g := by rw [Nat.gcd_comm, gcd_step]
  rw [et] at G2
  have tp := Nat.gcd_pos_of_pos_right S gp
  have tl := Nat.gcd_le_right S gp
  obtain ⟨t, ht⟩ : ∃ t, Nat.gcd S g = t := ⟨_, rfl⟩
  rw [ht] at G2 tp tl
  have E := PS g S t hg (by rw [hX, hY, hS]) ht
  have tI : (1 : Int) ≤ t ∧ (t : Int) ≤ 9223372036854775807 := by omega
  obtain ⟨r, hr⟩ : ∃ r, S % g = r := ⟨_, rfl⟩
  rw [hr] at D1 G2 rl
  have rI : 0 ≤ (r : Int) ∧ (r : Int) ≤ 9223372036854775807 := by omega
  have D2 := (div64_any 0 (hiW S) t · (Int.le_refl 0) (by omega) sh.1 sh.2 (by omega))
  have e1 : quoI 0 (hiW S) t = ((S / 18446744073709551616 / t : Nat) : Int) := by unfold quoI hiW; rw [Int.toNat_natCast, Int.toNat_natCast, show (0 : Int).toNat = 0 from rfl, Nat.zero_mul, Nat.zero_add]
  have e2 : remI 0 (hiW S) t = ((S / 18446744073709551616 % t : Nat) : Int) := by unfold remI hiW; rw [Int.toNat_natCast, Int.toNat_natCast, show (0 : Int).toNat = 0 from rfl, Nat.zero_mul, Nat.zero_add]
  rw [e1, e2] at D2
  have tt := Nat.mod_lt (S / 18446744073709551616) tp
  have D3 := (div64_any ((S / 18446744073709551616 % t : Nat) : Int) (loW S) t · (by omega) (by omega) sl.1 sl.2 (by omega))
  have e3 : quoI ((S / 18446744073709551616 % t : Nat) : Int) (loW S) t = (((S / 18446744073709551616 % t * 18446744073709551616 + S % 18446744073709551616) / t : Nat) : Int) := by
    unfold quoI loW; rw [Int.toNat_natCast, Int.toNat_natCast, Int.toNat_natCast]
  rw [e3] at D3
  obtain ⟨q3, hq3⟩ : ∃ q, remI ((S / 18446744073709551616 % t : Nat) : Int) (loW S) t = q := ⟨_, rfl⟩
  rw [hq3] at D3
  obtain ⟨f1, f2⟩ := plus_fits (S := S) tp
  have nl := low_lt (S := S) tp
  obtain ⟨o, ho⟩ : ∃ o, S / 18446744073709551616 / t = o := ⟨_, rfl⟩
  obtain ⟨tp', htp⟩ : ∃ o, S / 18446744073709551616 % t = o := ⟨_, rfl⟩
  rw [htp] at D2 D3 f1 f2 tt nl
  rw [ho] at D2 f1 f2
  obtain ⟨n, hn⟩ : ∃ n, (tp' * 18446744073709551616 + S % 18446744073709551616) / t = n := ⟨_, rfl⟩
  rw [hn] at D3 f1 f2 nl
  obtain ⟨O, hO⟩ : ∃ O, (o : Int) = O := ⟨_, rfl⟩
  obtain ⟨NN, hNN⟩ : ∃ O, (n : Int) = O := ⟨_, rfl⟩
  rw [hO] at D2
  rw [hNN] at D3
  have HO := Lib.hid hO; have HNN := Lib.hid hNN
  have nI : 0 ≤ NN ∧ NN ≤ 18446744073709551615 := by omega
  have oI : 0 ≤ O := by omega
  -- the denominator
  have bt := div_bd (show 0 ≤ d by omega) k3 tI.1
  have M1 := (mul_any (b / g) (d / t) · (by unfold I64; omega) (by unfold I64; omega))
  have em : b / (g : Int) * (d / (t : Int)) = ((b.toNat / g * (d.toNat / t) : Nat) : Int) := by
    rw [nat_div (A := b.toNat) (by omega) rfl, nat_div (A := d.toNat) (by omega) rfl, Int.natCast_mul]
  rw [em] at M1
  obtain ⟨m, hm⟩ : ∃ m, b.toNat / g * (d.toNat / t) = m := ⟨_, rfl⟩
  rw [hm] at M1 E
  obtain ⟨PR, hPR⟩ : ∃ r, plusR a b c d = r := ⟨_, rfl⟩
  rw [hPR] at E ⊢
  clear hPR
  have HE := Lib.hid E
  have HF := Lib.hid (And.intro f1 f2)
  have HD1 := Lib.hid D1; have HD2 := Lib.hid D2; have HD3 := Lib.hid D3; have HG2 := Lib.hid G2
  have HM := Lib.hid M1
  clear hO hNN
  clear PS E f1 f2 D1 D2 D3 G2 M1 em hm hn ho htp hq3 e1 e2 e3 hr ht et hq1 er hS hX hY hg tp tl gl gp x0 y0 lX lY hXb hYb hcy sB
  clear hm0 hm1
  have td1 : d.tdiv g = d / g := Int.tdiv_eq_ediv_of_nonneg (by omega)
  have td2 : b.tdiv g = b / g := Int.tdiv_eq_ediv_of_nonneg (by omega)
  have td3 : d.tdiv t = d / t := Int.tdiv_eq_ediv_of_nonneg (by omega)
  have gn : (g : Int) ≠ 0 := by omega
  have tn : (t : Int) ≠ 0 := by omega
  have wr1 : IntKind.i64.wrap (d / (g : Int)) = d / g := by rw [IntKind.wrap_i64]; omega
  have wr2 : IntKind.i64.wrap (b / (g : Int)) = b / g := by rw [IntKind.wrap_i64]; omega
  have wr3 : IntKind.i64.wrap (d / (t : Int)) = d / t := by rw [IntKind.wrap_i64]; omega
  generalize (g : Int) = G at *
  generalize (t : Int) = T at *
  obtain ⟨B, hB⟩ : ∃ B, w.heap.size = B := ⟨_, rfl⟩
  have HB := Lib.hid hB
  have HnB := Lib.hid (Nat.le_of_eq hB.symm)
  obtain ⟨n1, n2⟩ := thr_new w a b c d
  rw [hB] at n1 n2
  obtain ⟨X0, hX0⟩ : ∃ X, (((w.alloc (fob a b)).alloc (fob c d)).alloc (fob 0 0)) = X := ⟨_, rfl⟩
  rw [hX0] at n1 n2
  have H0 := Lib.hid n1
  have Hs0 := Lib.hid n2
  clear n1 n2
  unfold fob at hX0
  go_enter Try.func83, Try.ntmps83
  go_upto_region 1 with (fail)
  (try rw [hX0])
  clear hX0
  obtain ⟨c0, c1, c3, c4⟩ := Hs0.out.four
  go_upto_region 2 with ((go_at_call 77; refine (HG1.out _).mono ?_; rintro e w1 ⟨rfl, m1, rfl⟩))
  obtain ⟨X1, hX1⟩ : ∃ X, X0.drewN m1 = X := ⟨_, rfl⟩
  have H1 := Lib.hid (show Below B w X1 from hX1 ▸ below_drewN H0.out m1)
  have Hs1 := Lib.hid (show Thr X1 B a b c d from hX1 ▸ Hs0.out.drewN m1)
  rw [hX1]
  clear hX1 c0 c1 c3 c4
  go_cut [7, 8] (fun p q wc => PairAt w B a b c d X Y p q wc)
  case first =>
    have S0 := Hs1.out.four
    go_region_held3 (fun w' => w'.cell? ⟨B, 0, none⟩ = some (.int .i64 a) ∧ w'.cell? ⟨B, 1, none⟩ = some (.int .i64 b) ∧ w'.cell? ⟨B + 1, 0, none⟩ = some (.int .i64 c) ∧ w'.cell? ⟨B + 1, 1, none⟩ = some (.int .i64 d))
      (first | exact S0 | exact (Hs1.out.below (by (repeat' (first | (with_reducible exact Below.refl _ _) | (with_reducible assumption) | (with_reducible exact Nat.le_refl _) | (with_reducible refine Below.alloc ?_ ?_ _) | (with_reducible refine Below.drew ?_) | (with_reducible refine Below.setCell ?_ ?_ _) | ((with_reducible refine through ?_ ?_ (by with_reducible assumption))) | exact Nat.zero_le _ | (with_reducible refine size_through ?_) | (simp; omega))))).four)
      ((first
        | (go_at_call_of 89 (Value.int .i64 a); refine (HT1.out _).mono ?_; rintro e w1 ⟨rfl, rfl⟩)
        | (go_at_call 89; refine (HT2.out _).mono ?_; rintro e w2 ⟨rfl, rfl⟩)))
    all_goals go_wp2_with (fail)
    all_goals go_meet
    all_goals refine ⟨_, _, rfl, rfl, through H1.out HnB.out (by (repeat' (first | (with_reducible exact Below.refl _ _) | (with_reducible assumption) | (with_reducible exact Nat.le_refl _) | (with_reducible refine Below.alloc ?_ ?_ _) | (with_reducible refine Below.drew ?_) | (with_reducible refine Below.setCell ?_ ?_ _) | ((with_reducible refine through ?_ ?_ (by with_reducible assumption))) | exact Nat.zero_le _ | (with_reducible refine size_through ?_) | (simp; omega)))), Hs1.out.below (by (repeat' (first | (with_reducible exact Below.refl _ _) | (with_reducible assumption) | (with_reducible exact Nat.le_refl _) | (with_reducible refine Below.alloc ?_ ?_ _) | (with_reducible refine Below.drew ?_) | (with_reducible refine Below.setCell ?_ ?_ _) | ((with_reducible refine through ?_ ?_ (by with_reducible assumption))) | exact Nat.zero_le _ | (with_reducible refine size_through ?_) | (simp; omega)))), ?_, ?_⟩
    all_goals (repeat' (first | (with_reducible refine Blk.drew ?_) | (with_reducible refine blk_new ?_; (simp; done)) | (with_reducible refine Blk.alloc ?_ _)))
  case rest =>
    obtain ⟨g1, g2, e7, rfl, hbw, thr, b1, b2⟩ := hcut
    cases e7
    obtain ⟨x0, x1⟩ := cells2 b1
    obtain ⟨y0, y1⟩ := cells2 b2
    have H2 := Lib.hid hbw
    have Ht := Lib.hid thr
    clear hbw thr b1 b2
    go_upto_region 9 with (first
      | (go_at_call_of 112 (Value.int .u64 (hiW S % G)); refine (HD1.out _).mono ?_; rintro e w1 ⟨rfl, m2, rfl⟩)
      | (go_at_call 77; refine (HG2.out _).mono ?_; rintro e w1 ⟨rfl, m3, rfl⟩)
      | (go_at_call_of 112 (Value.int .u64 (hiW S)); refine (HD2.out _).mono ?_; rintro e w1 ⟨rfl, m4, rfl⟩)
      | (go_at_call 112; refine (HD3.out _).mono ?_; rintro e w1 ⟨rfl, m5, rfl⟩))
    obtain ⟨X2, hX2⟩ : ∃ X, wc.drewN (m2 + m3 + m4 + m5) = X := ⟨_, rfl⟩
    have H3 := Lib.hid (show Below B w X2 from hX2 ▸ below_drewN H2.out _)
    have Hs3 := Lib.hid (show Thr X2 B a b c d from hX2 ▸ Ht.out.drewN _)
    rw [hX2]
    clear hX2 x0 x1 y0 y1 A1 A2 sl sh sh2 rl rI tt nl td1 td2 wr1 wr2 HD1 HD2 HD3 HG1 HG2 HT1 HT2
    obtain ⟨c0, c1, c3, c4⟩ := Hs3.out.four
    obtain ⟨r0, r1, r2, r3⟩ := Hs3.out.2.2.cells
    rcases (show O ≠ 0 ∨ (O = 0 ∧ 9223372036854775807 < NN) ∨ (O = 0 ∧ NN ≤ 9223372036854775807) by omega) with hc | ⟨hc, hc1⟩ | ⟨hc, hc1⟩
    · have b1 : (O == 0) = false := beq_eq_false_iff_ne.2 hc
      have b2 : (O != 0) = true := by rw [bne, b1]; rfl
      have HV := Lib.hid (show PR = ⟨0, 0, false⟩ from HE.out.trans (bothR_no (.inl (by rw [HF.out.1, decide_eq_false_iff_not]; have := HO.out; omega))))
      have HC := Lib.hid hc
      clear hc
      generalize fits (m : Int) = f at HM
      (go_quiet ((go_at_call 38; exact Calls.quiet_of_same ((HM.out _).mono fun _ _ ⟨he, hw⟩ => ⟨he, hw.symm⟩))); obtain ⟨X3, hX3⟩ : ∃ X, X2.drewN nq = X := ⟨_, rfl⟩; rw [hX3]; have Hs4 := Lib.hid (show Thr X3 B a b c d from hX3 ▸ Hs3.out.drewN nq); have H4 := Lib.hid (show Below B w X3 from hX3 ▸ below_drewN H3.out nq); clear hX3 c0 c1 c3 c4 r0 r1 r2 r3; obtain ⟨r0, r1, r2, r3⟩ := Hs4.out.2.2.cells)
      (go_upto_region 11 with (fail); (repeat go_step); obtain ⟨q0, q1, -, -⟩ := (Hs4.out.2.2.put (c := 0) (d := 0)).cells; refine bodyPost_ret (frac_results rfl _ _ rfl q0 q1) rfl ?_; exact ⟨by rw [HV.out]; rfl, setFarB' (by rw [HB.out]; exact H4.out) (by rw [HB.out]; omega) _ _⟩)
    · have b1 : (O == 0) = true := by rw [hc]; rfl
      have b2 : (O != 0) = false := by rw [bne, b1]; rfl
      have b3 : decide (9223372036854775807 < NN) = true := decide_eq_true hc1
      have HV := Lib.hid (show PR = ⟨0, 0, false⟩ from HE.out.trans (bothR_no (.inl (by rw [HF.out.1, decide_eq_false_iff_not]; have := HNN.out; unfold M63; omega))))
      have HC := Lib.hid hc
      clear hc
      generalize fits (m : Int) = f at HM
      (go_quiet ((go_at_call 38; exact Calls.quiet_of_same ((HM.out _).mono fun _ _ ⟨he, hw⟩ => ⟨he, hw.symm⟩))); obtain ⟨X3, hX3⟩ : ∃ X, X2.drewN nq = X := ⟨_, rfl⟩; rw [hX3]; have Hs4 := Lib.hid (show Thr X3 B a b c d from hX3 ▸ Hs3.out.drewN nq); have H4 := Lib.hid (show Below B w X3 from hX3 ▸ below_drewN H3.out nq); clear hX3 c0 c1 c3 c4 r0 r1 r2 r3; obtain ⟨r0, r1, r2, r3⟩ := Hs4.out.2.2.cells)
      (go_upto_region 11 with (fail); (repeat go_step); obtain ⟨q0, q1, -, -⟩ := (Hs4.out.2.2.put (c := 0) (d := 0)).cells; refine bodyPost_ret (frac_results rfl _ _ rfl q0 q1) rfl ?_; exact ⟨by rw [HV.out]; rfl, setFarB' (by rw [HB.out]; exact H4.out) (by rw [HB.out]; omega) _ _⟩)
    · have b1 : (O == 0) = true := by rw [hc]; rfl
      have b2 : (O != 0) = false := by rw [bne, b1]; rfl
      have b3 : decide (9223372036854775807 < NN) = false := decide_eq_false (by omega)
      have hfit : fits ((S / t : Nat) : Int) = true := by rw [HF.out.1, decide_eq_true_eq]; have := HNN.out; have := HO.out; unfold M63; omega
      have hst : ((S / t : Nat) : Int) = NN := by rw [HF.out.2 (by have := HO.out; omega)]; exact HNN.out
      have w3 : wrap64 NN = NN := by unfold wrap64; omega
      cases hf : fits (m : Int)
      · rw [hf] at HM
        have HV := Lib.hid (show PR = ⟨0, 0, false⟩ from HE.out.trans (bothR_no (.inr hf)))
        have HC := Lib.hid hc
        clear hc hf hfit hst
        (go_quiet ((go_at_call 38; exact Calls.quiet_of_same ((HM.out _).mono fun _ _ ⟨he, hw⟩ => ⟨he, hw.symm⟩))); obtain ⟨X3, hX3⟩ : ∃ X, X2.drewN nq = X := ⟨_, rfl⟩; rw [hX3]; have Hs4 := Lib.hid (show Thr X3 B a b c d from hX3 ▸ Hs3.out.drewN nq); have H4 := Lib.hid (show Below B w X3 from hX3 ▸ below_drewN H3.out nq); clear hX3 c0 c1 c3 c4 r0 r1 r2 r3; obtain ⟨r0, r1, r2, r3⟩ := Hs4.out.2.2.cells)
        (go_upto_region 11 with (fail); (repeat go_step); obtain ⟨q0, q1, -, -⟩ := (Hs4.out.2.2.put (c := 0) (d := 0)).cells; refine bodyPost_ret (frac_results rfl _ _ rfl q0 q1) rfl ?_; exact ⟨by rw [HV.out]; rfl, setFarB' (by rw [HB.out]; exact H4.out) (by rw [HB.out]; omega) _ _⟩)
      · have HMV := Lib.hid (show asInt (m : Int) = m by unfold asInt; rw [hf]; rfl)
        rw [hf, HMV.out] at HM
        have HV := Lib.hid (show PR = ⟨NN, (m : Int), true⟩ from HE.out.trans ((bothR_yes hfit hf).trans (by rw [hst])))
        have HC := Lib.hid hc
        clear hc hf hfit hst
        (go_quiet ((go_at_call 38; exact Calls.quiet_of_same ((HM.out _).mono fun _ _ ⟨he, hw⟩ => ⟨he, hw.symm⟩))); obtain ⟨X3, hX3⟩ : ∃ X, X2.drewN nq = X := ⟨_, rfl⟩; rw [hX3]; have Hs4 := Lib.hid (show Thr X3 B a b c d from hX3 ▸ Hs3.out.drewN nq); have H4 := Lib.hid (show Below B w X3 from hX3 ▸ below_drewN H3.out nq); clear hX3 c0 c1 c3 c4 r0 r1 r2 r3; obtain ⟨r0, r1, r2, r3⟩ := Hs4.out.2.2.cells)
        go_upto_region 12 with (fail)
        repeat go_step
        obtain ⟨q0, q1, -, -⟩ := (Hs4.out.2.2.put (c := NN) (d := (m : Int))).cells
        refine bodyPost_ret (frac_results rfl _ _ rfl q0 q1) rfl ?_
        exact ⟨by rw [HV.out]; rfl, setFarB' (by rw [HB.out]; exact H4.out) (by rw [HB.out]; omega) _ _⟩
end Go.Proofs.Ytcechimilefihaa.Fr
