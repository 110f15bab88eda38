/- The law of fractions scaled, and with the same added, walked. -/
import Derived.Test.YtjfahghdaoickaaFrQ
namespace Go.Proofs.Ytjfahghdaoickaa.Fr
open Go.ChangeShapes Go.WideShapes Go.ChangeAt Go.RowKit M

theorem At3.alloc {w wr : World} {B : Nat} {a b c d e f : Int} (h : At3 w B a b c d e f wr) (hB : B ≤ w.heap.size) (o : Obj) : At3 w B a b c d e f (wr.alloc o) := ⟨h.1.alloc (Nat.le_trans hB h.1.size) o, h.2.alloc o⟩
theorem FracAt.on {w w' : World} {g : Nat} {a b : Int} (h : FracAt w g a b) (hb : Below w.heap.size w w') : FracAt w' g a b := h.below hb h.lt
theorem times_nought {p q t u : Int} (h : Lowest p q) (k : Lowest t u) (z : t = 0) : (timesR p q t u).n = 0 ∧ (timesR p q t u).d = 1 ∧ (timesR p q t u).ok = true := by
  rw [times_zero h k (.inr z)]; exact ⟨rfl, rfl, rfl⟩

set_option maxRecDepth 100000 in
set_option maxHeartbeats 4000000 in
theorem scales_any (a b c d e f : Int) (w : World) (ha : I64 a) (hb : I64 b) (hc : I64 c) (hd : I64 d) (he : I64 e) (hf : I64 f) :
    Calls Try.prog 6 #[.agg #[.int .i64 a, .int .i64 b], .agg #[.int .i64 c, .int .i64 d], .agg #[.int .i64 e, .int .i64 f]] w fun r w' => r = .returned (.bool true) ∧ Below w.heap.size w w' := by
  have R1 := fun x => right_law a b x ha hb
  have R2 := fun x => right_law c d x hc hd
  have R3 := fun x => right_law e f x he hf
  obtain ⟨-, L1⟩ := rgt_ok ha hb
  obtain ⟨-, L2⟩ := rgt_ok hc hd
  obtain ⟨-, L3⟩ := rgt_ok he hf
  generalize rgt a b = r1 at *
  generalize rgt c d = r2 at *
  generalize rgt e f = r3 at *
  obtain ⟨p, q, o1⟩ := r1
  obtain ⟨r, s, o2⟩ := r2
  obtain ⟨t, u, o3⟩ := r3
  simp only at R1 R2 R3 L1 L2 L3
  have HR1 := Lib.hid R1; have HR2 := Lib.hid R2; have HR3 := Lib.hid R3
  have xb := cmp_bd p q r s
  have HC1 := Lib.hid (fun z => cmp_any p q r s z L1 L2)
  have M1 := fun z => times_any p q t u z L1 L3
  have M2 := fun z => times_any r s t u z L2 L3
  have P1 := fun z => fPlus_any p q t u z L1 L3
  have P2 := fun z => fPlus_any r s t u z L2 L3
  have hz1 := fun z => times_nought L1 L3 (t := t) z
  have hz2 := fun z => times_nought L2 L3 (t := t) z
  have ho := fun z => times_order L1 L2 L3 z
  have hp := plus_order L1 L2 L3
  have t0 : 0 ≤ t := L3.1
  generalize timesR p q t u = m1 at *
  generalize timesR r s t u = m2 at *
  generalize plusR p q t u = p1 at *
  generalize plusR r s t u = p2 at *
  obtain ⟨x, hx⟩ : ∃ x, cmpR p q r s = x := ⟨_, rfl⟩
  rw [hx] at HC1 xb ho hp
  obtain ⟨an, ad, ao⟩ := m1
  obtain ⟨bn, bd, bo⟩ := m2
  obtain ⟨cn, cd, co⟩ := p1
  obtain ⟨dn, dd, do'⟩ := p2
  unfold rV at M1 M2 P1 P2
  simp only at M1 M2 P1 P2 hz1 hz2 ho hp
  have HM1 := Lib.hid M1; have HM2 := Lib.hid M2; have HP1 := Lib.hid P1; have HP2 := Lib.hid P2
  have Hz1 := Lib.hid hz1; have Hz2 := Lib.hid hz2; have Ho := Lib.hid ho; have Hp := Lib.hid hp
  clear R1 R2 R3 M1 M2 P1 P2 hz1 hz2 ho hp L1 L2 L3 hx ha hb hc hd he hf
  obtain ⟨B, hB⟩ : ∃ B, w.heap.size = B := ⟨_, rfl⟩
  have HB := Lib.hid hB
  have HnB := Lib.hid (Nat.le_of_eq hB.symm)
  obtain ⟨k1, k2⟩ := tr3_new w a b c d e f
  rw [hB] at k1 k2
  obtain ⟨X0, hX0⟩ : ∃ X, (((w.alloc (fob a b)).alloc (fob c d)).alloc (fob e f)) = X := ⟨_, rfl⟩
  rw [hX0] at k1 k2
  have T0 := Lib.hid (show At3 w B a b c d e f X0 from ⟨k1, k2⟩)
  clear k1 k2
  unfold fob at hX0
  go_enter Try.func6, Try.ntmps6
  go_upto_region 1 with (fail)
  (try rw [hX0])
  clear hX0
  (obtain ⟨⟨c0, c1, -, -⟩, -, -⟩ := T0.out.2.cells; go_wp2_with fail; refine (HR1.out _).mono ?_; rintro e w1 ⟨rfl, hb1⟩; have T1 := T0.out.step HnB.out hb1; clear hb1 c0 c1; obtain ⟨⟨c0, c1, c2, c3⟩, -, -⟩ := T1.2.cells; have T2 := Lib.hid (show At3 w B p q c d e f _ from ⟨setFarB T1.1 (Nat.le_refl _) (.int .i64 p) (.int .i64 q), T1.2.put0 (x := p) (y := q)⟩); clear T1; go_upto_region 2 with (fail); clear c0 c1 c2 c3; obtain ⟨-, ⟨c0, c1, -, -⟩, -⟩ := T2.out.2.cells; go_wp2_with fail; refine (HR2.out _).mono ?_; rintro e w2 ⟨rfl, hb2⟩; have T3 := T2.out.step HnB.out hb2; clear hb2 c0 c1; obtain ⟨-, ⟨c0, c1, c2, c3⟩, -⟩ := T3.2.cells; have T4 := Lib.hid (show At3 w B p q r s e f _ from ⟨setFarB T3.1 (Nat.le_add_right _ _) (.int .i64 r) (.int .i64 s), T3.2.put1 (x := r) (y := s)⟩); clear T3; go_upto_region 3 with (fail); clear c0 c1 c2 c3; obtain ⟨-, -, ⟨c0, c1, -, -⟩⟩ := T4.out.2.cells; go_wp2_with fail; refine (HR3.out _).mono ?_; rintro e w3 ⟨rfl, hb3⟩; have T5 := T4.out.step HnB.out hb3; clear hb3 c0 c1; obtain ⟨-, -, ⟨c0, c1, c2, c3⟩⟩ := T5.2.cells; have T6 := Lib.hid (show At3 w B p q r s t u _ from ⟨setFarB T5.1 (Nat.le_add_right _ 2) (.int .i64 t) (.int .i64 u), T5.2.put2 (x := t) (y := u)⟩); clear T5; go_upto_region 4 with (fail); clear c0 c1 c2 c3 T0 T2 T4; obtain ⟨X, hX⟩ : ∃ X, ((w3.setCell ⟨B + 1 + 1, 0, none⟩ (.int .i64 t)).setCell ⟨B + 1 + 1, 1, none⟩ (.int .i64 u)) = X := ⟨_, rfl⟩; rw [hX] at T6 ⊢; have T := T6; clear T6 hX)
  (obtain ⟨⟨c0, c1, -, -⟩, ⟨c2, c3, -, -⟩, ⟨c4, c5, -, -⟩⟩ := T.out.2.cells)
  go_wp2_with fail
  refine (HC1.out _).mono ?_; rintro e w1 ⟨rfl, hb⟩
  (have T1 := Lib.hid (T.out.step HnB.out hb); clear hb c0 c1 c2 c3 c4 c5 T; have T := T1; clear T1)
  (obtain ⟨⟨c0, c1, -, -⟩, ⟨c2, c3, -, -⟩, ⟨c4, c5, -, -⟩⟩ := T.out.2.cells)
  go_wp2_with fail
  refine (HM1.out _).mono ?_; rintro e w2 ⟨rfl, hb⟩
  (have T1 := Lib.hid (T.out.step HnB.out hb); clear hb c0 c1 c2 c3 c4 c5 T; have T := T1; clear T1)
  obtain ⟨g1, hg1⟩ : ∃ k, w2.heap.size = k := ⟨_, rfl⟩
  go_upto_region 6 with (fail)
  obtain ⟨X1, hX1, m1⟩ : ∃ X, (w2.alloc (fob an ad)) = X ∧ FracAt X g1 an ad := ⟨_, rfl, frac_at _ _ _ _ hg1⟩
  have T1 := Lib.hid (T.out.alloc HnB.out (fob an ad))
  clear T
  have T := T1
  clear T1
  rw [hX1] at T
  unfold fob at hX1
  rw [hX1]
  clear hX1 hg1
  have Hm1 := Lib.hid m1
  clear m1
  (obtain ⟨⟨c0, c1, -, -⟩, ⟨c2, c3, -, -⟩, ⟨c4, c5, -, -⟩⟩ := T.out.2.cells)
  go_wp2_with fail
  refine (HM2.out _).mono ?_; rintro e w3 ⟨rfl, hb⟩
  have Hm2 := Lib.hid (Hm1.out.on hb)
  (have T1 := Lib.hid (T.out.step HnB.out hb); clear hb c0 c1 c2 c3 c4 c5 T; have T := T1; clear T1)
  obtain ⟨g2, hg2⟩ : ∃ k, w3.heap.size = k := ⟨_, rfl⟩
  go_upto_region 7 with (fail)
  obtain ⟨X2, hX2, m2⟩ : ∃ X, (w3.alloc (fob bn bd)) = X ∧ FracAt X g2 bn bd := ⟨_, rfl, frac_at _ _ _ _ hg2⟩
  have Hm3 := Lib.hid (Hm2.out.alloc (fob bn bd))
  have T1 := Lib.hid (T.out.alloc HnB.out (fob bn bd))
  clear T
  have T := T1
  clear T1
  rw [hX2] at T Hm3
  unfold fob at hX2
  rw [hX2]
  clear hX2 hg2
  have Hm4 := Lib.hid m2
  clear m2
  go_cut [62] (fun v wc => v = .bool false ∧ At3 w B p q r s t u wc)
  case first =>
    (obtain ⟨⟨c0, c1, -, -⟩, ⟨c2, c3, -, -⟩, ⟨c4, c5, -, -⟩⟩ := T.out.2.cells)
    obtain ⟨x0, x1, -, -⟩ := Hm3.out.cells
    obtain ⟨y0, y1, -, -⟩ := Hm4.out.cells
    cases ao
    · go_wp2_with fail
      go_meet
      exact ⟨rfl, T.out⟩
    · cases bo
      · go_wp2_with fail
        go_meet
        exact ⟨rfl, T.out⟩
      · rcases (show t = 0 ∨ 0 < t by omega) with g | g
        · have f1 : (an == bn) = true := by rw [beq_iff_eq, (Hz1.out g).1, (Hz2.out g).1]
          have f2 : (ad == bd) = true := by rw [beq_iff_eq, (Hz1.out g).2.1, (Hz2.out g).2.1]
          have f3 : decide (0 < t) = false := decide_eq_false (by omega)
          have f4 : (t == 0) = true := beq_iff_eq.2 g
          clear g t0
          go_wp2_with fail
          go_meet
          exact ⟨by first | rfl | simp, T.out⟩
        · obtain ⟨A1, A2, A3⟩ := Ho.out g rfl rfl
          have C := fun z => cmp_any an ad bn bd z A1 A2
          rw [A3] at C
          have HC := Lib.hid C
          have f3 : decide (0 < t) = true := decide_eq_true g
          have f4 : (t == 0) = false := beq_eq_false_iff_ne.2 (by omega)
          clear C A1 A2 A3 g t0
          go_wp2_with fail
          refine (HC.out _).mono ?_; rintro e w4 ⟨rfl, hb⟩
          (have T1 := Lib.hid (T.out.step HnB.out hb); clear hb c0 c1 c2 c3 c4 c5 T; have T := T1; clear T1)
          (obtain ⟨⟨c0, c1, -, -⟩, ⟨c2, c3, -, -⟩, ⟨c4, c5, -, -⟩⟩ := T.out.2.cells)
          go_wp2_with fail
          go_meet
          exact ⟨by first | rfl | simp, T.out⟩
  case rest =>
    obtain ⟨rfl, ht⟩ := hcut
    clear T Hm1 Hm2 Hm3 Hm4
    have T := Lib.hid ht
    clear ht
    (obtain ⟨⟨c0, c1, -, -⟩, ⟨c2, c3, -, -⟩, ⟨c4, c5, -, -⟩⟩ := T.out.2.cells)
    go_wp2_with fail
    refine (HP1.out _).mono ?_; rintro e w5 ⟨rfl, hb⟩
    (have T1 := Lib.hid (T.out.step HnB.out hb); clear hb c0 c1 c2 c3 c4 c5 T; have T := T1; clear T1)
    obtain ⟨g3, hg3⟩ : ∃ k, w5.heap.size = k := ⟨_, rfl⟩
    go_upto_region 10 with (fail)
    obtain ⟨X3, hX3, m3⟩ : ∃ X, (w5.alloc (fob cn cd)) = X ∧ FracAt X g3 cn cd := ⟨_, rfl, frac_at _ _ _ _ hg3⟩
    have T1 := Lib.hid (T.out.alloc HnB.out (fob cn cd))
    clear T
    have T := T1
    clear T1
    rw [hX3] at T
    unfold fob at hX3
    rw [hX3]
    clear hX3 hg3
    have Hm5 := Lib.hid m3
    clear m3
    (obtain ⟨⟨c0, c1, -, -⟩, ⟨c2, c3, -, -⟩, ⟨c4, c5, -, -⟩⟩ := T.out.2.cells)
    go_wp2_with fail
    refine (HP2.out _).mono ?_; rintro e w6 ⟨rfl, hb⟩
    have Hm6 := Lib.hid (Hm5.out.on hb)
    (have T1 := Lib.hid (T.out.step HnB.out hb); clear hb c0 c1 c2 c3 c4 c5 T; have T := T1; clear T1)
    obtain ⟨g4, hg4⟩ : ∃ k, w6.heap.size = k := ⟨_, rfl⟩
    go_upto_region 11 with (fail)
    obtain ⟨X4, hX4, m4⟩ : ∃ X, (w6.alloc (fob dn dd)) = X ∧ FracAt X g4 dn dd := ⟨_, rfl, frac_at _ _ _ _ hg4⟩
    have Hm7 := Lib.hid (Hm6.out.alloc (fob dn dd))
    have T1 := Lib.hid (T.out.alloc HnB.out (fob dn dd))
    clear T
    have T := T1
    clear T1
    rw [hX4] at T Hm7
    unfold fob at hX4
    rw [hX4]
    clear hX4 hg4
    obtain ⟨x0, x1, -, -⟩ := Hm7.out.cells
    obtain ⟨y0, y1, -, -⟩ := m4.cells
    clear m4
    cases co
    · go_wp2_with fail
      refine (known_any _).mono ?_; rintro e w7 ⟨rfl, hb⟩
      go_wp2
      go_returns
      exact ⟨rfl, by rw [HB.out]; exact through T.out.1 HnB.out hb⟩
    · cases do'
      · go_wp2_with fail
        refine (known_any _).mono ?_; rintro e w7 ⟨rfl, hb⟩
        go_wp2
        go_returns
        exact ⟨rfl, by rw [HB.out]; exact through T.out.1 HnB.out hb⟩
      · obtain ⟨A1, A2, A3⟩ := Hp.out rfl rfl
        have C := fun z => cmp_any cn cd dn dd z A1 A2
        rw [A3] at C
        have HC := Lib.hid C
        clear C A1 A2 A3
        go_wp2_with fail
        refine (HC.out _).mono ?_; rintro e w7 ⟨rfl, hb⟩
        have T1 := Lib.hid (T.out.step HnB.out hb)
        clear hb x0 x1 y0 y1
        go_wp2_with fail
        refine (known_any _).mono ?_; rintro e w8 ⟨rfl, hb⟩
        go_wp2
        go_returns
        exact ⟨rfl, by rw [HB.out]; exact through T1.out.1 HnB.out hb⟩
end Go.Proofs.Ytjfahghdaoickaa.Fr
