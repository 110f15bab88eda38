/- The law of the order of fractions, walked. -/
import Derived.Test.YtjemcnlljjdmiaaFrO
namespace Go.Proofs.Ytjemcnlljjdmiaa.Fr
open Go.ChangeShapes Go.WideShapes Go.ChangeAt Go.RowKit M

theorem bool_order {x a b c d : Int} (h : (x = 0) ↔ (a = c ∧ b = d)) : (x = 0 ∧ a = c ∧ b = d) ∨ (x ≠ 0 ∧ a ≠ c) ∨ (x ≠ 0 ∧ a = c ∧ b ≠ d) := by omega

set_option maxRecDepth 100000 in
set_option maxHeartbeats 4000000 in
theorem order_any (a b c d e f : Int) (w : World) (ha : I64 a) (hb : I64 b) (hc : I64 c) (hd : I64 d) (he : I64 e) (hf : I64 f) :
    Calls Try.prog 12 #[.agg #[.int .i64 a, .int .i64 b], .agg #[.int .i64 c, .int .i64 d], .agg #[.int .i64 e, .int .i64 f]] w fun r w' => r = .returned (.bool true) ∧ Below w.heap.size w w' := by
  have R1 := fun x => right_law a b x ha hb
  have R2 := fun x => right_law c d x hc hd
  have R3 := fun x => right_law e f x he hf
  obtain ⟨-, L1⟩ := rgt_ok ha hb
  obtain ⟨-, L2⟩ := rgt_ok hc hd
  obtain ⟨-, L3⟩ := rgt_ok he hf
  generalize rgt a b = r1 at *
  generalize rgt c d = r2 at *
  generalize rgt e f = r3 at *
  obtain ⟨p, q, o1⟩ := r1
  obtain ⟨r, s, o2⟩ := r2
  obtain ⟨t, u, o3⟩ := r3
  simp only at R1 R2 R3 L1 L2 L3
  have HR1 := Lib.hid R1; have HR2 := Lib.hid R2; have HR3 := Lib.hid R3
  -- the numbers that the law goes through
  have xb := cmp_bd p q r s
  have HC1 := Lib.hid (fun z => cmp_any p q r s z L1 L2)
  have C2 := fun z => cmp_any r s p q z L2 L1
  rw [cmp_neg p q r s] at C2
  have HC2 := Lib.hid C2
  have C3 := fun z => cmp_any p q p q z L1 L1
  rw [cmp_self] at C3
  have HC3 := Lib.hid C3
  have yb := cmp_bd r s t u
  have HC4 := Lib.hid (fun z => cmp_any r s t u z L2 L3)
  have zb := cmp_bd p q t u
  have HC5 := Lib.hid (fun z => cmp_any p q t u z L1 L3)
  have tr := fun hx hy => cmp_trans L1 L2 L3 hx hy
  have HK := Lib.hid (fun z => ceil_any p q z L1)
  obtain ⟨n0, n1, n2, n3⟩ := ceil_law L1
  have HC6 := Lib.hid (fun z => cmp_any (ceilR p q) 1 p q z (low_one n0 n1) L1)
  have C7 := fun (h : 0 < ceilR p q) z => cmp_any (ceilR p q - 1) 1 p q z (low_one (by omega) (by omega)) L1
  have HC7 := Lib.hid C7
  have sm := cmp_same L1 L2
  obtain ⟨x, hx⟩ : ∃ x, cmpR p q r s = x := ⟨_, rfl⟩
  obtain ⟨y, hy⟩ : ∃ x, cmpR r s t u = x := ⟨_, rfl⟩
  obtain ⟨z, hz⟩ : ∃ x, cmpR p q t u = x := ⟨_, rfl⟩
  obtain ⟨n, hn⟩ : ∃ x, ceilR p q = x := ⟨_, rfl⟩
  rw [hn] at HK HC6 HC7 n0 n1 n2 n3
  obtain ⟨m1, hm1⟩ : ∃ x, cmpR n 1 p q = x := ⟨_, rfl⟩
  obtain ⟨m2, hm2⟩ : ∃ x, cmpR (n - 1) 1 p q = x := ⟨_, rfl⟩
  rw [hx] at HC1 HC2 xb sm tr
  rw [hy] at HC4 yb tr
  rw [hz] at HC5 zb tr
  rw [hm1] at HC6 n2
  rw [hm2] at HC7 n3
  have HTR := Lib.hid tr
  clear R1 R2 R3 C2 C3 C7 L1 L2 L3 hx hy hz hn hm1 hm2 tr ha hb hc hd he hf
  obtain ⟨B, hB⟩ : ∃ B, w.heap.size = B := ⟨_, rfl⟩
  have HB := Lib.hid hB
  have HnB := Lib.hid (Nat.le_of_eq hB.symm)
  obtain ⟨k1, k2⟩ := tr3_new w a b c d e f
  rw [hB] at k1 k2
  obtain ⟨X0, hX0⟩ : ∃ X, (((w.alloc (fob a b)).alloc (fob c d)).alloc (fob e f)) = X := ⟨_, rfl⟩
  rw [hX0] at k1 k2
  have T0 := Lib.hid (show At3 w B a b c d e f X0 from ⟨k1, k2⟩)
  clear k1 k2
  unfold fob at hX0
  go_enter Try.func12, Try.ntmps12
  go_upto_region 1 with (fail)
  (try rw [hX0])
  clear hX0
  (obtain ⟨⟨c0, c1, -, -⟩, -, -⟩ := T0.out.2.cells; go_wp2_with fail; refine (HR1.out _).mono ?_; rintro e w1 ⟨rfl, hb1⟩; have T1 := T0.out.step HnB.out hb1; clear hb1 c0 c1; obtain ⟨⟨c0, c1, c2, c3⟩, -, -⟩ := T1.2.cells; have T2 := Lib.hid (show At3 w B p q c d e f _ from ⟨setFarB T1.1 (Nat.le_refl _) (.int .i64 p) (.int .i64 q), T1.2.put0 (x := p) (y := q)⟩); clear T1; go_upto_region 2 with (fail); clear c0 c1 c2 c3; obtain ⟨-, ⟨c0, c1, -, -⟩, -⟩ := T2.out.2.cells; go_wp2_with fail; refine (HR2.out _).mono ?_; rintro e w2 ⟨rfl, hb2⟩; have T3 := T2.out.step HnB.out hb2; clear hb2 c0 c1; obtain ⟨-, ⟨c0, c1, c2, c3⟩, -⟩ := T3.2.cells; have T4 := Lib.hid (show At3 w B p q r s e f _ from ⟨setFarB T3.1 (Nat.le_add_right _ _) (.int .i64 r) (.int .i64 s), T3.2.put1 (x := r) (y := s)⟩); clear T3; go_upto_region 3 with (fail); clear c0 c1 c2 c3; obtain ⟨-, -, ⟨c0, c1, -, -⟩⟩ := T4.out.2.cells; go_wp2_with fail; refine (HR3.out _).mono ?_; rintro e w3 ⟨rfl, hb3⟩; have T5 := T4.out.step HnB.out hb3; clear hb3 c0 c1; obtain ⟨-, -, ⟨c0, c1, c2, c3⟩⟩ := T5.2.cells; have T6 := Lib.hid (show At3 w B p q r s t u _ from ⟨setFarB T5.1 (Nat.le_add_right _ 2) (.int .i64 t) (.int .i64 u), T5.2.put2 (x := t) (y := u)⟩); clear T5; go_upto_region 4 with (fail); clear c0 c1 c2 c3 T0 T2 T4; obtain ⟨X, hX⟩ : ∃ X, ((w3.setCell ⟨B + 1 + 1, 0, none⟩ (.int .i64 t)).setCell ⟨B + 1 + 1, 1, none⟩ (.int .i64 u)) = X := ⟨_, rfl⟩; rw [hX] at T6 ⊢; have T := T6; clear T6 hX)
  go_cut [7] (fun v wc => v = .int .i64 x ∧ At3 w B p q r s t u wc)
  case first =>
    (obtain ⟨⟨c0, c1, -, -⟩, ⟨c2, c3, -, -⟩, ⟨c4, c5, -, -⟩⟩ := T.out.2.cells)
    go_wp2_with fail
    refine (HC1.out _).mono ?_; rintro e w1 ⟨rfl, hb⟩
    have HT := Lib.hid (T.out.step HnB.out hb)
    go_wp2_with fail
    go_meet
    exact ⟨rfl, HT.out⟩
  case rest =>
    obtain ⟨rfl, ht⟩ := hcut
    clear T
    have T := Lib.hid ht
    clear ht
    go_upto_region 5 with (fail)
    go_cut [45] (fun v wc => v = .bool false ∧ At3 w B p q r s t u wc)
    case first =>
      have d1 : decide (x < -1) = false := decide_eq_false (by omega)
      have d2 : decide (1 < x) = false := decide_eq_false (by omega)
      rcases bool_order sm with ⟨e1, e2, e3⟩ | ⟨e1, e2⟩ | ⟨e1, e2, e3⟩
      · have f1 : (x == 0) = true := beq_iff_eq.2 e1
        have f2 : (p == r) = true := beq_iff_eq.2 e2
        have f3 : (q == s) = true := beq_iff_eq.2 e3
        clear e1 e2 e3 sm
        ((obtain ⟨⟨c0, c1, -, -⟩, ⟨c2, c3, -, -⟩, ⟨c4, c5, -, -⟩⟩ := T.out.2.cells); go_wp2_with fail; refine (HC2.out _).mono ?_; rintro e w1 ⟨rfl, hb⟩; (have T1 := Lib.hid (T.out.step HnB.out hb); clear hb c0 c1 c2 c3 c4 c5 T; have T := T1; clear T1); (obtain ⟨⟨c0, c1, -, -⟩, ⟨c2, c3, -, -⟩, ⟨c4, c5, -, -⟩⟩ := T.out.2.cells); go_wp2_with fail; refine (HC3.out _).mono ?_; rintro e w2 ⟨rfl, hb⟩; (have T1 := Lib.hid (T.out.step HnB.out hb); clear hb c0 c1 c2 c3 c4 c5 T; have T := T1; clear T1); go_wp2_with fail; go_meet; exact ⟨rfl, T.out⟩)
      · have f1 : (x == 0) = false := beq_eq_false_iff_ne.2 e1
        have f2 : (p == r) = false := beq_eq_false_iff_ne.2 e2
        clear e1 e2 sm
        ((obtain ⟨⟨c0, c1, -, -⟩, ⟨c2, c3, -, -⟩, ⟨c4, c5, -, -⟩⟩ := T.out.2.cells); go_wp2_with fail; refine (HC2.out _).mono ?_; rintro e w1 ⟨rfl, hb⟩; (have T1 := Lib.hid (T.out.step HnB.out hb); clear hb c0 c1 c2 c3 c4 c5 T; have T := T1; clear T1); (obtain ⟨⟨c0, c1, -, -⟩, ⟨c2, c3, -, -⟩, ⟨c4, c5, -, -⟩⟩ := T.out.2.cells); go_wp2_with fail; refine (HC3.out _).mono ?_; rintro e w2 ⟨rfl, hb⟩; (have T1 := Lib.hid (T.out.step HnB.out hb); clear hb c0 c1 c2 c3 c4 c5 T; have T := T1; clear T1); go_wp2_with fail; go_meet; exact ⟨rfl, T.out⟩)
      · have f1 : (x == 0) = false := beq_eq_false_iff_ne.2 e1
        have f2 : (p == r) = true := beq_iff_eq.2 e2
        have f3 : (q == s) = false := beq_eq_false_iff_ne.2 e3
        clear e1 e2 e3 sm
        ((obtain ⟨⟨c0, c1, -, -⟩, ⟨c2, c3, -, -⟩, ⟨c4, c5, -, -⟩⟩ := T.out.2.cells); go_wp2_with fail; refine (HC2.out _).mono ?_; rintro e w1 ⟨rfl, hb⟩; (have T1 := Lib.hid (T.out.step HnB.out hb); clear hb c0 c1 c2 c3 c4 c5 T; have T := T1; clear T1); (obtain ⟨⟨c0, c1, -, -⟩, ⟨c2, c3, -, -⟩, ⟨c4, c5, -, -⟩⟩ := T.out.2.cells); go_wp2_with fail; refine (HC3.out _).mono ?_; rintro e w2 ⟨rfl, hb⟩; (have T1 := Lib.hid (T.out.step HnB.out hb); clear hb c0 c1 c2 c3 c4 c5 T; have T := T1; clear T1); go_wp2_with fail; go_meet; exact ⟨rfl, T.out⟩)
    case rest =>
      obtain ⟨rfl, ht⟩ := hcut
      clear T
      have T := Lib.hid ht
      clear ht sm
      go_upto_region 7 with (fail)
      go_cut [59] (fun v wc => v = .bool false ∧ At3 w B p q r s t u wc)
      case first =>
        rcases (show 0 < x ∨ (x ≤ 0 ∧ 0 < y) ∨ (x ≤ 0 ∧ y ≤ 0) by omega) with g1 | ⟨g1, g2⟩ | ⟨g1, g2⟩
        · go_wp2_with fail
          go_meet
          exact ⟨rfl, T.out⟩
        · (obtain ⟨⟨c0, c1, -, -⟩, ⟨c2, c3, -, -⟩, ⟨c4, c5, -, -⟩⟩ := T.out.2.cells)
          go_wp2_with fail
          refine (HC4.out _).mono ?_; rintro e w1 ⟨rfl, hb⟩
          (have T1 := Lib.hid (T.out.step HnB.out hb); clear hb c0 c1 c2 c3 c4 c5 T; have T := T1; clear T1)
          go_wp2_with fail
          go_meet
          exact ⟨rfl, T.out⟩
        · have g3 := HTR.out g1 g2
          have d3 : decide (0 < z) = false := decide_eq_false (by omega)
          (obtain ⟨⟨c0, c1, -, -⟩, ⟨c2, c3, -, -⟩, ⟨c4, c5, -, -⟩⟩ := T.out.2.cells)
          go_wp2_with fail
          refine (HC4.out _).mono ?_; rintro e w1 ⟨rfl, hb⟩
          (have T1 := Lib.hid (T.out.step HnB.out hb); clear hb c0 c1 c2 c3 c4 c5 T; have T := T1; clear T1)
          (obtain ⟨⟨c0, c1, -, -⟩, ⟨c2, c3, -, -⟩, ⟨c4, c5, -, -⟩⟩ := T.out.2.cells)
          go_wp2_with fail
          refine (HC5.out _).mono ?_; rintro e w2 ⟨rfl, hb⟩
          (have T1 := Lib.hid (T.out.step HnB.out hb); clear hb c0 c1 c2 c3 c4 c5 T; have T := T1; clear T1)
          go_wp2_with fail
          go_meet
          exact ⟨rfl, T.out⟩
      case rest =>
        obtain ⟨rfl, ht⟩ := hcut
        clear T
        have T := Lib.hid ht
        clear ht
        (obtain ⟨⟨c0, c1, -, -⟩, ⟨c2, c3, -, -⟩, ⟨c4, c5, -, -⟩⟩ := T.out.2.cells)
        go_wp2_with fail
        refine (HK.out _).mono ?_; rintro e w1 ⟨rfl, hb⟩
        (have T1 := Lib.hid (T.out.step HnB.out hb); clear hb c0 c1 c2 c3 c4 c5 T; have T := T1; clear T1)
        (obtain ⟨⟨c0, c1, -, -⟩, ⟨c2, c3, -, -⟩, ⟨c4, c5, -, -⟩⟩ := T.out.2.cells)
        rcases (show n = 0 ∨ 0 < n by omega) with g1 | g1
        · have f1 : decide (0 < n) = false := decide_eq_false (by omega)
          have G1 := Lib.hid g1
          clear g1
          go_wp2_with fail
          refine (HC6.out _).mono ?_; rintro e w2 ⟨rfl, hb⟩
          (have T1 := Lib.hid (T.out.step HnB.out hb); clear hb c0 c1 c2 c3 c4 c5 T; have T := T1; clear T1)
          go_wp2_with fail
          refine (known_any _).mono ?_; rintro e w3 ⟨rfl, hb⟩
          go_wp2
          go_returns
          exact ⟨rfl, by rw [HB.out]; exact through T.out.1 HnB.out hb⟩
        · have HC8 := Lib.hid (HC7.out g1)
          go_wp2_with fail
          refine (HC6.out _).mono ?_; rintro e w2 ⟨rfl, hb⟩
          (have T1 := Lib.hid (T.out.step HnB.out hb); clear hb c0 c1 c2 c3 c4 c5 T; have T := T1; clear T1)
          (obtain ⟨⟨c0, c1, -, -⟩, ⟨c2, c3, -, -⟩, ⟨c4, c5, -, -⟩⟩ := T.out.2.cells)
          go_wp2_with fail
          refine (HC8.out _).mono ?_; rintro e w3 ⟨rfl, hb⟩
          (have T1 := Lib.hid (T.out.step HnB.out hb); clear hb c0 c1 c2 c3 c4 c5 T; have T := T1; clear T1)
          go_wp2_with fail
          refine (known_any _).mono ?_; rintro e w4 ⟨rfl, hb⟩
          go_wp2
          go_returns
          exact ⟨rfl, by rw [HB.out]; exact through T.out.1 HnB.out hb⟩
end Go.Proofs.Ytjemcnlljjdmiaa.Fr
