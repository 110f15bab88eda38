/- The law of sums and products of fractions, walked. -/
import Derived.Test.YtjemcnlljjdmiaaFrR0
import Derived.Test.YtjemcnlljjdmiaaFrV
namespace Go.Proofs.Ytjemcnlljjdmiaa.Fr
open Go.ChangeShapes Go.WideShapes Go.ChangeAt Go.RowKit M

/-- fractions in blocks -/
def Fs (w : World) (l : List (Nat × Int × Int)) : Prop := ∀ x ∈ l, FracAt w x.1 x.2.1 x.2.2
def St (w : World) (B : Nat) (l : List (Nat × Int × Int)) (wr : World) : Prop := Below B w wr ∧ Fs wr l
theorem St.step {w wr w1 : World} {B : Nat} {l : List (Nat × Int × Int)} (h : St w B l wr) (hB : B ≤ w.heap.size) (hb : Below wr.heap.size wr w1) : St w B l w1 := ⟨through h.1 hB hb, fun x hx => (h.2 x hx).on hb⟩
theorem St.alloc {w wr : World} {B : Nat} {l : List (Nat × Int × Int)} (h : St w B l wr) (hB : B ≤ w.heap.size) (x y : Int) {g : Nat} (hg : wr.heap.size = g) : St w B ((g, x, y) :: l) (wr.alloc (fob x y)) := by
  refine ⟨h.1.alloc (Nat.le_trans hB h.1.size) _, fun z hz => ?_⟩
  rcases List.mem_cons.1 hz with rfl | hz
  · exact frac_at _ _ _ _ hg
  · exact (h.2 z hz).alloc _
theorem St.get {w wr : World} {B : Nat} {l : List (Nat × Int × Int)} (h : St w B l wr) {g : Nat} {x y : Int} (hm : (g, x, y) ∈ l) : FracAt wr g x y := h.2 _ hm

set_option maxRecDepth 100000 in
set_option maxHeartbeats 4000000 in
theorem sums_any (a b c d e f : Int) (w : World) (ha : I64 a) (hb : I64 b) (hc : I64 c) (hd : I64 d) (he : I64 e) (hf : I64 f) :
    Calls Try.prog 13 #[.agg #[.int .i64 a, .int .i64 b], .agg #[.int .i64 c, .int .i64 d], .agg #[.int .i64 e, .int .i64 f]] w fun r w' => r = .returned (.bool true) ∧ Below w.heap.size w w' := by
  have R1 := fun x => right_law a b x ha hb
  have R2 := fun x => right_law c d x hc hd
  have R3 := fun x => right_law e f x he hf
  obtain ⟨-, L1⟩ := rgt_ok ha hb
  obtain ⟨-, L2⟩ := rgt_ok hc hd
  obtain ⟨-, L3⟩ := rgt_ok he hf
  generalize rgt a b = r1 at *
  generalize rgt c d = r2 at *
  generalize rgt e f = r3 at *
  obtain ⟨p, q, o1⟩ := r1
  obtain ⟨r, s, o2⟩ := r2
  obtain ⟨t, u, o3⟩ := r3
  simp only at R1 R2 R3 L1 L2 L3
  have HR1 := Lib.hid R1; have HR2 := Lib.hid R2; have HR3 := Lib.hid R3
  have P1 := fun z => fPlus_any p q r s z L1 L2
  have P2 := fun z => fPlus_any r s p q z L2 L1
  rw [plus_comm r s] at P2
  have M1 := fun z => times_any p q r s z L1 L2
  have M2 := fun z => times_any r s p q z L2 L1
  rw [times_comm r s] at M2
  have N1 := fun z => fPlus_any p q 0 1 z L1 low_01
  rw [plus_nought L1] at N1
  have N2 := fun z => times_any p q 1 1 z L1 low_11
  rw [times_one L1] at N2
  have N3 := fun z => times_any p q 0 1 z L1 low_01
  rw [times_none L1] at N3
  have P3 := fun z => fPlus_any r s t u z L2 L3
  have D1 := fun z => times_any p q t u z L1 L3
  have D2 := fun z => times_any r s t u z L2 L3
  have more := fun o => plus_more L1 L2 o
  have ass := fun o1 o2 o3 o4 => plus_assoc L1 L2 L3 o1 o2 o3 o4
  have dis := fun o1 o2 o3 o4 o5 => plus_times L1 L2 L3 o1 o2 o3 o4 o5
  have lx : (plusR p q r s).ok = true → Lowest (plusR p q r s).n (plusR p q r s).d := fun o => ((Val.self L1).plus (Val.self L2) o).low
  have lm : (plusR r s t u).ok = true → Lowest (plusR r s t u).n (plusR r s t u).d := fun o => ((Val.self L2).plus (Val.self L3) o).low
  have ld : (timesR p q t u).ok = true → Lowest (timesR p q t u).n (timesR p q t u).d := fun o => ((Val.self L1).times (Val.self L3) o).low
  have le : (timesR r s t u).ok = true → Lowest (timesR r s t u).n (timesR r s t u).d := fun o => ((Val.self L2).times (Val.self L3) o).low
  generalize plusR p q r s = x at *
  generalize timesR p q r s = y at *
  generalize plusR r s t u = m at *
  generalize timesR p q t u = k1 at *
  generalize timesR r s t u = k2 at *
  obtain ⟨xn, xd, xo⟩ := x
  obtain ⟨yn, yd, yo⟩ := y
  obtain ⟨mn, md, mo⟩ := m
  obtain ⟨dn, dd, do'⟩ := k1
  obtain ⟨en, ed, eo⟩ := k2
  unfold rV at P1 P2 M1 M2 N1 N2 N3 P3 D1 D2
  simp only at P1 P2 M1 M2 N1 N2 N3 P3 D1 D2 more ass dis lx lm ld le
  have HP1 := Lib.hid P1; have HP2 := Lib.hid P2; have HM1 := Lib.hid M1; have HM2 := Lib.hid M2; have HN1 := Lib.hid N1; have HN2 := Lib.hid N2; have HN3 := Lib.hid N3
  have HP3 := Lib.hid P3; have HD1 := Lib.hid D1; have HD2 := Lib.hid D2
  have Hmore := Lib.hid more; have Hass := Lib.hid ass; have Hdis := Lib.hid dis; have Hlx := Lib.hid lx; have Hlm := Lib.hid lm; have Hld := Lib.hid ld; have Hle := Lib.hid le
  have HL1 := Lib.hid L1; have HL2 := Lib.hid L2; have HL3 := Lib.hid L3
  clear R1 R2 R3 P1 P2 M1 M2 N1 N2 N3 P3 D1 D2 more ass dis lx lm ld le L1 L2 L3 ha hb hc hd he hf
  obtain ⟨B, hB⟩ : ∃ B, w.heap.size = B := ⟨_, rfl⟩
  have HB := Lib.hid hB
  have HnB := Lib.hid (Nat.le_of_eq hB.symm)
  obtain ⟨k1, k2⟩ := tr3_new w a b c d e f
  rw [hB] at k1 k2
  obtain ⟨X0, hX0⟩ : ∃ X, (((w.alloc (fob a b)).alloc (fob c d)).alloc (fob e f)) = X := ⟨_, rfl⟩
  rw [hX0] at k1 k2
  have T0 := Lib.hid (show At3 w B a b c d e f X0 from ⟨k1, k2⟩)
  clear k1 k2
  unfold fob at hX0
  go_enter Try.func13, Try.ntmps13
  go_upto_region 1 with (fail)
  (try rw [hX0])
  clear hX0
  (obtain ⟨⟨c0, c1, -, -⟩, -, -⟩ := T0.out.2.cells; go_wp2_with fail; refine (HR1.out _).mono ?_; rintro e w1 ⟨rfl, hb1⟩; have T1 := T0.out.step HnB.out hb1; clear hb1 c0 c1; obtain ⟨⟨c0, c1, c2, c3⟩, -, -⟩ := T1.2.cells; have T2 := Lib.hid (show At3 w B p q c d e f _ from ⟨setFarB T1.1 (Nat.le_refl _) (.int .i64 p) (.int .i64 q), T1.2.put0 (x := p) (y := q)⟩); clear T1; go_upto_region 2 with (fail); clear c0 c1 c2 c3; obtain ⟨-, ⟨c0, c1, -, -⟩, -⟩ := T2.out.2.cells; go_wp2_with fail; refine (HR2.out _).mono ?_; rintro e w2 ⟨rfl, hb2⟩; have T3 := T2.out.step HnB.out hb2; clear hb2 c0 c1; obtain ⟨-, ⟨c0, c1, c2, c3⟩, -⟩ := T3.2.cells; have T4 := Lib.hid (show At3 w B p q r s e f _ from ⟨setFarB T3.1 (Nat.le_add_right _ _) (.int .i64 r) (.int .i64 s), T3.2.put1 (x := r) (y := s)⟩); clear T3; go_upto_region 3 with (fail); clear c0 c1 c2 c3; obtain ⟨-, -, ⟨c0, c1, -, -⟩⟩ := T4.out.2.cells; go_wp2_with fail; refine (HR3.out _).mono ?_; rintro e w3 ⟨rfl, hb3⟩; have T5 := T4.out.step HnB.out hb3; clear hb3 c0 c1; obtain ⟨-, -, ⟨c0, c1, c2, c3⟩⟩ := T5.2.cells; have T6 := Lib.hid (show At3 w B p q r s t u _ from ⟨setFarB T5.1 (Nat.le_add_right _ 2) (.int .i64 t) (.int .i64 u), T5.2.put2 (x := t) (y := u)⟩); clear T5; go_upto_region 4 with (fail); clear c0 c1 c2 c3 T0 T2 T4; obtain ⟨X, hX⟩ : ∃ X, ((w3.setCell ⟨B + 1 + 1, 0, none⟩ (.int .i64 t)).setCell ⟨B + 1 + 1, 1, none⟩ (.int .i64 u)) = X := ⟨_, rfl⟩; rw [hX] at T6 ⊢; have T := T6; clear T6 hX)
  have T1 := Lib.hid (show St w B [(B, p, q), (B + 1, r, s), (B + 1 + 1, t, u)] X from ⟨T.out.1, fun z hz => by
    simp only [List.mem_cons, List.not_mem_nil, or_false] at hz
    rcases hz with rfl | rfl | rfl
    · exact T.out.2.1
    · exact T.out.2.2.1
    · exact T.out.2.2.2⟩)
  (clear T; have T := T1; clear T1)
  obtain ⟨g1, hg1⟩ : ∃ k, X.heap.size = k := ⟨_, rfl⟩
  go_upto_region 5 with (fail)
  obtain ⟨X1, hX1⟩ : ∃ W9, (X.alloc (fob 0 1)) = W9 := ⟨_, rfl⟩
  have T1 := Lib.hid (T.out.alloc HnB.out (0) (1) hg1)
  (clear T; have T := T1; clear T1)
  rw [hX1] at T
  unfold fob at hX1
  (try rw [hX1])
  clear hX1 hg1
  obtain ⟨g2, hg2⟩ : ∃ k, X1.heap.size = k := ⟨_, rfl⟩
  go_upto_region 6 with (fail)
  obtain ⟨X2, hX2⟩ : ∃ W9, (X1.alloc (fob 1 1)) = W9 := ⟨_, rfl⟩
  have T1 := Lib.hid (T.out.alloc HnB.out (1) (1) hg2)
  (clear T; have T := T1; clear T1)
  rw [hX2] at T
  unfold fob at hX2
  (try rw [hX2])
  clear hX2 hg2
  obtain ⟨c0, e0, -, -⟩ := (T.out.get (g := B) (x := p) (y := q) (by simp)).cells
  obtain ⟨c1, e1, -, -⟩ := (T.out.get (g := B + 1) (x := r) (y := s) (by simp)).cells
  go_wp2_with fail
  refine (HP1.out _).mono ?_; rintro e u3 ⟨rfl, hb⟩
  have T1 := Lib.hid (T.out.step HnB.out hb)
  clear hb c0 e0 c1 e1
  (clear T; have T := T1; clear T1)
  obtain ⟨g4, hg4⟩ : ∃ k, u3.heap.size = k := ⟨_, rfl⟩
  go_upto_region 7 with (fail)
  obtain ⟨X4, hX4⟩ : ∃ W9, (u3.alloc (fob xn xd)) = W9 := ⟨_, rfl⟩
  have T1 := Lib.hid (T.out.alloc HnB.out (xn) (xd) hg4)
  (clear T; have T := T1; clear T1)
  rw [hX4] at T
  unfold fob at hX4
  (try rw [hX4])
  clear hX4 hg4
  obtain ⟨c0, e0, -, -⟩ := (T.out.get (g := B + 1) (x := r) (y := s) (by simp)).cells
  obtain ⟨c1, e1, -, -⟩ := (T.out.get (g := B) (x := p) (y := q) (by simp)).cells
  go_wp2_with fail
  refine (HP2.out _).mono ?_; rintro e u5 ⟨rfl, hb⟩
  have T1 := Lib.hid (T.out.step HnB.out hb)
  clear hb c0 e0 c1 e1
  (clear T; have T := T1; clear T1)
  obtain ⟨g6, hg6⟩ : ∃ k, u5.heap.size = k := ⟨_, rfl⟩
  go_upto_region 8 with (fail)
  obtain ⟨X6, hX6⟩ : ∃ W9, (u5.alloc (fob xn xd)) = W9 := ⟨_, rfl⟩
  have T1 := Lib.hid (T.out.alloc HnB.out (xn) (xd) hg6)
  (clear T; have T := T1; clear T1)
  rw [hX6] at T
  unfold fob at hX6
  (try rw [hX6])
  clear hX6 hg6
  obtain ⟨c0, e0, -, -⟩ := (T.out.get (g := B) (x := p) (y := q) (by simp)).cells
  obtain ⟨c1, e1, -, -⟩ := (T.out.get (g := B + 1) (x := r) (y := s) (by simp)).cells
  go_wp2_with fail
  refine (HM1.out _).mono ?_; rintro e u7 ⟨rfl, hb⟩
  have T1 := Lib.hid (T.out.step HnB.out hb)
  clear hb c0 e0 c1 e1
  (clear T; have T := T1; clear T1)
  obtain ⟨g8, hg8⟩ : ∃ k, u7.heap.size = k := ⟨_, rfl⟩
  go_upto_region 9 with (fail)
  obtain ⟨X8, hX8⟩ : ∃ W9, (u7.alloc (fob yn yd)) = W9 := ⟨_, rfl⟩
  have T1 := Lib.hid (T.out.alloc HnB.out (yn) (yd) hg8)
  (clear T; have T := T1; clear T1)
  rw [hX8] at T
  unfold fob at hX8
  (try rw [hX8])
  clear hX8 hg8
  obtain ⟨c0, e0, -, -⟩ := (T.out.get (g := B + 1) (x := r) (y := s) (by simp)).cells
  obtain ⟨c1, e1, -, -⟩ := (T.out.get (g := B) (x := p) (y := q) (by simp)).cells
  go_wp2_with fail
  refine (HM2.out _).mono ?_; rintro e u9 ⟨rfl, hb⟩
  have T1 := Lib.hid (T.out.step HnB.out hb)
  clear hb c0 e0 c1 e1
  (clear T; have T := T1; clear T1)
  obtain ⟨g10, hg10⟩ : ∃ k, u9.heap.size = k := ⟨_, rfl⟩
  go_upto_region 10 with (fail)
  obtain ⟨X10, hX10⟩ : ∃ W9, (u9.alloc (fob yn yd)) = W9 := ⟨_, rfl⟩
  have T1 := Lib.hid (T.out.alloc HnB.out (yn) (yd) hg10)
  (clear T; have T := T1; clear T1)
  rw [hX10] at T
  unfold fob at hX10
  (try rw [hX10])
  clear hX10 hg10
  obtain ⟨c0, e0, -, -⟩ := (T.out.get (g := B) (x := p) (y := q) (by simp)).cells
  obtain ⟨c1, e1, -, -⟩ := (T.out.get (g := g1) (x := 0) (y := 1) (by simp)).cells
  go_wp2_with fail
  refine (HN1.out _).mono ?_; rintro e u11 ⟨rfl, hb⟩
  have T1 := Lib.hid (T.out.step HnB.out hb)
  clear hb c0 e0 c1 e1
  (clear T; have T := T1; clear T1)
  obtain ⟨g12, hg12⟩ : ∃ k, u11.heap.size = k := ⟨_, rfl⟩
  go_upto_region 11 with (fail)
  obtain ⟨X12, hX12⟩ : ∃ W9, (u11.alloc (fob p q)) = W9 := ⟨_, rfl⟩
  have T1 := Lib.hid (T.out.alloc HnB.out (p) (q) hg12)
  (clear T; have T := T1; clear T1)
  rw [hX12] at T
  unfold fob at hX12
  (try rw [hX12])
  clear hX12 hg12
  obtain ⟨c0, e0, -, -⟩ := (T.out.get (g := B) (x := p) (y := q) (by simp)).cells
  obtain ⟨c1, e1, -, -⟩ := (T.out.get (g := g2) (x := 1) (y := 1) (by simp)).cells
  go_wp2_with fail
  refine (HN2.out _).mono ?_; rintro e u13 ⟨rfl, hb⟩
  have T1 := Lib.hid (T.out.step HnB.out hb)
  clear hb c0 e0 c1 e1
  (clear T; have T := T1; clear T1)
  obtain ⟨g14, hg14⟩ : ∃ k, u13.heap.size = k := ⟨_, rfl⟩
  go_upto_region 12 with (fail)
  obtain ⟨X14, hX14⟩ : ∃ W9, (u13.alloc (fob p q)) = W9 := ⟨_, rfl⟩
  have T1 := Lib.hid (T.out.alloc HnB.out (p) (q) hg14)
  (clear T; have T := T1; clear T1)
  rw [hX14] at T
  unfold fob at hX14
  (try rw [hX14])
  clear hX14 hg14
  obtain ⟨c0, e0, -, -⟩ := (T.out.get (g := B) (x := p) (y := q) (by simp)).cells
  obtain ⟨c1, e1, -, -⟩ := (T.out.get (g := g1) (x := 0) (y := 1) (by simp)).cells
  go_wp2_with fail
  refine (HN3.out _).mono ?_; rintro e u15 ⟨rfl, hb⟩
  have T1 := Lib.hid (T.out.step HnB.out hb)
  clear hb c0 e0 c1 e1
  (clear T; have T := T1; clear T1)
  obtain ⟨g16, hg16⟩ : ∃ k, u15.heap.size = k := ⟨_, rfl⟩
  go_upto_region 13 with (fail)
  obtain ⟨X16, hX16⟩ : ∃ W9, (u15.alloc (fob 0 1)) = W9 := ⟨_, rfl⟩
  have T1 := Lib.hid (T.out.alloc HnB.out (0) (1) hg16)
  (clear T; have T := T1; clear T1)
  rw [hX16] at T
  unfold fob at hX16
  (try rw [hX16])
  clear hX16 hg16
  go_cut [128] (fun v wc => v = .bool false ∧ St w B [(g16, 0, 1), (g14, p, q), (g12, p, q), (g10, yn, yd), (g8, yn, yd), (g6, xn, xd), (g4, xn, xd), (g2, 1, 1), (g1, 0, 1), (B, p, q), (B + 1, r, s), (B + 1 + 1, t, u)] wc)
  case first =>
    obtain ⟨c0, e0, -, -⟩ := (T.out.get (g := g4) (x := xn) (y := xd) (by simp)).cells
    obtain ⟨c1, e1, -, -⟩ := (T.out.get (g := g6) (x := xn) (y := xd) (by simp)).cells
    obtain ⟨c2, e2, -, -⟩ := (T.out.get (g := g8) (x := yn) (y := yd) (by simp)).cells
    obtain ⟨c3, e3, -, -⟩ := (T.out.get (g := g10) (x := yn) (y := yd) (by simp)).cells
    obtain ⟨c4, e4, -, -⟩ := (T.out.get (g := g12) (x := p) (y := q) (by simp)).cells
    obtain ⟨c5, e5, -, -⟩ := (T.out.get (g := B) (x := p) (y := q) (by simp)).cells
    obtain ⟨c6, e6, -, -⟩ := (T.out.get (g := g14) (x := p) (y := q) (by simp)).cells
    obtain ⟨c7, e7, -, -⟩ := (T.out.get (g := g16) (x := 0) (y := 1) (by simp)).cells
    obtain ⟨c8, e8, -, -⟩ := (T.out.get (g := g1) (x := 0) (y := 1) (by simp)).cells
    cases xo
    · go_wp2_with fail
      go_meet
      exact ⟨by first | rfl | simp, T.out⟩
    · obtain ⟨v, hv⟩ : ∃ v, cmpR xn xd p q = v := ⟨_, rfl⟩
      have C := fun z => cmp_any xn xd p q z (Hlx.out rfl) HL1.out
      have nv := Hmore.out rfl
      rw [hv] at C nv
      have dv : decide (v < 0) = false := decide_eq_false (by omega)
      have HC := Lib.hid C
      clear C nv hv
      go_wp2_with fail
      refine (HC.out _).mono ?_; rintro e v1 ⟨rfl, hb⟩
      have T1 := Lib.hid (T.out.step HnB.out hb)
      go_wp2_with fail
      go_meet
      exact ⟨by first | rfl | simp, T1.out⟩
  case rest =>
    obtain ⟨rfl, ht⟩ := hcut
    clear T
    have T := Lib.hid ht
    clear ht
    obtain ⟨c0, e0, -, -⟩ := (T.out.get (g := B + 1) (x := r) (y := s) (by simp)).cells
    obtain ⟨c1, e1, -, -⟩ := (T.out.get (g := B + 1 + 1) (x := t) (y := u) (by simp)).cells
    go_wp2_with fail
    refine (HP3.out _).mono ?_; rintro e u17 ⟨rfl, hb⟩
    have T1 := Lib.hid (T.out.step HnB.out hb)
    clear hb c0 e0 c1 e1
    (clear T; have T := T1; clear T1)
    obtain ⟨g18, hg18⟩ : ∃ k, u17.heap.size = k := ⟨_, rfl⟩
    go_upto_region 16 with (fail)
    obtain ⟨X18, hX18⟩ : ∃ W9, (u17.alloc (fob mn md)) = W9 := ⟨_, rfl⟩
    have T1 := Lib.hid (T.out.alloc HnB.out (mn) (md) hg18)
    (clear T; have T := T1; clear T1)
    rw [hX18] at T
    unfold fob at hX18
    (try rw [hX18])
    clear hX18 hg18
    go_cut [138] (fun v wc => ∃ z, v = .bool z ∧ (xo && mo) = z ∧ St w B [(g18, mn, md), (g16, 0, 1), (g14, p, q), (g12, p, q), (g10, yn, yd), (g8, yn, yd), (g6, xn, xd), (g4, xn, xd), (g2, 1, 1), (g1, 0, 1), (B, p, q), (B + 1, r, s), (B + 1 + 1, t, u)] wc)
    case first =>
      cases xo <;> cases mo
      all_goals go_wp2_with fail
      all_goals go_meet
      all_goals exact ⟨_, rfl, rfl, T.out⟩
    case rest =>
    obtain ⟨z, rfl, hz, ht⟩ := hcut
    have Hz := Lib.hid hz
    clear hz
    clear T
    have T := Lib.hid ht
    clear ht
    go_upto_if 138 with (fail)
    go_cut [] (fun wc => St w B [(g18, mn, md), (g16, 0, 1), (g14, p, q), (g12, p, q), (g10, yn, yd), (g8, yn, yd), (g6, xn, xd), (g4, xn, xd), (g2, 1, 1), (g1, 0, 1), (B, p, q), (B + 1, r, s), (B + 1 + 1, t, u)] wc)
    case first =>
      cases z
      · go_wp2_with fail
        go_meet
        exact T.out
      · cases xo
        · exact absurd Hz.out (by simp)
        · cases mo
          · exact absurd Hz.out (by simp)
          have Q1 := fun z => fPlus_any xn xd t u z (Hlx.out rfl) HL3.out
          have Q2 := fun z => fPlus_any p q mn md z HL1.out (Hlm.out rfl)
          have as4 := fun o3 o4 => Hass.out rfl rfl o3 o4
          generalize plusR xn xd t u = l1 at *
          generalize plusR p q mn md = l2 at *
          obtain ⟨ln, ld, lo⟩ := l1
          obtain ⟨nn, nd, no⟩ := l2
          unfold rV at Q1 Q2
          simp only at Q1 Q2 as4
          have HQ1 := Lib.hid Q1; have HQ2 := Lib.hid Q2; have Has := Lib.hid as4
          clear Q1 Q2 as4
          obtain ⟨c0, e0, -, -⟩ := (T.out.get (g := g4) (x := xn) (y := xd) (by simp)).cells
          obtain ⟨c1, e1, -, -⟩ := (T.out.get (g := B + 1 + 1) (x := t) (y := u) (by simp)).cells
          go_wp2_with fail
          refine (HQ1.out _).mono ?_; rintro e u19 ⟨rfl, hb⟩
          have T1 := Lib.hid (T.out.step HnB.out hb)
          clear hb c0 e0 c1 e1
          (clear T; have T := T1; clear T1)
          obtain ⟨g20, hg20⟩ : ∃ k, u19.heap.size = k := ⟨_, rfl⟩
          go_upto_region 18 with (fail)
          obtain ⟨X20, hX20⟩ : ∃ W9, (u19.alloc (fob ln ld)) = W9 := ⟨_, rfl⟩
          have T1 := Lib.hid (T.out.alloc HnB.out (ln) (ld) hg20)
          (clear T; have T := T1; clear T1)
          rw [hX20] at T
          unfold fob at hX20
          (try rw [hX20])
          clear hX20 hg20
          obtain ⟨c0, e0, -, -⟩ := (T.out.get (g := B) (x := p) (y := q) (by simp)).cells
          obtain ⟨c1, e1, -, -⟩ := (T.out.get (g := g18) (x := mn) (y := md) (by simp)).cells
          go_wp2_with fail
          refine (HQ2.out _).mono ?_; rintro e u21 ⟨rfl, hb⟩
          have T1 := Lib.hid (T.out.step HnB.out hb)
          clear hb c0 e0 c1 e1
          (clear T; have T := T1; clear T1)
          obtain ⟨g22, hg22⟩ : ∃ k, u21.heap.size = k := ⟨_, rfl⟩
          go_upto_region 19 with (fail)
          obtain ⟨X22, hX22⟩ : ∃ W9, (u21.alloc (fob nn nd)) = W9 := ⟨_, rfl⟩
          have T1 := Lib.hid (T.out.alloc HnB.out (nn) (nd) hg22)
          (clear T; have T := T1; clear T1)
          rw [hX22] at T
          unfold fob at hX22
          (try rw [hX22])
          clear hX22 hg22
          obtain ⟨c0, e0, -, -⟩ := (T.out.get (g := g20) (x := ln) (y := ld) (by simp)).cells
          obtain ⟨c1, e1, -, -⟩ := (T.out.get (g := g22) (x := nn) (y := nd) (by simp)).cells
          cases lo
          · go_wp2_with fail
            go_meet
            exact ⟨T.out.1, fun z hz => T.out.2 z (List.mem_cons_of_mem _ (List.mem_cons_of_mem _ hz))⟩
          · cases no
            · go_wp2_with fail
              go_meet
              exact ⟨T.out.1, fun z hz => T.out.2 z (List.mem_cons_of_mem _ (List.mem_cons_of_mem _ hz))⟩
            · obtain ⟨i1, i2⟩ := Has.out rfl rfl
              have j1 : (ln == nn) = true := beq_iff_eq.2 i1
              have j2 : (ld == nd) = true := beq_iff_eq.2 i2
              clear i1 i2
              go_wp2_with fail
              go_meet
              exact ⟨T.out.1, fun z hz => T.out.2 z (List.mem_cons_of_mem _ (List.mem_cons_of_mem _ hz))⟩
    case rest =>
      clear T
      have T := Lib.hid hcut
      clear hcut
      obtain ⟨c0, e0, -, -⟩ := (T.out.get (g := B) (x := p) (y := q) (by simp)).cells
      obtain ⟨c1, e1, -, -⟩ := (T.out.get (g := B + 1 + 1) (x := t) (y := u) (by simp)).cells
      go_wp2_with fail
      refine (HD1.out _).mono ?_; rintro e u23 ⟨rfl, hb⟩
      have T1 := Lib.hid (T.out.step HnB.out hb)
      clear hb c0 e0 c1 e1
      (clear T; have T := T1; clear T1)
      obtain ⟨g24, hg24⟩ : ∃ k, u23.heap.size = k := ⟨_, rfl⟩
      go_upto_region 22 with (fail)
      obtain ⟨X24, hX24⟩ : ∃ W9, (u23.alloc (fob dn dd)) = W9 := ⟨_, rfl⟩
      have T1 := Lib.hid (T.out.alloc HnB.out (dn) (dd) hg24)
      (clear T; have T := T1; clear T1)
      rw [hX24] at T
      unfold fob at hX24
      (try rw [hX24])
      clear hX24 hg24
      obtain ⟨c0, e0, -, -⟩ := (T.out.get (g := B + 1) (x := r) (y := s) (by simp)).cells
      obtain ⟨c1, e1, -, -⟩ := (T.out.get (g := B + 1 + 1) (x := t) (y := u) (by simp)).cells
      go_wp2_with fail
      refine (HD2.out _).mono ?_; rintro e u25 ⟨rfl, hb⟩
      have T1 := Lib.hid (T.out.step HnB.out hb)
      clear hb c0 e0 c1 e1
      (clear T; have T := T1; clear T1)
      obtain ⟨g26, hg26⟩ : ∃ k, u25.heap.size = k := ⟨_, rfl⟩
      go_upto_region 23 with (fail)
      obtain ⟨X26, hX26⟩ : ∃ W9, (u25.alloc (fob en ed)) = W9 := ⟨_, rfl⟩
      have T1 := Lib.hid (T.out.alloc HnB.out (en) (ed) hg26)
      (clear T; have T := T1; clear T1)
      rw [hX26] at T
      unfold fob at hX26
      (try rw [hX26])
      clear hX26 hg26
      cases xo
      · go_wp2_with fail
        refine (known_any _).mono ?_; rintro e vz ⟨rfl, hb⟩
        go_wp2
        go_returns
        exact ⟨rfl, by rw [HB.out]; exact through T.out.1 HnB.out hb⟩
      · cases do'
        · go_wp2_with fail
          refine (known_any _).mono ?_; rintro e vz ⟨rfl, hb⟩
          go_wp2
          go_returns
          exact ⟨rfl, by rw [HB.out]; exact through T.out.1 HnB.out hb⟩
        · cases eo
          · go_wp2_with fail
            refine (known_any _).mono ?_; rintro e vz ⟨rfl, hb⟩
            go_wp2
            go_returns
            exact ⟨rfl, by rw [HB.out]; exact through T.out.1 HnB.out hb⟩
          · have Q1 := fun z => fPlus_any dn dd en ed z (Hld.out rfl) (Hle.out rfl)
            have Q2 := fun z => times_any xn xd t u z (Hlx.out rfl) HL3.out
            have ds := fun o4 o5 => Hdis.out rfl rfl rfl o4 o5
            generalize plusR dn dd en ed = l1 at *
            generalize timesR xn xd t u = l2 at *
            obtain ⟨fn, fd, fo⟩ := l1
            obtain ⟨gn, gd, go'⟩ := l2
            unfold rV at Q1 Q2
            simp only at Q1 Q2 ds
            have HQ1 := Lib.hid Q1; have HQ2 := Lib.hid Q2; have Hds := Lib.hid ds
            clear Q1 Q2 ds
            obtain ⟨c0, e0, -, -⟩ := (T.out.get (g := g24) (x := dn) (y := dd) (by simp)).cells
            obtain ⟨c1, e1, -, -⟩ := (T.out.get (g := g26) (x := en) (y := ed) (by simp)).cells
            go_wp2_with fail
            refine (HQ1.out _).mono ?_; rintro e u27 ⟨rfl, hb⟩
            have T1 := Lib.hid (T.out.step HnB.out hb)
            clear hb c0 e0 c1 e1
            (clear T; have T := T1; clear T1)
            obtain ⟨g28, hg28⟩ : ∃ k, u27.heap.size = k := ⟨_, rfl⟩
            go_upto_region 25 with (fail)
            obtain ⟨X28, hX28⟩ : ∃ W9, (u27.alloc (fob fn fd)) = W9 := ⟨_, rfl⟩
            have T1 := Lib.hid (T.out.alloc HnB.out (fn) (fd) hg28)
            (clear T; have T := T1; clear T1)
            rw [hX28] at T
            unfold fob at hX28
            (try rw [hX28])
            clear hX28 hg28
            obtain ⟨c0, e0, -, -⟩ := (T.out.get (g := g4) (x := xn) (y := xd) (by simp)).cells
            obtain ⟨c1, e1, -, -⟩ := (T.out.get (g := B + 1 + 1) (x := t) (y := u) (by simp)).cells
            go_wp2_with fail
            refine (HQ2.out _).mono ?_; rintro e u29 ⟨rfl, hb⟩
            have T1 := Lib.hid (T.out.step HnB.out hb)
            clear hb c0 e0 c1 e1
            (clear T; have T := T1; clear T1)
            obtain ⟨g30, hg30⟩ : ∃ k, u29.heap.size = k := ⟨_, rfl⟩
            go_upto_region 26 with (fail)
            obtain ⟨X30, hX30⟩ : ∃ W9, (u29.alloc (fob gn gd)) = W9 := ⟨_, rfl⟩
            have T1 := Lib.hid (T.out.alloc HnB.out (gn) (gd) hg30)
            (clear T; have T := T1; clear T1)
            rw [hX30] at T
            unfold fob at hX30
            (try rw [hX30])
            clear hX30 hg30
            obtain ⟨c0, e0, -, -⟩ := (T.out.get (g := g28) (x := fn) (y := fd) (by simp)).cells
            obtain ⟨c1, e1, -, -⟩ := (T.out.get (g := g30) (x := gn) (y := gd) (by simp)).cells
            cases fo
            · go_wp2_with fail
              refine (known_any _).mono ?_; rintro e vz ⟨rfl, hb⟩
              go_wp2
              go_returns
              exact ⟨rfl, by rw [HB.out]; exact through T.out.1 HnB.out hb⟩
            · cases go'
              · go_wp2_with fail
                refine (known_any _).mono ?_; rintro e vz ⟨rfl, hb⟩
                go_wp2
                go_returns
                exact ⟨rfl, by rw [HB.out]; exact through T.out.1 HnB.out hb⟩
              · obtain ⟨i1, i2⟩ := Hds.out rfl rfl
                have j1 : (fn == gn) = true := beq_iff_eq.2 i1
                have j2 : (fd == gd) = true := beq_iff_eq.2 i2
                clear i1 i2
                go_wp2_with fail
                refine (known_any _).mono ?_; rintro e vz ⟨rfl, hb⟩
                go_wp2
                go_returns
                exact ⟨rfl, by rw [HB.out]; exact through T.out.1 HnB.out hb⟩
end Go.Proofs.Ytjemcnlljjdmiaa.Fr
