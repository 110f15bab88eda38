/- The law of right fractions, walked. -/
import Derived.Test.YtjemcnlljjdmiaaFrR0
namespace Go.Proofs.Ytjemcnlljjdmiaa.Fr
open Go.ChangeShapes Go.WideShapes Go.ChangeAt Go.RowKit M

theorem Two.put0 {w : World} {B : Nat} {a b c d x y : Int} (h : Two w B a b c d) : Two ((w.setCell ⟨B, 0, none⟩ (.int .i64 x)).setCell ⟨B, 1, none⟩ (.int .i64 y)) B x y c d := ⟨h.1.put, h.2.far (by omega) _ _⟩
theorem Two.put1 {w : World} {B : Nat} {a b c d x y : Int} (h : Two w B a b c d) : Two ((w.setCell ⟨B + 1, 0, none⟩ (.int .i64 x)).setCell ⟨B + 1, 1, none⟩ (.int .i64 y)) B a b x y := ⟨h.1.far (by omega) _ _, h.2.put⟩
def At2 (w : World) (B : Nat) (a b c d : Int) (wr : World) : Prop := Below B w wr ∧ Two wr B a b c d
theorem At2.step {w wr w1 : World} {B : Nat} {a b c d : Int} (h : At2 w B a b c d wr) (hB : B ≤ w.heap.size) (hb : Below wr.heap.size wr w1) : At2 w B a b c d w1 := ⟨through h.1 hB hb, h.2.below hb⟩
theorem At2.alloc {w wr : World} {B : Nat} {a b c d : Int} (h : At2 w B a b c d wr) (hB : B ≤ w.heap.size) (o : Obj) : At2 w B a b c d (wr.alloc o) := ⟨h.1.alloc (Nat.le_trans hB h.1.size) o, h.2.alloc o⟩

/-- two fractions, and four more -/
def Six4 (w : World) (B g1 g2 g3 g4 : Nat) (p q r s mn md sn sd : Int) : Prop :=
  Two w B p q r s ∧ FracAt w g1 mn md ∧ FracAt w g2 mn md ∧ FracAt w g3 sn sd ∧ FracAt w g4 sn sd
theorem Six4.on {w w' : World} {B g1 g2 g3 g4 : Nat} {p q r s mn md sn sd : Int} (h : Six4 w B g1 g2 g3 g4 p q r s mn md sn sd) (hb : Below w.heap.size w w') : Six4 w' B g1 g2 g3 g4 p q r s mn md sn sd :=
  ⟨h.1.below hb, h.2.1.on hb, h.2.2.1.on hb, h.2.2.2.1.on hb, h.2.2.2.2.on hb⟩
theorem Six4.drew {w : World} {B g1 g2 g3 g4 : Nat} {p q r s mn md sn sd : Int} (h : Six4 w B g1 g2 g3 g4 p q r s mn md sn sd) : Six4 w.drew B g1 g2 g3 g4 p q r s mn md sn sd := h
theorem Six4.all {w : World} {B g1 g2 g3 g4 : Nat} {p q r s mn md sn sd : Int} (h : Six4 w B g1 g2 g3 g4 p q r s mn md sn sd) :
    w.cell? ⟨B, 0, none⟩ = some (.int .i64 p) ∧ w.cell? ⟨B, 1, none⟩ = some (.int .i64 q) ∧ w.cell? ⟨B + 1, 0, none⟩ = some (.int .i64 r) ∧ w.cell? ⟨B + 1, 1, none⟩ = some (.int .i64 s) ∧
    w.cell? ⟨g1, 0, none⟩ = some (.int .i64 mn) ∧ w.cell? ⟨g1, 1, none⟩ = some (.int .i64 md) ∧ w.cell? ⟨g2, 0, none⟩ = some (.int .i64 mn) ∧ w.cell? ⟨g2, 1, none⟩ = some (.int .i64 md) ∧
    w.cell? ⟨g3, 0, none⟩ = some (.int .i64 sn) ∧ w.cell? ⟨g3, 1, none⟩ = some (.int .i64 sd) ∧ w.cell? ⟨g4, 0, none⟩ = some (.int .i64 sn) ∧ w.cell? ⟨g4, 1, none⟩ = some (.int .i64 sd) :=
  ⟨h.1.four.1, h.1.four.2.1, h.1.four.2.2.1, h.1.four.2.2.2, h.2.1.cells.1, h.2.1.cells.2.1, h.2.2.1.cells.1, h.2.2.1.cells.2.1, h.2.2.2.1.cells.1, h.2.2.2.1.cells.2.1, h.2.2.2.2.cells.1, h.2.2.2.2.cells.2.1⟩

set_option maxRecDepth 100000 in
set_option maxHeartbeats 4000000 in
theorem rightlaw_any (n d a b c f : Int) (w : World) (hn : I64 n) (hd : I64 d) (ha : I64 a) (hb : I64 b) (hc : I64 c) (hf : I64 f) :
    Calls Try.prog 11 #[.int .i64 n, .int .i64 d, .agg #[.int .i64 a, .int .i64 b], .agg #[.int .i64 c, .int .i64 f]] w fun r w' => r = .returned (.bool true) ∧ Below w.heap.size w w' := by
  have R1 := fun x => right_law a b x ha hb
  have R2 := fun x => right_law c f x hc hf
  have O1 := fun z => of_any n d z hn hd
  have O2 := fun z => rOf_any n d z hn hd
  obtain ⟨-, L1⟩ := rgt_ok ha hb
  obtain ⟨-, L2⟩ := rgt_ok hc hf
  generalize ofR n d = r0 at *
  generalize rgt a b = r1 at *
  generalize rgt c f = r2 at *
  obtain ⟨xn, xd, xo⟩ := r0
  obtain ⟨p, q, o1⟩ := r1
  obtain ⟨r, s, o2⟩ := r2
  unfold rV at O2
  simp only at R1 R2 L1 L2 O1 O2
  have M1 := fun z => times_any p q r s z L1 L2
  have M2 := fun z => rTimesF_any p q r s z L1 L2
  have P1 := fun z => fPlus_any p q r s z L1 L2
  have P2 := fun z => rPlus_any p q r s z L1 L2
  have C1 := Lib.hid (fun z => cmp_any p q r s z L1 L2)
  have C2 := Lib.hid (fun z => rCmp_any p q r s z L1 L2)
  have K1 := Lib.hid (fun z => ceil_any p q z L1)
  have K2 := Lib.hid (fun z => rCeil_any p q z L1)
  generalize timesR p q r s = m at *
  generalize plusR p q r s = m' at *
  obtain ⟨x, hx⟩ : ∃ x, cmpR p q r s = x := ⟨_, rfl⟩
  obtain ⟨y, hy⟩ : ∃ x, ceilR p q = x := ⟨_, rfl⟩
  rw [hx] at C1 C2
  rw [hy] at K1 K2
  obtain ⟨mn, md, mo⟩ := m
  obtain ⟨sn, sd, so⟩ := m'
  unfold rV at M1 M2 P1 P2
  simp only at M1 M2 P1 P2
  have HR1 := Lib.hid R1; have HR2 := Lib.hid R2; have HO1 := Lib.hid O1; have HO2 := Lib.hid O2
  have HM1 := Lib.hid M1; have HM2 := Lib.hid M2; have HP1 := Lib.hid P1; have HP2 := Lib.hid P2
  clear R1 R2 O1 O2 M1 M2 P1 P2 L1 L2 hx hy hn hd ha hb hc hf
  obtain ⟨B, hB⟩ : ∃ B, w.heap.size = B := ⟨_, rfl⟩
  have HB := Lib.hid hB
  have HnB := Lib.hid (Nat.le_of_eq hB.symm)
  obtain ⟨k1, k2⟩ := two_new w a b c f
  rw [hB] at k1 k2
  obtain ⟨X0, hX0⟩ : ∃ X, ((w.alloc (fob a b)).alloc (fob c f)) = X := ⟨_, rfl⟩
  rw [hX0] at k1 k2
  have T := Lib.hid (show At2 w B a b c f X0 from ⟨k1, k2⟩)
  clear k1 k2
  unfold fob at hX0
  go_enter Try.func11, Try.ntmps11
  go_upto_region 1 with (fail)
  (try rw [hX0])
  clear hX0
  (obtain ⟨⟨c0, c1, -, -⟩, ⟨c2, c3, -, -⟩⟩ := (And.intro T.out.2.1.cells T.out.2.2.cells))
  go_wp2_with fail
  refine (HO1.out _).mono ?_; rintro e w1 ⟨rfl, hb⟩
  (have T1 := Lib.hid (T.out.step HnB.out hb); clear hb c0 c1 c2 c3 T; have T := T1; clear T1)
  obtain ⟨k1, hk1⟩ : ∃ k, w1.heap.size = k := ⟨_, rfl⟩
  go_upto_region 2 with (fail)
  obtain ⟨X1, hX1, nE1⟩ : ∃ X, (w1.alloc (fob xn xd)) = X ∧ FracAt X k1 xn xd := ⟨_, rfl, frac_at _ _ _ _ hk1⟩
  have T1 := Lib.hid (T.out.alloc HnB.out (fob xn xd))
  clear T
  have T := T1
  clear T1
  rw [hX1] at T
  unfold fob at hX1
  rw [hX1]
  clear hX1 hk1
  have E1 := Lib.hid nE1
  clear nE1
  (obtain ⟨⟨c0, c1, -, -⟩, ⟨c2, c3, -, -⟩⟩ := (And.intro T.out.2.1.cells T.out.2.2.cells))
  go_wp2_with fail
  refine (HO2.out _).mono ?_; rintro e w2 ⟨rfl, hb⟩
  have E1n := Lib.hid (E1.out.on hb)
  clear E1
  have E1 := E1n
  clear E1n
  (have T1 := Lib.hid (T.out.step HnB.out hb); clear hb c0 c1 c2 c3 T; have T := T1; clear T1)
  obtain ⟨k2, hk2⟩ : ∃ k, w2.heap.size = k := ⟨_, rfl⟩
  go_upto_region 3 with (fail)
  obtain ⟨X2, hX2, nE2⟩ : ∃ X, (w2.alloc (fob xn xd)) = X ∧ FracAt X k2 xn xd := ⟨_, rfl, frac_at _ _ _ _ hk2⟩
  have T1 := Lib.hid (T.out.alloc HnB.out (fob xn xd))
  clear T
  have T := T1
  clear T1
  have E1n := Lib.hid (E1.out.alloc (fob xn xd))
  clear E1
  have E1 := E1n
  clear E1n
  rw [hX2] at T E1
  unfold fob at hX2
  rw [hX2]
  clear hX2 hk2
  have E2 := Lib.hid nE2
  clear nE2
  obtain ⟨x0, x1, -, -⟩ := E1.out.cells
  obtain ⟨y0, y1, -, -⟩ := E2.out.cells
  go_upto_region 5 with (fail)
  clear x0 x1 y0 y1 E1 E2
  (obtain ⟨⟨c0, c1, -, -⟩, ⟨c2, c3, -, -⟩⟩ := (And.intro T.out.2.1.cells T.out.2.2.cells))
  go_wp2_with fail
  refine (HR1.out _).mono ?_; rintro e w3 ⟨rfl, hb⟩
  have T1 := T.out.step HnB.out hb
  clear hb c0 c1 c2 c3 T
  obtain ⟨c0, c1, c2, c3⟩ := T1.2.1.cells
  have T2 := Lib.hid (show At2 w B p q c f _ from ⟨setFarB T1.1 (Nat.le_refl _) (.int .i64 p) (.int .i64 q), T1.2.put0 (x := p) (y := q)⟩)
  clear T1
  go_upto_region 6 with (fail)
  clear c0 c1 c2 c3
  obtain ⟨c0, c1, -, -⟩ := T2.out.2.2.cells
  go_wp2_with fail
  refine (HR2.out _).mono ?_; rintro e w4 ⟨rfl, hb⟩
  have T3 := T2.out.step HnB.out hb
  clear hb c0 c1 T2
  obtain ⟨c0, c1, c2, c3⟩ := T3.2.2.cells
  have T4 := Lib.hid (show At2 w B p q r s _ from ⟨setFarB T3.1 (Nat.le_add_right _ _) (.int .i64 r) (.int .i64 s), T3.2.put1 (x := r) (y := s)⟩)
  clear T3
  go_upto_region 7 with (fail)
  clear c0 c1 c2 c3
  obtain ⟨X3, hX3⟩ : ∃ X, ((w4.setCell ⟨B + 1, 0, none⟩ (.int .i64 r)).setCell ⟨B + 1, 1, none⟩ (.int .i64 s)) = X := ⟨_, rfl⟩
  rw [hX3] at T4 ⊢
  have T := T4
  clear T4 hX3
  (obtain ⟨⟨c0, c1, -, -⟩, ⟨c2, c3, -, -⟩⟩ := (And.intro T.out.2.1.cells T.out.2.2.cells))
  go_wp2_with fail
  refine (HM1.out _).mono ?_; rintro e w5 ⟨rfl, hb⟩
  (have T1 := Lib.hid (T.out.step HnB.out hb); clear hb c0 c1 c2 c3 T; have T := T1; clear T1)
  obtain ⟨g1, hg1⟩ : ∃ k, w5.heap.size = k := ⟨_, rfl⟩
  go_upto_region 8 with (fail)
  obtain ⟨X5, hX5, nE1⟩ : ∃ X, (w5.alloc (fob mn md)) = X ∧ FracAt X g1 mn md := ⟨_, rfl, frac_at _ _ _ _ hg1⟩
  have T1 := Lib.hid (T.out.alloc HnB.out (fob mn md))
  clear T
  have T := T1
  clear T1
  rw [hX5] at T
  unfold fob at hX5
  rw [hX5]
  clear hX5 hg1
  have E1 := Lib.hid nE1
  clear nE1
  (obtain ⟨⟨c0, c1, -, -⟩, ⟨c2, c3, -, -⟩⟩ := (And.intro T.out.2.1.cells T.out.2.2.cells))
  go_wp2_with fail
  refine (HM2.out _).mono ?_; rintro e w6 ⟨rfl, hb⟩
  have E1n := Lib.hid (E1.out.on hb)
  clear E1
  have E1 := E1n
  clear E1n
  (have T1 := Lib.hid (T.out.step HnB.out hb); clear hb c0 c1 c2 c3 T; have T := T1; clear T1)
  obtain ⟨g2, hg2⟩ : ∃ k, w6.heap.size = k := ⟨_, rfl⟩
  go_upto_region 9 with (fail)
  obtain ⟨X6, hX6, nE2⟩ : ∃ X, (w6.alloc (fob mn md)) = X ∧ FracAt X g2 mn md := ⟨_, rfl, frac_at _ _ _ _ hg2⟩
  have T1 := Lib.hid (T.out.alloc HnB.out (fob mn md))
  clear T
  have T := T1
  clear T1
  have E1n := Lib.hid (E1.out.alloc (fob mn md))
  clear E1
  have E1 := E1n
  clear E1n
  rw [hX6] at T E1
  unfold fob at hX6
  rw [hX6]
  clear hX6 hg2
  have E2 := Lib.hid nE2
  clear nE2
  (obtain ⟨⟨c0, c1, -, -⟩, ⟨c2, c3, -, -⟩⟩ := (And.intro T.out.2.1.cells T.out.2.2.cells))
  go_wp2_with fail
  refine (HP1.out _).mono ?_; rintro e w7 ⟨rfl, hb⟩
  have E1n := Lib.hid (E1.out.on hb)
  clear E1
  have E1 := E1n
  clear E1n
  have E2n := Lib.hid (E2.out.on hb)
  clear E2
  have E2 := E2n
  clear E2n
  (have T1 := Lib.hid (T.out.step HnB.out hb); clear hb c0 c1 c2 c3 T; have T := T1; clear T1)
  obtain ⟨g3, hg3⟩ : ∃ k, w7.heap.size = k := ⟨_, rfl⟩
  go_upto_region 10 with (fail)
  obtain ⟨X7, hX7, nE3⟩ : ∃ X, (w7.alloc (fob sn sd)) = X ∧ FracAt X g3 sn sd := ⟨_, rfl, frac_at _ _ _ _ hg3⟩
  have T1 := Lib.hid (T.out.alloc HnB.out (fob sn sd))
  clear T
  have T := T1
  clear T1
  have E1n := Lib.hid (E1.out.alloc (fob sn sd))
  clear E1
  have E1 := E1n
  clear E1n
  have E2n := Lib.hid (E2.out.alloc (fob sn sd))
  clear E2
  have E2 := E2n
  clear E2n
  rw [hX7] at T E1 E2
  unfold fob at hX7
  rw [hX7]
  clear hX7 hg3
  have E3 := Lib.hid nE3
  clear nE3
  (obtain ⟨⟨c0, c1, -, -⟩, ⟨c2, c3, -, -⟩⟩ := (And.intro T.out.2.1.cells T.out.2.2.cells))
  go_wp2_with fail
  refine (HP2.out _).mono ?_; rintro e w8 ⟨rfl, hb⟩
  have E1n := Lib.hid (E1.out.on hb)
  clear E1
  have E1 := E1n
  clear E1n
  have E2n := Lib.hid (E2.out.on hb)
  clear E2
  have E2 := E2n
  clear E2n
  have E3n := Lib.hid (E3.out.on hb)
  clear E3
  have E3 := E3n
  clear E3n
  (have T1 := Lib.hid (T.out.step HnB.out hb); clear hb c0 c1 c2 c3 T; have T := T1; clear T1)
  obtain ⟨g4, hg4⟩ : ∃ k, w8.heap.size = k := ⟨_, rfl⟩
  go_upto_region 11 with (fail)
  obtain ⟨X8, hX8, nE4⟩ : ∃ X, (w8.alloc (fob sn sd)) = X ∧ FracAt X g4 sn sd := ⟨_, rfl, frac_at _ _ _ _ hg4⟩
  have T1 := Lib.hid (T.out.alloc HnB.out (fob sn sd))
  clear T
  have T := T1
  clear T1
  have E1n := Lib.hid (E1.out.alloc (fob sn sd))
  clear E1
  have E1 := E1n
  clear E1n
  have E2n := Lib.hid (E2.out.alloc (fob sn sd))
  clear E2
  have E2 := E2n
  clear E2n
  have E3n := Lib.hid (E3.out.alloc (fob sn sd))
  clear E3
  have E3 := E3n
  clear E3n
  rw [hX8] at T E1 E2 E3
  unfold fob at hX8
  rw [hX8]
  clear hX8 hg4
  have E4 := Lib.hid nE4
  clear nE4
  have S := Lib.hid (show Six4 X8 B g1 g2 g3 g4 p q r s mn md sn sd from ⟨T.out.2, E1.out, E2.out, E3.out, E4.out⟩)
  clear E1 E2 E3 E4
  have S0 := S.out.all
  go_region_held3 (fun w' => w'.cell? ⟨B, 0, none⟩ = some (.int .i64 p) ∧ w'.cell? ⟨B, 1, none⟩ = some (.int .i64 q) ∧ w'.cell? ⟨B + 1, 0, none⟩ = some (.int .i64 r) ∧ w'.cell? ⟨B + 1, 1, none⟩ = some (.int .i64 s) ∧ w'.cell? ⟨g1, 0, none⟩ = some (.int .i64 mn) ∧ w'.cell? ⟨g1, 1, none⟩ = some (.int .i64 md) ∧ w'.cell? ⟨g2, 0, none⟩ = some (.int .i64 mn) ∧ w'.cell? ⟨g2, 1, none⟩ = some (.int .i64 md) ∧ w'.cell? ⟨g3, 0, none⟩ = some (.int .i64 sn) ∧ w'.cell? ⟨g3, 1, none⟩ = some (.int .i64 sd) ∧ w'.cell? ⟨g4, 0, none⟩ = some (.int .i64 sn) ∧ w'.cell? ⟨g4, 1, none⟩ = some (.int .i64 sd))
    (first | exact S0 | exact s1.all | exact s2.all | exact s3.all | exact s4.all | exact s5.all)
    ((first
      | (go_at_call 17; refine (C1.out _).mono ?_; rintro e v1 ⟨rfl, hb1⟩; have s1 := S.out.drew.on hb1)
      | (go_at_call 47; refine (C2.out _).mono ?_; rintro e v2 ⟨rfl, hb2⟩; have s2 := s1.on hb2)
      | (go_at_call 18; refine (K1.out _).mono ?_; rintro e v3 ⟨rfl, hb3⟩; have s3 := s2.on hb3)
      | (go_at_call 48; refine (K2.out _).mono ?_; rintro e v4 ⟨rfl, hb4⟩; have s4 := s3.on hb4)
      | (go_at_call 19; refine (known_any _).mono ?_; rintro e v5 ⟨rfl, hb5⟩; have s5 := s4.on hb5)))
  all_goals
    have HN := Lib.hid (through (through (through (through (drewBelow T.out.1 HnB.out hb1) HnB.out hb2) HnB.out hb3) HnB.out hb4) HnB.out hb5)
    clear hb1 hb2 hb3 hb4 hb5 s1 s2 s3 s4 s5 S0
    go_wp2
    go_returns
    exact ⟨rfl, by rw [HB.out]; exact HN.out⟩
end Go.Proofs.Ytjemcnlljjdmiaa.Fr
