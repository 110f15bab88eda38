/- The law of lowest terms, walked: right fractions. -/
import Derived.Test.YtjemcnlljjdmiaaFrS
namespace Go.Proofs.Ytjemcnlljjdmiaa.Fr
open Go.ChangeShapes Go.WideShapes Go.ChangeAt Go.RowKit M

/-- the world, and the fraction in it -/
def AtF (w : World) (g : Nat) (x y : Int) (wr : World) : Prop := Below w.heap.size w wr ∧ FracAt wr g x y

set_option maxRecDepth 100000 in
set_option maxHeartbeats 4000000 in
theorem lowest_yes (n d k : Int) (w : World) (hn : I64 n) (hd : I64 d) (hk : I64 k) (h0 : 0 ≤ n) (h1 : 1 ≤ d) :
    Calls Try.prog 14 #[.int .i64 n, .int .i64 d, .int .i64 k] w fun r w' => r = .returned (.bool true) ∧ Below w.heap.size w w' := by
  have hn' := hn; have hd' := hd
  unfold I64 at hn' hd'
  obtain ⟨-, f1, f2, f3, f4, f5, f6, f7⟩ := low_facts h0 h1
  have ev := of_val h0 hn'.2 h1 hd'.2
  have O := fun z => of_any n d z hn hd
  rw [ev] at O
  simp only at O
  have G := fun z => gcd_any n d z hn hd
  have gp := gcdF_pos h0 h1
  have gl := gcdF_le h0 h1
  have HM1 := Lib.hid (fun z => mul_any n k z hn hk)
  have HM2 := Lib.hid (fun z => mul_any d k z hd hk)
  have O2 := fun z => of_any (asInt (n * k)) (asInt (d * k)) z (asInt_64 _) (asInt_64 _)
  have ek : ∀ (_ : 1 ≤ k) (_ : fits (n * k) = true) (_ : fits (d * k) = true), ofR (asInt (n * k)) (asInt (d * k)) = ofR n d := by
    intro a b c
    have e1 : asInt (n * k) = n * k := by unfold asInt; rw [b]; rfl
    have e2 : asInt (d * k) = d * k := by unfold asInt; rw [c]; rfl
    rw [e1, e2]; exact of_mul h0 h1 a
  rw [ev] at ek
  obtain ⟨fn, hfn⟩ : ∃ f, fits (n * k) = f := ⟨_, rfl⟩
  obtain ⟨fd, hfd⟩ : ∃ f, fits (d * k) = f := ⟨_, rfl⟩
  rw [hfn] at HM1 ek
  rw [hfd] at HM2 ek
  have HK := Lib.hid ek
  clear hfn hfd
  obtain ⟨g, hg⟩ : ∃ g, gcdF n d = g := ⟨_, rfl⟩
  rw [hg] at O G f1 f2 f3 f4 f5 f6 f7 gp gl HK
  have bX := div_bd h0 hn'.2 gp
  have bY := div_bd (show 0 ≤ d by omega) hd'.2 gp
  obtain ⟨x, hx⟩ : ∃ x, n / g = x := ⟨_, rfl⟩
  obtain ⟨y, hy⟩ : ∃ x, d / g = x := ⟨_, rfl⟩
  rw [hx] at O f3 f5 HK bX
  rw [hy] at O f4 f5 f6 HK bY
  have G2 := fun z => gcd_any x y z (by unfold I64; omega) (by unfold I64; omega)
  rw [f5] at G2
  have HO := Lib.hid O; have HG := Lib.hid G; have HG2 := Lib.hid G2
  generalize hr : ofR (asInt (n * k)) (asInt (d * k)) = r at O2 HK
  obtain ⟨rn, rd, ro⟩ := r
  simp only at O2
  have HO2 := Lib.hid O2
  have H7 := Lib.hid f7
  have w1 : wrap64 (x * g) = n := by rw [f3]; unfold wrap64; omega
  have w2 : wrap64 (y * g) = d := by rw [f4]; unfold wrap64; omega
  have v1 : IntKind.i64.wrap (x * g) = n := by rw [f3, IntKind.wrap_i64]; omega
  have v2 : IntKind.i64.wrap (y * g) = d := by rw [f4, IntKind.wrap_i64]; omega
  have t1 : n.tmod g = n % g := Int.tmod_eq_emod_of_nonneg h0
  have t2 : d.tmod g = d % g := Int.tmod_eq_emod_of_nonneg (by omega)
  have z1 : (n % g == 0) = true := beq_iff_eq.2 f1
  have z2 : (d % g == 0) = true := beq_iff_eq.2 f2
  have z3 : (n % g != 0) = false := by rw [bne, z1]; rfl
  have z4 : (d % g != 0) = false := by rw [bne, z2]; rfl
  have gn : g ≠ 0 := by omega
  have HNK := Lib.hid hn'; have HDK := Lib.hid hd'
  clear O G G2 O2 ek ev hr f1 f2 f3 f4 f5 f7 hg hx hy hn hd hk
  go_enter Try.func14, Try.ntmps14
  go_wp2_with fail
  refine (HO.out _).mono ?_; rintro e u1 ⟨rfl, hb1⟩
  obtain ⟨g1, hg1⟩ : ∃ k, u1.heap.size = k := ⟨_, rfl⟩
  have HB1 := Lib.hid hb1
  clear hb1
  go_upto_region 2 with (fail)
  obtain ⟨X1, hX1, m1⟩ : ∃ X, (u1.alloc (fob x y)) = X ∧ FracAt X g1 x y := ⟨_, rfl, frac_at _ _ _ _ hg1⟩
  have H1 := HB1.out.alloc HB1.out.size (fob x y)
  rw [hX1] at H1
  have T := Lib.hid (show AtF w g1 x y X1 from ⟨H1, m1⟩)
  unfold fob at hX1
  rw [hX1]
  clear hX1 hg1 m1 H1
  obtain ⟨c0, c1, -, -⟩ := T.out.2.cells
  go_wp2_with fail
  refine (HG.out _).mono ?_; rintro e u2 ⟨rfl, m, rfl⟩
  go_upto_region 7 with (fail)
  obtain ⟨X2, hX2⟩ : ∃ X, X1.drewN m = X := ⟨_, rfl⟩
  have T2 := Lib.hid (show AtF w g1 x y X2 from hX2 ▸ ⟨below_drewN T.out.1 m, T.out.2⟩)
  rw [hX2]
  clear hX2 c0 c1
  obtain ⟨c0, c1, -, -⟩ := T2.out.2.cells
  go_cut [133] (fun v wc => v = .bool false ∧ AtF w g1 x y wc)
  case first =>
    have d4 : decide (g < 1) = false := decide_eq_false (by omega)
    have d5 : decide (y < 1) = false := decide_eq_false (by omega)
    have d6 : decide (x < 0) = false := decide_eq_false (by omega)
    rcases (show k ≤ 0 ∨ 0 < k by omega) with hk | hk
    · have d1 : decide (0 < k) = false := decide_eq_false (by omega)
      (go_wp2_with fail; refine (HG2.out _).mono ?_; rintro e u3 ⟨rfl, mm, rfl⟩; go_wp2_with fail; go_meet; exact ⟨by first | rfl | simp, below_drewN T2.out.1 mm, T2.out.2⟩)
    · have d1 : decide (0 < k) = true := decide_eq_true hk
      have kn : k ≠ 0 := by omega
      have t3 : n.tmod k = n % k := Int.tmod_eq_emod_of_nonneg h0
      have t4 : d.tmod k = d % k := Int.tmod_eq_emod_of_nonneg (by omega)
      have t5 : g.tmod k = g % k := Int.tmod_eq_emod_of_nonneg (by omega)
      rcases (show n % k = 0 ∨ n % k ≠ 0 by omega) with a | a
      · have a1 : (n % k == 0) = true := beq_iff_eq.2 a
        rcases (show d % k = 0 ∨ d % k ≠ 0 by omega) with b | b
        · have b1 : (d % k == 0) = true := beq_iff_eq.2 b
          have c9 := H7.out k hk a b
          have b2 : (g % k == 0) = true := beq_iff_eq.2 c9
          have b3 : (g % k != 0) = false := by rw [bne, b2]; rfl
          clear a b c9 hk
          (go_wp2_with fail; refine (HG2.out _).mono ?_; rintro e u3 ⟨rfl, mm, rfl⟩; go_wp2_with fail; go_meet; exact ⟨by first | rfl | simp, below_drewN T2.out.1 mm, T2.out.2⟩)
        · have b1 : (d % k == 0) = false := beq_eq_false_iff_ne.2 b
          clear a b hk
          (go_wp2_with fail; refine (HG2.out _).mono ?_; rintro e u3 ⟨rfl, mm, rfl⟩; go_wp2_with fail; go_meet; exact ⟨by first | rfl | simp, below_drewN T2.out.1 mm, T2.out.2⟩)
      · have a1 : (n % k == 0) = false := beq_eq_false_iff_ne.2 a
        clear a hk
        (go_wp2_with fail; refine (HG2.out _).mono ?_; rintro e u3 ⟨rfl, mm, rfl⟩; go_wp2_with fail; go_meet; exact ⟨by first | rfl | simp, below_drewN T2.out.1 mm, T2.out.2⟩)
  case rest =>
    obtain ⟨rfl, ht⟩ := hcut
    clear c0 c1 T T2
    have T := Lib.hid ht
    clear ht z1 z2 z3 z4 t1 t2 w1 w2 v1 v2
    obtain ⟨c0, c1, -, -⟩ := T.out.2.cells
    go_wp2_with fail
    refine (HM1.out _).mono ?_; rintro e u4 ⟨rfl, rfl⟩
    go_wp2_with fail
    refine (HM2.out _).mono ?_; rintro e u5 ⟨rfl, rfl⟩
    go_wp2_with fail
    refine (HO2.out _).mono ?_; rintro e u6 ⟨rfl, hb6⟩
    clear c0 c1
    have T6 := Lib.hid (show AtF w g1 x y u6 from ⟨through T.out.1 (Nat.le_refl _) hb6, T.out.2.on hb6⟩)
    clear hb6
    obtain ⟨g6, hg6⟩ : ∃ k, u6.heap.size = k := ⟨_, rfl⟩
    go_upto_region 12 with (fail)
    obtain ⟨X6, hX6, m6⟩ : ∃ X, (u6.alloc (fob rn rd)) = X ∧ FracAt X g6 rn rd := ⟨_, rfl, frac_at _ _ _ _ hg6⟩
    have T7 := Lib.hid (show AtF w g1 x y (u6.alloc (fob rn rd)) from ⟨T6.out.1.alloc T6.out.1.size _, T6.out.2.alloc _⟩)
    rw [hX6] at T7
    unfold fob at hX6
    rw [hX6]
    clear hX6 hg6
    obtain ⟨c0, c1, -, -⟩ := T7.out.2.cells
    obtain ⟨e0, e1, -, -⟩ := m6.cells
    clear m6
    cases fn
    · (go_wp2_with fail; refine (known_any _).mono ?_; rintro e u7 ⟨rfl, hb⟩; go_wp2; go_returns; exact ⟨rfl, through T7.out.1 (Nat.le_refl _) hb⟩)
    · cases fd
      · (go_wp2_with fail; refine (known_any _).mono ?_; rintro e u7 ⟨rfl, hb⟩; go_wp2; go_returns; exact ⟨rfl, through T7.out.1 (Nat.le_refl _) hb⟩)
      · rcases (show k < 1 ∨ 1 ≤ k by omega) with hk | hk
        · have d1 : decide (k < 1) = true := decide_eq_true hk
          (go_wp2_with fail; refine (known_any _).mono ?_; rintro e u7 ⟨rfl, hb⟩; go_wp2; go_returns; exact ⟨rfl, through T7.out.1 (Nat.le_refl _) hb⟩)
        · have d1 : decide (k < 1) = false := decide_eq_false (by omega)
          have er := HK.out hk rfl rfl
          injection er with r1 r2 r3
          have q1 : (rn == x) = true := beq_iff_eq.2 r1
          have q2 : (rd == y) = true := beq_iff_eq.2 r2
          subst r3
          clear r1 r2
          (go_wp2_with fail; refine (known_any _).mono ?_; rintro e u7 ⟨rfl, hb⟩; go_wp2; go_returns; exact ⟨rfl, through T7.out.1 (Nat.le_refl _) hb⟩)
end Go.Proofs.Ytjemcnlljjdmiaa.Fr
