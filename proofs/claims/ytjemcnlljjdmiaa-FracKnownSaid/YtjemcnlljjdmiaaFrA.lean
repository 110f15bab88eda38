/- Fractions: sums, as the program makes them. -/
import Derived.Test.YtjemcnlljjdmiaaFr9
import Derived.Deep.QuietTactic
import Derived.BigQuiet
namespace Go.Proofs.Ytjemcnlljjdmiaa.Fr
open Go.ChangeShapes Go.WideShapes Go.ChangeAt Go.RowKit M

theorem Thr.drewN {w : World} {B : Nat} {a b c d : Int} (h : Thr w B a b c d) (n : Nat) : Thr (w.drewN n) B a b c d := h
theorem nat_div {a b : Int} {A C : Nat} (ha : a = (A : Int)) (hc : b = (C : Int)) : a / b = ((A / C : Nat) : Int) := by rw [ha, hc]; exact (Int.natCast_ediv A C).symm
theorem toNat_div {a : Int} {g : Nat} (ha : 0 ≤ a) : (a / (g : Int)).toNat = a.toNat / g := by
  rw [nat_div (A := a.toNat) (by omega) rfl, Int.toNat_natCast]
theorem setFarB' {n g : Nat} {W w : World} (h : Below n W w) (hg : n ≤ g) (u v : Value) : Below n W ((w.setCell ⟨g, 0, none⟩ u).setCell ⟨g, 1, none⟩ v) := (h.setCell hg _).setCell hg _
theorem frac_results {fn : Func} {a t : Tmp} (h : fn.results = #[.cell a 24, .tmp t]) (tmps : Array Value) (w : World) {g : Nat} {x y : Value} (hp : tmps.getD a undef = .pointer (some ⟨g, 0, none⟩))
    (c0 : w.cell? ⟨g, 0, none⟩ = some x) (c1 : w.cell? ⟨g, 1, none⟩ = some y) : (results fn tmps).run Try.prog w = .ok (.tuple #[.agg #[x, y], tmps.getD t undef]) w := by
  simp [results, h, go_sem] at hp ⊢
  simp [hp, go_sem, c0, c1]
theorem cells2 {w : World} {g : Nat} {t : TypeId} {u v : Value} (h : Blk w g t #[u, v]) : w.cell? ⟨g, 0, none⟩ = some u ∧ w.cell? ⟨g, 1, none⟩ = some v := by
  have c0 := h.cell 0; have c1 := h.cell 1
  exact ⟨by simpa using c0, by simpa using c1⟩

set_option maxRecDepth 100000 in
set_option maxHeartbeats 4000000 in
theorem fPlus_any (a b c d : Int) (w : World) (h : Lowest a b) (k : Lowest c d) :
    Calls Try.prog 45 #[.agg #[.int .i64 a, .int .i64 b], .agg #[.int .i64 c, .int .i64 d]] w fun e w' => e = rV (plusR a b c d) ∧ Below w.heap.size w w' := by
  have PS := fun g S t => plus_some (g := g) (S := S) (t := t) h k
  obtain ⟨h0, h1, h2, h3, -⟩ := h
  obtain ⟨k0, k1, k2, k3, -⟩ := k
  have G1 := (gcd_any b d · (by unfold I64; omega) (by unfold I64; omega))
  rw [gcdF_yes (by omega) (by omega)] at G1
  have gl := Nat.gcd_le_right b.toNat (show 0 < d.toNat by omega)
  have gp := Nat.gcd_pos_of_pos_right b.toNat (show 0 < d.toNat by omega)
  obtain ⟨g, hg⟩ : ∃ g, Nat.gcd b.toNat d.toNat = g := ⟨_, rfl⟩
  rw [hg] at G1 gl gp
  have HG1 := Lib.hid G1
  clear G1
  have gI : (1 : Int) ≤ g ∧ (g : Int) ≤ 9223372036854775807 := by omega
  have bd := div_bd (show 0 ≤ d by omega) k3 gI.1
  have bb := div_bd (show 0 ≤ b by omega) h3 gI.1
  have T1 := (fTimes_any a (d / g) · ⟨h0, h1⟩ bd)
  have T2 := (fTimes_any c (b / g) · ⟨k0, k1⟩ bb)
  have x0 := prod_bd (a := a) (b := d / g) ⟨h0, h1⟩ bd
  have y0 := prod_bd (a := c) (b := b / g) ⟨k0, k1⟩ bb
  rw [toNat_div (show 0 ≤ d by omega)] at T1 x0
  rw [toNat_div (show 0 ≤ b by omega)] at T2 y0
  obtain ⟨X, hX⟩ : ∃ X, a.toNat * (d.toNat / g) = X := ⟨_, rfl⟩
  obtain ⟨Y, hY⟩ : ∃ X, c.toNat * (b.toNat / g) = X := ⟨_, rfl⟩
  rw [hX] at T1 x0
  rw [hY] at T2 y0
  have HT1 := Lib.hid T1
  have HT2 := Lib.hid T2
  clear T1 T2
  -- the sum of the two products
  obtain ⟨S, hS⟩ : ∃ S, X + Y = S := ⟨_, rfl⟩
  have sB : S ≤ 170141183460469231694793815568465002498 := by omega
  have lX := lo_bd X; have lY := lo_bd Y
  have hXb := hi_bd (x := X) (by unfold Lt128; omega); have hYb := hi_bd (x := Y) (by unfold Lt128; omega)
  have A1 := fun W => add64 (loW X) (loW Y) 0 lX.1 lX.2 lY.1 lY.2 (Int.le_refl 0) (by decide) W
  obtain ⟨cy, hcy⟩ : ∃ cy, (loW X + loW Y + 0) / 18446744073709551616 = cy := ⟨_, rfl⟩
  have A2 := fun W => add64 (hiW X) (hiW Y) cy hXb.1 hXb.2 hYb.1 hYb.2 (by omega) (by omega) W
  rw [carry_lo, hcy, hS] at A1
  have ch := carry_hi (X := X) (Y := Y) (by omega)
  rw [hcy, hS] at ch
  rw [ch] at A2
  obtain ⟨c2, hc2⟩ : ∃ c2, (hiW X + hiW Y + cy) / 18446744073709551616 = c2 := ⟨_, rfl⟩
  rw [hc2] at A2
  have sl := lo_bd S
  have sh := hi_bd (x := S) (by unfold Lt128; omega)
  have sh2 : hiW S ≤ 9223372036854775807 := by unfold hiW; omega
  clear ch hc2
  -- its rest by g, and what it has in common with g
  have hm0 := Int.emod_nonneg (hiW S) (show (g : Int) ≠ 0 by omega)
  have hm1 := Int.emod_lt_of_pos (hiW S) (show (0 : Int) < g by omega)
  have D1 := (div64_any (hiW S % g) (loW S) g · hm0 hm1 sl.1 sl.2 (by omega))
  have er : remI (hiW S % g) (loW S) g = ((S % g : Nat) : Int) := by unfold remI; rw [Int.toNat_natCast, rem_of gp]
  rw [er] at D1
  obtain ⟨q1, hq1⟩ : ∃ q, quoI (hiW S % g) (loW S) g = q := ⟨_, rfl⟩
  rw [hq1] at D1
  have rl := Nat.mod_lt S gp
  have G2 := (gcd_any ((S % g : Nat) : Int) (g : Int) · (by unfold I64; omega) (by unfold I64; omega))
  rw [gcdF_yes (by omega) (by omega), Int.toNat_natCast, Int.toNat_natCast] at G2
  have et : Nat.gcd (S % g) g = Nat.gcd S g := by rw [Nat.gcd_comm, gcd_step]
  rw [et] at G2
  have tp := Nat.gcd_pos_of_pos_right S gp
  have tl := Nat.gcd_le_right S gp
  obtain ⟨t, ht⟩ : ∃ t, Nat.gcd S g = t := ⟨_, rfl⟩
  rw [ht] at G2 tp tl
  have E := PS g S t hg (by rw [hX, hY, hS]) ht
  have tI : (1 : Int) ≤ t ∧ (t : Int) ≤ 9223372036854775807 := by omega
  obtain ⟨r, hr⟩ : ∃ r, S % g = r := ⟨_, rfl⟩
  rw [hr] at D1 G2 rl
  have rI : 0 ≤ (r : Int) ∧ (r : Int) ≤ 9223372036854775807 := by omega
  have D2 := (div64_any 0 (hiW S) t · (Int.le_refl 0) (by omega) sh.1 sh.2 (by omega))
  have e1 : quoI 0 (hiW S) t = ((S / 18446744073709551616 / t : Nat) : Int) := by unfold quoI hiW; rw [Int.toNat_natCast, Int.toNat_natCast, show (0 : Int).toNat = 0 from rfl, Nat.zero_mul, Nat.zero_add]
  have e2 : remI 0 (hiW S) t = ((S / 18446744073709551616 % t : Nat) : Int) := by unfold remI hiW; rw [Int.toNat_natCast, Int.toNat_natCast, show (0 : Int).toNat = 0 from rfl, Nat.zero_mul, Nat.zero_add]
  rw [e1, e2] at D2
  have tt := Nat.mod_lt (S / 18446744073709551616) tp
  have D3 := (div64_any ((S / 18446744073709551616 % t : Nat) : Int) (loW S) t · (by omega) (by omega) sl.1 sl.2 (by omega))
  have e3 : quoI ((S / 18446744073709551616 % t : Nat) : Int) (loW S) t = (((S / 18446744073709551616 % t * 18446744073709551616 + S % 18446744073709551616) / t : Nat) : Int) := by
    unfold quoI loW; rw [Int.toNat_natCast, Int.toNat_natCast, Int.toNat_natCast]
  rw [e3] at D3
  obtain ⟨q3, hq3⟩ : ∃ q, remI ((S / 18446744073709551616 % t : Nat) : Int) (loW S) t = q := ⟨_, rfl⟩
  rw [hq3] at D3
  obtain ⟨f1, f2⟩ := plus_fits (S := S) tp
  have nl := low_lt (S := S) tp
  obtain ⟨o, ho⟩ : ∃ o, S / 18446744073709551616 / t = o := ⟨_, rfl⟩
  obtain ⟨tp', htp⟩ : ∃ o, S / 18446744073709551616 % t = o := ⟨_, rfl⟩
  rw [htp] at D2 D3 f1 f2 tt nl
  rw [ho] at D2 f1 f2
  obtain ⟨n, hn⟩ : ∃ n, (tp' * 18446744073709551616 + S % 18446744073709551616) / t = n := ⟨_, rfl⟩
  rw [hn] at D3 f1 f2 nl
  obtain ⟨O, hO⟩ : ∃ O, (o : Int) = O := ⟨_, rfl⟩
  obtain ⟨NN, hNN⟩ : ∃ O, (n : Int) = O := ⟨_, rfl⟩
  rw [hO] at D2
  rw [hNN] at D3
  have HO := Lib.hid hO; have HNN := Lib.hid hNN
  have nI : 0 ≤ NN ∧ NN ≤ 18446744073709551615 := by omega
  have oI : 0 ≤ O := by omega
  -- the denominator
  have bt := div_bd (show 0 ≤ d by omega) k3 tI.1
  have M1 := (mul_any (b / g) (d / t) · (by unfold I64; omega) (by unfold I64; omega))
  have em : b / (g : Int) * (d / (t : Int)) = ((b.toNat / g * (d.toNat / t) : Nat) : Int) := by
    rw [nat_div (A := b.toNat) (by omega) rfl, nat_div (A := d.toNat) (by omega) rfl, Int.natCast_mul]
  rw [em] at M1
  obtain ⟨m, hm⟩ : ∃ m, b.toNat / g * (d.toNat / t) = m := ⟨_, rfl⟩
  rw [hm] at M1 E
  obtain ⟨PR, hPR⟩ : ∃ r, plusR a b c d = r := ⟨_, rfl⟩
  rw [hPR] at E ⊢
  clear hPR
  have HE := Lib.hid E
  have HF := Lib.hid (And.intro f1 f2)
  have HD1 := Lib.hid D1; have HD2 := Lib.hid D2; have HD3 := Lib.hid D3; have HG2 := Lib.hid G2
  have HM := Lib.hid M1
  clear hO hNN
  clear PS E f1 f2 D1 D2 D3 G2 M1 em hm hn ho htp hq3 e1 e2 e3 hr ht et hq1 er hS hX hY hg tp tl gl gp x0 y0 lX lY hXb hYb hcy sB
  clear hm0 hm1
  have td1 : d.tdiv g = d / g := Int.tdiv_eq_ediv_of_nonneg (by omega)
  have td2 : b.tdiv g = b / g := Int.tdiv_eq_ediv_of_nonneg (by omega)
  have td3 : d.tdiv t = d / t := Int.tdiv_eq_ediv_of_nonneg (by omega)
  have gn : (g : Int) ≠ 0 := by omega
  have tn : (t : Int) ≠ 0 := by omega
  have wr1 : IntKind.i64.wrap (d / (g : Int)) = d / g := by rw [IntKind.wrap_i64]; omega
  have wr2 : IntKind.i64.wrap (b / (g : Int)) = b / g := by rw [IntKind.wrap_i64]; omega
  have wr3 : IntKind.i64.wrap (d / (t : Int)) = d / t := by rw [IntKind.wrap_i64]; omega
  generalize (g : Int) = G at *
  generalize (t : Int) = T at *
  obtain ⟨B, hB⟩ : ∃ B, w.heap.size = B := ⟨_, rfl⟩
  have HB := Lib.hid hB
  have HnB := Lib.hid (Nat.le_of_eq hB.symm)
  obtain ⟨n1, n2⟩ := thr_new w a b c d
  rw [hB] at n1 n2
  obtain ⟨X0, hX0⟩ : ∃ X, (((w.alloc (fob a b)).alloc (fob c d)).alloc (fob 0 0)) = X := ⟨_, rfl⟩
  rw [hX0] at n1 n2
  have H0 := Lib.hid n1
  have Hs0 := Lib.hid n2
  clear n1 n2
  unfold fob at hX0
  go_enter Try.func45, Try.ntmps45
  go_upto_region 1 with (fail)
  (try rw [hX0])
  clear hX0
  obtain ⟨c0, c1, c3, c4⟩ := Hs0.out.four
  go_upto_region 2 with ((go_at_call 39; refine (HG1.out _).mono ?_; rintro e w1 ⟨rfl, m1, rfl⟩))
  obtain ⟨X1, hX1⟩ : ∃ X, X0.drewN m1 = X := ⟨_, rfl⟩
  have H1 := Lib.hid (show Below B w X1 from hX1 ▸ below_drewN H0.out m1)
  have Hs1 := Lib.hid (show Thr X1 B a b c d from hX1 ▸ Hs0.out.drewN m1)
  rw [hX1]
  clear hX1 c0 c1 c3 c4
  go_cut [7, 8] (fun p q wc => PairAt w B a b c d X Y p q wc)
  case first =>
    have S0 := Hs1.out.four
    go_region_held3 (fun w' => w'.cell? ⟨B, 0, none⟩ = some (.int .i64 a) ∧ w'.cell? ⟨B, 1, none⟩ = some (.int .i64 b) ∧ w'.cell? ⟨B + 1, 0, none⟩ = some (.int .i64 c) ∧ w'.cell? ⟨B + 1, 1, none⟩ = some (.int .i64 d))
      (first | exact S0 | exact (Hs1.out.below (by (repeat' (first | (with_reducible exact Below.refl _ _) | (with_reducible assumption) | (with_reducible exact Nat.le_refl _) | (with_reducible refine Below.alloc ?_ ?_ _) | (with_reducible refine Below.drew ?_) | (with_reducible refine Below.setCell ?_ ?_ _) | ((with_reducible refine through ?_ ?_ (by with_reducible assumption))) | exact Nat.zero_le _ | (with_reducible refine size_through ?_) | (simp; omega))))).four)
      ((first
        | (go_at_call_of 51 (Value.int .i64 a); refine (HT1.out _).mono ?_; rintro e w1 ⟨rfl, rfl⟩)
        | (go_at_call 51; refine (HT2.out _).mono ?_; rintro e w2 ⟨rfl, rfl⟩)))
    all_goals go_wp2_with (fail)
    all_goals go_meet
    all_goals refine ⟨_, _, rfl, rfl, through H1.out HnB.out (by (repeat' (first | (with_reducible exact Below.refl _ _) | (with_reducible assumption) | (with_reducible exact Nat.le_refl _) | (with_reducible refine Below.alloc ?_ ?_ _) | (with_reducible refine Below.drew ?_) | (with_reducible refine Below.setCell ?_ ?_ _) | ((with_reducible refine through ?_ ?_ (by with_reducible assumption))) | exact Nat.zero_le _ | (with_reducible refine size_through ?_) | (simp; omega)))), Hs1.out.below (by (repeat' (first | (with_reducible exact Below.refl _ _) | (with_reducible assumption) | (with_reducible exact Nat.le_refl _) | (with_reducible refine Below.alloc ?_ ?_ _) | (with_reducible refine Below.drew ?_) | (with_reducible refine Below.setCell ?_ ?_ _) | ((with_reducible refine through ?_ ?_ (by with_reducible assumption))) | exact Nat.zero_le _ | (with_reducible refine size_through ?_) | (simp; omega)))), ?_, ?_⟩
    all_goals (repeat' (first | (with_reducible refine Blk.drew ?_) | (with_reducible refine blk_new ?_; (simp; done)) | (with_reducible refine Blk.alloc ?_ _)))
  case rest =>
    obtain ⟨g1, g2, e7, rfl, hbw, thr, b1, b2⟩ := hcut
    cases e7
    obtain ⟨x0, x1⟩ := cells2 b1
    obtain ⟨y0, y1⟩ := cells2 b2
    have H2 := Lib.hid hbw
    have Ht := Lib.hid thr
    clear hbw thr b1 b2
    go_upto_region 9 with (first
      | (go_at_call_of 73 (Value.int .u64 (hiW S % G)); refine (HD1.out _).mono ?_; rintro e w1 ⟨rfl, m2, rfl⟩)
      | (go_at_call 39; refine (HG2.out _).mono ?_; rintro e w1 ⟨rfl, m3, rfl⟩)
      | (go_at_call_of 73 (Value.int .u64 (hiW S)); refine (HD2.out _).mono ?_; rintro e w1 ⟨rfl, m4, rfl⟩)
      | (go_at_call 73; refine (HD3.out _).mono ?_; rintro e w1 ⟨rfl, m5, rfl⟩))
    obtain ⟨X2, hX2⟩ : ∃ X, wc.drewN (m2 + m3 + m4 + m5) = X := ⟨_, rfl⟩
    have H3 := Lib.hid (show Below B w X2 from hX2 ▸ below_drewN H2.out _)
    have Hs3 := Lib.hid (show Thr X2 B a b c d from hX2 ▸ Ht.out.drewN _)
    rw [hX2]
    clear hX2 x0 x1 y0 y1 A1 A2 sl sh sh2 rl rI tt nl td1 td2 wr1 wr2 HD1 HD2 HD3 HG1 HG2 HT1 HT2
    obtain ⟨c0, c1, c3, c4⟩ := Hs3.out.four
    obtain ⟨r0, r1, r2, r3⟩ := Hs3.out.2.2.cells
    rcases (show O ≠ 0 ∨ (O = 0 ∧ 9223372036854775807 < NN) ∨ (O = 0 ∧ NN ≤ 9223372036854775807) by omega) with hc | ⟨hc, hc1⟩ | ⟨hc, hc1⟩
    · have b1 : (O == 0) = false := beq_eq_false_iff_ne.2 hc
      have b2 : (O != 0) = true := by rw [bne, b1]; rfl
      have HV := Lib.hid (show PR = ⟨0, 0, false⟩ from HE.out.trans (bothR_no (.inl (by rw [HF.out.1, decide_eq_false_iff_not]; have := HO.out; omega))))
      have HC := Lib.hid hc
      clear hc
      generalize fits (m : Int) = f at HM
      (go_quiet ((go_at_call 15; exact Calls.quiet_of_same ((HM.out _).mono fun _ _ ⟨he, hw⟩ => ⟨he, hw.symm⟩))); obtain ⟨X3, hX3⟩ : ∃ X, X2.drewN nq = X := ⟨_, rfl⟩; rw [hX3]; have Hs4 := Lib.hid (show Thr X3 B a b c d from hX3 ▸ Hs3.out.drewN nq); have H4 := Lib.hid (show Below B w X3 from hX3 ▸ below_drewN H3.out nq); clear hX3 c0 c1 c3 c4 r0 r1 r2 r3; obtain ⟨r0, r1, r2, r3⟩ := Hs4.out.2.2.cells)
      (go_upto_region 11 with (fail); (repeat go_step); obtain ⟨q0, q1, -, -⟩ := (Hs4.out.2.2.put (c := 0) (d := 0)).cells; refine bodyPost_ret (frac_results rfl _ _ rfl q0 q1) rfl ?_; exact ⟨by rw [HV.out]; rfl, setFarB' (by rw [HB.out]; exact H4.out) (by rw [HB.out]; omega) _ _⟩)
    · have b1 : (O == 0) = true := by rw [hc]; rfl
      have b2 : (O != 0) = false := by rw [bne, b1]; rfl
      have b3 : decide (9223372036854775807 < NN) = true := decide_eq_true hc1
      have HV := Lib.hid (show PR = ⟨0, 0, false⟩ from HE.out.trans (bothR_no (.inl (by rw [HF.out.1, decide_eq_false_iff_not]; have := HNN.out; unfold M63; omega))))
      have HC := Lib.hid hc
      clear hc
      generalize fits (m : Int) = f at HM
      (go_quiet ((go_at_call 15; exact Calls.quiet_of_same ((HM.out _).mono fun _ _ ⟨he, hw⟩ => ⟨he, hw.symm⟩))); obtain ⟨X3, hX3⟩ : ∃ X, X2.drewN nq = X := ⟨_, rfl⟩; rw [hX3]; have Hs4 := Lib.hid (show Thr X3 B a b c d from hX3 ▸ Hs3.out.drewN nq); have H4 := Lib.hid (show Below B w X3 from hX3 ▸ below_drewN H3.out nq); clear hX3 c0 c1 c3 c4 r0 r1 r2 r3; obtain ⟨r0, r1, r2, r3⟩ := Hs4.out.2.2.cells)
      (go_upto_region 11 with (fail); (repeat go_step); obtain ⟨q0, q1, -, -⟩ := (Hs4.out.2.2.put (c := 0) (d := 0)).cells; refine bodyPost_ret (frac_results rfl _ _ rfl q0 q1) rfl ?_; exact ⟨by rw [HV.out]; rfl, setFarB' (by rw [HB.out]; exact H4.out) (by rw [HB.out]; omega) _ _⟩)
    · have b1 : (O == 0) = true := by rw [hc]; rfl
      have b2 : (O != 0) = false := by rw [bne, b1]; rfl
      have b3 : decide (9223372036854775807 < NN) = false := decide_eq_false (by omega)
      have hfit : fits ((S / t : Nat) : Int) = true := by rw [HF.out.1, decide_eq_true_eq]; have := HNN.out; have := HO.out; unfold M63; omega
      have hst : ((S / t : Nat) : Int) = NN := by rw [HF.out.2 (by have := HO.out; omega)]; exact HNN.out
      have w3 : wrap64 NN = NN := by unfold wrap64; omega
      cases hf : fits (m : Int)
      · rw [hf] at HM
        have HV := Lib.hid (show PR = ⟨0, 0, false⟩ from HE.out.trans (bothR_no (.inr hf)))
        have HC := Lib.hid hc
        clear hc hf hfit hst
        (go_quiet ((go_at_call 15; exact Calls.quiet_of_same ((HM.out _).mono fun _ _ ⟨he, hw⟩ => ⟨he, hw.symm⟩))); obtain ⟨X3, hX3⟩ : ∃ X, X2.drewN nq = X := ⟨_, rfl⟩; rw [hX3]; have Hs4 := Lib.hid (show Thr X3 B a b c d from hX3 ▸ Hs3.out.drewN nq); have H4 := Lib.hid (show Below B w X3 from hX3 ▸ below_drewN H3.out nq); clear hX3 c0 c1 c3 c4 r0 r1 r2 r3; obtain ⟨r0, r1, r2, r3⟩ := Hs4.out.2.2.cells)
        (go_upto_region 11 with (fail); (repeat go_step); obtain ⟨q0, q1, -, -⟩ := (Hs4.out.2.2.put (c := 0) (d := 0)).cells; refine bodyPost_ret (frac_results rfl _ _ rfl q0 q1) rfl ?_; exact ⟨by rw [HV.out]; rfl, setFarB' (by rw [HB.out]; exact H4.out) (by rw [HB.out]; omega) _ _⟩)
      · have HMV := Lib.hid (show asInt (m : Int) = m by unfold asInt; rw [hf]; rfl)
        rw [hf, HMV.out] at HM
        have HV := Lib.hid (show PR = ⟨NN, (m : Int), true⟩ from HE.out.trans ((bothR_yes hfit hf).trans (by rw [hst])))
        have HC := Lib.hid hc
        clear hc hf hfit hst
        (go_quiet ((go_at_call 15; exact Calls.quiet_of_same ((HM.out _).mono fun _ _ ⟨he, hw⟩ => ⟨he, hw.symm⟩))); obtain ⟨X3, hX3⟩ : ∃ X, X2.drewN nq = X := ⟨_, rfl⟩; rw [hX3]; have Hs4 := Lib.hid (show Thr X3 B a b c d from hX3 ▸ Hs3.out.drewN nq); have H4 := Lib.hid (show Below B w X3 from hX3 ▸ below_drewN H3.out nq); clear hX3 c0 c1 c3 c4 r0 r1 r2 r3; obtain ⟨r0, r1, r2, r3⟩ := Hs4.out.2.2.cells)
        go_upto_region 12 with (fail)
        repeat go_step
        obtain ⟨q0, q1, -, -⟩ := (Hs4.out.2.2.put (c := NN) (d := (m : Int))).cells
        refine bodyPost_ret (frac_results rfl _ _ rfl q0 q1) rfl ?_
        exact ⟨by rw [HV.out]; rfl, setFarB' (by rw [HB.out]; exact H4.out) (by rw [HB.out]; omega) _ _⟩
end Go.Proofs.Ytjemcnlljjdmiaa.Fr
