/- Numbers of 128 bits, as the document's functions reckon them: a right fraction. -/
import Derived.Test.YtjemcnlljjdmiaaFrW5
import Derived.Test.YtjemcnlljjdmiaaFr4
namespace Go.Proofs.Ytjemcnlljjdmiaa.Fr
open Go.ChangeShapes Go.WideShapes Go.ChangeAt Go.RowKit M

/-- a block holds a fraction -/
def FracAt (w : World) (g : Nat) (a b : Int) : Prop := Blk w g 24 #[.int .i64 a, .int .i64 b]
theorem FracAt.cells {w : World} {g : Nat} {a b : Int} (h : FracAt w g a b) : w.cell? ⟨g, 0, none⟩ = some (.int .i64 a) ∧ w.cell? ⟨g, 1, none⟩ = some (.int .i64 b) ∧ w.frozen? ⟨g, 0, none⟩ = false ∧ w.frozen? ⟨g, 1, none⟩ = false := by
  have c0 := Blk.cell h 0; have c1 := Blk.cell h 1
  exact ⟨by simpa using c0, by simpa using c1, Blk.frozen h 0, Blk.frozen h 1⟩
theorem FracAt.below {w w' : World} {g B : Nat} {a b : Int} (h : FracAt w g a b) (hb : Below B w w') (hg : g < B) : FracAt w' g a b := Blk.below h hb hg
theorem FracAt.put {w : World} {g : Nat} {a b c d : Int} (h : FracAt w g a b) : FracAt ((w.setCell ⟨g, 0, none⟩ (.int .i64 c)).setCell ⟨g, 1, none⟩ (.int .i64 d)) g c d := by
  have := (Blk.set_ h 0 (.int .i64 c)).set_ 1 (.int .i64 d)
  simpa [FracAt] using this
theorem FracAt.far {w : World} {g g' : Nat} {a b : Int} (h : FracAt w g a b) (hg : g ≠ g') (u v : Value) : FracAt ((w.setCell ⟨g', 0, none⟩ u).setCell ⟨g', 1, none⟩ v) g a b :=
  Blk.far (Blk.far h (p := ⟨g', 0, none⟩) hg u) (p := ⟨g', 1, none⟩) hg v
theorem FracAt.back {w : World} {g : Nat} {a b : Int} (h : FracAt w g a b) (c d : Int) : (w.setCell ⟨g, 0, none⟩ (.int .i64 c)).cell? ⟨g, 0, none⟩ = some (.int .i64 c) ∧
    ((w.setCell ⟨g, 0, none⟩ (.int .i64 c)).setCell ⟨g, 1, none⟩ (.int .i64 d)).cell? ⟨g, 1, none⟩ = some (.int .i64 d) := by
  have a := (Blk.set_ h 0 (.int .i64 c)).cell 0
  exact ⟨by simpa using a, h.put.cells.2.1⟩
theorem FracAt.lt {w : World} {g : Nat} {a b : Int} (h : FracAt w g a b) : g < w.heap.size := Blk.lt h
theorem FracAt.alloc {w : World} {g : Nat} {a b : Int} (h : FracAt w g a b) (o : Obj) : FracAt (w.alloc o) g a b := Blk.alloc h o
def fob (a b : Int) : Obj := .cells #[.int .i64 a, .int .i64 b] 24
theorem wide_at (W : World) (x g : Nat) (h : W.heap.size = g) : WideAt (W.alloc (wob x)) g x := h ▸ WideAt.new W x
theorem frac_at (W : World) (a b : Int) (g : Nat) (h : W.heap.size = g) : FracAt (W.alloc (fob a b)) g a b := h ▸ Blk.new W _ _

/-- what is made right: both numbers, and the place for the result -/
def Rt (w : World) (B n d : Nat) : Prop := WideAt w B n ∧ WideAt w (B + 1) d ∧ FracAt w (B + 1 + 1) 0 0
theorem Rt.below {w w' : World} {B n d : Nat} (h : Rt w B n d) (hb : Below w.heap.size w w') : Rt w' B n d := ⟨h.1.below hb h.1.lt, h.2.1.below hb h.2.1.lt, h.2.2.below hb h.2.2.lt⟩
theorem Rt.alloc {w : World} {B n d : Nat} (h : Rt w B n d) (o : Obj) : Rt (w.alloc o) B n d := ⟨h.1.alloc o, h.2.1.alloc o, h.2.2.alloc o⟩
theorem rt_new (w : World) (n d : Nat) : Below w.heap.size w (((w.alloc (wob n)).alloc (wob d)).alloc (fob 0 0)) ∧ Rt (((w.alloc (wob n)).alloc (wob d)).alloc (fob 0 0)) w.heap.size n d := by
  refine ⟨by go_grown, ((wide_at _ _ _ rfl).alloc _).alloc _, (wide_at _ _ _ ?_).alloc _, frac_at _ _ _ _ ?_⟩ <;> simp only [World.size_alloc]

theorem size_le {n : Nat} {W X : World} (h : Below n W X) : W.heap.size ≤ X.heap.size := h.size

theorem right_vals {n d p q : Nat} (hp : n / Nat.gcd n d = p) (hq : d / Nat.gcd n d = q) :
    rightR n d = ⟨if asB p && asB q then asN p else 0, if asB p && asB q then asN q else 0, asB p && asB q⟩ := by
  unfold rightR
  rw [hp, hq]
  unfold bigB
  by_cases h1 : p ≤ M63 <;> by_cases h2 : q ≤ M63
  · rw [if_neg (by simp; omega), (as_yes h1).1, (as_yes h1).2, (as_yes h2).1, (as_yes h2).2]; rfl
  · rw [if_pos (by simp; omega), (as_yes h1).2, (as_no h2).2]; rfl
  · rw [if_pos (by simp; omega), (as_no h1).2]; rfl
  · rw [if_pos (by simp; omega), (as_no h1).2]; rfl

set_option maxHeartbeats 4000000 in
theorem right_any (n d : Nat) (w : World) (hn : Lt127 n) (hd : Lt127 d) (d0 : 0 < d) :
    Calls Try.prog 70 #[.agg #[.int .u64 (hiW n), .int .u64 (loW n)], .agg #[.int .u64 (hiW d), .int .u64 (loW d)]] w fun e w' => e = rV (rightR n d) ∧ Below w.heap.size w w' := by
  obtain ⟨B, hB⟩ : ∃ B, w.heap.size = B := ⟨_, rfl⟩
  have HB := Lib.hid hB
  obtain ⟨h0, s0⟩ := rt_new w n d
  rw [hB] at h0 s0
  have C := Lib.hid (fun x => common_any n d x hn hd)
  obtain ⟨g, hg⟩ : ∃ g, Nat.gcd n d = g := ⟨_, rfl⟩
  have g0 : 0 < g := hg ▸ Nat.gcd_pos_of_pos_right _ d0
  have gl : Lt127 g := by have := Nat.gcd_le_right n d0; rw [hg] at this; unfold Lt127 at hd ⊢; omega
  rw [hg] at C
  have nl : Lt128 n := by unfold Lt127 at hn; unfold Lt128; omega
  have dl : Lt128 d := by unfold Lt127 at hd; unfold Lt128; omega
  have D1 := Lib.hid (fun x => divide_any n g x nl g0 gl)
  have D2 := Lib.hid (fun x => divide_any d g x dl g0 gl)
  obtain ⟨p, hp⟩ : ∃ p, n / g = p := ⟨_, rfl⟩
  obtain ⟨q, hq⟩ : ∃ q, d / g = q := ⟨_, rfl⟩
  obtain ⟨r1, hr1⟩ : ∃ r, n % g = r := ⟨_, rfl⟩
  obtain ⟨r2, hr2⟩ : ∃ r, d % g = r := ⟨_, rfl⟩
  rw [hp, hr1] at D1
  rw [hq, hr2] at D2
  have HE := Lib.hid (right_vals (n := n) (d := d) (p := p) (q := q) (by rw [hg]; exact hp) (by rw [hg]; exact hq))
  have A1 := Lib.hid (fun x => as_any p x (by have := Nat.div_le_self n g; rw [hp] at this; unfold Lt128 at nl ⊢; omega))
  have A2 := Lib.hid (fun x => as_any q x (by have := Nat.div_le_self d g; rw [hq] at this; unfold Lt128 at dl ⊢; omega))
  have H0 := Lib.hid h0
  have Hs0 := Lib.hid s0
  obtain ⟨X0, hX0⟩ : ∃ X, (((w.alloc (wob n)).alloc (wob d)).alloc (fob 0 0)) = X := ⟨_, rfl⟩
  rw [hX0] at H0 Hs0
  clear hg g0 gl nl dl hp hq hr1 hr2 hn hd d0 h0 s0
  unfold wob fob at hX0
  go_enter Try.func70, Try.ntmps70
  go_upto_region 1 with (fail)
  (try rw [hX0])
  clear hX0
  obtain ⟨a0, a1, -, -⟩ := Hs0.out.1.cells
  obtain ⟨b0, b1, -, -⟩ := Hs0.out.2.1.cells
  go_wp2_with fail
  refine (C.out _).mono ?_; rintro e w1 ⟨rfl, hb1⟩
  clear a0 a1 b0 b1
  have H1 := Lib.hid (through H0.out (by rw [HB.out]; exact Nat.le_refl _) hb1)
  have Hs1 := Lib.hid (Hs0.out.below hb1)
  clear hb1
  obtain ⟨k1, hk1⟩ : ∃ k, w1.heap.size = k := ⟨_, rfl⟩
  go_upto_region 2 with (fail)
  obtain ⟨X1, hX1, m1⟩ : ∃ X, (w1.alloc (wob g)) = X ∧ WideAt X k1 g := ⟨_, rfl, wide_at _ _ _ hk1⟩
  have H2 := Lib.hid (H1.out.alloc (show B ≤ w1.heap.size by have := size_le H1.out; omega) (wob g))
  have Hs2 := Lib.hid (Hs1.out.alloc (wob g))
  rw [hX1] at H2 Hs2
  unfold wob at hX1
  rw [hX1]
  clear hX1 hk1
  obtain ⟨a0, a1, -, -⟩ := Hs2.out.1.cells
  obtain ⟨c0, c1, -, -⟩ := m1.cells
  have Hm1 := Lib.hid m1
  clear m1
  go_wp2_with fail
  refine (D1.out _).mono ?_; rintro e w2 ⟨rfl, hb2⟩
  clear a0 a1 c0 c1
  have H3 := Lib.hid (through H2.out (by rw [HB.out]; exact Nat.le_refl _) hb2)
  have Hs3 := Lib.hid (Hs2.out.below hb2)
  have Hm3 := Lib.hid (Hm1.out.below hb2 Hm1.out.lt)
  clear hb2
  obtain ⟨k2, hk2⟩ : ∃ k, w2.heap.size = k := ⟨_, rfl⟩
  go_upto_region 3 with (fail)
  obtain ⟨X2, hX2, m2⟩ : ∃ X, ((w2.alloc (wob p)).alloc (wob r1)) = X ∧ WideAt X k2 p := ⟨_, rfl, (wide_at _ _ _ hk2).alloc _⟩
  have H4 := Lib.hid ((H3.out.alloc (show B ≤ w2.heap.size by have := size_le H3.out; omega) (wob p)).alloc (by have := size_le H3.out; rw [World.size_alloc]; omega) (wob r1))
  have Hs4 := Lib.hid ((Hs3.out.alloc (wob p)).alloc (wob r1))
  have Hm4 := Lib.hid ((Hm3.out.alloc (wob p)).alloc (wob r1))
  rw [hX2] at H4 Hs4 Hm4
  unfold wob at hX2
  rw [hX2]
  clear hX2 hk2
  obtain ⟨b0, b1, -, -⟩ := Hs4.out.2.1.cells
  obtain ⟨c0, c1, -, -⟩ := Hm4.out.cells
  have Hn4 := Lib.hid m2
  clear m2
  go_wp2_with fail
  refine (D2.out _).mono ?_; rintro e w3 ⟨rfl, hb3⟩
  clear b0 b1 c0 c1
  have H5 := Lib.hid (through H4.out (by rw [HB.out]; exact Nat.le_refl _) hb3)
  have Hs5 := Lib.hid (Hs4.out.below hb3)
  have Hn5 := Lib.hid (Hn4.out.below hb3 Hn4.out.lt)
  clear hb3
  obtain ⟨k3, hk3⟩ : ∃ k, w3.heap.size = k := ⟨_, rfl⟩
  go_upto_region 4 with (fail)
  obtain ⟨X3, hX3, m3⟩ : ∃ X, ((w3.alloc (wob q)).alloc (wob r2)) = X ∧ WideAt X k3 q := ⟨_, rfl, (wide_at _ _ _ hk3).alloc _⟩
  have H6 := Lib.hid ((H5.out.alloc (show B ≤ w3.heap.size by have := size_le H5.out; omega) (wob q)).alloc (by have := size_le H5.out; rw [World.size_alloc]; omega) (wob r2))
  have Hs6 := Lib.hid ((Hs5.out.alloc (wob q)).alloc (wob r2))
  have Hn6 := Lib.hid ((Hn5.out.alloc (wob q)).alloc (wob r2))
  rw [hX3] at H6 Hs6 Hn6
  unfold wob at hX3
  rw [hX3]
  clear hX3 hk3
  obtain ⟨c0, c1, -, -⟩ := Hn6.out.cells
  have Ho6 := Lib.hid m3
  clear m3
  go_wp2_with fail
  refine (A1.out _).mono ?_; rintro e w4 ⟨rfl, hb4⟩
  clear c0 c1
  have H7 := Lib.hid (through H6.out (by rw [HB.out]; exact Nat.le_refl _) hb4)
  have Hs7 := Lib.hid (Hs6.out.below hb4)
  have Ho7 := Lib.hid (Ho6.out.below hb4 Ho6.out.lt)
  clear hb4
  obtain ⟨c0, c1, -, -⟩ := Ho7.out.cells
  go_wp2_with fail
  refine (A2.out _).mono ?_; rintro e w5 ⟨rfl, hb5⟩
  clear c0 c1
  have H8 := Lib.hid (through H7.out (by rw [HB.out]; exact Nat.le_refl _) hb5)
  have Hs8 := Lib.hid (Hs7.out.below hb5)
  clear hb5
  obtain ⟨d0, d1, d2, d3⟩ := Hs8.out.2.2.cells
  obtain ⟨f0, f1⟩ := Hs8.out.2.2.back (if asB p && asB q then asN p else 0) (if asB p && asB q then asN q else 0)
  have HN := Lib.hid (show Below w.heap.size w ((w5.setCell ⟨B + 1 + 1, 0, none⟩ (.int .i64 (if asB p && asB q then asN p else 0))).setCell ⟨B + 1 + 1, 1, none⟩ (.int .i64 (if asB p && asB q then asN q else 0))) by
    rw [HB.out]; exact (H8.out.setCell (by show B ≤ B + 1 + 1; omega) _).setCell (by show B ≤ B + 1 + 1; omega) _)
  cases e1 : asB p <;> cases e2 : asB q
  all_goals
    rw [e1, e2] at f0 f1 HN HE
    simp only [Bool.and_self, Bool.and_true, Bool.and_false, if_true, if_false, Bool.false_eq_true] at f0 f1 HN HE
    go_wp2
    (try simp only [Exit.inBlock, Exit.then])
    refine bodyPost_ret (by simp [results, Try.results70, go_sem, f0, f1]; try rfl) rfl ?_
    exact ⟨by rw [HE.out]; rfl, HN.out⟩
end Go.Proofs.Ytjemcnlljjdmiaa.Fr
