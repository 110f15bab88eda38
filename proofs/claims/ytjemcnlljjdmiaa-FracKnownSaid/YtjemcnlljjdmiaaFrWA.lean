/- What the document's functions on fractions return: a sum. -/
import Derived.Test.YtjemcnlljjdmiaaFrW9
namespace Go.Proofs.Ytjemcnlljjdmiaa.Fr
open Go.ChangeShapes Go.WideShapes Go.ChangeAt Go.RowKit M

theorem WideAt.on {w w' : World} {g x : Nat} (h : WideAt w g x) (hb : Below w.heap.size w w') : WideAt w' g x := h.below hb h.lt
theorem WideAt.drew {w : World} {g x : Nat} (h : WideAt w g x) : WideAt w.drew g x := h
theorem Thr.setFar {w : World} {B g : Nat} {a b c d : Int} (h : Thr w B a b c d) (hg : B + 1 + 1 < g) (u v : Value) : Thr ((w.setCell ⟨g, 0, none⟩ u).setCell ⟨g, 1, none⟩ v) B a b c d :=
  ⟨h.1.far (by omega) _ _, h.2.1.far (by omega) _ _, h.2.2.far (by omega) _ _⟩
theorem setFarB {n g : Nat} {W w : World} (h : Below n W w) (hg : n ≤ g) (u v : Value) : Below n W ((w.setCell ⟨g, 0, none⟩ u).setCell ⟨g, 1, none⟩ v) := (h.setCell hg _).setCell hg _
theorem throughAlloc {n : Nat} {W X w2 : World} {o : Obj} (h : Below n W X) (hn : n ≤ W.heap.size) (hb : Below (X.alloc o).heap.size (X.alloc o) w2) : Below n W w2 := through (h.alloc (Nat.le_trans hn h.size) o) hn hb
/-- what stands behind the first statement of a sum -/
def SumAt (w : World) (B : Nat) (a b c d : Int) (N : Nat) (p : Value) (wr : World) : Prop :=
  ∃ g, p = .pointer (some ⟨g, 0, none⟩) ∧ Below B w wr ∧ Thr wr B a b c d ∧ WideAt wr g N ∧ B + 1 + 1 < g
theorem m_lt {w : World} {B : Nat} {a b c d : Int} (h : Thr w B a b c d) : B + 1 + 1 < w.heap.size := h.2.2.lt
theorem r_four2 {w : World} {B g N : Nat} {a b c d : Int} (h : Two w B a b c d) (m : WideAt w g N) : w.cell? ⟨B, 1, none⟩ = some (.int .i64 b) ∧ w.cell? ⟨B + 1, 1, none⟩ = some (.int .i64 d) ∧ w.cell? ⟨g, 0, none⟩ = some (.int .u64 (hiW N)) ∧ w.cell? ⟨g, 1, none⟩ = some (.int .u64 (loW N)) :=
  ⟨h.four.2.1, h.four.2.2.2, m.cells.1, m.cells.2.1⟩
theorem r_four {w : World} {B g N : Nat} {a b c d : Int} (h : Thr w B a b c d) (m : WideAt w g N) : w.cell? ⟨B, 1, none⟩ = some (.int .i64 b) ∧ w.cell? ⟨B + 1, 1, none⟩ = some (.int .i64 d) ∧ w.cell? ⟨g, 0, none⟩ = some (.int .u64 (hiW N)) ∧ w.cell? ⟨g, 1, none⟩ = some (.int .u64 (loW N)) :=
  r_four2 ⟨h.1, h.2.1⟩ m

set_option maxHeartbeats 4000000 in
theorem rPlus_any (a b c d : Int) (w : World) (h : Lowest a b) (k : Lowest c d) :
    Calls Try.prog 46 #[.agg #[.int .i64 a, .int .i64 b], .agg #[.int .i64 c, .int .i64 d]] w fun e w' => e = rV (plusR a b c d) ∧ Below w.heap.size w w' := by
  obtain ⟨h0, h1, h2, h3, -⟩ := h
  obtain ⟨k0, k1, k2, k3, -⟩ := k
  have T1 := Lib.hid (rTimes_int a d · ⟨h0, h1⟩ ⟨by omega, k3⟩)
  have T2 := Lib.hid (rTimes_int c b · ⟨k0, k1⟩ ⟨by omega, h3⟩)
  have T3 := Lib.hid (rTimes_int b d · ⟨by omega, h3⟩ ⟨by omega, k3⟩)
  have p1 := prod_bd (a := a) (b := d) ⟨h0, h1⟩ ⟨by omega, k3⟩
  have p2 := prod_bd (a := c) (b := b) ⟨k0, k1⟩ ⟨by omega, h3⟩
  have p3 := prod_bd (a := b) (b := d) ⟨by omega, h3⟩ ⟨by omega, k3⟩
  have R := fun z => right_any (a.toNat * d.toNat + c.toNat * b.toNat) (b.toNat * d.toNat) z (by unfold Lt127; omega) (by unfold Lt127; omega) (prod_pos h2 k2)
  change ∀ z, Calls _ _ _ _ fun e w' => e = rV (plusR a b c d) ∧ _ at R
  have P := Lib.hid (fun z => plus_any (a.toNat * d.toNat) (c.toNat * b.toNat) z (by unfold Lt128; omega) (by unfold Lt128; omega))
  rw [m128_id (x := a.toNat * d.toNat + c.toNat * b.toNat) (by unfold Lt128; omega)] at P
  have ea := le_64 h0 h1
  have eb := le_64 (show 0 ≤ b by omega) h3
  have ec := le_64 k0 k1
  have ed := le_64 (show 0 ≤ d by omega) k3
  clear p1 p2 p3
  obtain ⟨x, hx⟩ : ∃ x, a.toNat * d.toNat = x := ⟨_, rfl⟩
  obtain ⟨y, hy⟩ : ∃ x, c.toNat * b.toNat = x := ⟨_, rfl⟩
  obtain ⟨D, hD⟩ : ∃ x, b.toNat * d.toNat = x := ⟨_, rfl⟩
  rw [hx] at T1 P R
  rw [hy] at T2 P R
  rw [hD] at T3 R
  obtain ⟨N, hN⟩ : ∃ N, x + y = N := ⟨_, rfl⟩
  rw [hN] at P R
  generalize plusR a b c d = r at *
  obtain ⟨rn, rd, ro⟩ := r
  unfold rV at R
  simp only at R
  have HR := Lib.hid R
  clear R hx hy hD hN
  obtain ⟨B, hB⟩ : ∃ B, w.heap.size = B := ⟨_, rfl⟩
  have HB := Lib.hid hB
  have nB : B ≤ w.heap.size := Nat.le_of_eq hB.symm
  have HnB := Lib.hid nB
  clear nB
  obtain ⟨n1, n2⟩ := thr_new w a b c d
  rw [hB] at n1 n2
  obtain ⟨X0, hX0⟩ : ∃ X, (((w.alloc (fob a b)).alloc (fob c d)).alloc (fob 0 0)) = X := ⟨_, rfl⟩
  rw [hX0] at n1 n2
  have H0 := Lib.hid n1
  have Hs0 := Lib.hid n2
  clear n1 n2
  unfold fob at hX0
  go_enter Try.func46, Try.ntmps46
  go_upto_region 1 with (fail)
  (try rw [hX0])
  clear hX0
  go_cut [6] (fun p wc => SumAt w B a b c d N p wc)
  case first =>
    have S0 := Hs0.out.four
    go_region_held3 (fun w' => w'.cell? ⟨B, 0, none⟩ = some (.int .i64 a) ∧ w'.cell? ⟨B, 1, none⟩ = some (.int .i64 b) ∧ w'.cell? ⟨B + 1, 0, none⟩ = some (.int .i64 c) ∧ w'.cell? ⟨B + 1, 1, none⟩ = some (.int .i64 d))
      (first | exact S0 | exact s1.four | exact s2.four | exact s3.four | exact (Hs0.out.drew.alloc _).four | exact (s1.alloc _).four | exact (s2.alloc _).four | exact (s3.alloc _).four | exact (s3.setFar (m_lt Hs0.out) _ _).four | exact (s3.setFar (m_lt s1) _ _).four | exact (s3.setFar (m_lt s2) _ _).four | exact ((s3.alloc _).setFar (m_lt s3) _ _).four)
      ((first
        | (go_at_call_of 66 (Value.int .u64 d); refine (T1.out _).mono ?_; rintro e w1 ⟨rfl, hb1⟩; have s1 : Thr w1 B a b c d := (by first | exact Hs0.out.drew.below hb1 | exact (Hs0.out.drew.alloc _).below hb1); have q1 : Below B w w1 := (by first | exact through H0.out.drew HnB.out hb1 | exact throughAlloc H0.out.drew HnB.out hb1); obtain ⟨hc1, hf1⟩ := below_cells hb1; have hz1 := hb1.size; (try simp at hz1))
        | (go_at_call 66; refine (T2.out _).mono ?_; rintro e w2 ⟨rfl, hb2⟩; have s2 : Thr w2 B a b c d := (by first | exact s1.below hb2 | exact (s1.alloc _).below hb2); have q2 : Below B w w2 := (by first | exact through q1 HnB.out hb2 | exact throughAlloc q1 HnB.out hb2); obtain ⟨hc2, hf2⟩ := below_cells hb2; have hz2 := hb2.size; (try simp at hz2))
        | (go_at_call 74; refine (P.out _).mono ?_; rintro e w3 ⟨rfl, hb3⟩; have s3 : Thr w3 B a b c d := (by first | exact s2.below hb3 | exact (s2.alloc _).below hb3); have q3 : Below B w w3 := (by first | exact through q2 HnB.out hb3 | exact throughAlloc q2 HnB.out hb3); obtain ⟨hc3, hf3⟩ := below_cells hb3; have hz3 := hb3.size; (try simp at hz3); (try have y1 : X0.heap.size < w1.heap.size := (by omega)); (try have y2 : X0.heap.size < w2.heap.size := (by omega)); (try have y3 : w1.heap.size < w2.heap.size := (by omega)))))
    all_goals go_wp2_with (fail)
    all_goals go_meet
    all_goals first
      | exact ⟨_, rfl, q3.alloc (Nat.le_of_lt (Nat.lt_of_le_of_lt (Nat.le_add_right B 2) (m_lt s3))) _, s3.alloc _, wide_at w3 N _ rfl, m_lt s3⟩
      | exact ⟨_, rfl, setFarB q3 (Nat.le_of_lt (Nat.lt_of_le_of_lt (Nat.le_add_right B 2) (m_lt s2))) _ _, s3.setFar (m_lt s2) _ _, ((wide_at w2 0 _ rfl).on hb3).put, m_lt s2⟩
      | exact ⟨_, rfl, setFarB q3 (Nat.le_of_lt (Nat.lt_of_le_of_lt (Nat.le_add_right B 2) (m_lt s1))) _ _, s3.setFar (m_lt s1) _ _, (((wide_at w1 0 _ rfl).on hb2).on hb3).put, m_lt s1⟩
      | exact ⟨_, rfl, setFarB q3 (Nat.le_of_lt (Nat.lt_of_le_of_lt (Nat.le_add_right B 2) (m_lt Hs0.out))) _ _, s3.setFar (m_lt Hs0.out) _ _, ((((wide_at X0.drew 0 _ rfl).on hb1).on hb2).on hb3).put, m_lt Hs0.out⟩
  case rest =>
    obtain ⟨g, rfl, hbw, thr, wa, hg⟩ := hcut
    have S0 : wc.cell? ⟨B, 1, none⟩ = some (.int .i64 b) ∧ wc.cell? ⟨B + 1, 1, none⟩ = some (.int .i64 d) ∧ wc.cell? ⟨g, 0, none⟩ = some (.int .u64 (hiW N)) ∧ wc.cell? ⟨g, 1, none⟩ = some (.int .u64 (loW N)) := ⟨thr.four.2.1, thr.four.2.2.2, wa.cells.1, wa.cells.2.1⟩
    have H2 := Lib.hid hbw
    have Ht := Lib.hid thr
    have Hw := Lib.hid wa
    clear hbw thr wa
    go_upto_region 2 with (fail)
    go_region_held3 (fun w' => w'.cell? ⟨B, 1, none⟩ = some (.int .i64 b) ∧ w'.cell? ⟨B + 1, 1, none⟩ = some (.int .i64 d) ∧ w'.cell? ⟨g, 0, none⟩ = some (.int .u64 (hiW N)) ∧ w'.cell? ⟨g, 1, none⟩ = some (.int .u64 (loW N)))
      (first | exact S0 | exact r_four s4 m4 | exact r_four s5 m5 | exact r_four2 (s5.set_ _ _) (m5.far (Nat.ne_of_gt hg) _ _))
      ((first
        | (go_at_call 66; refine (T3.out _).mono ?_; rintro e w4 ⟨rfl, hb4⟩; have s4 := Ht.out.drew.below hb4; have m4 := Hw.out.drew.on hb4)
        | (go_at_call 70; refine (HR.out _).mono ?_; rintro e w5 ⟨rfl, hb5⟩; have s5 := s4.below hb5; have m5 := m4.on hb5; obtain ⟨r0, r1, r2, r3⟩ := s5.2.2.cells)))
    all_goals
      obtain ⟨q0, q1⟩ := s5.2.2.back rn rd
      have HN := Lib.hid (((through (drewBelow H2.out HnB.out hb4) HnB.out hb5).setCell (p := ⟨B + 1 + 1, 0, none⟩) (by show B ≤ B + 1 + 1; omega) (.int .i64 rn)).setCell (p := ⟨B + 1 + 1, 1, none⟩) (by show B ≤ B + 1 + 1; omega) (.int .i64 rd))
      clear hb4 hb5 s4 s5 m4 m5
      go_wp2
      (try simp only [Exit.inBlock, Exit.then])
      refine bodyPost_ret (by simp [results, Try.results46, go_sem, q0, q1]; try rfl) rfl ?_
      exact ⟨rfl, by rw [HB.out]; exact HN.out⟩
end Go.Proofs.Ytjemcnlljjdmiaa.Fr
