/- The law: of a greater rate no operator needs less; by a greater cost of its own neither. -/
import Derived.Test.YtcechimilefihaaSoMY
import Derived.Test.YtcechimilefihaaZo
import Derived.Deep.RegionHeld3

namespace Go.Proofs.Ytcechimilefihaa.So
open Go.ChangeShapes Go.WideShapes Go.ChangeAt Go.RowKit M Sp Fr

theorem line_ok3 {rate most i o b b1 : Int} (hr : 1 ≤ rate ∧ rate ≤ 1048576) (hm : 1 ≤ most) (hi : 1 ≤ i ∧ i ≤ 1024) (ho : 0 ≤ o ∧ o ≤ 1024) (hb : 1 ≤ b ∧ b ≤ 1024) (hb1 : 1 ≤ b1 ∧ b1 ≤ 2048) : Ok 8 most (lineL rate) [(i, o, b, 0), (7, o, b1, 0), (i, 0, 9, 0)] [1, 1, 1] :=
  line_ok hr.1 hr.2 hm rfl rfl (by
    intro x hx
    simp only [List.mem_cons, List.not_mem_nil, or_false] at hx
    rcases hx with rfl | rfl | rfl <;> (unfold MeaOk; simp only; omega)) (by intro x hx; simp only [List.mem_cons, List.not_mem_nil, or_false] at hx; unfold In64; omega)
theorem line_in3 {i o b b1 : Int} (hi : 1 ≤ i ∧ i ≤ 1024) (ho : 0 ≤ o ∧ o ≤ 1024) (hb : 1 ≤ b ∧ b ≤ 1024) (hb1 : 1 ≤ b1 ∧ b1 ≤ 2048) : ∀ x ∈ ([(i, o, b, 0), (7, o, b1, 0), (i, 0, 9, 0)] : List Q4), In4 x := by
  intro x hx
  simp only [List.mem_cons, List.not_mem_nil, or_false] at hx
  rcases hx with rfl | rfl | rfl <;> (unfold In4 In64; simp only; omega)
theorem nine_keep {w Y : World} {p1 p2 p3 : Nat} {a0 a1 a2 d0 d1 d2 e0 e1 e2 : Value} (z1 : p1 < w.heap.size) (z2 : p2 < w.heap.size) (z3 : p3 < w.heap.size)
    (h : (w.cell? ⟨p1, 0, none⟩ = some a0 ∧ w.cell? ⟨p1, 1, none⟩ = some a1 ∧ w.cell? ⟨p1, 2, none⟩ = some a2) ∧ (w.cell? ⟨p2, 0, none⟩ = some d0 ∧ w.cell? ⟨p2, 1, none⟩ = some d1 ∧ w.cell? ⟨p2, 2, none⟩ = some d2) ∧ (w.cell? ⟨p3, 0, none⟩ = some e0 ∧ w.cell? ⟨p3, 1, none⟩ = some e1 ∧ w.cell? ⟨p3, 2, none⟩ = some e2))
    (hY : Below w.heap.size w Y) :
    (Y.cell? ⟨p1, 0, none⟩ = some a0 ∧ Y.cell? ⟨p1, 1, none⟩ = some a1 ∧ Y.cell? ⟨p1, 2, none⟩ = some a2) ∧ (Y.cell? ⟨p2, 0, none⟩ = some d0 ∧ Y.cell? ⟨p2, 1, none⟩ = some d1 ∧ Y.cell? ⟨p2, 2, none⟩ = some d2) ∧ (Y.cell? ⟨p3, 0, none⟩ = some e0 ∧ Y.cell? ⟨p3, 1, none⟩ = some e1 ∧ Y.cell? ⟨p3, 2, none⟩ = some e2) :=
  have f : ∀ {p k : Nat} {v : Value}, p < w.heap.size → w.cell? ⟨p, k, none⟩ = some v → Y.cell? ⟨p, k, none⟩ = some v := fun hp hv => (hY.cell hp).trans hv
  ⟨⟨f z1 h.1.1, f z1 h.1.2.1, f z1 h.1.2.2⟩, ⟨f z2 h.2.1.1, f z2 h.2.1.2.1, f z2 h.2.1.2.2⟩, ⟨f z3 h.2.2.1, f z3 h.2.2.2.1, f z3 h.2.2.2.2⟩⟩
set_option maxRecDepth 100000 in
set_option maxHeartbeats 4000000 in
theorem solveMore_any (rate more i o b most : Int) (w : World) : Calls Try.prog 7 #[.int .i64 rate, .int .i64 more, .int .i64 i, .int .i64 o, .int .i64 b, .int .i64 most] w fun e w' => e = .returned (.bool true) ∧ Below w.heap.size w w' := by
  by_cases h0 : rate < 1
  · have t0 : decide (rate < 1) = true := by simpa using h0
    clear h0
    (go_enter Try.func7, Try.ntmps7; go_wp2_with fail; refine (works_any _).mono ?_; rintro e w2 ⟨rfl, hb2⟩; go_wp2_with fail; go_returns; exact ⟨rfl, hb2⟩)
  by_cases h1 : more < 0
  · have t0 : decide (rate < 1) = false := by simpa using h0
    have t1 : decide (more < 0) = true := by simpa using h1
    clear h0 h1
    (go_enter Try.func7, Try.ntmps7; go_wp2_with fail; refine (works_any _).mono ?_; rintro e w2 ⟨rfl, hb2⟩; go_wp2_with fail; go_returns; exact ⟨rfl, hb2⟩)
  by_cases h2 : 1048576 < rate
  · have t0 : decide (rate < 1) = false := by simpa using h0
    have t1 : decide (more < 0) = false := by simpa using h1
    have t2 : decide (1048576 < rate) = true := by simpa using h2
    clear h0 h1 h2
    (go_enter Try.func7, Try.ntmps7; go_wp2_with fail; refine (works_any _).mono ?_; rintro e w2 ⟨rfl, hb2⟩; go_wp2_with fail; go_returns; exact ⟨rfl, hb2⟩)
  by_cases h3 : 1048576 - rate < more
  · have t0 : decide (rate < 1) = false := by simpa using h0
    have t1 : decide (more < 0) = false := by simpa using h1
    have t2 : decide (1048576 < rate) = false := by simpa using h2
    have t3 : decide (1048576 - rate < more) = true := by simpa using h3
    have hr0 : 1 ≤ rate := by omega
    have hr1 : rate ≤ 1048576 := by omega
    clear h0 h1 h2 h3
    (go_enter Try.func7, Try.ntmps7; go_wp2_with fail; refine (works_any _).mono ?_; rintro e w2 ⟨rfl, hb2⟩; go_wp2_with fail; go_returns; exact ⟨rfl, hb2⟩)
  by_cases h4 : i < 1
  · have t0 : decide (rate < 1) = false := by simpa using h0
    have t1 : decide (more < 0) = false := by simpa using h1
    have t2 : decide (1048576 < rate) = false := by simpa using h2
    have t3 : decide (1048576 - rate < more) = false := by simpa using h3
    have t4 : decide (i < 1) = true := by simpa using h4
    have hr0 : 1 ≤ rate := by omega
    have hr1 : rate ≤ 1048576 := by omega
    clear h0 h1 h2 h3 h4
    (go_enter Try.func7, Try.ntmps7; go_wp2_with fail; refine (works_any _).mono ?_; rintro e w2 ⟨rfl, hb2⟩; go_wp2_with fail; go_returns; exact ⟨rfl, hb2⟩)
  by_cases h5 : 1024 < i
  · have t0 : decide (rate < 1) = false := by simpa using h0
    have t1 : decide (more < 0) = false := by simpa using h1
    have t2 : decide (1048576 < rate) = false := by simpa using h2
    have t3 : decide (1048576 - rate < more) = false := by simpa using h3
    have t4 : decide (i < 1) = false := by simpa using h4
    have t5 : decide (1024 < i) = true := by simpa using h5
    have hr0 : 1 ≤ rate := by omega
    have hr1 : rate ≤ 1048576 := by omega
    clear h0 h1 h2 h3 h4 h5
    (go_enter Try.func7, Try.ntmps7; go_wp2_with fail; refine (works_any _).mono ?_; rintro e w2 ⟨rfl, hb2⟩; go_wp2_with fail; go_returns; exact ⟨rfl, hb2⟩)
  by_cases h6 : o < 0
  · have t0 : decide (rate < 1) = false := by simpa using h0
    have t1 : decide (more < 0) = false := by simpa using h1
    have t2 : decide (1048576 < rate) = false := by simpa using h2
    have t3 : decide (1048576 - rate < more) = false := by simpa using h3
    have t4 : decide (i < 1) = false := by simpa using h4
    have t5 : decide (1024 < i) = false := by simpa using h5
    have t6 : decide (o < 0) = true := by simpa using h6
    have hr0 : 1 ≤ rate := by omega
    have hr1 : rate ≤ 1048576 := by omega
    clear h0 h1 h2 h3 h4 h5 h6
    (go_enter Try.func7, Try.ntmps7; go_wp2_with fail; refine (works_any _).mono ?_; rintro e w2 ⟨rfl, hb2⟩; go_wp2_with fail; go_returns; exact ⟨rfl, hb2⟩)
  by_cases h7 : 1024 < o
  · have t0 : decide (rate < 1) = false := by simpa using h0
    have t1 : decide (more < 0) = false := by simpa using h1
    have t2 : decide (1048576 < rate) = false := by simpa using h2
    have t3 : decide (1048576 - rate < more) = false := by simpa using h3
    have t4 : decide (i < 1) = false := by simpa using h4
    have t5 : decide (1024 < i) = false := by simpa using h5
    have t6 : decide (o < 0) = false := by simpa using h6
    have t7 : decide (1024 < o) = true := by simpa using h7
    have hr0 : 1 ≤ rate := by omega
    have hr1 : rate ≤ 1048576 := by omega
    clear h0 h1 h2 h3 h4 h5 h6 h7
    (go_enter Try.func7, Try.ntmps7; go_wp2_with fail; refine (works_any _).mono ?_; rintro e w2 ⟨rfl, hb2⟩; go_wp2_with fail; go_returns; exact ⟨rfl, hb2⟩)
  by_cases h8 : b < 1
  · have t0 : decide (rate < 1) = false := by simpa using h0
    have t1 : decide (more < 0) = false := by simpa using h1
    have t2 : decide (1048576 < rate) = false := by simpa using h2
    have t3 : decide (1048576 - rate < more) = false := by simpa using h3
    have t4 : decide (i < 1) = false := by simpa using h4
    have t5 : decide (1024 < i) = false := by simpa using h5
    have t6 : decide (o < 0) = false := by simpa using h6
    have t7 : decide (1024 < o) = false := by simpa using h7
    have t8 : decide (b < 1) = true := by simpa using h8
    have hr0 : 1 ≤ rate := by omega
    have hr1 : rate ≤ 1048576 := by omega
    clear h0 h1 h2 h3 h4 h5 h6 h7 h8
    (go_enter Try.func7, Try.ntmps7; go_wp2_with fail; refine (works_any _).mono ?_; rintro e w2 ⟨rfl, hb2⟩; go_wp2_with fail; go_returns; exact ⟨rfl, hb2⟩)
  by_cases h9 : 1024 < b
  · have t0 : decide (rate < 1) = false := by simpa using h0
    have t1 : decide (more < 0) = false := by simpa using h1
    have t2 : decide (1048576 < rate) = false := by simpa using h2
    have t3 : decide (1048576 - rate < more) = false := by simpa using h3
    have t4 : decide (i < 1) = false := by simpa using h4
    have t5 : decide (1024 < i) = false := by simpa using h5
    have t6 : decide (o < 0) = false := by simpa using h6
    have t7 : decide (1024 < o) = false := by simpa using h7
    have t8 : decide (b < 1) = false := by simpa using h8
    have t9 : decide (1024 < b) = true := by simpa using h9
    have hr0 : 1 ≤ rate := by omega
    have hr1 : rate ≤ 1048576 := by omega
    clear h0 h1 h2 h3 h4 h5 h6 h7 h8 h9
    (go_enter Try.func7, Try.ntmps7; go_wp2_with fail; refine (works_any _).mono ?_; rintro e w2 ⟨rfl, hb2⟩; go_wp2_with fail; go_returns; exact ⟨rfl, hb2⟩)
  by_cases h10 : most < 1
  · have t0 : decide (rate < 1) = false := by simpa using h0
    have t1 : decide (more < 0) = false := by simpa using h1
    have t2 : decide (1048576 < rate) = false := by simpa using h2
    have t3 : decide (1048576 - rate < more) = false := by simpa using h3
    have t4 : decide (i < 1) = false := by simpa using h4
    have t5 : decide (1024 < i) = false := by simpa using h5
    have t6 : decide (o < 0) = false := by simpa using h6
    have t7 : decide (1024 < o) = false := by simpa using h7
    have t8 : decide (b < 1) = false := by simpa using h8
    have t9 : decide (1024 < b) = false := by simpa using h9
    have t10 : decide (most < 1) = true := by simpa using h10
    have hr0 : 1 ≤ rate := by omega
    have hr1 : rate ≤ 1048576 := by omega
    clear h0 h1 h2 h3 h4 h5 h6 h7 h8 h9 h10
    (go_enter Try.func7, Try.ntmps7; go_wp2_with fail; refine (works_any _).mono ?_; rintro e w2 ⟨rfl, hb2⟩; go_wp2_with fail; go_returns; exact ⟨rfl, hb2⟩)
  have t0 : decide (rate < 1) = false := by simpa using h0
  have t1 : decide (more < 0) = false := by simpa using h1
  have t2 : decide (1048576 < rate) = false := by simpa using h2
  have t3 : decide (1048576 - rate < more) = false := by simpa using h3
  have t4 : decide (i < 1) = false := by simpa using h4
  have t5 : decide (1024 < i) = false := by simpa using h5
  have t6 : decide (o < 0) = false := by simpa using h6
  have t7 : decide (1024 < o) = false := by simpa using h7
  have t8 : decide (b < 1) = false := by simpa using h8
  have t9 : decide (1024 < b) = false := by simpa using h9
  have t10 : decide (most < 1) = false := by simpa using h10
  have hr0 : 1 ≤ rate := by omega
  have hr1 : rate ≤ 1048576 := by omega
  have hm0 : 0 ≤ more := by omega
  have hm1 : rate + more ≤ 1048576 := by omega
  have hi : 1 ≤ i ∧ i ≤ 1024 := by omega
  have ho : 0 ≤ o ∧ o ≤ 1024 := by omega
  have hb : 1 ≤ b ∧ b ≤ 1024 := by omega
  have hmo : 1 ≤ most := by omega
  clear h0 h1 h2 h3 h4 h5 h6 h7 h8 h9 h10
  have ht0 : 0 ≤ more % 1000 := Int.emod_nonneg _ (by decide)
  have ht1 : more % 1000 < 1000 := Int.emod_lt_of_pos _ (by decide)
  obtain ⟨b1, hb1⟩ : ∃ x, b + more % 1000 = x := ⟨_, rfl⟩
  have hb2 : b ≤ b1 ∧ b1 ≤ 2048 := by omega
  obtain ⟨a0, a1, a2, d0, d1, d2, e1, s1, s2, s3, u0, u1, u2, u3⟩ := more_law (i := i) (o := o) (b := b) (b1 := b1) (most := most) hr0 hm0 hm1 hi ho hb hb2 hmo
  have HS1 := Lib.hid s1
  have HS2 := Lib.hid s2
  have HS3 := Lib.hid s3
  have HOK1 := Lib.hid (line_ok3 (most := most) (b1 := b) ⟨hr0, hr1⟩ hmo hi ho hb (by omega))
  have HOK2 := Lib.hid (line_ok3 (rate := rate + more) (most := most) (b1 := b) ⟨by omega, hm1⟩ hmo hi ho hb (by omega))
  have HOK3 := Lib.hid (line_ok3 (most := most) (b1 := b1) ⟨hr0, hr1⟩ hmo hi ho hb (by omega))
  have HQ1 := Lib.hid (line_in3 (b1 := b) hi ho hb (by omega))
  have HQ2 := HQ1
  have HQ3 := Lib.hid (line_in3 (b1 := b1) hi ho hb (by omega))
  have HL1 := Lib.hid (fun X => line_any rate X (by unfold In64; omega))
  have HL2 := Lib.hid (fun X => line_any (rate + more) X (by unfold In64; omega))
  have HL3 := HL1
  clear s1 s2 s3
  have T0 := (Bs.nil w w.heap.size).alloc (Nat.le_refl _) (quadCells [(i, o, b, 0), (7, o, b, 0), (i, 0, 9, 0)]).toArray 55 rfl
  obtain ⟨X1, hX⟩ : ∃ X, w.alloc (.cells (quadCells [(i, o, b, 0), (7, o, b, 0), (i, 0, 9, 0)]).toArray 55) = X := ⟨_, rfl⟩
  rw [hX] at T0
  have hX' : w.alloc (.cells #[.int .i64 i, .int .i64 o, .int .i64 b, .int .i64 0, .int .i64 7, .int .i64 o, .int .i64 b, .int .i64 0, .int .i64 i, .int .i64 0, .int .i64 9, .int .i64 0] 55) = X1 := hX
  have HX := Lib.hid hX'
  clear hX hX'
  obtain ⟨bi, hg⟩ : ∃ k, X1.heap.size = k := ⟨_, rfl⟩
  obtain ⟨X2, hX⟩ : ∃ X, X1.alloc (.cells (intCells [1, 1, 1]) 3) = X := ⟨_, rfl⟩
  have T1 := T0.alloc (Nat.le_refl _) (intCells [1, 1, 1]) 3 hg
  rw [hX] at T1
  have T := Lib.hid T1
  have hX' : X1.alloc (.cells #[.int .i64 1, .int .i64 1, .int .i64 1] 3) = X2 := hX
  have HX2 := Lib.hid hX'
  have HG := Lib.hid hg
  have HNE := Lib.hid (show w.heap.size < bi from hg ▸ T0.g0.lt)
  clear T0 T1 hX hX' hg
  go_enter Try.func7, Try.ntmps7
  go_upto_region 4 with (fail)
  rw [HX.out]
  clear t0 t1 t2 t3 t4 t5 t6 t7 t8 t9 t10
  go_upto_region 5 with (fail)
  rw [HX2.out, HG.out]
  go_wp2_with fail
  refine (HL1.out _).mono ?_
  rintro e w1 ⟨A1, c1, q1, rfl, hio, hb1⟩
  have T1 := Lib.hid (T.out.step (Nat.le_refl _) hb1)
  (clear T; have T := T1; clear T1)
  have HIO := Lib.hid hio
  skip
  clear hb1 hio
  have HB1 := Lib.hid (show w.heap.size < w1.heap.size from T.out.g1.lt)
  have HS := Lib.hid (solve_any 8 most A1 (some ⟨w.heap.size, 0, none⟩) (some ⟨bi, 0, none⟩) c1 3 3 (lineL rate) q1 [(i, o, b, 0), (7, o, b, 0), (i, 0, 9, 0)] [1, 1, 1] w1 w1.heap.size (Nat.le_refl _) HIO.out (quads_blk T.out.g1 (by simp) HQ1.out) (ints_blk T.out.g0 (by decide) (by unfold In64; decide)) HOK1.out)
  go_wp2_with fail
  refine HS.out.mono ?_
  rintro e w2 hr
  obtain ⟨R1, k1, rfl, own, hb2⟩ := hr.as HS1.out.1 HS1.out.2
  have T1 := Lib.hid (T.out.step (Nat.le_refl _) hb2)
  (clear T; have T := T1; clear T1)
  skip
  have HO1 := Lib.hid own
  clear hr HIO HS own hb2
  go_wp2_with fail
  refine (HL2.out _).mono ?_
  rintro e w3 ⟨A2, c2, q2, rfl, hio, hb1⟩
  have T1 := Lib.hid (T.out.step (Nat.le_refl _) hb1)
  (clear T; have T := T1; clear T1)
  have HIO := Lib.hid hio
  have X := Lib.hid (HO1.out.below hb1); clear HO1; have HO1 := X; clear X
  clear hb1 hio
  have HB3 := Lib.hid (show w.heap.size < w3.heap.size from T.out.g1.lt)
  have HS := Lib.hid (solve_any 8 most A2 (some ⟨w.heap.size, 0, none⟩) (some ⟨bi, 0, none⟩) c2 3 3 (lineL (rate + more)) q2 [(i, o, b, 0), (7, o, b, 0), (i, 0, 9, 0)] [1, 1, 1] w3 w3.heap.size (Nat.le_refl _) HIO.out (quads_blk T.out.g1 (by simp) HQ2.out) (ints_blk T.out.g0 (by decide) (by unfold In64; decide)) HOK2.out)
  go_wp2_with fail
  refine HS.out.mono ?_
  rintro e w4 hr
  obtain ⟨R2, k2, rfl, own, hb2⟩ := hr.as HS2.out.1 HS2.out.2
  have T1 := Lib.hid (T.out.step (Nat.le_refl _) hb2)
  (clear T; have T := T1; clear T1)
  have X := Lib.hid (HO1.out.below hb2); clear HO1; have HO1 := X; clear X
  have HO2 := Lib.hid own
  clear hr HIO HS own hb2
  have hM : w.heap.size < w4.heap.size := T.out.g1.lt
  have m6 : w4.cell? ⟨w.heap.size, 6, none⟩ = some (.int .i64 b) := T.out.g1.cell 6
  have f6 := T.out.g1.frozen 6
  have hne : bi ≠ w.heap.size := by have := HNE.out; omega
  have HW2 : Hid (Bs w w.heap.size [(bi, 3, (intCells [1, 1, 1])), (w.heap.size, 55, (quadCells [(i, o, b, 0), (7, o, b1, 0), (i, 0, 9, 0)]).toArray)] (w4.setCell ⟨w.heap.size, 6, none⟩ (.int .i64 b1))) :=
    ⟨T.out.1.setCell (Nat.le_refl _) _, fun z hz => by
      rcases (show z = (bi, 3, (intCells [1, 1, 1])) ∨ z = (w.heap.size, 55, (quadCells [(i, o, b, 0), (7, o, b1, 0), (i, 0, 9, 0)]).toArray) by simpa using hz) with rfl | rfl
      · exact T.out.g0.far hne _
      · exact T.out.g1.set_ 6 (.int .i64 b1)⟩
  have X := Lib.hid (HO1.out.far (a := ⟨w.heap.size, 6, none⟩) (fun e => by have := (HO1.out.blk _ e).1; have := HB1.out; simp only at *; omega) (.int .i64 b1)); clear HO1; have HO1 := X; clear X
  have X := Lib.hid (HO2.out.far (a := ⟨w.heap.size, 6, none⟩) (fun e => by have := (HO2.out.blk _ e).1; have := HB3.out; simp only at *; omega) (.int .i64 b1)); clear HO2; have HO2 := X; clear X
  clear T
  have T := HW2
  clear HW2 hne
  go_upto_region 8 with (fail)
  (try rw [hb1])
  generalize w4.setCell ⟨w.heap.size, 6, none⟩ (.int .i64 b1) = W4 at *
  clear m6 f6 hM hb1
  go_wp2_with fail
  refine (HL3.out _).mono ?_
  rintro e w5 ⟨A3, c3, q3, rfl, hio, hb1⟩
  have T1 := Lib.hid (T.out.step (Nat.le_refl _) hb1)
  (clear T; have T := T1; clear T1)
  have HIO := Lib.hid hio
  have X := Lib.hid (HO1.out.below hb1); clear HO1; have HO1 := X; clear X
  have X := Lib.hid (HO2.out.below hb1); clear HO2; have HO2 := X; clear X
  clear hb1 hio
  have HS := Lib.hid (solve_any 8 most A3 (some ⟨w.heap.size, 0, none⟩) (some ⟨bi, 0, none⟩) c3 3 3 (lineL rate) q3 [(i, o, b, 0), (7, o, b1, 0), (i, 0, 9, 0)] [1, 1, 1] w5 w5.heap.size (Nat.le_refl _) HIO.out (quads_blk T.out.g1 (by simp) HQ3.out) (ints_blk T.out.g0 (by decide) (by unfold In64; decide)) HOK3.out)
  go_wp2_with fail
  refine HS.out.mono ?_
  rintro e w6 hr
  obtain ⟨R3, k3, rfl, own, hb2⟩ := hr.as HS3.out.1 HS3.out.2
  have T1 := Lib.hid (T.out.step (Nat.le_refl _) hb2)
  (clear T; have T := T1; clear T1)
  have X := Lib.hid (HO1.out.below hb2); clear HO1; have HO1 := X; clear X
  have X := Lib.hid (HO2.out.below hb2); clear HO2; have HO2 := X; clear X
  have HO3 := Lib.hid own
  clear hr HIO HS own hb2
  obtain ⟨p1, o1, x10, rfl, -, HV, -, l10⟩ := Sp.ints_at HO1.out.ints (k := 0) (by simp)
  obtain ⟨-, rfl, -⟩ := HO1.out.ints_own rfl
  obtain rfl : a0 = x10 := HV.out
  clear HV
  obtain ⟨x11, HV, -, l11⟩ := Sp.ints_get HO1.out.ints (k := 1) (by simp)
  obtain rfl : a1 = x11 := HV.out
  clear HV
  obtain ⟨x12, HV, -, l12⟩ := Sp.ints_get HO1.out.ints (k := 2) (by simp)
  obtain rfl : a2 = x12 := HV.out
  clear HV
  obtain ⟨p2, o2, x20, rfl, -, HV, -, l20⟩ := Sp.ints_at HO2.out.ints (k := 0) (by simp)
  obtain ⟨-, rfl, -⟩ := HO2.out.ints_own rfl
  obtain rfl : d0 = x20 := HV.out
  clear HV
  obtain ⟨x21, HV, -, l21⟩ := Sp.ints_get HO2.out.ints (k := 1) (by simp)
  obtain rfl : d1 = x21 := HV.out
  clear HV
  obtain ⟨x22, HV, -, l22⟩ := Sp.ints_get HO2.out.ints (k := 2) (by simp)
  obtain rfl : d2 = x22 := HV.out
  clear HV
  obtain ⟨p3, o3, x30, rfl, -, HV, -, l30⟩ := Sp.ints_at HO3.out.ints (k := 0) (by simp)
  obtain ⟨-, rfl, -⟩ := HO3.out.ints_own rfl
  obtain rfl : a0 = x30 := HV.out
  clear HV
  obtain ⟨x31, HV, -, l31⟩ := Sp.ints_get HO3.out.ints (k := 1) (by simp)
  obtain rfl : e1 = x31 := HV.out
  clear HV
  obtain ⟨x32, HV, -, l32⟩ := Sp.ints_get HO3.out.ints (k := 2) (by simp)
  obtain rfl : a2 = x32 := HV.out
  clear HV
  simp only [Nat.zero_add] at *
  have HT := Lib.hid T.out.1
  have z1 : p1 < w6.heap.size := (HO1.out.blk _ rfl).2
  have z2 : p2 < w6.heap.size := (HO2.out.blk _ rfl).2
  have z3 : p3 < w6.heap.size := (HO3.out.blk _ rfl).2
  clear T HO1 HO2 HO3 HS1 HS2 HS3 HOK1 HOK2 HOK3 HQ1 HQ2 HQ3 HL1 HL2 HL3
  go_upto_region 11 with (fail)
  go_region_held3 (fun w' => (w'.cell? ⟨p1, 0, none⟩ = some (.int .i64 a0) ∧ w'.cell? ⟨p1, 1, none⟩ = some (.int .i64 a1) ∧ w'.cell? ⟨p1, 2, none⟩ = some (.int .i64 a2)) ∧ (w'.cell? ⟨p2, 0, none⟩ = some (.int .i64 d0) ∧ w'.cell? ⟨p2, 1, none⟩ = some (.int .i64 d1) ∧ w'.cell? ⟨p2, 2, none⟩ = some (.int .i64 d2)) ∧ (w'.cell? ⟨p3, 0, none⟩ = some (.int .i64 a0) ∧ w'.cell? ⟨p3, 1, none⟩ = some (.int .i64 e1) ∧ w'.cell? ⟨p3, 2, none⟩ = some (.int .i64 a2)))
    (first | exact ⟨⟨l10, l11, l12⟩, ⟨l20, l21, l22⟩, ⟨l30, l31, l32⟩⟩ | exact nine_keep z1 z2 z3 ⟨⟨l10, l11, l12⟩, ⟨l20, l21, l22⟩, ⟨l30, l31, l32⟩⟩ (kB0 hb3))
    ((first | (go_at_call 43; refine (works_any _).mono ?_; rintro e w7 ⟨rfl, hb3⟩)))
  have HB3 := Lib.hid (through HT.out (Nat.le_refl _) (kB0 hb3))
  clear hb3
  go_wp2_with fail
  go_returns
  exact ⟨rfl, HB3.out⟩
end Go.Proofs.Ytcechimilefihaa.So
