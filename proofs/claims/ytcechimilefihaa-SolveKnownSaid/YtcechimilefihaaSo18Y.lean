/- The law: what a source needs is enough for its rate, and one less is not. -/
import Derived.Test.YtcechimilefihaaSoEY

namespace Go.Proofs.Ytcechimilefihaa.So
open Go.ChangeShapes Go.WideShapes Go.ChangeAt Go.RowKit M Sp Fr

set_option maxRecDepth 100000 in
set_option maxHeartbeats 4000000 in
theorem solveEnough_any (rate i b most : Int) (w : World) : Calls Try.prog 6 #[.int .i64 rate, .int .i64 i, .int .i64 b, .int .i64 most] w fun e w' => e = .returned (.bool true) ∧ Below w.heap.size w w' := by
  by_cases h0 : rate < 1
  · have t0 : decide (rate < 1) = true := by simpa using h0
    clear h0
    (go_enter Try.func6, Try.ntmps6; go_wp2_with fail; refine (works_any _).mono ?_; rintro e w2 ⟨rfl, hb2⟩; go_wp2_with fail; go_returns; exact ⟨rfl, hb2⟩)
  by_cases h1 : 1048576 < rate
  · have t0 : decide (rate < 1) = false := by simpa using h0
    have t1 : decide (1048576 < rate) = true := by simpa using h1
    clear h0 h1
    (go_enter Try.func6, Try.ntmps6; go_wp2_with fail; refine (works_any _).mono ?_; rintro e w2 ⟨rfl, hb2⟩; go_wp2_with fail; go_returns; exact ⟨rfl, hb2⟩)
  by_cases h2 : i < 1
  · have t0 : decide (rate < 1) = false := by simpa using h0
    have t1 : decide (1048576 < rate) = false := by simpa using h1
    have t2 : decide (i < 1) = true := by simpa using h2
    clear h0 h1 h2
    (go_enter Try.func6, Try.ntmps6; go_wp2_with fail; refine (works_any _).mono ?_; rintro e w2 ⟨rfl, hb2⟩; go_wp2_with fail; go_returns; exact ⟨rfl, hb2⟩)
  by_cases h3 : 1048576 < i
  · have t0 : decide (rate < 1) = false := by simpa using h0
    have t1 : decide (1048576 < rate) = false := by simpa using h1
    have t2 : decide (i < 1) = false := by simpa using h2
    have t3 : decide (1048576 < i) = true := by simpa using h3
    clear h0 h1 h2 h3
    (go_enter Try.func6, Try.ntmps6; go_wp2_with fail; refine (works_any _).mono ?_; rintro e w2 ⟨rfl, hb2⟩; go_wp2_with fail; go_returns; exact ⟨rfl, hb2⟩)
  by_cases h4 : b < 1
  · have t0 : decide (rate < 1) = false := by simpa using h0
    have t1 : decide (1048576 < rate) = false := by simpa using h1
    have t2 : decide (i < 1) = false := by simpa using h2
    have t3 : decide (1048576 < i) = false := by simpa using h3
    have t4 : decide (b < 1) = true := by simpa using h4
    clear h0 h1 h2 h3 h4
    (go_enter Try.func6, Try.ntmps6; go_wp2_with fail; refine (works_any _).mono ?_; rintro e w2 ⟨rfl, hb2⟩; go_wp2_with fail; go_returns; exact ⟨rfl, hb2⟩)
  by_cases h5 : 1048576 < b
  · have t0 : decide (rate < 1) = false := by simpa using h0
    have t1 : decide (1048576 < rate) = false := by simpa using h1
    have t2 : decide (i < 1) = false := by simpa using h2
    have t3 : decide (1048576 < i) = false := by simpa using h3
    have t4 : decide (b < 1) = false := by simpa using h4
    have t5 : decide (1048576 < b) = true := by simpa using h5
    clear h0 h1 h2 h3 h4 h5
    (go_enter Try.func6, Try.ntmps6; go_wp2_with fail; refine (works_any _).mono ?_; rintro e w2 ⟨rfl, hb2⟩; go_wp2_with fail; go_returns; exact ⟨rfl, hb2⟩)
  by_cases h6 : most < 1
  · have t0 : decide (rate < 1) = false := by simpa using h0
    have t1 : decide (1048576 < rate) = false := by simpa using h1
    have t2 : decide (i < 1) = false := by simpa using h2
    have t3 : decide (1048576 < i) = false := by simpa using h3
    have t4 : decide (b < 1) = false := by simpa using h4
    have t5 : decide (1048576 < b) = false := by simpa using h5
    have t6 : decide (most < 1) = true := by simpa using h6
    clear h0 h1 h2 h3 h4 h5 h6
    (go_enter Try.func6, Try.ntmps6; go_wp2_with fail; refine (works_any _).mono ?_; rintro e w2 ⟨rfl, hb2⟩; go_wp2_with fail; go_returns; exact ⟨rfl, hb2⟩)
  have t0 : decide (rate < 1) = false := by simpa using h0
  have t1 : decide (1048576 < rate) = false := by simpa using h1
  have t2 : decide (i < 1) = false := by simpa using h2
  have t3 : decide (1048576 < i) = false := by simpa using h3
  have t4 : decide (b < 1) = false := by simpa using h4
  have t5 : decide (1048576 < b) = false := by simpa using h5
  have t6 : decide (most < 1) = false := by simpa using h6
  obtain ⟨x1, x2, hs1, hs2⟩ := enough_sol (r := rate.toNat) (i := i.toNat) (b := b.toNat) (most := most) (by omega) (by omega) (by omega)
  have er : (rate.toNat : Int) = rate := Int.toNat_of_nonneg (by omega)
  have ei : (i.toNat : Int) = i := Int.toNat_of_nonneg (by omega)
  have eb : (b.toNat : Int) = b := Int.toNat_of_nonneg (by omega)
  obtain ⟨n, hn, n1, n2, n3, n4⟩ := enough_law (r := rate) (i := i) (b := b) (most := most) (by omega) (by omega)
  unfold enMs at hs1 hs2
  rw [er, ei, eb, ← hn] at hs1
  rw [er, ei, eb] at hs2
  have hms : ([(i, i, b, ((0 : Nat) : Int)), (((1 : Nat) : Int), ((1 : Nat) : Int), ((1 : Nat) : Int), ((0 : Nat) : Int)), (((1 : Nat) : Int), ((0 : Nat) : Int), ((1 : Nat) : Int), ((0 : Nat) : Int))] : List Q4) = [(i, i, b, 0), (1, 1, 1, 0), (1, 0, 1, 0)] := rfl
  rw [hms] at hs1 hs2
  have hok : Ok 8 most (lineL rate) [(i, i, b, 0), (1, 1, 1, 0), (1, 0, 1, 0)] [1, 1, 1] := line_ok (by omega) (by omega) (by omega) rfl rfl (by
    intro x hx
    simp only [List.mem_cons, List.not_mem_nil, or_false] at hx
    rcases hx with rfl | rfl | rfl <;> (unfold MeaOk; simp only; omega)) (by intro x hx; simp only [List.mem_cons, List.not_mem_nil, or_false] at hx; unfold In64; omega)
  have p1 : 0 ≤ rate * b := Int.mul_nonneg (by omega) (by omega)
  have p2 : rate * b ≤ 1048576 * 1048576 := Int.mul_le_mul (by omega) (by omega) (by omega) (by omega)
  have p3 : 0 ≤ n * 100 * i := Int.mul_nonneg (by omega) (by omega)
  have p4 : n * 100 * i ≤ 800 * 1048576 := Int.mul_le_mul (by omega) (by omega) (by omega) (by omega)
  have p5 : 0 ≤ (n - 1) * 100 * i := Int.mul_nonneg (by omega) (by omega)
  have p6 : (n - 1) * 100 * i ≤ 800 * 1048576 := Int.mul_le_mul (by omega) (by omega) (by omega) (by omega)
  have HS1 := Lib.hid hs1
  have HS2 := Lib.hid hs2
  have HOK := Lib.hid hok
  have HQ : Hid (∀ x ∈ ([(i, i, b, 0), (1, 1, 1, 0), (1, 0, 1, 0)] : List Q4), In4 x) := by
    show ∀ x ∈ ([(i, i, b, 0), (1, 1, 1, 0), (1, 0, 1, 0)] : List Q4), In4 x
    intro x hx
    simp only [List.mem_cons, List.not_mem_nil, or_false] at hx
    rcases hx with rfl | rfl | rfl <;> (unfold In4 In64; simp only; omega)
  have HLN := Lib.hid (fun X => line_any rate X (by unfold In64; omega))
  have HN3 := Lib.hid n3
  have HN4 := Lib.hid n4
  have hr0 : 1 ≤ rate := by omega
  have hr1 : rate ≤ 1048576 := by omega
  have hi0 : 1 ≤ i := by omega
  have hi1 : i ≤ 1048576 := by omega
  have hb0 : 1 ≤ b := by omega
  have hb1 : b ≤ 1048576 := by omega
  have hm0 : 1 ≤ most := by omega
  clear hs1 hs2 hok hn n3 n4 er ei eb h0 h1 h2 h3 h4 h5 h6 hms
  have T0 := (Bs.nil w w.heap.size).alloc (Nat.le_refl _) (quadCells [(i, i, b, 0), (1, 1, 1, 0), (1, 0, 1, 0)]).toArray 55 rfl
  obtain ⟨X1, hX⟩ : ∃ X, w.alloc (.cells (quadCells [(i, i, b, 0), (1, 1, 1, 0), (1, 0, 1, 0)]).toArray 55) = X := ⟨_, rfl⟩
  rw [hX] at T0
  have T := Lib.hid T0
  clear T0
  have hX' : w.alloc (.cells #[.int .i64 i, .int .i64 i, .int .i64 b, .int .i64 0, .int .i64 1, .int .i64 1, .int .i64 1, .int .i64 0, .int .i64 1, .int .i64 0, .int .i64 1, .int .i64 0] 55) = X1 := hX
  have HX := Lib.hid hX'
  clear hX hX'
  go_enter Try.func6, Try.ntmps6
  go_upto_region 4 with (fail)
  rw [HX.out]
  clear t0 t1 t2 t3 t4 t5 t6
  go_wp2_with fail
  refine (HLN.out _).mono ?_
  rintro e w1 ⟨A1, c1, q1, rfl, hio, hb1⟩
  have T1 := Lib.hid (T.out.step (Nat.le_refl _) hb1)
  clear T
  have T := T1
  clear T1
  have HIO := Lib.hid hio
  clear hb1 hio
  obtain ⟨bi, hg⟩ : ∃ k, w1.heap.size = k := ⟨_, rfl⟩
  obtain ⟨X2, hX⟩ : ∃ X, w1.alloc (.cells (intCells [1, 1, 1]) 3) = X := ⟨_, rfl⟩
  have T1 := Lib.hid (T.out.alloc (Nat.le_refl _) (intCells [1, 1, 1]) 3 hg)
  clear T
  have T := T1
  clear T1
  rw [hX] at T
  have HBX : Hid (Below w1.heap.size w1 X2) := hX ▸ (Below.refl _ _).alloc (Nat.le_refl _) _
  have HS := Lib.hid (solve_any 8 most A1 (some ⟨w.heap.size, 0, none⟩) (some ⟨bi, 0, none⟩) c1 3 3 (lineL rate) q1 [(i, i, b, 0), (1, 1, 1, 0), (1, 0, 1, 0)] [1, 1, 1] X2 X2.heap.size (Nat.le_refl _) ((HIO.out.below HBX.out).more HBX.out.size) (quads_blk T.out.g1 (by simp) HQ.out) (ints_blk T.out.g0 (by decide) (by unfold In64; decide)) HOK.out)
  have hX' : w1.alloc (.cells #[.int .i64 1, .int .i64 1, .int .i64 1] 3) = X2 := hX
  clear hX
  go_wp2_with fail
  (try rw [hX'])
  (try rw [hg])
  refine HS.out.mono ?_
  rintro e w2 hr
  obtain ⟨A2, c2, rfl, own2, hb2⟩ := hr.as HS1.out HS2.out
  have HB2 := Lib.hid (through T.out.1 (Nat.le_refl _) hb2)
  obtain ⟨b2, o2, v2, rfl, -, HV2, -, d0⟩ := Sp.ints_at own2.ints (k := 0) (by simp)
  obtain ⟨-, rfl, -⟩ := own2.ints_own rfl
  obtain rfl : n = v2 := HV2.out
  clear hr hX' hg HIO HBX HS T own2 hb2 HV2
  simp only [Nat.zero_add] at d0
  by_cases hnl : n < min most 8
  · have hq := HN3.out hnl
    have tq : decide (n * 100 * i < rate * b) = false := by simpa using hq
    by_cases hn1 : n = 1
    · subst hn1
      go_wp2_with fail
      (refine (works_any _).mono ?_; rintro e w3 ⟨rfl, hb3⟩; have HB3 := Lib.hid (through HB2.out (Nat.le_refl _) hb3); clear hb3; go_wp2_with fail; go_returns; exact ⟨rfl, HB3.out⟩)
    · have tn : (n == 1) = false := by simpa using hn1
      have hq2 : (n - 1) * 100 * i < rate * b := by rcases HN4.out with h | h; exact absurd h hn1; exact h
      have tq2 : decide ((n - 1) * 100 * i < rate * b) = true := by simpa using hq2
      clear hn1 hq2 hq
      go_wp2_with fail
      (refine (works_any _).mono ?_; rintro e w3 ⟨rfl, hb3⟩; have HB3 := Lib.hid (through HB2.out (Nat.le_refl _) hb3); clear hb3; go_wp2_with fail; go_returns; exact ⟨rfl, HB3.out⟩)
  · by_cases hn1 : n = 1
    · subst hn1
      go_wp2_with fail
      (refine (works_any _).mono ?_; rintro e w3 ⟨rfl, hb3⟩; have HB3 := Lib.hid (through HB2.out (Nat.le_refl _) hb3); clear hb3; go_wp2_with fail; go_returns; exact ⟨rfl, HB3.out⟩)
    · have tn : (n == 1) = false := by simpa using hn1
      have hq2 : (n - 1) * 100 * i < rate * b := by rcases HN4.out with h | h; exact absurd h hn1; exact h
      have tq2 : decide ((n - 1) * 100 * i < rate * b) = true := by simpa using hq2
      clear hn1 hq2
      go_wp2_with fail
      (refine (works_any _).mono ?_; rintro e w3 ⟨rfl, hb3⟩; have HB3 := Lib.hid (through HB2.out (Nat.le_refl _) hb3); clear hb3; go_wp2_with fail; go_returns; exact ⟨rfl, HB3.out⟩)
end Go.Proofs.Ytcechimilefihaa.So
