/- Numbers of 128 bits, as the document's functions reckon them. Numbers of 128 bits, as the document's functions reckon them: less, minus, a bit. Numbers of 128 bits, as the document's functions reckon them: a product, bit by bit. Division of 128 bits by 64 where something is above: two digits. Division of 128 bits by 64, whole; sums with a carry. -/
import Derived.Test.YtcechimilefihaaZb
import Derived.RegionTactic
import Derived.Deep.QuietTactic
import Derived.BigQuiet
import Derived.Outline
import Derived.Deep.DeepCutAuto
import Derived.Deep.CutBlock
import Derived.Deep.LoopGhost
import Derived.Laws.Externs

namespace Go.Proofs.Ytcechimilefihaa.Fr
open Go.ChangeShapes Go.WideShapes Go.ChangeAt Go.RowKit M

/-- a number of 128 bits, as a value -/
def wv (x : Nat) : Value := .agg #[.int .u64 (hiW x), .int .u64 (loW x)]

theorem plus_any (x y : Nat) (w : World) (hx : Lt128 x) (hy : Lt128 y) :
    Calls Try.prog 113 #[.agg #[.int .u64 (hiW x), .int .u64 (loW x)], .agg #[.int .u64 (hiW y), .int .u64 (loW y)]] w fun e w' => e = .returned (.agg #[.int .u64 (hiW (m128 (x + y))), .int .u64 (loW (m128 (x + y)))]) ∧ Below w.heap.size w w' := by
  have bx := hi_bd hx
  have bx2 := lo_bd x
  have by1 := hi_bd hy
  have by2 := lo_bd y
  have E1 := plus_lo x y
  by_cases h : loW (m128 (x + y)) < loW x
  · have E2 := Lib.hid (plus_carry h)
    go_enter Try.func113, Try.ntmps113
    go_wp2
    go_returns
    exact ⟨by first | rfl | (rw [E2.out]), by go_grown⟩
  · have E2 := plus_hi h
    go_enter Try.func113, Try.ntmps113
    go_wp2
    go_returns
    exact ⟨rfl, by go_grown⟩
end Go.Proofs.Ytcechimilefihaa.Fr

namespace Go.Proofs.Ytcechimilefihaa.Fr
open Go.ChangeShapes Go.WideShapes Go.ChangeAt Go.RowKit M

theorem less_any (x y : Nat) (w : World) :
    Calls Try.prog 114 #[.agg #[.int .u64 (hiW x), .int .u64 (loW x)], .agg #[.int .u64 (hiW y), .int .u64 (loW y)]] w fun e w' => e = .returned (.bool (decide (x < y))) ∧ Below w.heap.size w w' := by
  have H := @less_iff x y
  rcases (show hiW x < hiW y ∨ (hiW x = hiW y ∧ loW x < loW y) ∨ (hiW x = hiW y ∧ ¬ loW x < loW y) ∨ hiW y < hiW x by omega) with h | ⟨h, h1⟩ | ⟨h, h1⟩ | h
  · have E := Lib.hid (decide_eq_true (H.2 (.inl h)))
    clear H
    go_enter Try.func114, Try.ntmps114
    go_wp2
    go_returns
    exact ⟨by rw [E.out]; rfl, by go_grown⟩
  · have E := Lib.hid (decide_eq_true (H.2 (.inr ⟨h, h1⟩)))
    have d1 : decide (hiW x < hiW y) = false := decide_eq_false (by omega)
    have d2 : (hiW x == hiW y) = true := by rw [h]; exact beq_self_eq_true _
    clear H h
    go_enter Try.func114, Try.ntmps114
    go_wp2
    go_returns
    exact ⟨by rw [E.out]; rfl, by go_grown⟩
  · have E := Lib.hid (decide_eq_false (fun hh => by rcases H.1 hh with k | k <;> omega) : decide (x < y) = false)
    have d1 : decide (hiW x < hiW y) = false := decide_eq_false (by omega)
    have d2 : (hiW x == hiW y) = true := by rw [h]; exact beq_self_eq_true _
    have d3 : decide (loW x < loW y) = false := decide_eq_false h1
    clear H h
    go_enter Try.func114, Try.ntmps114
    go_wp2
    go_returns
    exact ⟨by rw [E.out]; rfl, by go_grown⟩
  · have E := Lib.hid (decide_eq_false (fun hh => by rcases H.1 hh with k | k <;> omega) : decide (x < y) = false)
    have d1 : decide (hiW x < hiW y) = false := decide_eq_false (by omega)
    have d2 : (hiW x == hiW y) = false := by rw [beq_eq_false_iff_ne]; omega
    clear H
    go_enter Try.func114, Try.ntmps114
    go_wp2
    go_returns
    exact ⟨by rw [E.out]; rfl, by go_grown⟩

theorem minus_any (x y : Nat) (w : World) (hx : Lt128 x) (hy : y ≤ x) :
    Calls Try.prog 121 #[.agg #[.int .u64 (hiW x), .int .u64 (loW x)], .agg #[.int .u64 (hiW y), .int .u64 (loW y)]] w fun e w' => e = .returned (.agg #[.int .u64 (hiW (x - y)), .int .u64 (loW (x - y))]) ∧ Below w.heap.size w w' := by
  have E1 := minus_lo hy
  by_cases h : loW x < loW y
  · have E2 := Lib.hid (minus_borrow hx hy h)
    go_enter Try.func121, Try.ntmps121
    go_wp2
    go_returns
    exact ⟨by first | rfl | (rw [E2.out]), by go_grown⟩
  · have E2 := minus_hi hx hy h
    go_enter Try.func121, Try.ntmps121
    go_wp2
    go_returns
    exact ⟨rfl, by go_grown⟩

theorem bit_hi {a k : Nat} (h : 64 ≤ k) : hiW a / 2 ^ (k - 64) % 2 = ((a / 2 ^ k % 2 : Nat) : Int) := by
  unfold hiW
  have e : a / 2 ^ k = a / 18446744073709551616 / 2 ^ (k - 64) := by
    rw [Nat.div_div_eq_div_mul, show (18446744073709551616 : Nat) = 2 ^ 64 from rfl, ← Nat.pow_add]; congr 2; omega
  rw [e]
  generalize a / 18446744073709551616 = b
  rw [Int.natCast_emod, Int.natCast_ediv, Int.natCast_pow]; rfl
theorem bit_lo {a k : Nat} (h : k < 64) : loW a / 2 ^ k % 2 = ((a / 2 ^ k % 2 : Nat) : Int) := by
  unfold loW
  have e : a % 18446744073709551616 / 2 ^ k % 2 = a / 2 ^ k % 2 := by
    have p : (18446744073709551616 : Nat) = 2 ^ k * 2 ^ (64 - k) := by rw [← Nat.pow_add, show k + (64 - k) = 64 by omega]
    rw [p, Nat.mod_mul_right_div_self]
    refine Nat.mod_mod_of_dvd _ ?_
    refine ⟨2 ^ (64 - k - 1), ?_⟩
    rw [Nat.mul_comm, ← Nat.pow_succ]; congr 1; omega
  rw [← e]
  generalize a % 18446744073709551616 = b
  rw [Int.natCast_emod, Int.natCast_ediv, Int.natCast_pow]; rfl

theorem bit_any (a k : Nat) (w : World) (ha : Lt128 a) (hk : k < 128) :
    Calls Try.prog 120 #[.agg #[.int .u64 (hiW a), .int .u64 (loW a)], .int .i64 (k : Int)] w fun e w' => e = .returned (.int .u64 ((a / 2 ^ k % 2 : Nat) : Int)) ∧ Below w.heap.size w w' := by
  have b1 := hi_bd ha
  have b2 := lo_bd a
  by_cases h : 64 ≤ k
  · have E := Lib.hid (bit_hi (a := a) h)
    have n0 : 0 ≤ hiW a / 2 ^ (k - 64) := Int.ediv_nonneg b1.1 (Int.le_of_lt (Int.pow_pos (by decide)))
    go_enter Try.func120, Try.ntmps120
    go_wp2

    go_returns
    exact ⟨ret_int (by rw [← E.out]), by go_grown⟩
  · have E := Lib.hid (bit_lo (a := a) (k := k) (by omega))
    have n0 : 0 ≤ loW a / 2 ^ k := Int.ediv_nonneg b2.1 (Int.le_of_lt (Int.pow_pos (by decide)))
    go_enter Try.func120, Try.ntmps120
    go_wp2

    go_returns
    exact ⟨ret_int (by rw [← E.out]), by go_grown⟩
end Go.Proofs.Ytcechimilefihaa.Fr

namespace Go.Proofs.Ytcechimilefihaa.Fr
open Go.ChangeShapes Go.WideShapes Go.ChangeAt Go.RowKit M

/-- a block holds a number of 128 bits -/
def WideAt (w : World) (g : Nat) (x : Nat) : Prop := Blk w g 110 #[.int .u64 (hiW x), .int .u64 (loW x)]
theorem WideAt.cells {w : World} {g x : Nat} (h : WideAt w g x) : w.cell? ⟨g, 0, none⟩ = some (.int .u64 (hiW x)) ∧ w.cell? ⟨g, 1, none⟩ = some (.int .u64 (loW x)) ∧ w.frozen? ⟨g, 0, none⟩ = false ∧ w.frozen? ⟨g, 1, none⟩ = false := by
  have c0 := Blk.cell h 0; have c1 := Blk.cell h 1
  exact ⟨by simpa using c0, by simpa using c1, Blk.frozen h 0, Blk.frozen h 1⟩
theorem WideAt.below {w w' : World} {g x B : Nat} (h : WideAt w g x) (hb : Below B w w') (hg : g < B) : WideAt w' g x := Blk.below h hb hg
theorem WideAt.put {w : World} {g x y : Nat} (h : WideAt w g x) : WideAt ((w.setCell ⟨g, 0, none⟩ (.int .u64 (hiW y))).setCell ⟨g, 1, none⟩ (.int .u64 (loW y))) g y := by
  have := (Blk.set_ h 0 (.int .u64 (hiW y))).set_ 1 (.int .u64 (loW y))
  simpa [WideAt] using this
theorem WideAt.back {w : World} {g x : Nat} (h : WideAt w g x) (y : Nat) : (w.setCell ⟨g, 0, none⟩ (.int .u64 (hiW y))).cell? ⟨g, 0, none⟩ = some (.int .u64 (hiW y)) ∧
    ((w.setCell ⟨g, 0, none⟩ (.int .u64 (hiW y))).setCell ⟨g, 1, none⟩ (.int .u64 (loW y))).cell? ⟨g, 1, none⟩ = some (.int .u64 (loW y)) := by
  have a := (Blk.set_ h 0 (.int .u64 (hiW y))).cell 0
  exact ⟨by simpa using a, h.put.cells.2.1⟩
theorem WideAt.far {w : World} {g x g' : Nat} (h : WideAt w g x) (hg : g ≠ g') (u v : Value) : WideAt ((w.setCell ⟨g', 0, none⟩ u).setCell ⟨g', 1, none⟩ v) g x :=
  Blk.far (Blk.far h (p := ⟨g', 0, none⟩) hg u) (p := ⟨g', 1, none⟩) hg v
theorem WideAt.lt {w : World} {g x : Nat} (h : WideAt w g x) : g < w.heap.size := Blk.lt h
theorem WideAt.new (w : World) (x : Nat) : WideAt (w.alloc (.cells #[.int .u64 (hiW x), .int .u64 (loW x)] 110)) w.heap.size x := Blk.new _ _ _
theorem WideAt.alloc {w : World} {g x : Nat} (h : WideAt w g x) (o : Obj) : WideAt (w.alloc o) g x := Blk.alloc h o
theorem wide_zero : hiW 0 = 0 ∧ loW 0 = 0 := ⟨rfl, rfl⟩
theorem over {n : Nat} {W w1 w2 : World} {u v : Value} {g : Nat} (h : Below n W w1) (hg : n ≤ g) (hn : n ≤ W.heap.size) (hb : Below w1.heap.size w1 w2) : Below n W ((w2.setCell ⟨g, 0, none⟩ u).setCell ⟨g, 1, none⟩ v) :=
  ((through h hn hb).setCell hg _).setCell hg _

theorem times_step {a b k : Nat} : m128 (m128 (a * (b / 2 ^ (k + 1)) + a * (b / 2 ^ (k + 1))) + b / 2 ^ k % 2 * a) = m128 (a * (b / 2 ^ k)) := by
  have e : b / 2 ^ k = b / 2 ^ (k + 1) * 2 + b / 2 ^ k % 2 := by
    have h : b / 2 ^ (k + 1) = b / 2 ^ k / 2 := by rw [Nat.pow_succ, Nat.div_div_eq_div_mul]
    rw [h]; omega
  have e2 : a * (b / 2 ^ k) = a * (b / 2 ^ (k + 1)) + a * (b / 2 ^ (k + 1)) + b / 2 ^ k % 2 * a := by
    have h : a * (b / 2 ^ k) = a * (b / 2 ^ (k + 1) * 2 + b / 2 ^ k % 2) := by rw [← e]
    rw [h, Nat.mul_add, Nat.mul_comm a (b / 2 ^ k % 2), ← Nat.mul_assoc]; omega
  rw [e2]; unfold m128; omega

theorem times_bound {a b k : Nat} (ha : a < 18446744073709551616) (hb : b < 18446744073709551616) : Lt128 (a * (b / 2 ^ k)) := by
  unfold Lt128
  have h1 : b / 2 ^ k ≤ b := Nat.div_le_self _ _
  have h2 : a * (b / 2 ^ k) ≤ 18446744073709551615 * 18446744073709551615 := Nat.mul_le_mul (by omega) (by omega)
  omega

theorem bit_int {b k : Nat} : (b : Int) / 2 ^ k % 2 = ((b / 2 ^ k % 2 : Nat) : Int) := by
  rw [Int.natCast_emod, Int.natCast_ediv, Int.natCast_pow]; rfl
theorem bit_two {b k : Nat} : b / 2 ^ k % 2 = 0 ∨ b / 2 ^ k % 2 = 1 := by omega

/-- the loop of a product -/
def TimesAt (w : World) (B a b : Nat) (i : Value) (wr : World) : Prop := ∃ k : Nat, k ≤ 64 ∧ i = .int .i64 ((k : Int) - 1) ∧ Below B w wr ∧ WideAt wr B 0 ∧ WideAt wr (B + 1) (a * (b / 2 ^ k))

set_option maxHeartbeats 4000000 in
theorem rTimes_any (a b : Nat) (w : World) (ha : a < 18446744073709551616) (hb : b < 18446744073709551616) :
    Calls Try.prog 105 #[.int .u64 a, .int .u64 b] w fun e w' => e = .returned (.agg #[.int .u64 (hiW (a * b)), .int .u64 (loW (a * b))]) ∧ Below w.heap.size w w' := by
  obtain ⟨B, hB⟩ : ∃ B, w.heap.size = B := ⟨_, rfl⟩
  have T0 : TimesAt w B a b (.int .i64 63) ((w.alloc (.cells #[.int .u64 0, .int .u64 0] 110)).alloc (.cells #[.int .u64 0, .int .u64 0] 110)) := by
    refine ⟨64, Nat.le_refl _, rfl, ((Below.refl _ _).alloc (by omega) _).alloc (by simp; omega) _, ?_, ?_⟩
    · rw [← hB]; exact (WideAt.new w 0).alloc _
    · have e : b / 2 ^ 64 = 0 := Nat.div_eq_of_lt (by exact hb)
      rw [e, Nat.mul_zero, ← hB]
      have := WideAt.new (w.alloc (.cells #[.int .u64 0, .int .u64 0] 110)) 0
      rw [World.size_alloc] at this
      exact this
  have HT := Lib.hid T0
  have HB := Lib.hid hB
  clear T0
  go_enter Try.func105, Try.ntmps105
  go_wp2
  go_loopw [6] (fun i wr => TimesAt w B a b i wr) (fun i _ => (intOf i + 1).toNat)
  case atStart => exact HT.out
  case round =>
    obtain ⟨k, hk, rfl, hb0, r0, x0⟩ := hrel
    rcases Nat.eq_zero_or_pos k with rfl | hk0
    · obtain ⟨c0, c1, c2, c3⟩ := x0.cells
      obtain ⟨d0, d1, d2, d3⟩ := r0.cells
      rw [Nat.pow_zero, Nat.div_one] at c0 c1
      have H0 := Lib.hid hb0
      clear hb0
      obtain ⟨q0, q1⟩ := r0.back (a * b)
      have HN := Lib.hid (show Below w.heap.size w ((wr.setCell ⟨B, 0, none⟩ (.int .u64 (hiW (a * b)))).setCell ⟨B, 1, none⟩ (.int .u64 (loW (a * b)))) by
        rw [HB.out]; exact (H0.out.setCell (Nat.le_refl _) _).setCell (Nat.le_refl _) _)
      clear r0 x0
      go_wp2
      (try simp only [Exit.inBlock, Exit.then])
      refine bodyPost_ret (by simp [results, Try.results105, go_sem, q0, q1]; try rfl) rfl ?_
      exact ⟨rfl, HN.out⟩
    · obtain ⟨j, rfl⟩ : ∃ j, k = j + 1 := ⟨k - 1, by omega⟩
      have hbit := bit_int (b := b) (k := j)
      have xb := times_bound (k := j + 1) ha hb
      have n0 : (0 : Int) ≤ (b : Int) / 2 ^ j := Int.ediv_nonneg (by omega) (Int.le_of_lt (Int.pow_pos (by decide)))
      have P1 := Lib.hid (fun x => plus_any (a * (b / 2 ^ (j + 1))) (a * (b / 2 ^ (j + 1))) x xb xb)
      have st := Lib.hid (times_step (a := a) (b := b) (k := j))
      have xj := Lib.hid (m128_id (times_bound (k := j) ha hb))
      have yb := m128_lt (a * (b / 2 ^ (j + 1)) + a * (b / 2 ^ (j + 1)))
      have ey : ((j + 1 : Nat) : Int) - 1 = (j : Int) := by omega
      rw [ey]
      obtain ⟨y, hy⟩ : ∃ y, m128 (a * (b / 2 ^ (j + 1)) + a * (b / 2 ^ (j + 1))) = y := ⟨_, rfl⟩
      rw [hy] at yb
      have HY := Lib.hid hy
      have P2 := Lib.hid (fun x => plus_any y a x yb (by unfold Lt128; omega))
      rw [small_hi (x := a) (by unfold Lt64; exact ha), small_lo (x := a) (by unfold Lt64; exact ha)] at P2
      obtain ⟨X, hX⟩ : ∃ X, a * (b / 2 ^ (j + 1)) = X := ⟨_, rfl⟩
      rw [hX] at P1 x0
      have HX := Lib.hid hX
      obtain ⟨c0, c1, c2, c3⟩ := x0.cells
      have j63 : (j : Int) ≤ 63 := by omega
      have Hx0 := Lib.hid x0; have Hr0 := Lib.hid r0; have H0 := Lib.hid hb0
      clear hb0 r0 x0 hX hy ey xb yb
      go_wp2_with fail
      refine (P1.out _).mono ?_; rintro e w1 ⟨rfl, hb1⟩
      have x1 := Hx0.out.below hb1 Hx0.out.lt
      have r1 := Hr0.out.below hb1 Hr0.out.lt
      clear c0 c1 c2 c3
      obtain ⟨c0, c1, c2, c3⟩ := x1.cells
      have Hx1 := Lib.hid (x1.put (y := m128 (X + X)))
      have Hr1 := Lib.hid (r1.far (g' := B + 1) (by omega) (.int .u64 (hiW (m128 (X + X)))) (.int .u64 (loW (m128 (X + X)))))
      have H1 := Lib.hid (over (u := .int .u64 (hiW (m128 (X + X)))) (v := .int .u64 (loW (m128 (X + X)))) (g := B + 1) H0.out (by omega) (by rw [HB.out]; exact Nat.le_refl _) hb1)
      clear x1 r1 hb1
      rcases bit_two (b := b) (k := j) with e | e
      · have hbe : ((b : Int) / 2 ^ j % 2 == 1) = false := by rw [hbit, e]; rfl
        have He := Lib.hid e
        clear hbit e
        have HE := Lib.hid (show m128 (X + X) = a * (b / 2 ^ j) by
          have s := st.out
          rw [He.out, Nat.zero_mul, Nat.add_zero, HX.out, xj.out] at s
          rw [← s]; exact (m128_id (m128_lt _)).symm)
        go_wp2
        go_roundw
        case rel => exact ⟨j, by omega, rfl, H1.out, Hr1.out, by rw [← HE.out]; exact Hx1.out⟩
        case measure => simp only [intOf]; omega
      · have hbe : ((b : Int) / 2 ^ j % 2 == 1) = true := by rw [hbit, e]; rfl
        have He := Lib.hid e
        have HE := Lib.hid (show m128 (y + a) = a * (b / 2 ^ j) by
          have s := st.out
          rw [He.out, Nat.one_mul, xj.out, HY.out] at s
          exact s)
        have HXY := Lib.hid (show m128 (X + X) = y by rw [← HX.out]; exact HY.out)
        obtain ⟨d0, d1, d2, d3⟩ := Hx1.out.cells
        rw [HXY.out] at Hx1 Hr1 H1 d0 d1 d2 d3 ⊢
        clear hbit e
        go_wp2_with fail
        refine (P2.out _).mono ?_; rintro e w2 ⟨rfl, hb2⟩
        have x2 := Hx1.out.below hb2 Hx1.out.lt
        have r2 := Hr1.out.below hb2 Hr1.out.lt
        clear d0 d1 d2 d3
        obtain ⟨d0, d1, d2, d3⟩ := x2.cells
        have Hx2 := Lib.hid (x2.put (y := m128 (y + a)))
        have Hr2 := Lib.hid (r2.far (g' := B + 1) (by omega) (.int .u64 (hiW (m128 (y + a)))) (.int .u64 (loW (m128 (y + a)))))
        have H2 := Lib.hid (over (u := .int .u64 (hiW (m128 (y + a)))) (v := .int .u64 (loW (m128 (y + a)))) (g := B + 1) H1.out (by omega) (by rw [HB.out]; exact Nat.le_refl _) hb2)
        clear x2 r2 hb2
        go_wp2
        go_roundw
        case rel => exact ⟨j, by omega, rfl, H2.out, Hr2.out, by rw [← HE.out]; exact Hx2.out⟩
        case measure => simp only [intOf]; omega
end Go.Proofs.Ytcechimilefihaa.Fr

namespace Go.Proofs.Ytcechimilefihaa.Fr
open Go.ChangeShapes Go.WideShapes Go.ChangeAt Go.RowKit M

theorem first_trial {U y1 : Nat} (hu : U < 18446744073709551616) (_hy : 0 < y1) :
    IntKind.u64.wrap ((U : Int) / (y1 : Int)) = ((U / y1 : Nat) : Int) ∧ IntKind.u64.wrap ((U : Int) - IntKind.u64.wrap (((U / y1 : Nat) : Int) * (y1 : Int))) = ((U % y1 : Nat) : Int) := by
  have e := Nat.div_add_mod U y1
  have a : U / y1 ≤ U := Nat.div_le_self _ _
  have h1 : (U : Int) / (y1 : Int) = ((U / y1 : Nat) : Int) := (Int.natCast_ediv U y1).symm
  refine ⟨by rw [h1]; exact Mul64.wrapN _ (by omega), ?_⟩
  rw [← Int.natCast_mul, Nat.mul_comm]
  generalize U % y1 = r at *
  generalize y1 * (U / y1) = m at *
  rw [Mul64.wrapN _ (by omega), IntKind.wrap_u64]
  omega

theorem div_setup' {hi lo y n : Nat} (h1 : lo < 18446744073709551616) (k1 : hi < y) (hn : n ≤ 64) (hn1 : 1 ≤ n) (z3 : 9223372036854775808 ≤ y * 2 ^ (64 - n)) (z4 : y * 2 ^ (64 - n) < 18446744073709551616) :
    ∃ V U L : Nat, IntKind.u64.wrap ((y : Int) * 2 ^ (64 - n)) = (V : Int) ∧
    bits BinOp.or IntKind.u64 (IntKind.u64.wrap ((hi : Int) * 2 ^ (64 - n))) ((lo : Int) / 2 ^ (64 - (64 - n))) = (U : Int) ∧
    IntKind.u64.wrap ((lo : Int) * 2 ^ (64 - n)) = (L : Int) ∧ U < V ∧ 9223372036854775808 ≤ V ∧ V < 18446744073709551616 ∧ L < 18446744073709551616 ∧ V = y * 2 ^ (64 - n) ∧
    (hi * 18446744073709551616 + lo) * 2 ^ (64 - n) = U * 18446744073709551616 + L := by
  obtain ⟨e1, e2, e3, e4, e5⟩ := div_setup h1 k1 hn hn1 z4
  exact ⟨_, _, _, e1, e2, e3, e4, z3, z4, Nat.mod_lt _ (by decide), rfl, e5⟩

/-- the loop of a digit: what holds at its head -/
def TrialAt (W : World) (U u1 y1 y0 k : Nat) (x y : Value) (wr : World) : Prop := ∃ r : Nat, W = wr ∧ x = .int .u64 (k : Int) ∧ y = .int .u64 (r : Int) ∧ r < 4294967296 ∧ Trial U u1 y1 y0 k r
/-- the loop is left with the digit -/
def DigitAt (W : World) (d : Nat) (x : Value) (wr : World) : Prop := W = wr ∧ x = .int .u64 (d : Int)

theorem TrialAt.next {W : World} {U u1 y1 y0 q r : Nat} (T : Trial U u1 y1 y0 q r) (hy : 2147483648 ≤ y1) (hu : U < y1 * 4294967296 + y0) (h1 : u1 < 4294967296)
    (ht : 4294967296 ≤ q ∨ 4294967296 * r + u1 < q * y0) (hr : (r : Int) + y1 < 4294967296) :
    q - 1 < q ∧ TrialAt W U u1 y1 y0 (q - 1) (.int .u64 ((q : Int) - 1)) (.int .u64 ((r : Int) + y1)) W := by
  obtain ⟨-, g⟩ := T.great hy hu h1 ht
  exact ⟨by omega, ⟨r + y1, rfl, by congr 1; omega, by congr 1, by omega, T.next hy hu h1 ht⟩⟩
theorem Digit.left {W : World} {U u1 y1 y0 q r : Nat} (T : Trial U u1 y1 y0 q r) (hy : 2147483648 ≤ y1) (h0 : y0 < 4294967296) (hu : U < y1 * 4294967296 + y0) (h1 : u1 < 4294967296)
    (ht : 4294967296 ≤ q ∨ 4294967296 * r + u1 < q * y0) (hr : (4294967296 : Int) ≤ (r : Int) + y1) :
    DigitAt W (digit U u1 (y1 * 4294967296 + y0)) (.int .u64 ((q : Int) - 1)) W := by
  obtain ⟨-, g⟩ := T.great hy hu h1 ht
  have n := T.next hy hu h1 ht
  have l := n.le
  have := T.le
  have e := n.left hy h0 (by omega) (by omega)
  exact ⟨rfl, by rw [← e]; congr 1; omega⟩
theorem Digit.done {W : World} {U u1 y1 y0 q r : Nat} (T : Trial U u1 y1 y0 q r) (hy : 2147483648 ≤ y1) (ht : q * y0 ≤ 4294967296 * r + u1) :
    DigitAt W (digit U u1 (y1 * 4294967296 + y0)) (.int .u64 (q : Int)) W := ⟨rfl, by rw [← T.done hy ht]⟩

theorem prod_fits {q y0 : Nat} (hq : q < 4294967296) (h0 : y0 < 4294967296) : ∃ P : Nat, q * y0 = P ∧ IntKind.u64.wrap ((q : Int) * (y0 : Int)) = (P : Int) := by
  have h : q * y0 ≤ 4294967295 * 4294967295 := Nat.mul_le_mul (by omega) (by omega)
  have e : (q : Int) * (y0 : Int) = ((q * y0 : Nat) : Int) := (Int.natCast_mul q y0).symm
  refine ⟨_, rfl, ?_⟩
  rw [e]; exact Mul64.wrapN _ (by omega)

theorem rest_of {U u1 V d : Nat} (hd : digit U u1 V = d) (hv : 0 < V) (hV : V < 18446744073709551616) :
    IntKind.u64.wrap (IntKind.u64.wrap (IntKind.u64.wrap ((U : Int) * 4294967296) + (u1 : Int)) - IntKind.u64.wrap ((d : Int) * (V : Int))) = (((U * 4294967296 + u1) % V : Nat) : Int) := by
  have e := Nat.div_add_mod (U * 4294967296 + u1) V
  have m := Nat.mod_lt (U * 4294967296 + u1) hv
  unfold digit at hd
  rw [hd] at e
  rw [← Int.natCast_mul, Nat.mul_comm d V]
  generalize (U * 4294967296 + u1) % V = R at *
  generalize V * d = A at *
  simp only [IntKind.wrap_u64]
  omega

theorem div_end {hi lo y p V U L u1 u0 d d0 R R2 : Nat} (hV : V = y * p) (hp : 0 < p) (hU : (hi * 18446744073709551616 + lo) * p = U * 18446744073709551616 + L) (hL : L = u1 * 4294967296 + u0) (hv : 0 < V)
    (hd : digit U u1 V = d) (hR : (U * 4294967296 + u1) % V = R) (h0 : digit R u0 V = d0) (hR2 : (R * 4294967296 + u0) % V = R2) :
    (hi * 18446744073709551616 + lo) / y = d * 4294967296 + d0 ∧ (hi * 18446744073709551616 + lo) % y = R2 / p := by
  subst hR; subst hR2
  obtain ⟨s1, s2⟩ := shifted (n := hi * 18446744073709551616 + lo) (y := y) hp
  obtain ⟨t1, t2⟩ := two_digits (u := U) (u1 := u1) (u0 := u0) hv
  have e : (hi * 18446744073709551616 + lo) * p = (U * 4294967296 + u1) * 4294967296 + u0 := by rw [hU, hL]; omega
  rw [← s1, ← s2, ← hV, e, t1, t2, hd, h0]
  exact ⟨rfl, rfl⟩

theorem ret_two {a b c d : Int} (h : a = b) (k : c = d) : Ending.returned (.tuple #[.int .u64 a, .int .u64 c]) = .returned (.tuple #[.int .u64 b, .int .u64 d]) := by rw [h, k]

set_option maxRecDepth 100000 in
set_option maxHeartbeats 4000000 in
theorem div64_pos (hi lo y : Nat) (w : World) (h1 : lo < 18446744073709551616) (k0 : 1 ≤ hi) (k1 : hi < y) (hy1 : y < 18446744073709551616) :
    Calls Try.prog 112 #[.int .u64 hi, .int .u64 lo, .int .u64 y] w fun e w' => e = .returned (.tuple #[.int .u64 (((hi * 18446744073709551616 + lo) / y : Nat) : Int), .int .u64 (((hi * 18446744073709551616 + lo) % y : Nat) : Int)]) ∧ w' = w := by
  obtain ⟨z1, z2, z3, z4⟩ := zeros_fill (y := y) (by omega) (by omega)
  have Z := fun x => zeros64_any (y : Int) x (by omega) (by omega)
  simp only [Int.toNat_natCast] at Z
  generalize Lib.bitLen y = n at *
  obtain ⟨V, U, L, e1, e2, e3, e4, v0, v1, l1, hV, hU⟩ := div_setup' h1 k1 z1 z2 z3 z4
  have ZH := Lib.hid Z
  have HS := Lib.hid (shifted (n := hi * 18446744073709551616 + lo) (y := y) (Nat.two_pow_pos (64 - n)))
  have HV := Lib.hid hV
  have HU := Lib.hid hU
  have m1 := Mul64.maskN V v1
  have m2 := Mul64.maskN L l1
  clear Z hV hU z3 z4
  have n0 : ((y : Int) == 0) = false := by simp; omega
  have n1 : ((hi : Int) == 0) = false := by simp; omega
  go_enter Try.func112, Try.ntmps112
  go_wp2_with fail
  refine (ZH.out _).mono ?_; rintro e wz ⟨rfl, hwz⟩; rw [hwz]; clear hwz
  go_upto_region 15 with (fail)
  have d1 : ((V : Int) / 4294967296) = ((V / 4294967296 : Nat) : Int) := by omega
  have d2 : ((V : Int) % 4294967296) = ((V % 4294967296 : Nat) : Int) := by omega
  have d3 : ((L : Int) / 4294967296) = ((L / 4294967296 : Nat) : Int) := by omega
  have d4 : ((L : Int) % 4294967296) = ((L % 4294967296 : Nat) : Int) := by omega
  have dv : V = V / 4294967296 * 4294967296 + V % 4294967296 := by omega
  have y1b : 2147483648 ≤ V / 4294967296 ∧ V / 4294967296 < 4294967296 := by omega
  have y0b : V % 4294967296 < 4294967296 := by omega
  have l1b : L / 4294967296 < 4294967296 := by omega
  have l0b : L % 4294967296 < 4294967296 := by omega
  rw [d1, d2, d3, d4]
  have HD := Lib.hid (show L = L / 4294967296 * 4294967296 + L % 4294967296 by omega)
  generalize V / 4294967296 = y1 at *
  generalize V % 4294967296 = y0 at *
  generalize L / 4294967296 = u1 at *
  generalize L % 4294967296 = u0 at *
  have T0 := Trial.start (u := U) (u1 := u1) (y1 := y1) (y0 := y0) y1b.1 y0b (by omega) l1b
  obtain ⟨f1, f2⟩ := first_trial (U := U) (y1 := y1) (by omega) (by omega)
  have rb := Nat.mod_lt U (show 0 < y1 by omega)
  have HUV := Lib.hid (show U < y1 * 4294967296 + y0 by omega)
  have HDV := Lib.hid dv
  generalize U / y1 = q at *
  generalize U % y1 = r at *
  go_upto_block 0 with (fail)
  have A0 : TrialAt w U u1 y1 y0 q (.int .u64 (q : Int)) (.int .u64 (r : Int)) w := ⟨r, rfl, rfl, rfl, by omega, T0⟩
  have HA0 := Lib.hid A0
  have Hy1 := Lib.hid y1b
  have Hy0 := Lib.hid y0b
  have Hl1 := Lib.hid l1b
  have Hl0 := Lib.hid l0b
  have Hv0 := Lib.hid v0
  have Hv1 := Lib.hid v1
  clear A0 T0 f1 f2 rb y1b y0b l1b l0b dv d1 d2 d3 d4 v0 v1 e4 l1 m1 m2 e1 e2 e3 h1 k0 k1 hy1 n0 n1
  go_cut [15] (fun a wc => DigitAt w (digit U u1 (y1 * 4294967296 + y0)) a wc)
  case first =>
    go_wp2_with (fail)
    go_loopg [15, 16] q (fun k x y wr => TrialAt w U u1 y1 y0 k x y wr)
    case atStart => exact HA0.out
    case round =>
      obtain ⟨r, rfl, rfl, rfl, rb, T⟩ := hrel
      have HT := Lib.hid T
      have qb := T.le
      have yb := Hy1.out.2
      clear T
      rcases (show 4294967296 ≤ gk ∨ gk < 4294967296 by omega) with g | g
      · have g1 : (4294967296 : Int) ≤ gk := by omega
        have rI : (r : Int) < 4294967296 := by omega
        have yI : (y1 : Int) < 4294967296 := by omega
        have qI : (gk : Int) ≤ 4294967297 := by omega
        have HG := Lib.hid g
        clear g qb rb yb
        rcases (show (4294967296 : Int) ≤ r + y1 ∨ (r : Int) + y1 < 4294967296 by omega) with g2 | g2
        · have HE := Lib.hid (Digit.left (W := w) HT.out Hy1.out.1 Hy0.out HUV.out Hl1.out (.inl HG.out) g2)
          go_wp2
          go_meet
          exact HE.out
        · have HE := Lib.hid (TrialAt.next (W := w) HT.out Hy1.out.1 HUV.out Hl1.out (.inl HG.out) g2)
          have hd : decide ((4294967296 : Int) ≤ (r : Int) + (y1 : Int)) = false := decide_eq_false (by omega)
          go_wp2
          go_roundg (gk - 1)
          case measure => exact HE.out.1
          case rel => exact HE.out.2
      · have g0 : decide ((4294967296 : Int) ≤ (gk : Int)) = false := decide_eq_false (by omega)
        have rI : (r : Int) < 4294967296 := by omega
        have yI : (y1 : Int) < 4294967296 := by omega
        have uI : (u1 : Int) < 4294967296 := by have := Hl1.out; omega
        have qI : (gk : Int) < 4294967296 := by omega
        obtain ⟨P, hP, w1⟩ := prod_fits g Hy0.out
        have HPE := Lib.hid hP
        clear g qb rb yb hP
        rcases (show (4294967296 * (r : Int) + u1 < P) ∨ ((P : Int) ≤ 4294967296 * r + u1) by omega) with g1 | g1
        · have t1 : decide (4294967296 * (r : Int) + u1 < P) = true := decide_eq_true g1
          have HG := Lib.hid (show 4294967296 * r + u1 < gk * y0 by rw [HPE.out]; omega)
          rcases (show (4294967296 : Int) ≤ r + y1 ∨ (r : Int) + y1 < 4294967296 by omega) with g2 | g2
          · have HE := Lib.hid (Digit.left (W := w) HT.out Hy1.out.1 Hy0.out HUV.out Hl1.out (.inr HG.out) g2)
            have q1 : (1 : Int) ≤ gk := by
              rcases (show gk = 0 ∨ 1 ≤ gk by omega) with h | h
              · have := HG.out; rw [h] at this; simp at this
              · omega
            go_wp2
            go_meet
            exact HE.out
          · have HE := Lib.hid (TrialAt.next (W := w) HT.out Hy1.out.1 HUV.out Hl1.out (.inr HG.out) g2)
            have q1 : (1 : Int) ≤ gk := by have := HE.out.1; omega
            have hd : decide ((4294967296 : Int) ≤ (r : Int) + (y1 : Int)) = false := decide_eq_false (by omega)
            go_wp2
            go_roundg (gk - 1)
            case measure => exact HE.out.1
            case rel => exact HE.out.2
        · have t1 : decide (4294967296 * (r : Int) + u1 < P) = false := decide_eq_false (by omega)
          have HE := Lib.hid (Digit.done (W := w) (U := U) (u1 := u1) HT.out Hy1.out.1 (by rw [HPE.out]; omega))
          go_wp2
          go_meet
          exact HE.out
  case rest =>
    obtain ⟨rfl, rfl⟩ := hcut
    obtain ⟨d, hd⟩ : ∃ d, digit U u1 (y1 * 4294967296 + y0) = d := ⟨_, rfl⟩
    have hdb := digit_lt (u1 := u1) (v := y1 * 4294967296 + y0) HUV.out Hl1.out
    rw [hd] at hdb ⊢
    rw [← HDV.out] at hd
    have vpos : 0 < V := by have := Hv0.out; omega
    have f0 := rest_of hd vpos Hv1.out
    have rlt := Nat.mod_lt (U * 4294967296 + u1) vpos
    have rV := Hv1.out
    obtain ⟨R, hR⟩ : ∃ R, (U * 4294967296 + u1) % V = R := ⟨_, rfl⟩
    rw [hR] at f0 rlt
    have HE := Lib.hid (fun d0 R2 => div_end (d0 := d0) (R2 := R2) HV.out (Nat.two_pow_pos (64 - n)) HU.out HD.out vpos hd hR)
    clear hR
    have HRV := Lib.hid (show R < y1 * 4294967296 + y0 by rw [← HDV.out]; exact rlt)
    have y1b := Hy1.out
    have T0 := Trial.start (u := R) (u1 := u0) (y1 := y1) (y0 := y0) y1b.1 Hy0.out HRV.out Hl0.out
    have rb := Nat.mod_lt R (show 0 < y1 by omega)
    obtain ⟨f1, f2⟩ := first_trial (U := R) (y1 := y1) (by omega) (by omega)
    obtain ⟨d0, hd0⟩ : ∃ d, digit R u0 (y1 * 4294967296 + y0) = d := ⟨_, rfl⟩
    have hdb0 := digit_lt (u1 := u0) (v := y1 * 4294967296 + y0) HRV.out Hl0.out
    obtain ⟨q', hq'⟩ : ∃ q', R / y1 = q' := ⟨_, rfl⟩
    obtain ⟨r', hr'⟩ : ∃ r', R % y1 = r' := ⟨_, rfl⟩
    rw [hq', hr'] at T0
    rw [hq'] at f1 f2
    rw [hr'] at f2 rb
    clear hq' hr'
    have HDB := Lib.hid hdb
    have HDB0 := Lib.hid hdb0
    have HD0 := Lib.hid hd0
    have yI : (1 : Int) ≤ y1 := by omega
    clear hdb hdb0 hd0 hd rlt rV y1b
    go_upto_block 2 with (fail)
    have A0 : TrialAt w R u0 y1 y0 q' (.int .u64 (q' : Int)) (.int .u64 (r' : Int)) w := ⟨r', rfl, rfl, rfl, by have := Hy1.out.2; omega, T0⟩
    have HA0 := Lib.hid A0
    have Hvp := Lib.hid vpos
    clear A0 T0 f0 f1 f2 rb yI vpos
    go_cut [18] (fun a wc => DigitAt w (digit R u0 (y1 * 4294967296 + y0)) a wc)
    case first =>
      go_wp2_with (fail)
      go_loopg [18, 16] q' (fun k x y wr => TrialAt w R u0 y1 y0 k x y wr)
      case atStart => exact HA0.out
      case round =>
        obtain ⟨r, rfl, rfl, rfl, rb, T⟩ := hrel
        have HT := Lib.hid T
        have qb := T.le
        have yb := Hy1.out.2
        clear T
        rcases (show 4294967296 ≤ gk ∨ gk < 4294967296 by omega) with g | g
        · have g1 : (4294967296 : Int) ≤ gk := by omega
          have rI : (r : Int) < 4294967296 := by omega
          have yI : (y1 : Int) < 4294967296 := by omega
          have qI : (gk : Int) ≤ 4294967297 := by omega
          have HG := Lib.hid g
          clear g qb rb yb
          rcases (show (4294967296 : Int) ≤ r + y1 ∨ (r : Int) + y1 < 4294967296 by omega) with g2 | g2
          · have HE := Lib.hid (Digit.left (W := w) HT.out Hy1.out.1 Hy0.out HRV.out Hl0.out (.inl HG.out) g2)
            go_wp2
            go_meet
            exact HE.out
          · have HE := Lib.hid (TrialAt.next (W := w) HT.out Hy1.out.1 HRV.out Hl0.out (.inl HG.out) g2)
            have hd : decide ((4294967296 : Int) ≤ (r : Int) + (y1 : Int)) = false := decide_eq_false (by omega)
            go_wp2
            go_roundg (gk - 1)
            case measure => exact HE.out.1
            case rel => exact HE.out.2
        · have g9 : decide ((4294967296 : Int) ≤ (gk : Int)) = false := decide_eq_false (by omega)
          have rI : (r : Int) < 4294967296 := by omega
          have yI : (y1 : Int) < 4294967296 := by omega
          have uI : (u0 : Int) < 4294967296 := by have := Hl0.out; omega
          have qI : (gk : Int) < 4294967296 := by omega
          obtain ⟨P, hP, w1⟩ := prod_fits g Hy0.out
          have HPE := Lib.hid hP
          clear g qb rb yb hP
          rcases (show (4294967296 * (r : Int) + u0 < P) ∨ ((P : Int) ≤ 4294967296 * r + u0) by omega) with g1 | g1
          · have t1 : decide (4294967296 * (r : Int) + u0 < P) = true := decide_eq_true g1
            have HG := Lib.hid (show 4294967296 * r + u0 < gk * y0 by rw [HPE.out]; omega)
            rcases (show (4294967296 : Int) ≤ r + y1 ∨ (r : Int) + y1 < 4294967296 by omega) with g2 | g2
            · have HE := Lib.hid (Digit.left (W := w) HT.out Hy1.out.1 Hy0.out HRV.out Hl0.out (.inr HG.out) g2)
              have q1 : (1 : Int) ≤ gk := by
                rcases (show gk = 0 ∨ 1 ≤ gk by omega) with h | h
                · have := HG.out; rw [h] at this; simp at this
                · omega
              go_wp2
              go_meet
              exact HE.out
            · have HE := Lib.hid (TrialAt.next (W := w) HT.out Hy1.out.1 HRV.out Hl0.out (.inr HG.out) g2)
              have q1 : (1 : Int) ≤ gk := by have := HE.out.1; omega
              have hd : decide ((4294967296 : Int) ≤ (r : Int) + (y1 : Int)) = false := decide_eq_false (by omega)
              go_wp2
              go_roundg (gk - 1)
              case measure => exact HE.out.1
              case rel => exact HE.out.2
          · have t1 : decide (4294967296 * (r : Int) + u0 < P) = false := decide_eq_false (by omega)
            have HE := Lib.hid (Digit.done (W := w) (U := R) (u1 := u0) HT.out Hy1.out.1 (by rw [HPE.out]; omega))
            go_wp2
            go_meet
            exact HE.out
    case rest =>
      obtain ⟨rfl, rfl⟩ := hcut
      rw [HD0.out]
      have b1 := HDB.out
      have b2 := HDB0.out
      rw [HD0.out] at b2
      have e28 := HD0.out
      rw [← HDV.out] at e28
      have f28 := rest_of e28 Hvp.out Hv1.out
      have rlt := Nat.mod_lt (R * 4294967296 + u0) Hvp.out
      have rV := Hv1.out
      obtain ⟨R2, hR2⟩ : ∃ R2, (R * 4294967296 + u0) % V = R2 := ⟨_, rfl⟩
      obtain ⟨E1, E2⟩ := HE.out d0 R2 e28 hR2
      rw [hR2] at rlt f28
      clear hR2
      have HF := Lib.hid (And.intro E1 E2)
      clear e28 E1 E2
      go_wp2
      go_returns
      exact ⟨ret_two (by rw [HF.out.1]; omega) (by rw [HF.out.2, Int.natCast_ediv, Int.natCast_pow]; rfl), rfl⟩
end Go.Proofs.Ytcechimilefihaa.Fr

namespace Go.Proofs.Ytcechimilefihaa.Fr
open Go.ChangeShapes Go.WideShapes Go.ChangeAt Go.RowKit M

/-- a number of 128 bits by one of 64: the quotient, the rest -/
def quoI (hi lo y : Int) : Int := ((hi.toNat * 18446744073709551616 + lo.toNat) / y.toNat : Nat)
def remI (hi lo y : Int) : Int := ((hi.toNat * 18446744073709551616 + lo.toNat) % y.toNat : Nat)

theorem div64_any (hi lo y : Int) (w : World) (h0 : 0 ≤ hi) (h1 : hi < y) (l0 : 0 ≤ lo) (l1 : lo ≤ 18446744073709551615) (hy : y ≤ 18446744073709551615) :
    Calls Try.prog 112 #[.int .u64 hi, .int .u64 lo, .int .u64 y] w fun e w' => e = .returned (.tuple #[.int .u64 (quoI hi lo y), .int .u64 (remI hi lo y)]) ∧ ∃ n, w' = w.drewN n := by
  rcases (show hi = 0 ∨ 1 ≤ hi by omega) with rfl | h
  · refine (div64_zero lo y w l0 l1 (by omega) hy).mono fun e w' ⟨he, hw⟩ => ⟨?_, hw⟩
    rw [he]
    unfold quoI remI
    rw [show (0 : Int).toNat = 0 from rfl, Nat.zero_mul, Nat.zero_add]
    have el : lo = (lo.toNat : Int) := by omega
    have ey : y = (y.toNat : Int) := by omega
    exact ret_two (by rw [Int.natCast_ediv, ← el, ← ey]) (by rw [Int.natCast_emod, ← el, ← ey])
  · have := div64_pos hi.toNat lo.toNat y.toNat w (by omega) (by omega) (by omega) (by omega)
    rw [Int.toNat_of_nonneg h0, Int.toNat_of_nonneg l0, Int.toNat_of_nonneg (show 0 ≤ y by omega)] at this
    refine this.mono fun e w' ⟨he, hw⟩ => ⟨he, 0, hw⟩

theorem add64 (x y c : Int) (hx : 0 ≤ x) (hx1 : x ≤ 18446744073709551615) (hy : 0 ≤ y) (hy1 : y ≤ 18446744073709551615) (hc0 : 0 ≤ c) (hc : c ≤ 1) (w : World) : (callFunc 111 #[.int .u64 x, .int .u64 y, .int .u64 c]).run Try.prog w =
    .ok (.value (.tuple #[.int .u64 ((x + y + c) % 18446744073709551616), .int .u64 ((x + y + c) / 18446744073709551616)])) w := by
  obtain ⟨x, rfl⟩ := Int.eq_ofNat_of_zero_le hx
  obtain ⟨y, rfl⟩ := Int.eq_ofNat_of_zero_le hy
  obtain ⟨c, rfl⟩ := Int.eq_ofNat_of_zero_le hc0
  rw [run_callFunc_extern Try.func111 (by kernel_rfl) (by kernel_rfl) (by kernel_rfl) (e := add64Entry) (by kernel_rfl), run_add64 x y c (by omega) (by omega) (by omega) (by omega)]
  rfl

/-! ### the plain law of a sum -/
/-- what the program makes of a sum: S over k, and the denominator -/
theorem plus_some {a b c d : Int} (h : Lowest a b) (k : Lowest c d) {g S t : Nat} (hg : Nat.gcd b.toNat d.toNat = g) (hS : a.toNat * (d.toNat / g) + c.toNat * (b.toNat / g) = S) (ht : Nat.gcd S g = t) :
    plusR a b c d = bothR ((S / t : Nat) : Int) ((b.toNat / g * (d.toNat / t) : Nat) : Int) := by
  obtain ⟨h0, h1, h2, h3, h4⟩ := h
  obtain ⟨k0, k1, k2, k3, k4⟩ := k
  have pb : 0 < b.toNat := by omega
  have pd : 0 < d.toNat := by omega
  unfold plusR
  generalize a.toNat = A at *
  generalize b.toNat = B at *
  generalize c.toNat = C at *
  generalize d.toNat = D at *
  obtain ⟨g1, g2⟩ := gcd_plus pb pd h4 k4
  rw [hg, hS] at g1 g2
  rw [ht] at g1
  have pg : 0 < g := hg ▸ Nat.gcd_pos_of_pos_right _ pd
  have pt : 0 < t := ht ▸ Nat.gcd_pos_of_pos_right _ pg
  rw [rightR_both (p := S / t) (q := B / g * (D / t))]
  · rw [g1, g2]; exact Nat.mul_div_mul_left _ _ pg
  · rw [g1]
    have d1 : g ∣ B := hg ▸ Nat.gcd_dvd_left B D
    have d2 : t ∣ D := Nat.dvd_trans (ht ▸ Nat.gcd_dvd_right S g) (hg ▸ Nat.gcd_dvd_right B D)
    exact (Nat.div_mul_div_comm d1 d2).symm
end Go.Proofs.Ytcechimilefihaa.Fr
