/- Numbers of 128 bits, as the document's functions reckon them: a product, bit by bit. -/
import Derived.Test.YtjemcnlljjdmiaaFrW1
namespace Go.Proofs.Ytjemcnlljjdmiaa.Fr
open Go.ChangeShapes Go.WideShapes Go.ChangeAt Go.RowKit M

/-- a block holds a number of 128 bits -/
def WideAt (w : World) (g : Nat) (x : Nat) : Prop := Blk w g 94 #[.int .u64 (hiW x), .int .u64 (loW x)]
theorem WideAt.cells {w : World} {g x : Nat} (h : WideAt w g x) : w.cell? ⟨g, 0, none⟩ = some (.int .u64 (hiW x)) ∧ w.cell? ⟨g, 1, none⟩ = some (.int .u64 (loW x)) ∧ w.frozen? ⟨g, 0, none⟩ = false ∧ w.frozen? ⟨g, 1, none⟩ = false := by
  have c0 := Blk.cell h 0; have c1 := Blk.cell h 1
  exact ⟨by simpa using c0, by simpa using c1, Blk.frozen h 0, Blk.frozen h 1⟩
theorem WideAt.below {w w' : World} {g x B : Nat} (h : WideAt w g x) (hb : Below B w w') (hg : g < B) : WideAt w' g x := Blk.below h hb hg
theorem WideAt.put {w : World} {g x y : Nat} (h : WideAt w g x) : WideAt ((w.setCell ⟨g, 0, none⟩ (.int .u64 (hiW y))).setCell ⟨g, 1, none⟩ (.int .u64 (loW y))) g y := by
  have := (Blk.set_ h 0 (.int .u64 (hiW y))).set_ 1 (.int .u64 (loW y))
  simpa [WideAt] using this
theorem WideAt.back {w : World} {g x : Nat} (h : WideAt w g x) (y : Nat) : (w.setCell ⟨g, 0, none⟩ (.int .u64 (hiW y))).cell? ⟨g, 0, none⟩ = some (.int .u64 (hiW y)) ∧
    ((w.setCell ⟨g, 0, none⟩ (.int .u64 (hiW y))).setCell ⟨g, 1, none⟩ (.int .u64 (loW y))).cell? ⟨g, 1, none⟩ = some (.int .u64 (loW y)) := by
  have a := (Blk.set_ h 0 (.int .u64 (hiW y))).cell 0
  exact ⟨by simpa using a, h.put.cells.2.1⟩
theorem WideAt.far {w : World} {g x g' : Nat} (h : WideAt w g x) (hg : g ≠ g') (u v : Value) : WideAt ((w.setCell ⟨g', 0, none⟩ u).setCell ⟨g', 1, none⟩ v) g x :=
  Blk.far (Blk.far h (p := ⟨g', 0, none⟩) hg u) (p := ⟨g', 1, none⟩) hg v
theorem WideAt.lt {w : World} {g x : Nat} (h : WideAt w g x) : g < w.heap.size := Blk.lt h
theorem WideAt.new (w : World) (x : Nat) : WideAt (w.alloc (.cells #[.int .u64 (hiW x), .int .u64 (loW x)] 94)) w.heap.size x := Blk.new _ _ _
theorem WideAt.alloc {w : World} {g x : Nat} (h : WideAt w g x) (o : Obj) : WideAt (w.alloc o) g x := Blk.alloc h o
theorem wide_zero : hiW 0 = 0 ∧ loW 0 = 0 := ⟨rfl, rfl⟩
theorem over {n : Nat} {W w1 w2 : World} {u v : Value} {g : Nat} (h : Below n W w1) (hg : n ≤ g) (hn : n ≤ W.heap.size) (hb : Below w1.heap.size w1 w2) : Below n W ((w2.setCell ⟨g, 0, none⟩ u).setCell ⟨g, 1, none⟩ v) :=
  ((through h hn hb).setCell hg _).setCell hg _

theorem times_step {a b k : Nat} : m128 (m128 (a * (b / 2 ^ (k + 1)) + a * (b / 2 ^ (k + 1))) + b / 2 ^ k % 2 * a) = m128 (a * (b / 2 ^ k)) := by
  have e : b / 2 ^ k = b / 2 ^ (k + 1) * 2 + b / 2 ^ k % 2 := by
    have h : b / 2 ^ (k + 1) = b / 2 ^ k / 2 := by rw [Nat.pow_succ, Nat.div_div_eq_div_mul]
    rw [h]; omega
  have e2 : a * (b / 2 ^ k) = a * (b / 2 ^ (k + 1)) + a * (b / 2 ^ (k + 1)) + b / 2 ^ k % 2 * a := by
    have h : a * (b / 2 ^ k) = a * (b / 2 ^ (k + 1) * 2 + b / 2 ^ k % 2) := by rw [← e]
    rw [h, Nat.mul_add, Nat.mul_comm a (b / 2 ^ k % 2), ← Nat.mul_assoc]; omega
  rw [e2]; unfold m128; omega

theorem times_bound {a b k : Nat} (ha : a < 18446744073709551616) (hb : b < 18446744073709551616) : Lt128 (a * (b / 2 ^ k)) := by
  unfold Lt128
  have h1 : b / 2 ^ k ≤ b := Nat.div_le_self _ _
  have h2 : a * (b / 2 ^ k) ≤ 18446744073709551615 * 18446744073709551615 := Nat.mul_le_mul (by omega) (by omega)
  omega

theorem bit_int {b k : Nat} : (b : Int) / 2 ^ k % 2 = ((b / 2 ^ k % 2 : Nat) : Int) := by
  rw [Int.natCast_emod, Int.natCast_ediv, Int.natCast_pow]; rfl
theorem bit_two {b k : Nat} : b / 2 ^ k % 2 = 0 ∨ b / 2 ^ k % 2 = 1 := by omega

/-- the loop of a product -/
def TimesAt (w : World) (B a b : Nat) (i : Value) (wr : World) : Prop := ∃ k : Nat, k ≤ 64 ∧ i = .int .i64 ((k : Int) - 1) ∧ Below B w wr ∧ WideAt wr B 0 ∧ WideAt wr (B + 1) (a * (b / 2 ^ k))

set_option maxHeartbeats 4000000 in
theorem rTimes_any (a b : Nat) (w : World) (ha : a < 18446744073709551616) (hb : b < 18446744073709551616) :
    Calls Try.prog 66 #[.int .u64 a, .int .u64 b] w fun e w' => e = .returned (.agg #[.int .u64 (hiW (a * b)), .int .u64 (loW (a * b))]) ∧ Below w.heap.size w w' := by
  obtain ⟨B, hB⟩ : ∃ B, w.heap.size = B := ⟨_, rfl⟩
  have T0 : TimesAt w B a b (.int .i64 63) ((w.alloc (.cells #[.int .u64 0, .int .u64 0] 94)).alloc (.cells #[.int .u64 0, .int .u64 0] 94)) := by
    refine ⟨64, Nat.le_refl _, rfl, ((Below.refl _ _).alloc (by omega) _).alloc (by simp; omega) _, ?_, ?_⟩
    · rw [← hB]; exact (WideAt.new w 0).alloc _
    · have e : b / 2 ^ 64 = 0 := Nat.div_eq_of_lt (by exact hb)
      rw [e, Nat.mul_zero, ← hB]
      have := WideAt.new (w.alloc (.cells #[.int .u64 0, .int .u64 0] 94)) 0
      rw [World.size_alloc] at this
      exact this
  have HT := Lib.hid T0
  have HB := Lib.hid hB
  clear T0
  go_enter Try.func66, Try.ntmps66
  go_wp2
  go_loopw [6] (fun i wr => TimesAt w B a b i wr) (fun i _ => (intOf i + 1).toNat)
  case atStart => exact HT.out
  case round =>
    obtain ⟨k, hk, rfl, hb0, r0, x0⟩ := hrel
    rcases Nat.eq_zero_or_pos k with rfl | hk0
    · obtain ⟨c0, c1, c2, c3⟩ := x0.cells
      obtain ⟨d0, d1, d2, d3⟩ := r0.cells
      rw [Nat.pow_zero, Nat.div_one] at c0 c1
      have H0 := Lib.hid hb0
      clear hb0
      obtain ⟨q0, q1⟩ := r0.back (a * b)
      have HN := Lib.hid (show Below w.heap.size w ((wr.setCell ⟨B, 0, none⟩ (.int .u64 (hiW (a * b)))).setCell ⟨B, 1, none⟩ (.int .u64 (loW (a * b)))) by
        rw [HB.out]; exact (H0.out.setCell (Nat.le_refl _) _).setCell (Nat.le_refl _) _)
      clear r0 x0
      go_wp2
      (try simp only [Exit.inBlock, Exit.then])
      refine bodyPost_ret (by simp [results, Try.results66, go_sem, q0, q1]; try rfl) rfl ?_
      exact ⟨rfl, HN.out⟩
    · obtain ⟨j, rfl⟩ : ∃ j, k = j + 1 := ⟨k - 1, by omega⟩
      have hbit := bit_int (b := b) (k := j)
      have xb := times_bound (k := j + 1) ha hb
      have n0 : (0 : Int) ≤ (b : Int) / 2 ^ j := Int.ediv_nonneg (by omega) (Int.le_of_lt (Int.pow_pos (by decide)))
      have P1 := Lib.hid (fun x => plus_any (a * (b / 2 ^ (j + 1))) (a * (b / 2 ^ (j + 1))) x xb xb)
      have st := Lib.hid (times_step (a := a) (b := b) (k := j))
      have xj := Lib.hid (m128_id (times_bound (k := j) ha hb))
      have yb := m128_lt (a * (b / 2 ^ (j + 1)) + a * (b / 2 ^ (j + 1)))
      have ey : ((j + 1 : Nat) : Int) - 1 = (j : Int) := by omega
      rw [ey]
      obtain ⟨y, hy⟩ : ∃ y, m128 (a * (b / 2 ^ (j + 1)) + a * (b / 2 ^ (j + 1))) = y := ⟨_, rfl⟩
      rw [hy] at yb
      have HY := Lib.hid hy
      have P2 := Lib.hid (fun x => plus_any y a x yb (by unfold Lt128; omega))
      rw [small_hi (x := a) (by unfold Lt64; exact ha), small_lo (x := a) (by unfold Lt64; exact ha)] at P2
      obtain ⟨X, hX⟩ : ∃ X, a * (b / 2 ^ (j + 1)) = X := ⟨_, rfl⟩
      rw [hX] at P1 x0
      have HX := Lib.hid hX
      obtain ⟨c0, c1, c2, c3⟩ := x0.cells
      have j63 : (j : Int) ≤ 63 := by omega
      have Hx0 := Lib.hid x0; have Hr0 := Lib.hid r0; have H0 := Lib.hid hb0
      clear hb0 r0 x0 hX hy ey xb yb
      go_wp2_with fail
      refine (P1.out _).mono ?_; rintro e w1 ⟨rfl, hb1⟩
      have x1 := Hx0.out.below hb1 Hx0.out.lt
      have r1 := Hr0.out.below hb1 Hr0.out.lt
      clear c0 c1 c2 c3
      obtain ⟨c0, c1, c2, c3⟩ := x1.cells
      have Hx1 := Lib.hid (x1.put (y := m128 (X + X)))
      have Hr1 := Lib.hid (r1.far (g' := B + 1) (by omega) (.int .u64 (hiW (m128 (X + X)))) (.int .u64 (loW (m128 (X + X)))))
      have H1 := Lib.hid (over (u := .int .u64 (hiW (m128 (X + X)))) (v := .int .u64 (loW (m128 (X + X)))) (g := B + 1) H0.out (by omega) (by rw [HB.out]; exact Nat.le_refl _) hb1)
      clear x1 r1 hb1
      rcases bit_two (b := b) (k := j) with e | e
      · have hbe : ((b : Int) / 2 ^ j % 2 == 1) = false := by rw [hbit, e]; rfl
        have He := Lib.hid e
        clear hbit e
        have HE := Lib.hid (show m128 (X + X) = a * (b / 2 ^ j) by
          have s := st.out
          rw [He.out, Nat.zero_mul, Nat.add_zero, HX.out, xj.out] at s
          rw [← s]; exact (m128_id (m128_lt _)).symm)
        go_wp2
        go_roundw
        case rel => exact ⟨j, by omega, rfl, H1.out, Hr1.out, by rw [← HE.out]; exact Hx1.out⟩
        case measure => simp only [intOf]; omega
      · have hbe : ((b : Int) / 2 ^ j % 2 == 1) = true := by rw [hbit, e]; rfl
        have He := Lib.hid e
        have HE := Lib.hid (show m128 (y + a) = a * (b / 2 ^ j) by
          have s := st.out
          rw [He.out, Nat.one_mul, xj.out, HY.out] at s
          exact s)
        have HXY := Lib.hid (show m128 (X + X) = y by rw [← HX.out]; exact HY.out)
        obtain ⟨d0, d1, d2, d3⟩ := Hx1.out.cells
        rw [HXY.out] at Hx1 Hr1 H1 d0 d1 d2 d3 ⊢
        clear hbit e
        go_wp2_with fail
        refine (P2.out _).mono ?_; rintro e w2 ⟨rfl, hb2⟩
        have x2 := Hx1.out.below hb2 Hx1.out.lt
        have r2 := Hr1.out.below hb2 Hr1.out.lt
        clear d0 d1 d2 d3
        obtain ⟨d0, d1, d2, d3⟩ := x2.cells
        have Hx2 := Lib.hid (x2.put (y := m128 (y + a)))
        have Hr2 := Lib.hid (r2.far (g' := B + 1) (by omega) (.int .u64 (hiW (m128 (y + a)))) (.int .u64 (loW (m128 (y + a)))))
        have H2 := Lib.hid (over (u := .int .u64 (hiW (m128 (y + a)))) (v := .int .u64 (loW (m128 (y + a)))) (g := B + 1) H1.out (by omega) (by rw [HB.out]; exact Nat.le_refl _) hb2)
        clear x2 r2 hb2
        go_wp2
        go_roundw
        case rel => exact ⟨j, by omega, rfl, H2.out, Hr2.out, by rw [← HE.out]; exact Hx2.out⟩
        case measure => simp only [intOf]; omega
end Go.Proofs.Ytjemcnlljjdmiaa.Fr
