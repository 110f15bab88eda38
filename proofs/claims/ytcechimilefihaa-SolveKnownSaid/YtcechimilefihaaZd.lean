/- Numbers of 128 bits, as the document's functions reckon them: division, bit by bit. Numbers of 128 bits, as the document's functions reckon them: as an int, the greatest common divisor, a right fraction. Numbers of 128 bits, as the document's functions reckon them: the greatest common divisor. Numbers of 128 bits, as the document's functions reckon them: a right fraction. What the document's functions on ints and fractions return: the greatest common divisor, a fraction of two ints, a product of two ints, the order, the least whole number. -/
import Derived.Test.YtcechimilefihaaZc
import Derived.Deep.RegionWith
import Derived.Deep.DrawnRows
import Derived.Deep.RegionHeld3
import Derived.Deep.DeepCutAuto
import Derived.Deep.CutBlock
import Derived.Test.YtcechimilefihaaZb

namespace Go.Proofs.Ytcechimilefihaa.Fr
open Go.ChangeShapes Go.WideShapes Go.ChangeAt Go.RowKit M

attribute [local go_sem ↓] Go.wp_at_zero Go.wp_at_succ

/-! ### the plain law -/
theorem div_round {a b k q r : Nat} (hb : 0 < b) (hq : q = a / 2 ^ (k + 1) / b) (hr : r = a / 2 ^ (k + 1) % b) :
    (r + r + a / 2 ^ k % 2 < b → a / 2 ^ k / b = q + q ∧ a / 2 ^ k % b = r + r + a / 2 ^ k % 2) ∧
    (b ≤ r + r + a / 2 ^ k % 2 → a / 2 ^ k / b = q + q + 1 ∧ a / 2 ^ k % b = r + r + a / 2 ^ k % 2 - b) := by
  have h : a / 2 ^ (k + 1) = a / 2 ^ k / 2 := by rw [Nat.pow_succ, Nat.div_div_eq_div_mul]
  rw [h] at hq hr
  generalize a / 2 ^ k = c at *
  have e := Nat.div_add_mod (c / 2) b
  rw [← hq, ← hr] at e
  have rl := Nat.mod_lt (c / 2) hb
  rw [← hr] at rl
  have e2 : c = b * (q + q) + (r + r + c % 2) := by rw [Nat.mul_add]; omega
  constructor
  · intro hl
    rw [Nat.div_mod_unique hb]
    exact ⟨by omega, hl⟩
  · intro hl
    rw [Nat.div_mod_unique hb]
    refine ⟨?_, by omega⟩
    rw [Nat.mul_add, Nat.mul_one]; omega

def Six (w : World) (B a b q r : Nat) : Prop :=
  WideAt w B a ∧ WideAt w (B + 1) b ∧ WideAt w (B + 1 + 1) 0 ∧ WideAt w (B + 1 + 1 + 1) 0 ∧ WideAt w (B + 1 + 1 + 1 + 1) q ∧ WideAt w (B + 1 + 1 + 1 + 1 + 1) r
theorem Six.below {w w' : World} {B a b q r : Nat} (h : Six w B a b q r) (hb : Below w.heap.size w w') : Six w' B a b q r :=
  ⟨h.1.below hb h.1.lt, h.2.1.below hb h.2.1.lt, h.2.2.1.below hb h.2.2.1.lt, h.2.2.2.1.below hb h.2.2.2.1.lt, h.2.2.2.2.1.below hb h.2.2.2.2.1.lt, h.2.2.2.2.2.below hb h.2.2.2.2.2.lt⟩
theorem Six.putq {w : World} {B a b q r y : Nat} (h : Six w B a b q r) : Six ((w.setCell ⟨B + 1 + 1 + 1 + 1, 0, none⟩ (.int .u64 (hiW y))).setCell ⟨B + 1 + 1 + 1 + 1, 1, none⟩ (.int .u64 (loW y))) B a b y r :=
  ⟨h.1.far (by omega) _ _, h.2.1.far (by omega) _ _, h.2.2.1.far (by omega) _ _, h.2.2.2.1.far (by omega) _ _, h.2.2.2.2.1.put, h.2.2.2.2.2.far (by omega) _ _⟩
theorem Six.putr {w : World} {B a b q r y : Nat} (h : Six w B a b q r) : Six ((w.setCell ⟨B + 1 + 1 + 1 + 1 + 1, 0, none⟩ (.int .u64 (hiW y))).setCell ⟨B + 1 + 1 + 1 + 1 + 1, 1, none⟩ (.int .u64 (loW y))) B a b q y :=
  ⟨h.1.far (by omega) _ _, h.2.1.far (by omega) _ _, h.2.2.1.far (by omega) _ _, h.2.2.2.1.far (by omega) _ _, h.2.2.2.2.1.far (by omega) _ _, h.2.2.2.2.2.put⟩
theorem Six.drew {w : World} {B a b q r : Nat} (h : Six w B a b q r) : Six w.drew B a b q r := h
theorem Six.cells {w : World} {B a b q r : Nat} (h : Six w B a b q r) :
    (w.cell? ⟨B, 0, none⟩ = some (.int .u64 (hiW a)) ∧ w.cell? ⟨B, 1, none⟩ = some (.int .u64 (loW a))) ∧
    (w.cell? ⟨B + 1, 0, none⟩ = some (.int .u64 (hiW b)) ∧ w.cell? ⟨B + 1, 1, none⟩ = some (.int .u64 (loW b))) ∧
    (w.cell? ⟨B + 1 + 1 + 1 + 1, 0, none⟩ = some (.int .u64 (hiW q)) ∧ w.cell? ⟨B + 1 + 1 + 1 + 1, 1, none⟩ = some (.int .u64 (loW q)) ∧ w.frozen? ⟨B + 1 + 1 + 1 + 1, 0, none⟩ = false ∧ w.frozen? ⟨B + 1 + 1 + 1 + 1, 1, none⟩ = false) ∧
    (w.cell? ⟨B + 1 + 1 + 1 + 1 + 1, 0, none⟩ = some (.int .u64 (hiW r)) ∧ w.cell? ⟨B + 1 + 1 + 1 + 1 + 1, 1, none⟩ = some (.int .u64 (loW r)) ∧ w.frozen? ⟨B + 1 + 1 + 1 + 1 + 1, 0, none⟩ = false ∧ w.frozen? ⟨B + 1 + 1 + 1 + 1 + 1, 1, none⟩ = false) :=
  ⟨⟨h.1.cells.1, h.1.cells.2.1⟩, ⟨h.2.1.cells.1, h.2.1.cells.2.1⟩, h.2.2.2.2.1.cells, h.2.2.2.2.2.cells⟩

theorem Six.four {w : World} {B a b q r : Nat} (h : Six w B a b q r) : w.cell? ⟨B, 0, none⟩ = some (.int .u64 (hiW a)) ∧ w.cell? ⟨B, 1, none⟩ = some (.int .u64 (loW a)) ∧
    w.cell? ⟨B + 1 + 1 + 1 + 1 + 1, 0, none⟩ = some (.int .u64 (hiW r)) ∧ w.cell? ⟨B + 1 + 1 + 1 + 1 + 1, 1, none⟩ = some (.int .u64 (loW r)) :=
  ⟨h.cells.1.1, h.cells.1.2, h.cells.2.2.2.1, h.cells.2.2.2.2.1⟩

theorem even_bd (q : Nat) : hiW (q + q + 1) = hiW (q + q) ∧ loW (q + q + 1) = loW (q + q) + 1 ∧ loW (q + q) ≤ 18446744073709551614 ∧ 0 ≤ loW (q + q) := by unfold hiW loW; omega
theorem WideAt.inc {w : World} {g q : Nat} (h : WideAt w g (q + q)) : WideAt (w.setCell ⟨g, 1, none⟩ (.int .u64 (loW (q + q) + 1))) g (q + q + 1) := by
  obtain ⟨e1, e2, -⟩ := even_bd q
  have := Blk.set_ h 1 (.int .u64 (loW (q + q) + 1))
  unfold WideAt; rw [e1, e2]; simpa using this
theorem WideAt.far1 {w : World} {g x g' o : Nat} (h : WideAt w g x) (hg : g ≠ g') (u : Value) : WideAt (w.setCell ⟨g', o, none⟩ u) g x := Blk.far h (p := ⟨g', o, none⟩) hg u
theorem Six.inc {w : World} {B a b q r : Nat} (h : Six w B a b (q + q) r) : Six (w.setCell ⟨B + 1 + 1 + 1 + 1, 1, none⟩ (.int .u64 (loW (q + q) + 1))) B a b (q + q + 1) r :=
  ⟨h.1.far1 (by omega) _, h.2.1.far1 (by omega) _, h.2.2.1.far1 (by omega) _, h.2.2.2.1.far1 (by omega) _, h.2.2.2.2.1.inc, h.2.2.2.2.2.far1 (by omega) _⟩

/-- the loop of a division -/
def DivAt (w : World) (B a b : Nat) (i : Value) (wr : World) : Prop := ∃ k : Nat, k ≤ 128 ∧ i = .int .i64 ((k : Int) - 1) ∧ Below B w wr ∧ B ≤ w.heap.size ∧ Six wr B a b (a / 2 ^ k / b) (a / 2 ^ k % b)

theorem DivAt.start {w w1 : World} {B a b : Nat} (ha : Lt128 a) (_hb : 0 < b) (h : Below B w w1) (hB : B ≤ w.heap.size) (hs : Six w1 B a b 0 0) : DivAt w B a b (.int .i64 127) w1 := by
  refine ⟨128, Nat.le_refl _, rfl, h, hB, ?_⟩
  have e : a / 2 ^ 128 = 0 := Nat.div_eq_of_lt (by exact ha)
  rw [e, Nat.zero_div, Nat.zero_mod]; exact hs

def wob (x : Nat) : Obj := .cells #[.int .u64 (hiW x), .int .u64 (loW x)] 110
theorem six_new (w : World) (a b : Nat) : Below w.heap.size w ((((((w.alloc (wob a)).alloc (wob b)).alloc (wob 0)).alloc (wob 0)).alloc (wob 0)).alloc (wob 0)) ∧
    Six ((((((w.alloc (wob a)).alloc (wob b)).alloc (wob 0)).alloc (wob 0)).alloc (wob 0)).alloc (wob 0)) w.heap.size a b 0 0 := by
  have n : ∀ (W : World) (x g : Nat), W.heap.size = g → WideAt (W.alloc (wob x)) g x := fun W x g h => h ▸ WideAt.new W x
  refine ⟨by go_grown, (((((n _ _ _ rfl).alloc _).alloc _).alloc _).alloc _).alloc _, ((((n _ _ _ ?_).alloc _).alloc _).alloc _).alloc _, (((n _ _ _ ?_).alloc _).alloc _).alloc _, ((n _ _ _ ?_).alloc _).alloc _, (n _ _ _ ?_).alloc _, n _ _ _ ?_⟩ <;> simp only [World.size_alloc]

theorem set4 {n : Nat} {W w : World} {g g' : Nat} {u1 u2 u3 u4 : Value} (h : Below n W w) (h1 : n ≤ g) (h2 : n ≤ g') :
    Below n W ((((w.setCell ⟨g, 0, none⟩ u1).setCell ⟨g, 1, none⟩ u2).setCell ⟨g', 0, none⟩ u3).setCell ⟨g', 1, none⟩ u4).drew :=
  ((((h.setCell h1 _).setCell h1 _).setCell h2 _).setCell h2 _).drew

/-- one round's new remainder, and what it comes to -/
def RemAt (w : World) (B a b q r : Nat) (wr : World) : Prop := Below B w wr ∧ Six wr B a b q r

theorem lt127_two {r b : Nat} (hb1 : Lt127 b) (h : r < b) : Lt128 r ∧ Lt128 (r + r + 1) := by unfold Lt127 at hb1; unfold Lt128; omega
theorem hi_zero_lo {x : Nat} (h : x ≤ 1) : hiW x = 0 ∧ loW x = (x : Int) := ⟨small_hi (by unfold Lt64; omega), small_lo (by unfold Lt64; omega)⟩

set_option maxHeartbeats 4000000 in
theorem divide_any (a b : Nat) (w : World) (ha : Lt128 a) (hb : 0 < b) (hb1 : Lt127 b) :
    Calls Try.prog 118 #[.agg #[.int .u64 (hiW a), .int .u64 (loW a)], .agg #[.int .u64 (hiW b), .int .u64 (loW b)]] w fun e w' =>
      e = .returned (.tuple #[.agg #[.int .u64 (hiW (a / b)), .int .u64 (loW (a / b))], .agg #[.int .u64 (hiW (a % b)), .int .u64 (loW (a % b))]]) ∧ Below w.heap.size w w' := by
  obtain ⟨B, hB⟩ : ∃ B, w.heap.size = B := ⟨_, rfl⟩
  have HB := Lib.hid hB
  obtain ⟨n1, n2⟩ := six_new w a b
  rw [hB] at n1 n2
  have HT := Lib.hid (DivAt.start ha hb n1 (Nat.le_of_eq hB.symm) n2)
  clear n1 n2
  go_enter Try.func118, Try.ntmps118
  go_wp2
  go_loopw [8] (fun i wr => DivAt w B a b i wr) (fun i _ => (intOf i + 1).toNat)
  case atStart => exact HT.out
  case round =>
    obtain ⟨k, hk, rfl, hbw, hBw, six⟩ := hrel
    rcases Nat.eq_zero_or_pos k with rfl | hk0
    · rw [Nat.pow_zero, Nat.div_one] at six
      obtain ⟨-, -, ⟨q0, q1, q2, q3⟩, r0, r1, -⟩ := six.cells
      obtain ⟨x0, x1, x2, x3⟩ := six.2.2.1.cells
      obtain ⟨y0, y1, y2, y3⟩ := six.2.2.2.1.cells
      have Hbw := Lib.hid hbw
      have Hs := Lib.hid six
      clear hbw six
      go_upto_region 11 with (fail)
      go_region
      obtain ⟨Z, hZ, k1, k2, nb⟩ : ∃ Z, ((((wr.setCell ⟨B + 1 + 1, 0, none⟩ (.int .u64 (hiW (a / b)))).setCell ⟨B + 1 + 1, 1, none⟩ (.int .u64 (loW (a / b)))).setCell ⟨B + 1 + 1 + 1, 0, none⟩ (.int .u64 (hiW (a % b)))).setCell ⟨B + 1 + 1 + 1, 1, none⟩ (.int .u64 (loW (a % b)))).drew = Z ∧
          WideAt Z (B + 1 + 1) (a / b) ∧ WideAt Z (B + 1 + 1 + 1) (a % b) ∧ Below w.heap.size w Z :=
        ⟨_, rfl, (Hs.out.2.2.1.put (y := a / b)).far (by omega) _ _, (Hs.out.2.2.2.1.far (by omega) _ _).put (y := a % b),
          set4 (by rw [hB]; exact Hbw.out) (by omega) (by omega)⟩
      rw [hZ]
      clear hZ q0 q1 q2 q3 r0 r1 x0 x1 x2 x3 y0 y1 y2 y3
      obtain ⟨c0, c1, -, -⟩ := k1.cells
      obtain ⟨c2, c3, -, -⟩ := k2.cells
      go_wp2
      (try simp only [Exit.inBlock, Exit.then])
      refine bodyPost_ret (by simp [results, Try.results118, go_sem, c0, c1, c2, c3]; try rfl) rfl ?_
      exact ⟨rfl, nb⟩
    · obtain ⟨j, rfl⟩ : ∃ j, k = j + 1 := ⟨k - 1, by omega⟩
      have ey : ((j + 1 : Nat) : Int) - 1 = (j : Int) := by omega
      rw [ey]
      obtain ⟨q, hq⟩ : ∃ q, q = a / 2 ^ (j + 1) / b := ⟨_, rfl⟩
      obtain ⟨r, hr⟩ : ∃ r, r = a / 2 ^ (j + 1) % b := ⟨_, rfl⟩
      rw [← hq, ← hr] at six
      have rb : r < b := hr ▸ Nat.mod_lt _ hb
      obtain ⟨l1, l2⟩ := lt127_two hb1 rb
      have D := Lib.hid (div_round hb hq hr)
      have qb : q + q ≤ a / 2 ^ j := by
        have h1 : q ≤ a / 2 ^ (j + 1) := by rw [hq]; exact Nat.div_le_self _ _
        rw [Nat.pow_succ, ← Nat.div_div_eq_div_mul] at h1
        omega
      have ab : a / 2 ^ j ≤ a := Nat.div_le_self _ _
      have P1 := Lib.hid (fun x => plus_any q q x (by unfold Lt128 at ha ⊢; omega) (by unfold Lt128 at ha ⊢; omega))
      rw [m128_id (x := q + q) (by unfold Lt128 at ha ⊢; omega)] at P1
      have P2 := Lib.hid (fun x => plus_any r r x l1 l1)
      rw [m128_id (x := r + r) (by unfold Lt128 at l2 ⊢; omega)] at P2
      have P3 := Lib.hid (fun x => bit_any a j x ha (by omega))
      obtain ⟨d, hd⟩ : ∃ d, a / 2 ^ j % 2 = d := ⟨_, rfl⟩
      rw [hd] at P3 D
      have d1 : d ≤ 1 := by omega
      obtain ⟨z1, z2⟩ := hi_zero_lo d1
      have P4 := Lib.hid (fun x => plus_any (r + r) d x (by unfold Lt128 at l2 ⊢; omega) (by unfold Lt128 at l2 ⊢; omega))
      rw [z1, z2, m128_id (x := r + r + d) (by unfold Lt128 at l2 ⊢; omega)] at P4
      obtain ⟨⟨a0, a1⟩, ⟨b0, b1⟩, ⟨q0, q1, q2, q3⟩, r0, r1, r2, r3⟩ := six.cells
      have Hs := Lib.hid six; have Hbw := Lib.hid hbw; have HBw := Lib.hid hBw
      have Hrb := Lib.hid rb
      have Hd := Lib.hid hd
      clear six hbw hBw hq hr ey rb l1 l2 qb ab hd d1 z1 z2
      go_wp2_with fail
      refine (P1.out _).mono ?_; rintro e w1 ⟨rfl, hb1⟩
      have s1 := Hs.out.below hb1
      clear a0 a1 b0 b1 q0 q1 q2 q3 r0 r1 r2 r3
      obtain ⟨-, -, ⟨q0, q1, q2, q3⟩, -⟩ := s1.cells
      have Hs1 := Lib.hid (s1.putq (y := q + q))
      have H1 := Lib.hid (over (u := .int .u64 (hiW (q + q))) (v := .int .u64 (loW (q + q))) (g := B + 1 + 1 + 1 + 1) Hbw.out (by omega) HBw.out hb1)
      clear s1 hb1
      go_upto_region 7 with (fail)
      obtain ⟨X, hX⟩ : ∃ X, ((w1.setCell ⟨B + 1 + 1 + 1 + 1, 0, none⟩ (.int .u64 (hiW (q + q)))).setCell ⟨B + 1 + 1 + 1 + 1, 1, none⟩ (.int .u64 (loW (q + q)))) = X := ⟨_, rfl⟩
      rw [hX] at Hs1 H1 ⊢
      clear hX q0 q1 q2 q3
      go_cut [] (fun wc => RemAt w B a b (q + q) (r + r + d) wc)
      case first =>
        obtain ⟨⟨a0, a1⟩, -, -, r0, r1, r2, r3⟩ := Hs1.out.cells
        go_region_with ((first
          | (go_at_call_of 113 (Value.agg #[.int .u64 (hiW r), .int .u64 (loW r)]); refine (P2.out _).mono ?_; rintro e w2 ⟨rfl, hb2⟩; have s2 := Hs1.out.drew.below hb2; obtain ⟨⟨x0, x1⟩, -, -, -⟩ := s2.cells)
          | (go_at_call 120; refine (P3.out _).mono ?_; rintro e w3 ⟨rfl, hb3⟩; have s3 := s2.below hb3)
          | (go_at_call 113; refine (P4.out _).mono ?_; rintro e w4 ⟨rfl, hb4⟩; have s4 := s3.below hb4; obtain ⟨-, -, -, y0, y1, y2, y3⟩ := s4.cells)))
        all_goals go_wp2_with (fail)
        all_goals go_meet
        all_goals exact ⟨over (through (through H1.out.drew (by rw [HB.out]; exact Nat.le_refl _) hb2) (by rw [HB.out]; exact Nat.le_refl _) hb3) (by omega) (by rw [HB.out]; exact Nat.le_refl _) hb4, s4.putr⟩
      case rest =>
        obtain ⟨hbx, sx⟩ := hcut
        have L := Lib.hid (fun x => less_any (r + r + d) b x)
        obtain ⟨-, ⟨b0, b1⟩, -, r0, r1, -⟩ := sx.cells
        have Hsx := Lib.hid sx
        have Hbx := Lib.hid hbx
        clear sx hbx
        by_cases lt : r + r + d < b
        · have E := Lib.hid (D.out.1 lt)
          rw [decide_eq_true lt] at L
          clear lt
          go_wp2_with fail
          refine (L.out _).mono ?_; rintro e w5 ⟨rfl, hb5⟩
          have Hs5 := Lib.hid (Hsx.out.below hb5)
          have H5 := Lib.hid (through Hbx.out (by rw [HB.out]; exact Nat.le_refl _) hb5)
          clear hb5
          go_wp2
          go_roundw
          case rel => exact ⟨j, by omega, rfl, H5.out, HBw.out, by rw [E.out.1, E.out.2]; exact Hs5.out⟩
          case measure => simp only [intOf]; omega
        · have E := Lib.hid (D.out.2 (by omega))
          have M := Lib.hid (fun x => minus_any (r + r + d) b x (by rw [← Hd.out]; unfold Lt128; unfold Lt127 at hb1; have := Hrb.out; omega) (by omega))
          rw [decide_eq_false lt] at L
          clear lt
          go_wp2_with fail
          refine (L.out _).mono ?_; rintro e w5 ⟨rfl, hb5⟩
          have s5 := Hsx.out.below hb5
          have H5 := Lib.hid (through Hbx.out (by rw [HB.out]; exact Nat.le_refl _) hb5)
          clear hb5 b0 b1 r0 r1
          obtain ⟨-, ⟨b0, b1⟩, -, r0, r1, -⟩ := s5.cells
          have Hs5 := Lib.hid s5
          clear s5
          go_wp2_with fail
          refine (M.out _).mono ?_; rintro e w6 ⟨rfl, hb6⟩
          have s6 := Hs5.out.below hb6
          clear b0 b1 r0 r1
          obtain ⟨-, -, -, r0, r1, r2, r3⟩ := s6.cells
          have s7 := s6.putr (y := r + r + d - b)
          obtain ⟨-, -, ⟨q0, q1, q2, q3⟩, -⟩ := s7.cells
          obtain ⟨-, -, e3, e4⟩ := even_bd q
          have Hs7 := Lib.hid s7.inc
          have H7 := Lib.hid ((over (u := .int .u64 (hiW (r + r + d - b))) (v := .int .u64 (loW (r + r + d - b))) (g := B + 1 + 1 + 1 + 1 + 1) H5.out (by omega) (by rw [HB.out]; exact Nat.le_refl _) hb6).setCell (p := ⟨B + 1 + 1 + 1 + 1, 1, none⟩) (by show B ≤ B + 1 + 1 + 1 + 1; omega) (.int .u64 (loW (q + q) + 1)))
          clear s6 s7 hb6
          go_wp2
          go_roundw
          case rel => exact ⟨j, by omega, rfl, H7.out, HBw.out, by rw [E.out.1, E.out.2]; exact Hs7.out⟩
          case measure => simp only [intOf]; omega
end Go.Proofs.Ytcechimilefihaa.Fr

namespace Go.Proofs.Ytcechimilefihaa.Fr
open Go.ChangeShapes Go.WideShapes Go.ChangeAt Go.RowKit M

def asN (x : Nat) : Int := if x ≤ M63 then (x : Int) else 0
def asB (x : Nat) : Bool := decide (x ≤ M63)
theorem as_yes {x : Nat} (h : x ≤ M63) : asN x = (x : Int) ∧ asB x = true := ⟨if_pos h, decide_eq_true h⟩
theorem as_no {x : Nat} (h : ¬ x ≤ M63) : asN x = 0 ∧ asB x = false := ⟨if_neg h, decide_eq_false h⟩

theorem as_any (x : Nat) (w : World) (hx : Lt128 x) :
    Calls Try.prog 107 #[.agg #[.int .u64 (hiW x), .int .u64 (loW x)]] w fun e w' => e = .returned (.tuple #[.int .i64 (asN x), .bool (asB x)]) ∧ Below w.heap.size w w' := by
  have b1 := hi_bd hx
  have b2 := lo_bd x
  by_cases h : x ≤ M63
  · obtain ⟨e1, e2⟩ := as_yes h
    have E1 := Lib.hid e1
    have E2 := Lib.hid e2
    have h1 : hiW x = 0 := by unfold M63 at h; unfold hiW; omega
    have h2 : loW x = x := by unfold M63 at h; unfold loW; omega
    have h3 : decide (0 < hiW x) = false := by rw [h1]; rfl
    have h4 : loW x ≤ 9223372036854775807 := by unfold M63 at h; omega
    have h5 : decide (9223372036854775807 < loW x) = false := decide_eq_false (by omega)
    have H2 := Lib.hid h2
    clear h1 h2 e1 e2 h hx
    go_enter Try.func107, Try.ntmps107
    go_wp2
    go_returns
    exact ⟨ret_ib (by rw [E1.out, H2.out]) E2.out.symm, by go_grown⟩
  · obtain ⟨e1, e2⟩ := as_no h
    have E1 := Lib.hid e1
    have E2 := Lib.hid e2
    rcases (show 0 < hiW x ∨ (hiW x = 0 ∧ 9223372036854775807 < loW x) by unfold M63 at h; unfold hiW loW; omega) with h1 | ⟨h1, h2⟩
    · have h3 : decide (0 < hiW x) = true := decide_eq_true h1
      clear e1 e2 h hx
      go_enter Try.func107, Try.ntmps107
      go_wp2
      go_returns
      exact ⟨ret_ib E1.out.symm E2.out.symm, by go_grown⟩
    · have h3 : decide (0 < hiW x) = false := by rw [h1]; rfl
      have h4 : decide (9223372036854775807 < loW x) = true := decide_eq_true h2
      clear e1 e2 h h1 hx
      go_enter Try.func107, Try.ntmps107
      go_wp2
      go_returns
      exact ⟨ret_ib E1.out.symm E2.out.symm, by go_grown⟩
end Go.Proofs.Ytcechimilefihaa.Fr

namespace Go.Proofs.Ytcechimilefihaa.Fr
open Go.ChangeShapes Go.WideShapes Go.ChangeAt Go.RowKit M

def Tri (w : World) (B p q : Nat) : Prop := WideAt w B p ∧ WideAt w (B + 1) q ∧ WideAt w (B + 1 + 1) 0
theorem Tri.below {w w' : World} {B p q : Nat} (h : Tri w B p q) (hb : Below w.heap.size w w') : Tri w' B p q :=
  ⟨h.1.below hb h.1.lt, h.2.1.below hb h.2.1.lt, h.2.2.below hb h.2.2.lt⟩
theorem Tri.alloc {w : World} {B p q : Nat} (h : Tri w B p q) (o : Obj) : Tri (w.alloc o) B p q := ⟨h.1.alloc o, h.2.1.alloc o, h.2.2.alloc o⟩
theorem Tri.puta {w : World} {B p q y : Nat} (h : Tri w B p q) : Tri ((w.setCell ⟨B, 0, none⟩ (.int .u64 (hiW y))).setCell ⟨B, 1, none⟩ (.int .u64 (loW y))) B y q :=
  ⟨h.1.put, h.2.1.far (by omega) _ _, h.2.2.far (by omega) _ _⟩
theorem Tri.putb {w : World} {B p q y : Nat} (h : Tri w B p q) : Tri ((w.setCell ⟨B + 1, 0, none⟩ (.int .u64 (hiW y))).setCell ⟨B + 1, 1, none⟩ (.int .u64 (loW y))) B p y :=
  ⟨h.1.far (by omega) _ _, h.2.1.put, h.2.2.far (by omega) _ _⟩
theorem tri_new (w : World) (a b : Nat) : Below w.heap.size w (((w.alloc (wob a)).alloc (wob b)).alloc (wob 0)) ∧ Tri (((w.alloc (wob a)).alloc (wob b)).alloc (wob 0)) w.heap.size a b := by
  have n : ∀ (W : World) (x g : Nat), W.heap.size = g → WideAt (W.alloc (wob x)) g x := fun W x g h => h ▸ WideAt.new W x
  refine ⟨by go_grown, ((n _ _ _ rfl).alloc _).alloc _, (n _ _ _ ?_).alloc _, n _ _ _ ?_⟩ <;> simp only [World.size_alloc]

/-- the loop -/
def ComAt (w : World) (B a b : Nat) (i : Value) (wr : World) : Prop :=
  ∃ k p q : Nat, k ≤ 299 ∧ i = .int .i64 (k : Int) ∧ Below B w wr ∧ Tri wr B p q ∧ Lt127 p ∧ Lt127 q ∧ Nat.gcd p q = Nat.gcd a b ∧ Step k p q

theorem wide_nought {q : Nat} (h : 0 < q) : (hiW q == 0) = false ∨ ((hiW q == 0) = true ∧ (loW q == 0) = false) := by
  rcases (show hiW q ≠ 0 ∨ (hiW q = 0 ∧ loW q ≠ 0) by unfold hiW loW; omega) with h1 | ⟨h1, h2⟩
  · exact .inl (beq_eq_false_iff_ne.2 h1)
  · exact .inr ⟨by rw [h1]; rfl, beq_eq_false_iff_ne.2 h2⟩

set_option maxRecDepth 100000 in
set_option maxHeartbeats 4000000 in
theorem common_any (a b : Nat) (w : World) (ha : Lt127 a) (hb : Lt127 b) :
    Calls Try.prog 108 #[.agg #[.int .u64 (hiW a), .int .u64 (loW a)], .agg #[.int .u64 (hiW b), .int .u64 (loW b)]] w fun e w' =>
      e = .returned (.agg #[.int .u64 (hiW (Nat.gcd a b)), .int .u64 (loW (Nat.gcd a b))]) ∧ Below w.heap.size w w' := by
  obtain ⟨B, hB⟩ : ∃ B, w.heap.size = B := ⟨_, rfl⟩
  have HB := Lib.hid hB
  obtain ⟨n1, n2⟩ := tri_new w a b
  rw [hB] at n1 n2
  have HT := Lib.hid (show ComAt w B a b (.int .i64 0) _ from ⟨0, a, b, by omega, rfl, n1, n2, ha, hb, rfl, Step.start hb⟩)
  clear n1 n2
  go_enter Try.func108, Try.ntmps108
  go_wp2
  go_loopw [5] (fun i wr => ComAt w B a b i wr) (fun i _ => (300 - intOf i).toNat)
  case atStart => exact HT.out
  case round =>
    obtain ⟨k, p, q, hk, rfl, hbw, tri, hp, hq, hg, st⟩ := hrel
    obtain ⟨a0, a1, a2, a3⟩ := tri.1.cells
    obtain ⟨b0, b1, b2, b3⟩ := tri.2.1.cells
    have Hg := Lib.hid hg
    have Hbw := Lib.hid hbw
    have Ht := Lib.hid tri
    clear hg hbw
    rcases Nat.eq_zero_or_pos q with rfl | q0
    · obtain ⟨c0, c1, c2, c3⟩ := tri.2.2.cells
      have HE := Lib.hid (show p = Nat.gcd a b by rw [← Hg.out, Nat.gcd_zero_right])
      obtain ⟨z0, z1⟩ := wide_zero
      rw [z0] at b0
      rw [z1] at b1
      obtain ⟨x0, x1⟩ := tri.2.2.back p
      have HN := Lib.hid (show Below w.heap.size w ((wr.setCell ⟨B + 1 + 1, 0, none⟩ (.int .u64 (hiW p))).setCell ⟨B + 1 + 1, 1, none⟩ (.int .u64 (loW p))) by
        rw [HB.out]; exact (Hbw.out.setCell (by show B ≤ B + 1 + 1; omega) _).setCell (by show B ≤ B + 1 + 1; omega) _)
      clear tri z0 z1 st
      go_wp2
      (try simp only [Exit.inBlock, Exit.then])
      refine bodyPost_ret (by simp [results, Try.results108, go_sem, x0, x1]; try rfl) rfl ?_
      exact ⟨by rw [HE.out], HN.out⟩
    · have kl := st.few q0
      have D := Lib.hid (fun x => divide_any p q x (by unfold Lt127 at hp; unfold Lt128; omega) q0 hq)
      have ne := wide_nought q0
      have HS := Lib.hid (st.next q0)
      have HG := Lib.hid (show Nat.gcd q (p % q) = Nat.gcd a b by rw [gcd_step]; exact Hg.out)
      have HR := Lib.hid (show Lt127 (p % q) by have := Nat.mod_lt p q0; unfold Lt127 at hq ⊢; omega)
      have HQ := Lib.hid hq
      clear tri st hp hq q0
      rcases ne with ne | ⟨ne, ne2⟩
      all_goals
        go_wp2_with fail
        refine (D.out _).mono ?_; rintro e w1 ⟨rfl, hb1⟩
        have t1 := Ht.out.below hb1
        have hz := t1.2.2.lt
        clear a0 a1 a2 a3 b0 b1 b2 b3
        obtain ⟨a0, a1, a2, a3⟩ := t1.1.cells
        obtain ⟨b0, b1, b2, b3⟩ := t1.2.1.cells
        have H1 := Lib.hid (through Hbw.out (by rw [HB.out]; exact Nat.le_refl _) hb1)
        obtain ⟨g, hg⟩ : ∃ g, w1.heap.size = g := ⟨_, rfl⟩
        have n : ∀ (W : World) (x g : Nat), W.heap.size = g → WideAt (W.alloc (wob x)) g x := fun W x g h => h ▸ WideAt.new W x
        have m1 := (n w1 (p / q) g hg).alloc (wob (p % q))
        have m2 := n (w1.alloc (wob (p / q))) (p % q) (g + 1) (by rw [World.size_alloc, hg])
        have t2 := (t1.alloc (wob (p / q))).alloc (wob (p % q))
        have H2 := ((H1.out.alloc (show B ≤ w1.heap.size by omega) (wob (p / q))).alloc (by rw [World.size_alloc]; omega) (wob (p % q)))
        clear t1 hb1 a0 a1 a2 a3 b0 b1 b2 b3
        rw [hg] at hz
        go_upto_region 7 with (fail)
        obtain ⟨X, hX⟩ : ∃ X, ((w1.alloc (.cells #[.int .u64 (hiW (p / q)), .int .u64 (loW (p / q))] 110)).alloc (.cells #[.int .u64 (hiW (p % q)), .int .u64 (loW (p % q))] 110)) = X := ⟨_, rfl⟩
        unfold wob at m1 m2 t2 H2
        rw [hX] at m1 m2 t2 H2 ⊢
        obtain ⟨a0, a1, a2, a3⟩ := t2.1.cells
        obtain ⟨b0, b1, b2, b3⟩ := t2.2.1.cells
        obtain ⟨d0, d1, d2, d3⟩ := m2.cells
        have gB : ¬ g + 1 = B := by omega
        have Ht2 := Lib.hid ((t2.puta (y := q)).putb (y := p % q))
        have HB2 := Lib.hid ((((H2.setCell (p := ⟨B, 0, none⟩) (Nat.le_refl _) (.int .u64 (hiW q))).setCell (p := ⟨B, 1, none⟩) (Nat.le_refl _) (.int .u64 (loW q))).setCell (p := ⟨B + 1, 0, none⟩) (by show B ≤ B + 1; omega) (.int .u64 (hiW (p % q)))).setCell (p := ⟨B + 1, 1, none⟩) (by show B ≤ B + 1; omega) (.int .u64 (loW (p % q))))
        clear hX hg n m1 m2 t2 H2
        go_wp2
        go_roundw
        case rel => exact ⟨k + 1, q, p % q, by omega, by go_num, HB2.out, Ht2.out, HQ.out, HR.out, HG.out, HS.out⟩
        case measure => simp only [intOf]; omega
end Go.Proofs.Ytcechimilefihaa.Fr

namespace Go.Proofs.Ytcechimilefihaa.Fr
open Go.ChangeShapes Go.WideShapes Go.ChangeAt Go.RowKit M

/-- a block holds a fraction -/
def FracAt (w : World) (g : Nat) (a b : Int) : Prop := Blk w g 43 #[.int .i64 a, .int .i64 b]
theorem FracAt.cells {w : World} {g : Nat} {a b : Int} (h : FracAt w g a b) : w.cell? ⟨g, 0, none⟩ = some (.int .i64 a) ∧ w.cell? ⟨g, 1, none⟩ = some (.int .i64 b) ∧ w.frozen? ⟨g, 0, none⟩ = false ∧ w.frozen? ⟨g, 1, none⟩ = false := by
  have c0 := Blk.cell h 0; have c1 := Blk.cell h 1
  exact ⟨by simpa using c0, by simpa using c1, Blk.frozen h 0, Blk.frozen h 1⟩
theorem FracAt.below {w w' : World} {g B : Nat} {a b : Int} (h : FracAt w g a b) (hb : Below B w w') (hg : g < B) : FracAt w' g a b := Blk.below h hb hg
theorem FracAt.put {w : World} {g : Nat} {a b c d : Int} (h : FracAt w g a b) : FracAt ((w.setCell ⟨g, 0, none⟩ (.int .i64 c)).setCell ⟨g, 1, none⟩ (.int .i64 d)) g c d := by
  have := (Blk.set_ h 0 (.int .i64 c)).set_ 1 (.int .i64 d)
  simpa [FracAt] using this
theorem FracAt.far {w : World} {g g' : Nat} {a b : Int} (h : FracAt w g a b) (hg : g ≠ g') (u v : Value) : FracAt ((w.setCell ⟨g', 0, none⟩ u).setCell ⟨g', 1, none⟩ v) g a b :=
  Blk.far (Blk.far h (p := ⟨g', 0, none⟩) hg u) (p := ⟨g', 1, none⟩) hg v
theorem FracAt.back {w : World} {g : Nat} {a b : Int} (h : FracAt w g a b) (c d : Int) : (w.setCell ⟨g, 0, none⟩ (.int .i64 c)).cell? ⟨g, 0, none⟩ = some (.int .i64 c) ∧
    ((w.setCell ⟨g, 0, none⟩ (.int .i64 c)).setCell ⟨g, 1, none⟩ (.int .i64 d)).cell? ⟨g, 1, none⟩ = some (.int .i64 d) := by
  have a := (Blk.set_ h 0 (.int .i64 c)).cell 0
  exact ⟨by simpa using a, h.put.cells.2.1⟩
theorem FracAt.lt {w : World} {g : Nat} {a b : Int} (h : FracAt w g a b) : g < w.heap.size := Blk.lt h
theorem FracAt.alloc {w : World} {g : Nat} {a b : Int} (h : FracAt w g a b) (o : Obj) : FracAt (w.alloc o) g a b := Blk.alloc h o
def fob (a b : Int) : Obj := .cells #[.int .i64 a, .int .i64 b] 43
theorem wide_at (W : World) (x g : Nat) (h : W.heap.size = g) : WideAt (W.alloc (wob x)) g x := h ▸ WideAt.new W x
theorem frac_at (W : World) (a b : Int) (g : Nat) (h : W.heap.size = g) : FracAt (W.alloc (fob a b)) g a b := h ▸ Blk.new W _ _

/-- what is made right: both numbers, and the place for the result -/
def Rt (w : World) (B n d : Nat) : Prop := WideAt w B n ∧ WideAt w (B + 1) d ∧ FracAt w (B + 1 + 1) 0 0
theorem Rt.below {w w' : World} {B n d : Nat} (h : Rt w B n d) (hb : Below w.heap.size w w') : Rt w' B n d := ⟨h.1.below hb h.1.lt, h.2.1.below hb h.2.1.lt, h.2.2.below hb h.2.2.lt⟩
theorem Rt.alloc {w : World} {B n d : Nat} (h : Rt w B n d) (o : Obj) : Rt (w.alloc o) B n d := ⟨h.1.alloc o, h.2.1.alloc o, h.2.2.alloc o⟩
theorem rt_new (w : World) (n d : Nat) : Below w.heap.size w (((w.alloc (wob n)).alloc (wob d)).alloc (fob 0 0)) ∧ Rt (((w.alloc (wob n)).alloc (wob d)).alloc (fob 0 0)) w.heap.size n d := by
  refine ⟨by go_grown, ((wide_at _ _ _ rfl).alloc _).alloc _, (wide_at _ _ _ ?_).alloc _, frac_at _ _ _ _ ?_⟩ <;> simp only [World.size_alloc]

theorem size_le {n : Nat} {W X : World} (h : Below n W X) : W.heap.size ≤ X.heap.size := h.size

theorem right_vals {n d p q : Nat} (hp : n / Nat.gcd n d = p) (hq : d / Nat.gcd n d = q) :
    rightR n d = ⟨if asB p && asB q then asN p else 0, if asB p && asB q then asN q else 0, asB p && asB q⟩ := by
  unfold rightR
  rw [hp, hq]
  unfold bigB
  by_cases h1 : p ≤ M63 <;> by_cases h2 : q ≤ M63
  · rw [if_neg (by simp; omega), (as_yes h1).1, (as_yes h1).2, (as_yes h2).1, (as_yes h2).2]; rfl
  · rw [if_pos (by simp; omega), (as_yes h1).2, (as_no h2).2]; rfl
  · rw [if_pos (by simp; omega), (as_no h1).2]; rfl
  · rw [if_pos (by simp; omega), (as_no h1).2]; rfl

set_option maxHeartbeats 4000000 in
theorem right_any (n d : Nat) (w : World) (hn : Lt127 n) (hd : Lt127 d) (d0 : 0 < d) :
    Calls Try.prog 109 #[.agg #[.int .u64 (hiW n), .int .u64 (loW n)], .agg #[.int .u64 (hiW d), .int .u64 (loW d)]] w fun e w' => e = rV (rightR n d) ∧ Below w.heap.size w w' := by
  obtain ⟨B, hB⟩ : ∃ B, w.heap.size = B := ⟨_, rfl⟩
  have HB := Lib.hid hB
  obtain ⟨h0, s0⟩ := rt_new w n d
  rw [hB] at h0 s0
  have C := Lib.hid (fun x => common_any n d x hn hd)
  obtain ⟨g, hg⟩ : ∃ g, Nat.gcd n d = g := ⟨_, rfl⟩
  have g0 : 0 < g := hg ▸ Nat.gcd_pos_of_pos_right _ d0
  have gl : Lt127 g := by have := Nat.gcd_le_right n d0; rw [hg] at this; unfold Lt127 at hd ⊢; omega
  rw [hg] at C
  have nl : Lt128 n := by unfold Lt127 at hn; unfold Lt128; omega
  have dl : Lt128 d := by unfold Lt127 at hd; unfold Lt128; omega
  have D1 := Lib.hid (fun x => divide_any n g x nl g0 gl)
  have D2 := Lib.hid (fun x => divide_any d g x dl g0 gl)
  obtain ⟨p, hp⟩ : ∃ p, n / g = p := ⟨_, rfl⟩
  obtain ⟨q, hq⟩ : ∃ q, d / g = q := ⟨_, rfl⟩
  obtain ⟨r1, hr1⟩ : ∃ r, n % g = r := ⟨_, rfl⟩
  obtain ⟨r2, hr2⟩ : ∃ r, d % g = r := ⟨_, rfl⟩
  rw [hp, hr1] at D1
  rw [hq, hr2] at D2
  have HE := Lib.hid (right_vals (n := n) (d := d) (p := p) (q := q) (by rw [hg]; exact hp) (by rw [hg]; exact hq))
  have A1 := Lib.hid (fun x => as_any p x (by have := Nat.div_le_self n g; rw [hp] at this; unfold Lt128 at nl ⊢; omega))
  have A2 := Lib.hid (fun x => as_any q x (by have := Nat.div_le_self d g; rw [hq] at this; unfold Lt128 at dl ⊢; omega))
  have H0 := Lib.hid h0
  have Hs0 := Lib.hid s0
  obtain ⟨X0, hX0⟩ : ∃ X, (((w.alloc (wob n)).alloc (wob d)).alloc (fob 0 0)) = X := ⟨_, rfl⟩
  rw [hX0] at H0 Hs0
  clear hg g0 gl nl dl hp hq hr1 hr2 hn hd d0 h0 s0
  unfold wob fob at hX0
  go_enter Try.func109, Try.ntmps109
  go_upto_region 1 with (fail)
  (try rw [hX0])
  clear hX0
  obtain ⟨a0, a1, -, -⟩ := Hs0.out.1.cells
  obtain ⟨b0, b1, -, -⟩ := Hs0.out.2.1.cells
  go_wp2_with fail
  refine (C.out _).mono ?_; rintro e w1 ⟨rfl, hb1⟩
  clear a0 a1 b0 b1
  have H1 := Lib.hid (through H0.out (by rw [HB.out]; exact Nat.le_refl _) hb1)
  have Hs1 := Lib.hid (Hs0.out.below hb1)
  clear hb1
  obtain ⟨k1, hk1⟩ : ∃ k, w1.heap.size = k := ⟨_, rfl⟩
  go_upto_region 2 with (fail)
  obtain ⟨X1, hX1, m1⟩ : ∃ X, (w1.alloc (wob g)) = X ∧ WideAt X k1 g := ⟨_, rfl, wide_at _ _ _ hk1⟩
  have H2 := Lib.hid (H1.out.alloc (show B ≤ w1.heap.size by have := size_le H1.out; omega) (wob g))
  have Hs2 := Lib.hid (Hs1.out.alloc (wob g))
  rw [hX1] at H2 Hs2
  unfold wob at hX1
  rw [hX1]
  clear hX1 hk1
  obtain ⟨a0, a1, -, -⟩ := Hs2.out.1.cells
  obtain ⟨c0, c1, -, -⟩ := m1.cells
  have Hm1 := Lib.hid m1
  clear m1
  go_wp2_with fail
  refine (D1.out _).mono ?_; rintro e w2 ⟨rfl, hb2⟩
  clear a0 a1 c0 c1
  have H3 := Lib.hid (through H2.out (by rw [HB.out]; exact Nat.le_refl _) hb2)
  have Hs3 := Lib.hid (Hs2.out.below hb2)
  have Hm3 := Lib.hid (Hm1.out.below hb2 Hm1.out.lt)
  clear hb2
  obtain ⟨k2, hk2⟩ : ∃ k, w2.heap.size = k := ⟨_, rfl⟩
  go_upto_region 3 with (fail)
  obtain ⟨X2, hX2, m2⟩ : ∃ X, ((w2.alloc (wob p)).alloc (wob r1)) = X ∧ WideAt X k2 p := ⟨_, rfl, (wide_at _ _ _ hk2).alloc _⟩
  have H4 := Lib.hid ((H3.out.alloc (show B ≤ w2.heap.size by have := size_le H3.out; omega) (wob p)).alloc (by have := size_le H3.out; rw [World.size_alloc]; omega) (wob r1))
  have Hs4 := Lib.hid ((Hs3.out.alloc (wob p)).alloc (wob r1))
  have Hm4 := Lib.hid ((Hm3.out.alloc (wob p)).alloc (wob r1))
  rw [hX2] at H4 Hs4 Hm4
  unfold wob at hX2
  rw [hX2]
  clear hX2 hk2
  obtain ⟨b0, b1, -, -⟩ := Hs4.out.2.1.cells
  obtain ⟨c0, c1, -, -⟩ := Hm4.out.cells
  have Hn4 := Lib.hid m2
  clear m2
  go_wp2_with fail
  refine (D2.out _).mono ?_; rintro e w3 ⟨rfl, hb3⟩
  clear b0 b1 c0 c1
  have H5 := Lib.hid (through H4.out (by rw [HB.out]; exact Nat.le_refl _) hb3)
  have Hs5 := Lib.hid (Hs4.out.below hb3)
  have Hn5 := Lib.hid (Hn4.out.below hb3 Hn4.out.lt)
  clear hb3
  obtain ⟨k3, hk3⟩ : ∃ k, w3.heap.size = k := ⟨_, rfl⟩
  go_upto_region 4 with (fail)
  obtain ⟨X3, hX3, m3⟩ : ∃ X, ((w3.alloc (wob q)).alloc (wob r2)) = X ∧ WideAt X k3 q := ⟨_, rfl, (wide_at _ _ _ hk3).alloc _⟩
  have H6 := Lib.hid ((H5.out.alloc (show B ≤ w3.heap.size by have := size_le H5.out; omega) (wob q)).alloc (by have := size_le H5.out; rw [World.size_alloc]; omega) (wob r2))
  have Hs6 := Lib.hid ((Hs5.out.alloc (wob q)).alloc (wob r2))
  have Hn6 := Lib.hid ((Hn5.out.alloc (wob q)).alloc (wob r2))
  rw [hX3] at H6 Hs6 Hn6
  unfold wob at hX3
  rw [hX3]
  clear hX3 hk3
  obtain ⟨c0, c1, -, -⟩ := Hn6.out.cells
  have Ho6 := Lib.hid m3
  clear m3
  go_wp2_with fail
  refine (A1.out _).mono ?_; rintro e w4 ⟨rfl, hb4⟩
  clear c0 c1
  have H7 := Lib.hid (through H6.out (by rw [HB.out]; exact Nat.le_refl _) hb4)
  have Hs7 := Lib.hid (Hs6.out.below hb4)
  have Ho7 := Lib.hid (Ho6.out.below hb4 Ho6.out.lt)
  clear hb4
  obtain ⟨c0, c1, -, -⟩ := Ho7.out.cells
  go_wp2_with fail
  refine (A2.out _).mono ?_; rintro e w5 ⟨rfl, hb5⟩
  clear c0 c1
  have H8 := Lib.hid (through H7.out (by rw [HB.out]; exact Nat.le_refl _) hb5)
  have Hs8 := Lib.hid (Hs7.out.below hb5)
  clear hb5
  obtain ⟨d0, d1, d2, d3⟩ := Hs8.out.2.2.cells
  obtain ⟨f0, f1⟩ := Hs8.out.2.2.back (if asB p && asB q then asN p else 0) (if asB p && asB q then asN q else 0)
  have HN := Lib.hid (show Below w.heap.size w ((w5.setCell ⟨B + 1 + 1, 0, none⟩ (.int .i64 (if asB p && asB q then asN p else 0))).setCell ⟨B + 1 + 1, 1, none⟩ (.int .i64 (if asB p && asB q then asN q else 0))) by
    rw [HB.out]; exact (H8.out.setCell (by show B ≤ B + 1 + 1; omega) _).setCell (by show B ≤ B + 1 + 1; omega) _)
  cases e1 : asB p <;> cases e2 : asB q
  all_goals
    rw [e1, e2] at f0 f1 HN HE
    simp only [Bool.and_self, Bool.and_true, Bool.and_false, if_true, if_false, Bool.false_eq_true] at f0 f1 HN HE
    go_wp2
    (try simp only [Exit.inBlock, Exit.then])
    refine bodyPost_ret (by simp [results, Try.results109, go_sem, f0, f1]; try rfl) rfl ?_
    exact ⟨by rw [HE.out]; rfl, HN.out⟩
end Go.Proofs.Ytcechimilefihaa.Fr

namespace Go.Proofs.Ytcechimilefihaa.Fr
open Go.ChangeShapes Go.WideShapes Go.ChangeAt Go.RowKit M

theorem small_wide {a : Int} (h0 : 0 ≤ a) (h1 : a ≤ 9223372036854775807) : Lt127 a.toNat ∧ hiW a.toNat = 0 ∧ loW a.toNat = a := by
  refine ⟨by unfold Lt127; omega, small_hi (by unfold Lt64; omega), ?_⟩
  rw [small_lo (by unfold Lt64; omega)]; omega

theorem gcd_small {a b : Nat} (ha : a ≤ 9223372036854775807) (hb : b ≤ 9223372036854775807) : Nat.gcd a b ≤ M63 := by
  unfold M63
  rcases Nat.eq_zero_or_pos a with rfl | h
  · rw [Nat.gcd_zero_left]; exact hb
  · exact Nat.le_trans (Nat.gcd_le_left b h) ha

theorem rGcd_any (a b : Int) (w : World) (ha : I64 a) (hb : I64 b) :
    Calls Try.prog 78 #[.int .i64 a, .int .i64 b] w fun e w' => e = .returned (.int .i64 (gcdF a b)) ∧ Below w.heap.size w w' := by
  unfold I64 at ha hb
  by_cases h : a < 0 ∨ b < 0
  · have E := Lib.hid (show gcdF a b = 0 from if_pos h)
    rcases (show a < 0 ∨ (0 ≤ a ∧ b < 0) by omega) with h1 | ⟨h1, h2⟩
    all_goals
      clear h
      go_enter Try.func78, Try.ntmps78
      go_wp2
      go_returns
      exact ⟨ret_int E.out.symm, by go_grown⟩
  · have h1 : 0 ≤ a := by omega
    have h2 : 0 ≤ b := by omega
    obtain ⟨s1, s2, s3⟩ := small_wide h1 ha.2
    obtain ⟨t1, t2, t3⟩ := small_wide h2 hb.2
    have C := Lib.hid (fun x => common_any a.toNat b.toNat x s1 t1)
    rw [s2, s3, t2, t3] at C
    have gs := gcd_small (a := a.toNat) (b := b.toNat) (by omega) (by omega)
    have A1 := Lib.hid (fun x => as_any (Nat.gcd a.toNat b.toNat) x (by unfold M63 at gs; unfold Lt128; omega))
    rw [(as_yes gs).1, (as_yes gs).2] at A1
    have E := Lib.hid (show gcdF a b = (Nat.gcd a.toNat b.toNat : Int) from if_neg h)
    have e1 := le_64 h1 ha.2
    have e2 := le_64 h2 hb.2
    have d1 : (decide (a < 0) || decide (b < 0)) = false := by simp; omega
    obtain ⟨g, hg⟩ : ∃ g, Nat.gcd a.toNat b.toNat = g := ⟨_, rfl⟩
    rw [hg] at C A1 E
    clear s1 s2 s3 t1 t2 t3 gs hg h
    go_enter Try.func78, Try.ntmps78
    go_wp2_with fail
    refine (C.out _).mono ?_; rintro e w1 ⟨rfl, hb1⟩
    go_wp2_with fail
    refine (A1.out _).mono ?_; rintro e w2 ⟨rfl, hb2⟩
    go_wp2
    go_returns
    exact ⟨ret_int E.out.symm, hb1.trans (hb2.mono hb1.size)⟩

theorem rOf_any (n d : Int) (w : World) (hn : I64 n) (hd : I64 d) :
    Calls Try.prog 79 #[.int .i64 n, .int .i64 d] w fun e w' => e = rV (ofR n d) ∧ Below w.heap.size w w' := by
  unfold I64 at hn hd
  by_cases h : n < 0 ∨ d < 1
  · have E := Lib.hid (show ofR n d = ⟨0, 0, false⟩ from if_pos h)
    rcases (show n < 0 ∨ (0 ≤ n ∧ d < 1) by omega) with h1 | ⟨h1, h2⟩
    all_goals
      clear h
      go_enter Try.func79, Try.ntmps79
      go_wp2
      go_returns
      exact ⟨by rw [E.out]; rfl, by go_grown⟩
  · have h1 : 0 ≤ n := by omega
    have h2 : 1 ≤ d := by omega
    obtain ⟨s1, s2, s3⟩ := small_wide h1 hn.2
    obtain ⟨t1, t2, t3⟩ := small_wide (show 0 ≤ d by omega) hd.2
    have R := Lib.hid (fun x => right_any n.toNat d.toNat x s1 t1 (by omega))
    rw [s2, s3, t2, t3] at R
    have E := Lib.hid (show ofR n d = rightR n.toNat d.toNat from if_neg h)
    have e1 := le_64 h1 hn.2
    have e2 := le_64 (show 0 ≤ d by omega) hd.2
    have d1 : (decide (n < 0) || decide (d < 1)) = false := by simp; omega
    generalize rightR n.toNat d.toNat = r at *
    obtain ⟨rn, rd, ro⟩ := r
    unfold rV at R
    simp only at R
    clear s1 s2 s3 t1 t2 t3 h
    obtain ⟨X, hX, f0⟩ : ∃ X, (w.alloc (fob 0 0)) = X ∧ FracAt X w.heap.size 0 0 := ⟨_, rfl, frac_at _ _ _ _ rfl⟩
    have H0 : Below w.heap.size w X := hX ▸ (Below.refl _ _).alloc (Nat.le_refl _) _
    unfold fob at hX
    have Hf := Lib.hid f0
    have HH := Lib.hid H0
    clear f0 H0
    go_enter Try.func79, Try.ntmps79
    go_wp2_with fail
    refine (R.out _).mono ?_; rintro e w1 ⟨rfl, hb1⟩
    have f1 := Hf.out.below hb1 Hf.out.lt
    obtain ⟨c0, c1, c2, c3⟩ := f1.cells
    obtain ⟨q0, q1⟩ := f1.back rn rd
    have HN := Lib.hid (((through HH.out (Nat.le_refl _) hb1).setCell (p := ⟨w.heap.size, 0, none⟩) (Nat.le_refl _) (.int .i64 rn)).setCell (p := ⟨w.heap.size, 1, none⟩) (Nat.le_refl _) (.int .i64 rd))
    clear hb1 f1 hX
    go_wp2
    (try simp only [Exit.inBlock, Exit.then])
    refine bodyPost_ret (by simp [results, Try.results79, go_sem, q0, q1]; try rfl) rfl ?_
    exact ⟨by rw [E.out]; rfl, HN.out⟩

theorem rCeil_any (a b : Int) (w : World) (h : Lowest a b) :
    Calls Try.prog 86 #[.agg #[.int .i64 a, .int .i64 b]] w fun e w' => e = .returned (.int .i64 (ceilR a b)) ∧ Below w.heap.size w w' := by
  obtain ⟨h0, h1, h2, h3, -⟩ := h
  have q0 : 0 ≤ a / b ∧ a / b ≤ a := ⟨Int.ediv_nonneg h0 (by omega), Int.ediv_le_self _ h0⟩
  have m0 := Int.emod_nonneg a (show b ≠ 0 by omega)
  have m1 := Int.emod_lt_of_pos a (show 0 < b by omega)
  have dm := Int.mul_ediv_add_emod a b
  by_cases hm : 0 < a % b
  · have e : ceilR a b = a / b + 1 := by
      unfold ceilR
      rw [show a + b - 1 = (a % b - 1) + b * (a / b + 1) by rw [Int.mul_add]; omega, Int.add_mul_ediv_left _ _ (by omega), Int.ediv_eq_zero_of_lt (by omega) (by omega)]; omega
    have hq : a / b + 1 ≤ 9223372036854775807 := by
      have hb : 2 ≤ b := by omega
      have := Int.mul_le_mul_of_nonneg_right hb q0.1
      omega
    have E := Lib.hid e
    have d1 : (a % b == 0) = false := by simp; omega
    clear e
    go_enter Try.func86, Try.ntmps86
    go_wp2
    go_returns
    exact ⟨ret_int E.out.symm, by go_grown⟩
  · have e : ceilR a b = a / b := by
      unfold ceilR
      rw [show a + b - 1 = (b - 1) + b * (a / b) by omega, Int.add_mul_ediv_left _ _ (by omega), Int.ediv_eq_zero_of_lt (by omega) (by omega)]; omega
    have E := Lib.hid e
    have d1 : (a % b == 0) = true := by simp; omega
    clear e
    go_enter Try.func86, Try.ntmps86
    go_wp2
    go_returns
    exact ⟨ret_int E.out.symm, by go_grown⟩
end Go.Proofs.Ytcechimilefihaa.Fr
