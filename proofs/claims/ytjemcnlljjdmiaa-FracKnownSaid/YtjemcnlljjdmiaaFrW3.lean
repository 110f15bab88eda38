/- Numbers of 128 bits, as the document's functions reckon them: division, bit by bit. -/
import Derived.Test.YtjemcnlljjdmiaaFrW2
import Derived.Deep.RegionWith
import Derived.Deep.DrawnRows
import Derived.Deep.RegionHeld3
import Derived.Deep.DeepCutAuto
import Derived.Deep.CutBlock
namespace Go.Proofs.Ytjemcnlljjdmiaa.Fr
open Go.ChangeShapes Go.WideShapes Go.ChangeAt Go.RowKit M

attribute [local go_sem ↓] Go.wp_at_zero Go.wp_at_succ

/-! ### the plain law -/
theorem div_round {a b k q r : Nat} (hb : 0 < b) (hq : q = a / 2 ^ (k + 1) / b) (hr : r = a / 2 ^ (k + 1) % b) :
    (r + r + a / 2 ^ k % 2 < b → a / 2 ^ k / b = q + q ∧ a / 2 ^ k % b = r + r + a / 2 ^ k % 2) ∧
    (b ≤ r + r + a / 2 ^ k % 2 → a / 2 ^ k / b = q + q + 1 ∧ a / 2 ^ k % b = r + r + a / 2 ^ k % 2 - b) := by
  have h : a / 2 ^ (k + 1) = a / 2 ^ k / 2 := by rw [Nat.pow_succ, Nat.div_div_eq_div_mul]
  rw [h] at hq hr
  generalize a / 2 ^ k = c at *
  have e := Nat.div_add_mod (c / 2) b
  rw [← hq, ← hr] at e
  have rl := Nat.mod_lt (c / 2) hb
  rw [← hr] at rl
  have e2 : c = b * (q + q) + (r + r + c % 2) := by rw [Nat.mul_add]; omega
  constructor
  · intro hl
    rw [Nat.div_mod_unique hb]
    exact ⟨by omega, hl⟩
  · intro hl
    rw [Nat.div_mod_unique hb]
    refine ⟨?_, by omega⟩
    rw [Nat.mul_add, Nat.mul_one]; omega

def Six (w : World) (B a b q r : Nat) : Prop :=
  WideAt w B a ∧ WideAt w (B + 1) b ∧ WideAt w (B + 1 + 1) 0 ∧ WideAt w (B + 1 + 1 + 1) 0 ∧ WideAt w (B + 1 + 1 + 1 + 1) q ∧ WideAt w (B + 1 + 1 + 1 + 1 + 1) r
theorem Six.below {w w' : World} {B a b q r : Nat} (h : Six w B a b q r) (hb : Below w.heap.size w w') : Six w' B a b q r :=
  ⟨h.1.below hb h.1.lt, h.2.1.below hb h.2.1.lt, h.2.2.1.below hb h.2.2.1.lt, h.2.2.2.1.below hb h.2.2.2.1.lt, h.2.2.2.2.1.below hb h.2.2.2.2.1.lt, h.2.2.2.2.2.below hb h.2.2.2.2.2.lt⟩
theorem Six.putq {w : World} {B a b q r y : Nat} (h : Six w B a b q r) : Six ((w.setCell ⟨B + 1 + 1 + 1 + 1, 0, none⟩ (.int .u64 (hiW y))).setCell ⟨B + 1 + 1 + 1 + 1, 1, none⟩ (.int .u64 (loW y))) B a b y r :=
  ⟨h.1.far (by omega) _ _, h.2.1.far (by omega) _ _, h.2.2.1.far (by omega) _ _, h.2.2.2.1.far (by omega) _ _, h.2.2.2.2.1.put, h.2.2.2.2.2.far (by omega) _ _⟩
theorem Six.putr {w : World} {B a b q r y : Nat} (h : Six w B a b q r) : Six ((w.setCell ⟨B + 1 + 1 + 1 + 1 + 1, 0, none⟩ (.int .u64 (hiW y))).setCell ⟨B + 1 + 1 + 1 + 1 + 1, 1, none⟩ (.int .u64 (loW y))) B a b q y :=
  ⟨h.1.far (by omega) _ _, h.2.1.far (by omega) _ _, h.2.2.1.far (by omega) _ _, h.2.2.2.1.far (by omega) _ _, h.2.2.2.2.1.far (by omega) _ _, h.2.2.2.2.2.put⟩
theorem Six.drew {w : World} {B a b q r : Nat} (h : Six w B a b q r) : Six w.drew B a b q r := h
theorem Six.cells {w : World} {B a b q r : Nat} (h : Six w B a b q r) :
    (w.cell? ⟨B, 0, none⟩ = some (.int .u64 (hiW a)) ∧ w.cell? ⟨B, 1, none⟩ = some (.int .u64 (loW a))) ∧
    (w.cell? ⟨B + 1, 0, none⟩ = some (.int .u64 (hiW b)) ∧ w.cell? ⟨B + 1, 1, none⟩ = some (.int .u64 (loW b))) ∧
    (w.cell? ⟨B + 1 + 1 + 1 + 1, 0, none⟩ = some (.int .u64 (hiW q)) ∧ w.cell? ⟨B + 1 + 1 + 1 + 1, 1, none⟩ = some (.int .u64 (loW q)) ∧ w.frozen? ⟨B + 1 + 1 + 1 + 1, 0, none⟩ = false ∧ w.frozen? ⟨B + 1 + 1 + 1 + 1, 1, none⟩ = false) ∧
    (w.cell? ⟨B + 1 + 1 + 1 + 1 + 1, 0, none⟩ = some (.int .u64 (hiW r)) ∧ w.cell? ⟨B + 1 + 1 + 1 + 1 + 1, 1, none⟩ = some (.int .u64 (loW r)) ∧ w.frozen? ⟨B + 1 + 1 + 1 + 1 + 1, 0, none⟩ = false ∧ w.frozen? ⟨B + 1 + 1 + 1 + 1 + 1, 1, none⟩ = false) :=
  ⟨⟨h.1.cells.1, h.1.cells.2.1⟩, ⟨h.2.1.cells.1, h.2.1.cells.2.1⟩, h.2.2.2.2.1.cells, h.2.2.2.2.2.cells⟩

theorem Six.four {w : World} {B a b q r : Nat} (h : Six w B a b q r) : w.cell? ⟨B, 0, none⟩ = some (.int .u64 (hiW a)) ∧ w.cell? ⟨B, 1, none⟩ = some (.int .u64 (loW a)) ∧
    w.cell? ⟨B + 1 + 1 + 1 + 1 + 1, 0, none⟩ = some (.int .u64 (hiW r)) ∧ w.cell? ⟨B + 1 + 1 + 1 + 1 + 1, 1, none⟩ = some (.int .u64 (loW r)) :=
  ⟨h.cells.1.1, h.cells.1.2, h.cells.2.2.2.1, h.cells.2.2.2.2.1⟩

theorem even_bd (q : Nat) : hiW (q + q + 1) = hiW (q + q) ∧ loW (q + q + 1) = loW (q + q) + 1 ∧ loW (q + q) ≤ 18446744073709551614 ∧ 0 ≤ loW (q + q) := by unfold hiW loW; omega
theorem WideAt.inc {w : World} {g q : Nat} (h : WideAt w g (q + q)) : WideAt (w.setCell ⟨g, 1, none⟩ (.int .u64 (loW (q + q) + 1))) g (q + q + 1) := by
  obtain ⟨e1, e2, -⟩ := even_bd q
  have := Blk.set_ h 1 (.int .u64 (loW (q + q) + 1))
  unfold WideAt; rw [e1, e2]; simpa using this
theorem WideAt.far1 {w : World} {g x g' o : Nat} (h : WideAt w g x) (hg : g ≠ g') (u : Value) : WideAt (w.setCell ⟨g', o, none⟩ u) g x := Blk.far h (p := ⟨g', o, none⟩) hg u
theorem Six.inc {w : World} {B a b q r : Nat} (h : Six w B a b (q + q) r) : Six (w.setCell ⟨B + 1 + 1 + 1 + 1, 1, none⟩ (.int .u64 (loW (q + q) + 1))) B a b (q + q + 1) r :=
  ⟨h.1.far1 (by omega) _, h.2.1.far1 (by omega) _, h.2.2.1.far1 (by omega) _, h.2.2.2.1.far1 (by omega) _, h.2.2.2.2.1.inc, h.2.2.2.2.2.far1 (by omega) _⟩

/-- the loop of a division -/
def DivAt (w : World) (B a b : Nat) (i : Value) (wr : World) : Prop := ∃ k : Nat, k ≤ 128 ∧ i = .int .i64 ((k : Int) - 1) ∧ Below B w wr ∧ B ≤ w.heap.size ∧ Six wr B a b (a / 2 ^ k / b) (a / 2 ^ k % b)

theorem DivAt.start {w w1 : World} {B a b : Nat} (ha : Lt128 a) (_hb : 0 < b) (h : Below B w w1) (hB : B ≤ w.heap.size) (hs : Six w1 B a b 0 0) : DivAt w B a b (.int .i64 127) w1 := by
  refine ⟨128, Nat.le_refl _, rfl, h, hB, ?_⟩
  have e : a / 2 ^ 128 = 0 := Nat.div_eq_of_lt (by exact ha)
  rw [e, Nat.zero_div, Nat.zero_mod]; exact hs

def wob (x : Nat) : Obj := .cells #[.int .u64 (hiW x), .int .u64 (loW x)] 94
theorem six_new (w : World) (a b : Nat) : Below w.heap.size w ((((((w.alloc (wob a)).alloc (wob b)).alloc (wob 0)).alloc (wob 0)).alloc (wob 0)).alloc (wob 0)) ∧
    Six ((((((w.alloc (wob a)).alloc (wob b)).alloc (wob 0)).alloc (wob 0)).alloc (wob 0)).alloc (wob 0)) w.heap.size a b 0 0 := by
  have n : ∀ (W : World) (x g : Nat), W.heap.size = g → WideAt (W.alloc (wob x)) g x := fun W x g h => h ▸ WideAt.new W x
  refine ⟨by go_grown, (((((n _ _ _ rfl).alloc _).alloc _).alloc _).alloc _).alloc _, ((((n _ _ _ ?_).alloc _).alloc _).alloc _).alloc _, (((n _ _ _ ?_).alloc _).alloc _).alloc _, ((n _ _ _ ?_).alloc _).alloc _, (n _ _ _ ?_).alloc _, n _ _ _ ?_⟩ <;> simp only [World.size_alloc]

theorem set4 {n : Nat} {W w : World} {g g' : Nat} {u1 u2 u3 u4 : Value} (h : Below n W w) (h1 : n ≤ g) (h2 : n ≤ g') :
    Below n W ((((w.setCell ⟨g, 0, none⟩ u1).setCell ⟨g, 1, none⟩ u2).setCell ⟨g', 0, none⟩ u3).setCell ⟨g', 1, none⟩ u4).drew :=
  ((((h.setCell h1 _).setCell h1 _).setCell h2 _).setCell h2 _).drew

/-- one round's new remainder, and what it comes to -/
def RemAt (w : World) (B a b q r : Nat) (wr : World) : Prop := Below B w wr ∧ Six wr B a b q r

theorem lt127_two {r b : Nat} (hb1 : Lt127 b) (h : r < b) : Lt128 r ∧ Lt128 (r + r + 1) := by unfold Lt127 at hb1; unfold Lt128; omega
theorem hi_zero_lo {x : Nat} (h : x ≤ 1) : hiW x = 0 ∧ loW x = (x : Int) := ⟨small_hi (by unfold Lt64; omega), small_lo (by unfold Lt64; omega)⟩

set_option maxHeartbeats 4000000 in
theorem divide_any (a b : Nat) (w : World) (ha : Lt128 a) (hb : 0 < b) (hb1 : Lt127 b) :
    Calls Try.prog 86 #[.agg #[.int .u64 (hiW a), .int .u64 (loW a)], .agg #[.int .u64 (hiW b), .int .u64 (loW b)]] w fun e w' =>
      e = .returned (.tuple #[.agg #[.int .u64 (hiW (a / b)), .int .u64 (loW (a / b))], .agg #[.int .u64 (hiW (a % b)), .int .u64 (loW (a % b))]]) ∧ Below w.heap.size w w' := by
  obtain ⟨B, hB⟩ : ∃ B, w.heap.size = B := ⟨_, rfl⟩
  have HB := Lib.hid hB
  obtain ⟨n1, n2⟩ := six_new w a b
  rw [hB] at n1 n2
  have HT := Lib.hid (DivAt.start ha hb n1 (Nat.le_of_eq hB.symm) n2)
  clear n1 n2
  go_enter Try.func86, Try.ntmps86
  go_wp2
  go_loopw [8] (fun i wr => DivAt w B a b i wr) (fun i _ => (intOf i + 1).toNat)
  case atStart => exact HT.out
  case round =>
    obtain ⟨k, hk, rfl, hbw, hBw, six⟩ := hrel
    rcases Nat.eq_zero_or_pos k with rfl | hk0
    · rw [Nat.pow_zero, Nat.div_one] at six
      obtain ⟨-, -, ⟨q0, q1, q2, q3⟩, r0, r1, -⟩ := six.cells
      obtain ⟨x0, x1, x2, x3⟩ := six.2.2.1.cells
      obtain ⟨y0, y1, y2, y3⟩ := six.2.2.2.1.cells
      have Hbw := Lib.hid hbw
      have Hs := Lib.hid six
      clear hbw six
      go_upto_region 11 with (fail)
      go_region
      obtain ⟨Z, hZ, k1, k2, nb⟩ : ∃ Z, ((((wr.setCell ⟨B + 1 + 1, 0, none⟩ (.int .u64 (hiW (a / b)))).setCell ⟨B + 1 + 1, 1, none⟩ (.int .u64 (loW (a / b)))).setCell ⟨B + 1 + 1 + 1, 0, none⟩ (.int .u64 (hiW (a % b)))).setCell ⟨B + 1 + 1 + 1, 1, none⟩ (.int .u64 (loW (a % b)))).drew = Z ∧
          WideAt Z (B + 1 + 1) (a / b) ∧ WideAt Z (B + 1 + 1 + 1) (a % b) ∧ Below w.heap.size w Z :=
        ⟨_, rfl, (Hs.out.2.2.1.put (y := a / b)).far (by omega) _ _, (Hs.out.2.2.2.1.far (by omega) _ _).put (y := a % b),
          set4 (by rw [hB]; exact Hbw.out) (by omega) (by omega)⟩
      rw [hZ]
      clear hZ q0 q1 q2 q3 r0 r1 x0 x1 x2 x3 y0 y1 y2 y3
      obtain ⟨c0, c1, -, -⟩ := k1.cells
      obtain ⟨c2, c3, -, -⟩ := k2.cells
      go_wp2
      (try simp only [Exit.inBlock, Exit.then])
      refine bodyPost_ret (by simp [results, Try.results86, go_sem, c0, c1, c2, c3]; try rfl) rfl ?_
      exact ⟨rfl, nb⟩
    · obtain ⟨j, rfl⟩ : ∃ j, k = j + 1 := ⟨k - 1, by omega⟩
      have ey : ((j + 1 : Nat) : Int) - 1 = (j : Int) := by omega
      rw [ey]
      obtain ⟨q, hq⟩ : ∃ q, q = a / 2 ^ (j + 1) / b := ⟨_, rfl⟩
      obtain ⟨r, hr⟩ : ∃ r, r = a / 2 ^ (j + 1) % b := ⟨_, rfl⟩
      rw [← hq, ← hr] at six
      have rb : r < b := hr ▸ Nat.mod_lt _ hb
      obtain ⟨l1, l2⟩ := lt127_two hb1 rb
      have D := Lib.hid (div_round hb hq hr)
      have qb : q + q ≤ a / 2 ^ j := by
        have h1 : q ≤ a / 2 ^ (j + 1) := by rw [hq]; exact Nat.div_le_self _ _
        rw [Nat.pow_succ, ← Nat.div_div_eq_div_mul] at h1
        omega
      have ab : a / 2 ^ j ≤ a := Nat.div_le_self _ _
      have P1 := Lib.hid (fun x => plus_any q q x (by unfold Lt128 at ha ⊢; omega) (by unfold Lt128 at ha ⊢; omega))
      rw [m128_id (x := q + q) (by unfold Lt128 at ha ⊢; omega)] at P1
      have P2 := Lib.hid (fun x => plus_any r r x l1 l1)
      rw [m128_id (x := r + r) (by unfold Lt128 at l2 ⊢; omega)] at P2
      have P3 := Lib.hid (fun x => bit_any a j x ha (by omega))
      obtain ⟨d, hd⟩ : ∃ d, a / 2 ^ j % 2 = d := ⟨_, rfl⟩
      rw [hd] at P3 D
      have d1 : d ≤ 1 := by omega
      obtain ⟨z1, z2⟩ := hi_zero_lo d1
      have P4 := Lib.hid (fun x => plus_any (r + r) d x (by unfold Lt128 at l2 ⊢; omega) (by unfold Lt128 at l2 ⊢; omega))
      rw [z1, z2, m128_id (x := r + r + d) (by unfold Lt128 at l2 ⊢; omega)] at P4
      obtain ⟨⟨a0, a1⟩, ⟨b0, b1⟩, ⟨q0, q1, q2, q3⟩, r0, r1, r2, r3⟩ := six.cells
      have Hs := Lib.hid six; have Hbw := Lib.hid hbw; have HBw := Lib.hid hBw
      have Hrb := Lib.hid rb
      have Hd := Lib.hid hd
      clear six hbw hBw hq hr ey rb l1 l2 qb ab hd d1 z1 z2
      go_wp2_with fail
      refine (P1.out _).mono ?_; rintro e w1 ⟨rfl, hb1⟩
      have s1 := Hs.out.below hb1
      clear a0 a1 b0 b1 q0 q1 q2 q3 r0 r1 r2 r3
      obtain ⟨-, -, ⟨q0, q1, q2, q3⟩, -⟩ := s1.cells
      have Hs1 := Lib.hid (s1.putq (y := q + q))
      have H1 := Lib.hid (over (u := .int .u64 (hiW (q + q))) (v := .int .u64 (loW (q + q))) (g := B + 1 + 1 + 1 + 1) Hbw.out (by omega) HBw.out hb1)
      clear s1 hb1
      go_upto_region 7 with (fail)
      obtain ⟨X, hX⟩ : ∃ X, ((w1.setCell ⟨B + 1 + 1 + 1 + 1, 0, none⟩ (.int .u64 (hiW (q + q)))).setCell ⟨B + 1 + 1 + 1 + 1, 1, none⟩ (.int .u64 (loW (q + q)))) = X := ⟨_, rfl⟩
      rw [hX] at Hs1 H1 ⊢
      clear hX q0 q1 q2 q3
      go_cut [] (fun wc => RemAt w B a b (q + q) (r + r + d) wc)
      case first =>
        obtain ⟨⟨a0, a1⟩, -, -, r0, r1, r2, r3⟩ := Hs1.out.cells
        go_region_with ((first
          | (go_at_call_of 74 (Value.agg #[.int .u64 (hiW r), .int .u64 (loW r)]); refine (P2.out _).mono ?_; rintro e w2 ⟨rfl, hb2⟩; have s2 := Hs1.out.drew.below hb2; obtain ⟨⟨x0, x1⟩, -, -, -⟩ := s2.cells)
          | (go_at_call 93; refine (P3.out _).mono ?_; rintro e w3 ⟨rfl, hb3⟩; have s3 := s2.below hb3)
          | (go_at_call 74; refine (P4.out _).mono ?_; rintro e w4 ⟨rfl, hb4⟩; have s4 := s3.below hb4; obtain ⟨-, -, -, y0, y1, y2, y3⟩ := s4.cells)))
        all_goals go_wp2_with (fail)
        all_goals go_meet
        all_goals exact ⟨over (through (through H1.out.drew (by rw [HB.out]; exact Nat.le_refl _) hb2) (by rw [HB.out]; exact Nat.le_refl _) hb3) (by omega) (by rw [HB.out]; exact Nat.le_refl _) hb4, s4.putr⟩
      case rest =>
        obtain ⟨hbx, sx⟩ := hcut
        have L := Lib.hid (fun x => less_any (r + r + d) b x)
        obtain ⟨-, ⟨b0, b1⟩, -, r0, r1, -⟩ := sx.cells
        have Hsx := Lib.hid sx
        have Hbx := Lib.hid hbx
        clear sx hbx
        by_cases lt : r + r + d < b
        · have E := Lib.hid (D.out.1 lt)
          rw [decide_eq_true lt] at L
          clear lt
          go_wp2_with fail
          refine (L.out _).mono ?_; rintro e w5 ⟨rfl, hb5⟩
          have Hs5 := Lib.hid (Hsx.out.below hb5)
          have H5 := Lib.hid (through Hbx.out (by rw [HB.out]; exact Nat.le_refl _) hb5)
          clear hb5
          go_wp2
          go_roundw
          case rel => exact ⟨j, by omega, rfl, H5.out, HBw.out, by rw [E.out.1, E.out.2]; exact Hs5.out⟩
          case measure => simp only [intOf]; omega
        · have E := Lib.hid (D.out.2 (by omega))
          have M := Lib.hid (fun x => minus_any (r + r + d) b x (by rw [← Hd.out]; unfold Lt128; unfold Lt127 at hb1; have := Hrb.out; omega) (by omega))
          rw [decide_eq_false lt] at L
          clear lt
          go_wp2_with fail
          refine (L.out _).mono ?_; rintro e w5 ⟨rfl, hb5⟩
          have s5 := Hsx.out.below hb5
          have H5 := Lib.hid (through Hbx.out (by rw [HB.out]; exact Nat.le_refl _) hb5)
          clear hb5 b0 b1 r0 r1
          obtain ⟨-, ⟨b0, b1⟩, -, r0, r1, -⟩ := s5.cells
          have Hs5 := Lib.hid s5
          clear s5
          go_wp2_with fail
          refine (M.out _).mono ?_; rintro e w6 ⟨rfl, hb6⟩
          have s6 := Hs5.out.below hb6
          clear b0 b1 r0 r1
          obtain ⟨-, -, -, r0, r1, r2, r3⟩ := s6.cells
          have s7 := s6.putr (y := r + r + d - b)
          obtain ⟨-, -, ⟨q0, q1, q2, q3⟩, -⟩ := s7.cells
          obtain ⟨-, -, e3, e4⟩ := even_bd q
          have Hs7 := Lib.hid s7.inc
          have H7 := Lib.hid ((over (u := .int .u64 (hiW (r + r + d - b))) (v := .int .u64 (loW (r + r + d - b))) (g := B + 1 + 1 + 1 + 1 + 1) H5.out (by omega) (by rw [HB.out]; exact Nat.le_refl _) hb6).setCell (p := ⟨B + 1 + 1 + 1 + 1, 1, none⟩) (by show B ≤ B + 1 + 1 + 1 + 1; omega) (.int .u64 (loW (q + q) + 1)))
          clear s6 s7 hb6
          go_wp2
          go_roundw
          case rel => exact ⟨j, by omega, rfl, H7.out, HBw.out, by rw [E.out.1, E.out.2]; exact Hs7.out⟩
          case measure => simp only [intOf]; omega
end Go.Proofs.Ytjemcnlljjdmiaa.Fr
