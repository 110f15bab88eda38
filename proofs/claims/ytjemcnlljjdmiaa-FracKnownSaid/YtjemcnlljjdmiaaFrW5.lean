/- Numbers of 128 bits, as the document's functions reckon them: the greatest common divisor. -/
import Derived.Test.YtjemcnlljjdmiaaFrW4
namespace Go.Proofs.Ytjemcnlljjdmiaa.Fr
open Go.ChangeShapes Go.WideShapes Go.ChangeAt Go.RowKit M

def Tri (w : World) (B p q : Nat) : Prop := WideAt w B p ∧ WideAt w (B + 1) q ∧ WideAt w (B + 1 + 1) 0
theorem Tri.below {w w' : World} {B p q : Nat} (h : Tri w B p q) (hb : Below w.heap.size w w') : Tri w' B p q :=
  ⟨h.1.below hb h.1.lt, h.2.1.below hb h.2.1.lt, h.2.2.below hb h.2.2.lt⟩
theorem Tri.alloc {w : World} {B p q : Nat} (h : Tri w B p q) (o : Obj) : Tri (w.alloc o) B p q := ⟨h.1.alloc o, h.2.1.alloc o, h.2.2.alloc o⟩
theorem Tri.puta {w : World} {B p q y : Nat} (h : Tri w B p q) : Tri ((w.setCell ⟨B, 0, none⟩ (.int .u64 (hiW y))).setCell ⟨B, 1, none⟩ (.int .u64 (loW y))) B y q :=
  ⟨h.1.put, h.2.1.far (by omega) _ _, h.2.2.far (by omega) _ _⟩
theorem Tri.putb {w : World} {B p q y : Nat} (h : Tri w B p q) : Tri ((w.setCell ⟨B + 1, 0, none⟩ (.int .u64 (hiW y))).setCell ⟨B + 1, 1, none⟩ (.int .u64 (loW y))) B p y :=
  ⟨h.1.far (by omega) _ _, h.2.1.put, h.2.2.far (by omega) _ _⟩
theorem tri_new (w : World) (a b : Nat) : Below w.heap.size w (((w.alloc (wob a)).alloc (wob b)).alloc (wob 0)) ∧ Tri (((w.alloc (wob a)).alloc (wob b)).alloc (wob 0)) w.heap.size a b := by
  have n : ∀ (W : World) (x g : Nat), W.heap.size = g → WideAt (W.alloc (wob x)) g x := fun W x g h => h ▸ WideAt.new W x
  refine ⟨by go_grown, ((n _ _ _ rfl).alloc _).alloc _, (n _ _ _ ?_).alloc _, n _ _ _ ?_⟩ <;> simp only [World.size_alloc]

/-- the loop -/
def ComAt (w : World) (B a b : Nat) (i : Value) (wr : World) : Prop :=
  ∃ k p q : Nat, k ≤ 299 ∧ i = .int .i64 (k : Int) ∧ Below B w wr ∧ Tri wr B p q ∧ Lt127 p ∧ Lt127 q ∧ Nat.gcd p q = Nat.gcd a b ∧ Step k p q

theorem wide_nought {q : Nat} (h : 0 < q) : (hiW q == 0) = false ∨ ((hiW q == 0) = true ∧ (loW q == 0) = false) := by
  rcases (show hiW q ≠ 0 ∨ (hiW q = 0 ∧ loW q ≠ 0) by unfold hiW loW; omega) with h1 | ⟨h1, h2⟩
  · exact .inl (beq_eq_false_iff_ne.2 h1)
  · exact .inr ⟨by rw [h1]; rfl, beq_eq_false_iff_ne.2 h2⟩

set_option maxRecDepth 100000 in
set_option maxHeartbeats 4000000 in
theorem common_any (a b : Nat) (w : World) (ha : Lt127 a) (hb : Lt127 b) :
    Calls Try.prog 69 #[.agg #[.int .u64 (hiW a), .int .u64 (loW a)], .agg #[.int .u64 (hiW b), .int .u64 (loW b)]] w fun e w' =>
      e = .returned (.agg #[.int .u64 (hiW (Nat.gcd a b)), .int .u64 (loW (Nat.gcd a b))]) ∧ Below w.heap.size w w' := by
  obtain ⟨B, hB⟩ : ∃ B, w.heap.size = B := ⟨_, rfl⟩
  have HB := Lib.hid hB
  obtain ⟨n1, n2⟩ := tri_new w a b
  rw [hB] at n1 n2
  have HT := Lib.hid (show ComAt w B a b (.int .i64 0) _ from ⟨0, a, b, by omega, rfl, n1, n2, ha, hb, rfl, Step.start hb⟩)
  clear n1 n2
  go_enter Try.func69, Try.ntmps69
  go_wp2
  go_loopw [5] (fun i wr => ComAt w B a b i wr) (fun i _ => (300 - intOf i).toNat)
  case atStart => exact HT.out
  case round =>
    obtain ⟨k, p, q, hk, rfl, hbw, tri, hp, hq, hg, st⟩ := hrel
    obtain ⟨a0, a1, a2, a3⟩ := tri.1.cells
    obtain ⟨b0, b1, b2, b3⟩ := tri.2.1.cells
    have Hg := Lib.hid hg
    have Hbw := Lib.hid hbw
    have Ht := Lib.hid tri
    clear hg hbw
    rcases Nat.eq_zero_or_pos q with rfl | q0
    · obtain ⟨c0, c1, c2, c3⟩ := tri.2.2.cells
      have HE := Lib.hid (show p = Nat.gcd a b by rw [← Hg.out, Nat.gcd_zero_right])
      obtain ⟨z0, z1⟩ := wide_zero
      rw [z0] at b0
      rw [z1] at b1
      obtain ⟨x0, x1⟩ := tri.2.2.back p
      have HN := Lib.hid (show Below w.heap.size w ((wr.setCell ⟨B + 1 + 1, 0, none⟩ (.int .u64 (hiW p))).setCell ⟨B + 1 + 1, 1, none⟩ (.int .u64 (loW p))) by
        rw [HB.out]; exact (Hbw.out.setCell (by show B ≤ B + 1 + 1; omega) _).setCell (by show B ≤ B + 1 + 1; omega) _)
      clear tri z0 z1 st
      go_wp2
      (try simp only [Exit.inBlock, Exit.then])
      refine bodyPost_ret (by simp [results, Try.results69, go_sem, x0, x1]; try rfl) rfl ?_
      exact ⟨by rw [HE.out], HN.out⟩
    · have kl := st.few q0
      have D := Lib.hid (fun x => divide_any p q x (by unfold Lt127 at hp; unfold Lt128; omega) q0 hq)
      have ne := wide_nought q0
      have HS := Lib.hid (st.next q0)
      have HG := Lib.hid (show Nat.gcd q (p % q) = Nat.gcd a b by rw [gcd_step]; exact Hg.out)
      have HR := Lib.hid (show Lt127 (p % q) by have := Nat.mod_lt p q0; unfold Lt127 at hq ⊢; omega)
      have HQ := Lib.hid hq
      clear tri st hp hq q0
      rcases ne with ne | ⟨ne, ne2⟩
      all_goals
        go_wp2_with fail
        refine (D.out _).mono ?_; rintro e w1 ⟨rfl, hb1⟩
        have t1 := Ht.out.below hb1
        have hz := t1.2.2.lt
        clear a0 a1 a2 a3 b0 b1 b2 b3
        obtain ⟨a0, a1, a2, a3⟩ := t1.1.cells
        obtain ⟨b0, b1, b2, b3⟩ := t1.2.1.cells
        have H1 := Lib.hid (through Hbw.out (by rw [HB.out]; exact Nat.le_refl _) hb1)
        obtain ⟨g, hg⟩ : ∃ g, w1.heap.size = g := ⟨_, rfl⟩
        have n : ∀ (W : World) (x g : Nat), W.heap.size = g → WideAt (W.alloc (wob x)) g x := fun W x g h => h ▸ WideAt.new W x
        have m1 := (n w1 (p / q) g hg).alloc (wob (p % q))
        have m2 := n (w1.alloc (wob (p / q))) (p % q) (g + 1) (by rw [World.size_alloc, hg])
        have t2 := (t1.alloc (wob (p / q))).alloc (wob (p % q))
        have H2 := ((H1.out.alloc (show B ≤ w1.heap.size by omega) (wob (p / q))).alloc (by rw [World.size_alloc]; omega) (wob (p % q)))
        clear t1 hb1 a0 a1 a2 a3 b0 b1 b2 b3
        rw [hg] at hz
        go_upto_region 7 with (fail)
        obtain ⟨X, hX⟩ : ∃ X, ((w1.alloc (.cells #[.int .u64 (hiW (p / q)), .int .u64 (loW (p / q))] 94)).alloc (.cells #[.int .u64 (hiW (p % q)), .int .u64 (loW (p % q))] 94)) = X := ⟨_, rfl⟩
        unfold wob at m1 m2 t2 H2
        rw [hX] at m1 m2 t2 H2 ⊢
        obtain ⟨a0, a1, a2, a3⟩ := t2.1.cells
        obtain ⟨b0, b1, b2, b3⟩ := t2.2.1.cells
        obtain ⟨d0, d1, d2, d3⟩ := m2.cells
        have gB : ¬ g + 1 = B := by omega
        have Ht2 := Lib.hid ((t2.puta (y := q)).putb (y := p % q))
        have HB2 := Lib.hid ((((H2.setCell (p := ⟨B, 0, none⟩) (Nat.le_refl _) (.int .u64 (hiW q))).setCell (p := ⟨B, 1, none⟩) (Nat.le_refl _) (.int .u64 (loW q))).setCell (p := ⟨B + 1, 0, none⟩) (by show B ≤ B + 1; omega) (.int .u64 (hiW (p % q)))).setCell (p := ⟨B + 1, 1, none⟩) (by show B ≤ B + 1; omega) (.int .u64 (loW (p % q))))
        clear hX hg n m1 m2 t2 H2
        go_wp2
        go_roundw
        case rel => exact ⟨k + 1, q, p % q, by omega, by go_num, HB2.out, Ht2.out, HQ.out, HR.out, HG.out, HS.out⟩
        case measure => simp only [intOf]; omega
end Go.Proofs.Ytjemcnlljjdmiaa.Fr
