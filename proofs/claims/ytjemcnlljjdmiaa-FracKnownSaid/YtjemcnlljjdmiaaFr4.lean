/- Fractions: products. -/
import Derived.Test.YtjemcnlljjdmiaaFr3
import Derived.Deep.QuietTactic
import Derived.BigQuiet
import Derived.StillTailTactics
namespace Go.Proofs.Ytjemcnlljjdmiaa.Fr
open Go.ChangeShapes Go.WideShapes Go.ChangeAt Go.RowKit M

theorem rightR_zero {m : Nat} (h : 0 < m) : rightR 0 m = ⟨0, 1, true⟩ := by
  unfold rightR bigB M63
  rw [Nat.gcd_zero_left, Nat.div_self h, Nat.zero_div]
  rfl

/-- two products, or nothing -/
def bothR (n m : Int) : R := ⟨if fits n && fits m then n else 0, if fits n && fits m then m else 0, fits n && fits m⟩

theorem fits_nat (n : Nat) : fits (n : Int) = decide (n ≤ M63) := by
  unfold fits M63
  rw [Bool.eq_iff_iff]; simp; omega

theorem rightR_both {n d p q : Nat} (hp : n / Nat.gcd n d = p) (hq : d / Nat.gcd n d = q) : rightR n d = bothR p q := by
  unfold rightR bothR
  rw [hp, hq, fits_nat, fits_nat]
  unfold bigB
  by_cases h : M63 < p ∨ M63 < q
  · rw [if_pos (by simpa using h)]
    have : (decide (p ≤ M63) && decide (q ≤ M63)) = false := by
      rw [Bool.eq_false_iff]; simp; omega
    rw [this]; rfl
  · rw [if_neg (by simpa using h)]
    have : (decide (p ≤ M63) && decide (q ≤ M63)) = true := by simp; omega
    rw [this]; rfl

theorem times_zero {a b c d : Int} (h : Lowest a b) (k : Lowest c d) (z : a = 0 ∨ c = 0) : timesR a b c d = ⟨0, 1, true⟩ := by
  obtain ⟨h0, h1, h2, h3, h4⟩ := h
  obtain ⟨k0, k1, k2, k3, k4⟩ := k
  unfold timesR
  have e : a.toNat * c.toNat = 0 := by rcases z with rfl | rfl <;> simp
  rw [e]
  exact rightR_zero (Nat.mul_pos (by omega) (by omega))

theorem times_some {a b c d : Int} (h : Lowest a b) (k : Lowest c d) : timesR a b c d = bothR (a / gcdF a d * (c / gcdF c b)) (b / gcdF c b * (d / gcdF a d)) := by
  obtain ⟨h0, h1, h2, h3, h4⟩ := h
  obtain ⟨k0, k1, k2, k3, k4⟩ := k
  rw [gcdF_yes h0 (by omega), gcdF_yes k0 (by omega)]
  unfold timesR
  have ea : a = (a.toNat : Int) := by omega
  have eb : b = (b.toNat : Int) := by omega
  have ec : c = (c.toNat : Int) := by omega
  have ed : d = (d.toNat : Int) := by omega
  have pb : 0 < b.toNat := by omega
  have pd : 0 < d.toNat := by omega
  generalize a.toNat = A at *
  generalize b.toNat = B at *
  generalize c.toNat = C at *
  generalize d.toNat = D at *
  subst ea; subst eb; subst ec; subst ed
  have g := gcd_times pb pd h4 k4
  rw [rightR_both (p := A / Nat.gcd A D * (C / Nat.gcd C B)) (q := B / Nat.gcd C B * (D / Nat.gcd A D))]
  · simp only [Int.natCast_mul, Int.natCast_ediv]
  · rw [g]; exact (Nat.div_mul_div_comm (Nat.gcd_dvd_left A D) (Nat.gcd_dvd_left C B)).symm
  · rw [g, Nat.mul_comm (Nat.gcd A D)]; exact (Nat.div_mul_div_comm (Nat.gcd_dvd_right C B) (Nat.gcd_dvd_right A D)).symm

def rV (r : R) : Ending := .returned (.tuple #[.agg #[.int .i64 r.n, .int .i64 r.d], .bool r.ok])

theorem div_bd {a g : Int} (h0 : 0 ≤ a) (h1 : a ≤ 9223372036854775807) (hg : 1 ≤ g) : 0 ≤ a / g ∧ a / g ≤ 9223372036854775807 := ⟨Int.ediv_nonneg h0 (by omega), Int.le_trans (Int.ediv_le_self _ h0) h1⟩

theorem wraps4 {x y z u : Int} (hx : 0 ≤ x ∧ x ≤ 9223372036854775807) (hy : 0 ≤ y ∧ y ≤ 9223372036854775807) (hz : 0 ≤ z ∧ z ≤ 9223372036854775807) (hu : 0 ≤ u ∧ u ≤ 9223372036854775807) :
    IntKind.i64.wrap x = x ∧ IntKind.i64.wrap y = y ∧ IntKind.i64.wrap z = z ∧ IntKind.i64.wrap u = u := by
  simp only [IntKind.wrap_i64]; omega

theorem keep4 {X w1 : World} {B : Nat} {va vb vc vd : Value} (hs : X.heap.size = B + 3)
    (h : X.cell? ⟨B, 0, none⟩ = some va ∧ X.cell? ⟨B, 1, none⟩ = some vb ∧ X.cell? ⟨B + 1, 0, none⟩ = some vc ∧ X.cell? ⟨B + 1, 1, none⟩ = some vd) (hb : Below X.drew.heap.size X.drew w1) :
    w1.cell? ⟨B, 0, none⟩ = some va ∧ w1.cell? ⟨B, 1, none⟩ = some vb ∧ w1.cell? ⟨B + 1, 0, none⟩ = some vc ∧ w1.cell? ⟨B + 1, 1, none⟩ = some vd :=
  s4_below (W := X.drew) (show B + 2 ≤ X.heap.size by omega) h hb

theorem keep4_set {X w1 : World} {B : Nat} {va vb vc vd u u' : Value} (hs : X.heap.size = B + 3)
    (h : X.cell? ⟨B, 0, none⟩ = some va ∧ X.cell? ⟨B, 1, none⟩ = some vb ∧ X.cell? ⟨B + 1, 0, none⟩ = some vc ∧ X.cell? ⟨B + 1, 1, none⟩ = some vd) (hb : Below X.drew.heap.size X.drew w1) :
    ((w1.setCell ⟨B + 1 + 1, 0, none⟩ u).setCell ⟨B + 1 + 1, 1, none⟩ u').cell? ⟨B, 0, none⟩ = some va ∧ ((w1.setCell ⟨B + 1 + 1, 0, none⟩ u).setCell ⟨B + 1 + 1, 1, none⟩ u').cell? ⟨B, 1, none⟩ = some vb ∧ ((w1.setCell ⟨B + 1 + 1, 0, none⟩ u).setCell ⟨B + 1 + 1, 1, none⟩ u').cell? ⟨B + 1, 0, none⟩ = some vc ∧ ((w1.setCell ⟨B + 1 + 1, 0, none⟩ u).setCell ⟨B + 1 + 1, 1, none⟩ u').cell? ⟨B + 1, 1, none⟩ = some vd := by
  have a := keep4 hs h hb
  have e : ∀ b o, b < B + 2 → ((w1.setCell ⟨B + 1 + 1, 0, none⟩ u).setCell ⟨B + 1 + 1, 1, none⟩ u').cell? ⟨b, o, none⟩ = w1.cell? ⟨b, o, none⟩ := fun b o hb' => by
    rw [World.cell?_setCell_other _ _ _ _ (by intro e; injection e; omega), World.cell?_setCell_other _ _ _ _ (by intro e; injection e; omega)]
  exact ⟨(e _ _ (by omega)).trans a.1, (e _ _ (by omega)).trans a.2.1, (e _ _ (by omega)).trans a.2.2.1, (e _ _ (by omega)).trans a.2.2.2⟩

theorem res_cell {X w1 : World} {B : Nat} (hs : X.heap.size = B + 3) (k : Blk X (B + 1 + 1) 24 #[.int .i64 0, .int .i64 0]) (hb : Below X.drew.heap.size X.drew w1) :
    w1.cell? ⟨B + 1 + 1, 0, none⟩ = some (.int .i64 0) ∧ w1.cell? ⟨B + 1 + 1, 1, none⟩ = some (.int .i64 0) ∧ w1.frozen? ⟨B + 1 + 1, 0, none⟩ = false ∧ w1.frozen? ⟨B + 1 + 1, 1, none⟩ = false := by
  have k' : Blk w1 (B + 1 + 1) 24 #[.int .i64 0, .int .i64 0] := k.drew.below hb (show B + 1 + 1 < X.heap.size by omega)
  have c0 := k'.cell 0; have c1 := k'.cell 1
  exact ⟨by simpa using c0, by simpa using c1, k'.frozen 0, k'.frozen 1⟩

theorem res_set {X w1 : World} {B : Nat} (hs : X.heap.size = B + 3) (k : Blk X (B + 1 + 1) 24 #[.int .i64 0, .int .i64 0]) (hb : Below X.drew.heap.size X.drew w1) (u v : Value) :
    ((w1.setCell ⟨B + 1 + 1, 0, none⟩ u).setCell ⟨B + 1 + 1, 1, none⟩ v).cell? ⟨B + 1 + 1, 0, none⟩ = some u ∧ ((w1.setCell ⟨B + 1 + 1, 0, none⟩ u).setCell ⟨B + 1 + 1, 1, none⟩ v).cell? ⟨B + 1 + 1, 1, none⟩ = some v := by
  have k' : Blk w1 (B + 1 + 1) 24 #[.int .i64 0, .int .i64 0] := k.drew.below hb (show B + 1 + 1 < X.heap.size by omega)
  have k2 := (k'.set_ 0 u).set_ 1 v
  have c0 := k2.cell 0; have c1 := k2.cell 1
  exact ⟨by simpa using c0, by simpa using c1⟩

set_option maxHeartbeats 4000000 in
theorem times_any (a b c d : Int) (w : World) (h : Lowest a b) (k : Lowest c d) :
    Calls Try.prog 43 #[.agg #[.int .i64 a, .int .i64 b], .agg #[.int .i64 c, .int .i64 d]] w fun e w' => e = rV (timesR a b c d) ∧ Below w.heap.size w w' := by
  by_cases z : a = 0 ∨ c = 0
  · have E := Lib.hid (times_zero h k z)
    clear h k
    rcases (show a = 0 ∨ (a ≠ 0 ∧ c = 0) by omega) with rfl | ⟨z1, rfl⟩
    all_goals
      clear z
      go_enter Try.func43, Try.ntmps43
      go_wp2
      go_returns
      exact ⟨by rw [E.out]; rfl, by go_grown⟩
  · have E := times_some h k
    obtain ⟨h0, h1, h2, h3, -⟩ := h
    obtain ⟨k0, k1, k2, k3, -⟩ := k
    have g0 := gcdF_pos h0 k2
    have g1 := gcdF_pos k0 h2
    have G1 := Lib.hid (gcd_any a d · (by unfold I64; omega) (by unfold I64; omega))
    have G2 := Lib.hid (gcd_any c b · (by unfold I64; omega) (by unfold I64; omega))
    generalize gcdF a d = g at *
    generalize gcdF c b = hh at *
    have b1 := div_bd h0 h1 g0
    have b2 := div_bd k0 k1 g1
    have b3 := div_bd (show 0 ≤ b by omega) h3 g1
    have b4 := div_bd (show 0 ≤ d by omega) k3 g0
    have t1 : a.tdiv g = a / g := Int.tdiv_eq_ediv_of_nonneg h0
    have t2 : c.tdiv hh = c / hh := Int.tdiv_eq_ediv_of_nonneg k0
    have t3 : b.tdiv hh = b / hh := Int.tdiv_eq_ediv_of_nonneg (by omega)
    have t4 : d.tdiv g = d / g := Int.tdiv_eq_ediv_of_nonneg (by omega)
    have W1 : ∀ x, Calls Try.prog 71 #[.int .i64 (a / g), .int .i64 (c / hh), .int .i64 (b / hh), .int .i64 (d / g)] x fun e w' => e = rV (bothR (a / g * (c / hh)) (b / hh * (d / g))) ∧ Below x.heap.size x w' :=
      fun x => whole_any (a / g) (c / hh) (b / hh) (d / g) x (by unfold I64; omega) (by unfold I64; omega) (by unfold I64; omega) (by unfold I64; omega)
    generalize bothR (a / g * (c / hh)) (b / hh * (d / g)) = r at *
    obtain ⟨rn, rd, ro⟩ := r
    unfold rV at W1
    simp only at W1
    have W := Lib.hid W1
    clear W1
    have HE := Lib.hid E
    have hz : ((a == 0) || (c == 0)) = false := by simp; omega
    have hz1 : (a == 0) = false := by simp; omega
    have hz2 : (c == 0) = false := by simp; omega
    clear E z
    go_enter Try.func43, Try.ntmps43
    go_wp2
    go_quiet (first | (go_at_call_of 39 (Value.int .i64 d); exact Calls.quiet_of (G1.out _)) | (go_at_call 39; exact Calls.quiet_of (G2.out _)))
    go_wp2
    obtain ⟨X, hX⟩ : ∃ X, ((((w.alloc (Obj.cells #[Value.int IntKind.i64 a, Value.int IntKind.i64 b] 24)).alloc (Obj.cells #[Value.int IntKind.i64 c, Value.int IntKind.i64 d] 24)).alloc (Obj.cells #[Value.int IntKind.i64 0, Value.int IntKind.i64 0] 24)).drewN nq) = X := ⟨_, rfl⟩
    rw [hX]
    have hb : Below w.heap.size w X := by rw [← hX]; exact below_drewN (by go_grown) _
    have hs : X.heap.size = w.heap.size + 3 := by rw [← hX]; simp
    have k1 : Blk X w.heap.size 24 #[.int .i64 a, .int .i64 b] := by rw [← hX]; refine Blk.drewN ?_ _; (repeat' (first | (with_reducible refine Blk.drew ?_) | (with_reducible refine blk_new ?_; (simp; done)) | (with_reducible refine Blk.alloc ?_ _)))
    have k2 : Blk X (w.heap.size + 1) 24 #[.int .i64 c, .int .i64 d] := by rw [← hX]; refine Blk.drewN ?_ _; (repeat' (first | (with_reducible refine Blk.drew ?_) | (with_reducible refine blk_new ?_; (simp; done)) | (with_reducible refine Blk.alloc ?_ _)))
    have k3 : Blk X (w.heap.size + 1 + 1) 24 #[.int .i64 0, .int .i64 0] := by rw [← hX]; refine Blk.drewN ?_ _; (repeat' (first | (with_reducible refine Blk.drew ?_) | (with_reducible refine blk_new ?_; (simp; done)) | (with_reducible refine Blk.alloc ?_ _)))
    clear hX
    have c0 := k1.cell 0; have c1 := k1.cell 1; have c2 := k2.cell 0; have c3 := k2.cell 1
    simp at c0 c1 c2 c3
    have HK := Lib.hid k3; have HB := Lib.hid hb; have HS := Lib.hid hs
    clear k1 k2 k3 hb hs
    have wr := wraps4 b1 b2 b3 b4
    have n1 : g ≠ 0 := by omega
    have n2 : hh ≠ 0 := by omega
    go_region_held3 (fun w' => w'.cell? ⟨w.heap.size, 0, none⟩ = some (.int .i64 a) ∧ w'.cell? ⟨w.heap.size, 1, none⟩ = some (.int .i64 b) ∧ w'.cell? ⟨w.heap.size + 1, 0, none⟩ = some (.int .i64 c) ∧ w'.cell? ⟨w.heap.size + 1, 1, none⟩ = some (.int .i64 d))
      (first | exact ⟨c0, c1, c2, c3⟩ | exact keep4 HS.out ⟨c0, c1, c2, c3⟩ hb1 | exact keep4_set HS.out ⟨c0, c1, c2, c3⟩ hb1)
      ((first
        | (go_at_call 71; refine (W.out _).mono ?_; rintro e w1 ⟨rfl, hb1⟩; obtain ⟨r0, r1, r2, r3⟩ := res_cell HS.out HK.out hb1)))
    obtain ⟨q0, q1⟩ := res_set HS.out HK.out hb1 (.int .i64 rn) (.int .i64 rd)
    obtain ⟨Z, hZ⟩ : ∃ Z, ((w1.setCell ⟨w.heap.size + 1 + 1, 0, none⟩ (.int .i64 rn)).setCell ⟨w.heap.size + 1 + 1, 1, none⟩ (.int .i64 rd)) = Z := ⟨_, rfl⟩
    rw [hZ] at q0 q1
    rw [hZ]
    go_wp2
    (try simp only [Exit.inBlock, Exit.then])
    refine bodyPost_ret (by simp [results, Try.results43, go_sem, q0, q1]; try rfl) rfl ?_
    exact ⟨by rw [HE.out]; rfl, hZ ▸ (((through HB.out.drew (Nat.le_refl _) hb1).setCell (by show _ ≤ w.heap.size + 1 + 1; omega) _).setCell (by show _ ≤ w.heap.size + 1 + 1; omega) _)⟩
end Go.Proofs.Ytjemcnlljjdmiaa.Fr
