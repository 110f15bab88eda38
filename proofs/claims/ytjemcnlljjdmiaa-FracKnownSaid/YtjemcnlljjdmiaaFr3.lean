/- Fractions, as the program makes and compares them. -/
import Derived.Test.YtjemcnlljjdmiaaFr2
import Derived.RegionTactic
import Derived.BigRegion
import Derived.Deep.RegionHeld3
import Derived.Deep.DeepCutAuto
namespace Go.Proofs.Ytjemcnlljjdmiaa.Fr
open Go.ChangeShapes Go.WideShapes Go.ChangeAt Go.RowKit M

theorem gcdF_yes {a b : Int} (ha : 0 ≤ a) (hb : 0 ≤ b) : gcdF a b = (Nat.gcd a.toNat b.toNat : Int) := if_neg (by omega)
theorem gcdF_pos {a b : Int} (ha : 0 ≤ a) (hb : 1 ≤ b) : 1 ≤ gcdF a b := by
  rw [gcdF_yes ha (by omega)]; have := Nat.gcd_pos_of_pos_right a.toNat (show 0 < b.toNat by omega); omega
theorem gcdF_le {a b : Int} (ha : 0 ≤ a) (hb : 1 ≤ b) : gcdF a b ≤ b := by
  rw [gcdF_yes ha (by omega)]; have := Nat.gcd_le_right a.toNat (show 0 < b.toNat by omega); omega

theorem of_any (n d : Int) (w : World) (hn : I64 n) (hd : I64 d) :
    Calls Try.prog 16 #[.int .i64 n, .int .i64 d] w fun e w' => e = .returned (.tuple #[.agg #[.int .i64 (ofR n d).n, .int .i64 (ofR n d).d], .bool (ofR n d).ok]) ∧ Below w.heap.size w w' := by
  by_cases h : n < 0 ∨ d < 1
  · have E := Lib.hid (show ofR n d = ⟨0, 0, false⟩ from if_pos h)
    rcases (show n < 0 ∨ (0 ≤ n ∧ d < 1) by omega) with h1 | ⟨h1, h2⟩
    all_goals
      clear h
      go_enter Try.func16, Try.ntmps16
      go_wp2
      go_returns
      exact ⟨by rw [E.out], by go_grown⟩
  · have h1 : 0 ≤ n := by omega
    have h2 : 1 ≤ d := by omega
    have gp := gcdF_pos h1 h2
    have gl := gcdF_le h1 h2
    have G := Lib.hid (gcd_any n d · hn hd)
    have e : ofR n d = ⟨n / gcdF n d, d / gcdF n d, true⟩ := by
      unfold ofR
      rw [if_neg h]
      have hg := gcdF_yes h1 (show 0 ≤ d by omega)
      have hb1 : n.toNat / Nat.gcd n.toNat d.toNat ≤ M63 := by
        refine Nat.le_trans (Nat.div_le_self _ _) ?_
        unfold I64 at hn; unfold M63; omega
      have hb2 : d.toNat / Nat.gcd n.toNat d.toNat ≤ M63 := by
        refine Nat.le_trans (Nat.div_le_self _ _) ?_
        unfold I64 at hd; unfold M63; omega
      rw [rightR_yes hb1 hb2, hg]
      have en : n = (n.toNat : Int) := by omega
      have ed : d = (d.toNat : Int) := by omega
      rw [Int.natCast_ediv, Int.natCast_ediv, ← en, ← ed]
    have E := Lib.hid e
    clear e h
    generalize gcdF n d = g at *
    unfold I64 at hn hd
    have b1 : 0 ≤ n / g ∧ n / g ≤ n := ⟨Int.ediv_nonneg h1 (by omega), Int.ediv_le_self _ h1⟩
    have b2 : 0 ≤ d / g ∧ d / g ≤ d := ⟨Int.ediv_nonneg (by omega) (by omega), Int.ediv_le_self _ (by omega)⟩
    go_enter Try.func16, Try.ntmps16
    go_wp2_with fail
    refine (G.out _).mono ?_; rintro e w' ⟨rfl, m, rfl⟩
    go_wp2
    go_region
    all_goals go_wp2
    all_goals go_returns
    all_goals exact ⟨by rw [E.out], by repeat' (first | exact Below.refl _ _ | refine Below.setCell ?_ ?_ _ | refine below_drewN ?_ _ | refine Below.drew ?_ | refine Below.alloc ?_ ?_ _ | exact Nat.le_refl _ | (simp; done) | (simp; omega))⟩

theorem ceil_any (a b : Int) (w : World) (h : Lowest a b) :
    Calls Try.prog 18 #[.agg #[.int .i64 a, .int .i64 b]] w fun e w' => e = .returned (.int .i64 (ceilR a b)) ∧ Below w.heap.size w w' := by
  obtain ⟨h0, h1, h2, h3, -⟩ := h
  have q0 : 0 ≤ a / b ∧ a / b ≤ a := ⟨Int.ediv_nonneg h0 (by omega), Int.ediv_le_self _ h0⟩
  have m0 := Int.emod_nonneg a (show b ≠ 0 by omega)
  have m1 := Int.emod_lt_of_pos a (show 0 < b by omega)
  have dm := Int.mul_ediv_add_emod a b
  by_cases hm : 0 < a % b
  · have e : ceilR a b = a / b + 1 := by
      unfold ceilR
      rw [show a + b - 1 = (a % b - 1) + b * (a / b + 1) by rw [Int.mul_add]; omega, Int.add_mul_ediv_left _ _ (by omega), Int.ediv_eq_zero_of_lt (by omega) (by omega)]; omega
    have hq : a / b + 1 ≤ 9223372036854775807 := by
      have hb : 2 ≤ b := by omega
      have := Int.mul_le_mul_of_nonneg_right hb q0.1
      omega
    have E := Lib.hid e
    clear e
    go_enter Try.func18, Try.ntmps18
    go_wp2
    go_returns
    exact ⟨ret_int E.out.symm, by go_grown⟩
  · have e : ceilR a b = a / b := by
      unfold ceilR
      rw [show a + b - 1 = (b - 1) + b * (a / b) by omega, Int.add_mul_ediv_left _ _ (by omega), Int.ediv_eq_zero_of_lt (by omega) (by omega)]; omega
    have E := Lib.hid e
    clear e
    go_enter Try.func18, Try.ntmps18
    go_wp2
    go_returns
    exact ⟨ret_int E.out.symm, by go_grown⟩

theorem le_64 {x : Int} (h0 : 0 ≤ x) (h1 : x ≤ 9223372036854775807) : IntKind.u64.wrap x = x := by rw [IntKind.wrap_u64]; omega

theorem fTimes_any (a b : Int) (w : World) (h0 : 0 ≤ a ∧ a ≤ 9223372036854775807) (h1 : 0 ≤ b ∧ b ≤ 9223372036854775807) :
    Calls Try.prog 51 #[.int .i64 a, .int .i64 b] w fun e w' => e = .returned (.agg #[.int .u64 (hiW (a.toNat * b.toNat)), .int .u64 (loW (a.toNat * b.toNat))]) ∧ w' = w.alloc (.cells #[.int .u64 (hiW (a.toNat * b.toNat)), .int .u64 (loW (a.toNat * b.toNat))] 72) := by
  have e1 := le_64 h0.1 h0.2
  have e2 := le_64 h1.1 h1.2
  have HM := Lib.hid (mul64_int a b (by omega) (by omega))
  generalize hiW (a.toNat * b.toNat) = hi at *
  generalize loW (a.toNat * b.toNat) = lo at *
  go_enter Try.func51, Try.ntmps51
  go_wp2_with fail
  refine (HM.out _).mono ?_; rintro e w' ⟨rfl, rfl⟩
  go_wp2
  go_returns
  exact ⟨rfl, by first | rfl | (simp; done)⟩

theorem whole_any (a b c d : Int) (w : World) (ha : I64 a) (hb : I64 b) (hc : I64 c) (hd : I64 d) :
    Calls Try.prog 71 #[.int .i64 a, .int .i64 b, .int .i64 c, .int .i64 d] w fun e w' =>
      e = .returned (.tuple #[.agg #[.int .i64 (if fits (a * b) && fits (c * d) then a * b else 0), .int .i64 (if fits (a * b) && fits (c * d) then c * d else 0)], .bool (fits (a * b) && fits (c * d))]) ∧ Below w.heap.size w w' := by
  have M1 := Lib.hid (mul_any a b · ha hb)
  have M2 := Lib.hid (mul_any c d · hc hd)
  cases h1 : fits (a * b) <;> cases h2 : fits (c * d)
  all_goals
    rw [h1] at M1
    rw [h2] at M2
    have V1 := Lib.hid (show asInt (a * b) = if fits (a * b) then a * b else 0 from rfl)
    have V2 := Lib.hid (show asInt (c * d) = if fits (c * d) then c * d else 0 from rfl)
    rw [h1] at V1
    rw [h2] at V2
    clear h1 h2 ha hb hc hd
    go_enter Try.func71, Try.ntmps71
    go_wp2_with fail
    refine (M1.out _).mono ?_; rintro e w' ⟨rfl, rfl⟩
    go_wp2_with fail
    refine (M2.out _).mono ?_; rintro e w' ⟨rfl, rfl⟩
    go_wp2_with fail
    go_returns
    exact ⟨by first | rfl | (rw [V1.out, V2.out]; rfl), by go_grown⟩

theorem s4_below {W w1 : World} {B : Nat} {va vb vc vd : Value} (hsz : B + 2 ≤ W.heap.size)
    (h : W.cell? ⟨B, 0, none⟩ = some va ∧ W.cell? ⟨B, 1, none⟩ = some vb ∧ W.cell? ⟨B + 1, 0, none⟩ = some vc ∧ W.cell? ⟨B + 1, 1, none⟩ = some vd) (hb : Below W.heap.size W w1) :
    w1.cell? ⟨B, 0, none⟩ = some va ∧ w1.cell? ⟨B, 1, none⟩ = some vb ∧ w1.cell? ⟨B + 1, 0, none⟩ = some vc ∧ w1.cell? ⟨B + 1, 1, none⟩ = some vd :=
  have e : ∀ b o, b < W.heap.size → w1.cell? ⟨b, o, none⟩ = W.cell? ⟨b, o, none⟩ := fun b o hb' => hb.cell (p := ⟨b, o, none⟩) hb'
  ⟨(e _ _ (by omega)).trans h.1, (e _ _ (by omega)).trans h.2.1, (e _ _ (by omega)).trans h.2.2.1, (e _ _ (by omega)).trans h.2.2.2⟩

theorem two_sizes {W w1 w2 : World} {B : Nat} (hsz : W.heap.size = B + 2) (h1 : Below W.drew.heap.size W.drew w1) (h2 : Below w1.heap.size w1 w2) : B + 2 ≤ w2.heap.size := by
  have a := h1.size
  have b := h2.size
  have c : W.drew.heap.size = W.heap.size := rfl
  omega





@[go_sem] theorem eq_product (a b c d : Int) (w : World) : (Op.equalIn 10000 72 (.agg #[.int .u64 a, .int .u64 b]) (.agg #[.int .u64 c, .int .u64 d])).run Try.prog w = .ok (a == c && b == d) w := by
  have u3 := Try.underlying67
  have a3 := Try.isAgg67
  have z3 := Try.sizeOf67
  rw [show (10000 : Nat) = 9999 + 1 from rfl, Op.equalIn]
  simp only [Sem.run_bind, run_underlying Try.underlying72, Result.andThen_ok]
  simp only [Std.Legacy.Range.forIn_eq_forIn_range', Std.Legacy.Range.size, Nat.sub_zero, Nat.add_sub_cancel, Nat.div_one, List.range'_succ, List.range'_zero, List.forIn_cons, List.forIn_nil]
  go_simp
  by_cases h1 : a = c <;> by_cases h2 : b = d <;> simp [h1, h2]

theorem below_over {W X w : World} {B : Nat} (hB : B ≤ W.heap.size) (h : Below B w W) (k : Below W.heap.size W X) : Below B w X := h.trans (k.mono hB)
theorem blk_new {w : World} {t : TypeId} {cs : Array Value} {g : Nat} (h : g = w.heap.size) : Blk (w.alloc (.cells cs t)) g t cs := h ▸ Blk.new w t cs

set_option maxHeartbeats 4000000 in
theorem cmp_any (a b c d : Int) (w : World) (h : Lowest a b) (k : Lowest c d) :
    Calls Try.prog 17 #[.agg #[.int .i64 a, .int .i64 b], .agg #[.int .i64 c, .int .i64 d]] w fun e w' => e = .returned (.int .i64 (cmpR a b c d)) ∧ Below w.heap.size w w' := by
  obtain ⟨h0, h1, h2, h3, -⟩ := h
  obtain ⟨k0, k1, k2, k3, -⟩ := k
  have T1 := Lib.hid (fTimes_any a d · ⟨h0, h1⟩ ⟨by omega, k3⟩)
  have T2 := Lib.hid (fTimes_any c b · ⟨k0, k1⟩ ⟨by omega, h3⟩)
  have e1 : ((a.toNat * d.toNat : Nat) : Int) = a * d := by rw [Int.natCast_mul, Int.toNat_of_nonneg h0, Int.toNat_of_nonneg (by omega)]
  have e2 : ((c.toNat * b.toNat : Nat) : Int) = c * b := by rw [Int.natCast_mul, Int.toNat_of_nonneg k0, Int.toNat_of_nonneg (by omega)]
  have C : cmpR a b c d = if a.toNat * d.toNat = c.toNat * b.toNat then 0 else if a.toNat * d.toNat < c.toNat * b.toNat then -1 else 1 := by
    unfold cmpR; rw [← e1, ← e2]; simp only [Int.natCast_inj, Int.ofNat_lt]
  generalize a.toNat * d.toNat = X at *
  generalize c.toNat * b.toNat = Y at *
  have L := @less_iff X Y
  have S := @same_iff X Y
  have HC := Lib.hid C
  clear e1 e2 C
  obtain ⟨B, hB⟩ : ∃ B, w.heap.size = B := ⟨_, rfl⟩
  go_enter Try.func17, Try.ntmps17
  go_wp2_with fail
  obtain ⟨W, hW⟩ : ∃ W, ((w.alloc (.cells #[.int .i64 a, .int .i64 b] 24)).alloc (.cells #[.int .i64 c, .int .i64 d] 24)) = W := ⟨_, rfl⟩
  rw [hW]
  have hb2 : Below w.heap.size w W := by rw [← hW]; exact ((Below.refl _ _).alloc (Nat.le_refl _) _).alloc (by simp) _
  have b1 : Blk W B 24 #[.int .i64 a, .int .i64 b] := by rw [← hW, ← hB]; exact (Blk.new _ _ _).alloc _
  have b2 : Blk W (B + 1) 24 #[.int .i64 c, .int .i64 d] := by
    rw [← hW, ← hB]; have := Blk.new (w.alloc (.cells #[.int .i64 a, .int .i64 b] 24)) 24 #[.int .i64 c, .int .i64 d]
    simpa using this
  have hsz : W.heap.size = B + 2 := by rw [← hW, ← hB]; simp
  rw [hB] at hb2
  clear hW
  have z0 := b1.cell 0; have z1 := b1.cell 1; have z2 := b2.cell 0; have z3 := b2.cell 1
  simp at z0 z1 z2 z3
  have HZ := Lib.hid (And.intro z0 (And.intro z1 (And.intro z2 z3)))
  have HB2 := Lib.hid hb2
  have b1' := Lib.hid b1; have b2' := Lib.hid b2; have HSZ := Lib.hid hsz
  clear b1 b2 hb2 hsz
  go_cut [5, 6] (fun s5 s6 wc => ∃ g1 g2, s5 = .pointer (some ⟨g1, 0, none⟩) ∧ s6 = .pointer (some ⟨g2, 0, none⟩) ∧ Below B w wc ∧ Blk wc g1 72 #[.int .u64 (hiW X), .int .u64 (loW X)] ∧ Blk wc g2 72 #[.int .u64 (hiW Y), .int .u64 (loW Y)])
  case first =>
    go_region_held3 (fun w' => w'.cell? ⟨B, 0, none⟩ = some (.int .i64 a) ∧ w'.cell? ⟨B, 1, none⟩ = some (.int .i64 b) ∧ w'.cell? ⟨B + 1, 0, none⟩ = some (.int .i64 c) ∧ w'.cell? ⟨B + 1, 1, none⟩ = some (.int .i64 d))
      (first | exact ⟨z0, z1, z2, z3⟩ | exact s4_below (W := W) (Nat.le_of_eq HSZ.out.symm) HZ.out (by (repeat' (first | (with_reducible exact Below.refl _ _) | (with_reducible assumption) | (with_reducible exact Nat.le_refl _) | (with_reducible refine Below.alloc ?_ ?_ _) | (with_reducible refine Below.drew ?_) | (with_reducible refine Below.setCell ?_ ?_ _) | ((with_reducible refine through ?_ ?_ (by with_reducible assumption))) | exact Nat.zero_le _ | (with_reducible refine size_through ?_) | (simp; omega)))))
      ((first
        | (go_at_call_of 51 (Value.int .i64 d); refine (T1.out _).mono ?_; rintro e w1 ⟨rfl, rfl⟩)
        | (go_at_call 51; refine (T2.out _).mono ?_; rintro e w2 ⟨rfl, rfl⟩)))
    all_goals go_wp2_with (fail)
    all_goals go_meet
    all_goals refine ⟨_, _, rfl, rfl, below_over (by rw [HSZ.out]; omega) HB2.out (by (repeat' (first | (with_reducible exact Below.refl _ _) | (with_reducible assumption) | (with_reducible exact Nat.le_refl _) | (with_reducible refine Below.alloc ?_ ?_ _) | (with_reducible refine Below.drew ?_) | (with_reducible refine Below.setCell ?_ ?_ _) | ((with_reducible refine through ?_ ?_ (by with_reducible assumption))) | exact Nat.zero_le _ | (with_reducible refine size_through ?_) | (simp; omega)))), ?_, ?_⟩
    all_goals (repeat' (first | (with_reducible refine Blk.drew ?_) | (with_reducible refine blk_new ?_; (simp; done)) | (with_reducible refine Blk.alloc ?_ _)))
  case rest =>
    obtain ⟨g1, g2, e5, rfl, hbc, k1, k2⟩ := hcut
    cases e5
    have c0 := k1.cell 0; have c1 := k1.cell 1; have c2 := k2.cell 0; have c3 := k2.cell 1
    simp at c0 c1 c2 c3
    have HBC := Lib.hid hbc
    clear hbc k1 k2
    have HL := Lib.hid L
    have HS := Lib.hid S
    clear L S
    by_cases q : X = Y
    · have HE := Lib.hid (HC.out.trans (if_pos q))
      obtain ⟨q1, q2⟩ := HS.out.mp q
      have HQ := Lib.hid (show (hiW X == hiW Y && loW X == loW Y) = true by simp [q1, q2])
      have hq := HQ.out
      clear q q1 q2
      go_wp2
      go_returns
      exact ⟨ret_int HE.out.symm, by first | exact HBC.out | (rw [hB]; exact HBC.out)⟩
    · have hq : (hiW X == hiW Y && loW X == loW Y) = false := by
        rw [Bool.eq_false_iff]; intro h; simp at h; exact q (HS.out.mpr h)
      by_cases q' : X < Y
      · have HE := Lib.hid (HC.out.trans ((if_neg q).trans (if_pos q')))
        rcases HL.out.mp q' with h | ⟨h, h'⟩
        all_goals clear q q'
        all_goals go_wp2
        all_goals go_returns
        all_goals exact ⟨ret_int HE.out.symm, by first | exact HBC.out | (rw [hB]; exact HBC.out)⟩
      · have HE := Lib.hid (HC.out.trans ((if_neg q).trans (if_neg q')))
        have h : ¬ hiW X < hiW Y := fun h => q' (HL.out.mpr (.inl h))
        rcases (show hiW X = hiW Y ∨ hiW X ≠ hiW Y by omega) with h2 | h2
        · have h' : ¬ loW X < loW Y := fun h' => q' (HL.out.mpr (.inr ⟨h2, h'⟩))
          have hn : loW X ≠ loW Y := fun e => q (HS.out.mpr ⟨h2, e⟩)
          clear q q'
          go_wp2
          all_goals first | (go_returns; exact ⟨ret_int HE.out.symm, by first | exact HBC.out | (rw [hB]; exact HBC.out)⟩) | (exfalso; omega) | (exfalso; simp_all; done)
        · clear q q'
          go_wp2
          all_goals go_returns
          all_goals exact ⟨ret_int HE.out.symm, by first | exact HBC.out | (rw [hB]; exact HBC.out)⟩
end Go.Proofs.Ytjemcnlljjdmiaa.Fr
