/- The law: the chapter's examples; ints at their ends. -/
import Derived.Test.YtjemcnlljjdmiaaFrK
import Derived.Test.YtjemcnlljjdmiaaFrP
import Derived.Test.YtjemcnlljjdmiaaFrU
import Derived.Test.YtjemcnlljjdmiaaFrX
import Derived.Test.YtjemcnlljjdmiaaFrY
import Derived.Deep.RegionHeld3
namespace Go.Proofs.Ytjemcnlljjdmiaa.Fr
open Go.ChangeShapes Go.WideShapes Go.ChangeAt Go.RowKit M

def endsL : List Int := [(-9223372036854775808), (-9223372036854775807), (-4294967296), (-2), (-1), 0, 1, 2, 3, 2147483648, 4294967295, 4294967296, 3037000499, 3037000500, 4611686018427387904, 9223372036854775806, 9223372036854775807]
theorem ends_64 : ∀ k, k < 17 → I64 (endsL.getD k 0) := by unfold I64; decide +kernel
def endsA : Array Value := #[.int .i64 (-9223372036854775808), .int .i64 (-9223372036854775807), .int .i64 (-4294967296), .int .i64 (-2), .int .i64 (-1), .int .i64 0, .int .i64 1, .int .i64 2, .int .i64 3, .int .i64 2147483648, .int .i64 4294967295, .int .i64 4294967296, .int .i64 3037000499, .int .i64 3037000500, .int .i64 4611686018427387904, .int .i64 9223372036854775806, .int .i64 9223372036854775807]
theorem ends_at {w : World} {b : Nat} (h : Blk w b 3 endsA) {k : Nat} (hk : k < 17) : w.cell? ⟨b, k, none⟩ = some (.int .i64 (endsL.getD k 0)) := by
  rw [h.cell]
  have : endsA = (endsL.map (Value.int .i64)).toArray := rfl
  rw [this]
  have hl : k < endsL.length := hk
  simp [List.getD_eq_getElem?_getD, hl]
theorem mul_one_ : asInt (4611686018427387904 * (-2)) = -9223372036854775808 ∧ fits (4611686018427387904 * (-2)) = true := by decide +kernel
theorem mul_two_ : asInt ((-9223372036854775808) * (-1)) = 0 ∧ fits ((-9223372036854775808) * (-1)) = false := by decide +kernel
theorem of_six : (ofR 6 4).n = 3 ∧ (ofR 6 4).d = 2 ∧ (ofR 6 4).ok = true := by decide +kernel
theorem cmp_third : cmpR 1 3 33 100 = 1 := by decide +kernel
theorem ceil_four : ceilR 4 1 = 4 := by decide +kernel

set_option maxRecDepth 100000 in
set_option maxHeartbeats 8000000 in
theorem fracKnown_any (w : World) : Calls Try.prog 3 #[] w fun e w' => e = .returned (.bool true) ∧ Below w.heap.size w w' := by
  go_enter Try.func3, Try.ntmps3
  go_upto_region 2 with (fail)
  obtain ⟨X, hX⟩ : ∃ X, (w.alloc (.cells #[.int .i64 (-9223372036854775808), .int .i64 (-9223372036854775807), .int .i64 (-4294967296), .int .i64 (-2), .int .i64 (-1), .int .i64 0, .int .i64 1, .int .i64 2, .int .i64 3, .int .i64 2147483648, .int .i64 4294967295, .int .i64 4294967296, .int .i64 3037000499, .int .i64 3037000500, .int .i64 4611686018427387904, .int .i64 9223372036854775806, .int .i64 9223372036854775807] 3)) = X := ⟨_, rfl⟩
  have kE : Blk X w.heap.size 3 endsA := hX ▸ Blk.new w _ _
  have kB : Below w.heap.size w X := hX ▸ (Below.refl _ _).alloc (Nat.le_refl _) _
  rw [hX]
  obtain ⟨be, hbe⟩ : ∃ n, w.heap.size = n := ⟨_, rfl⟩
  rw [hbe] at kE kB ⊢
  have KE := Lib.hid kE
  have KB := Lib.hid kB
  have HBE := Lib.hid hbe
  clear hX kE kB hbe
  have HX : Hid (∀ Z Y, Below X.heap.size X Z → Below Z.heap.size Z Y → Below X.heap.size X Y) := fun Z Y h1 h2 => through h1 (Nat.le_refl _) h2
  have HE : Hid (∀ Y, Below X.heap.size X Y → Blk Y be 3 endsA ∧ Below w.heap.size w Y) := fun Y hY => ⟨KE.out.below hY KE.out.lt, by rw [HBE.out]; exact through KB.out (Nat.le_of_eq HBE.out.symm) hY⟩
  go_wp2_with fail
  go_loopw [2] (fun i wr => ∃ n : Nat, n ≤ 17 ∧ i = .int .i64 n ∧ Below X.heap.size X wr) (fun i _ => 17 - (intOf i).toNat)
  case atStart => exact ⟨0, by omega, rfl, Below.refl _ _⟩
  case round =>
    obtain ⟨n, hn, rfl, hbn⟩ := hrel
    obtain ⟨wo, rfl⟩ : ∃ wo : World, wo = wr := ⟨_, rfl⟩
    have HBN := Lib.hid hbn
    clear hbn
    by_cases hln : n < 17
    · have tn : decide ((n : Int) < 17) = true := decide_eq_true (by omega)
      go_wp2_with fail
      go_loopw [3] (fun i wr => ∃ m : Nat, m ≤ 17 ∧ i = .int .i64 m ∧ Below X.heap.size X wr) (fun i _ => 17 - (intOf i).toNat)
      case atStart => exact ⟨0, by omega, rfl, HBN.out⟩
      case round =>
        obtain ⟨m, hm, rfl, hbm⟩ := hrel
        have HBM := Lib.hid hbm
        clear hbm
        by_cases hlm : m < 17
        · have tm : decide ((m : Int) < 17) = true := decide_eq_true (by omega)
          have HO := Lib.hid hln
          obtain ⟨x, hx⟩ : ∃ x, endsL.getD n 0 = x := ⟨_, rfl⟩
          obtain ⟨y, hy⟩ : ∃ y, endsL.getD m 0 = y := ⟨_, rfl⟩
          obtain ⟨z, hz⟩ : ∃ z, endsL.getD ((n + 5) % 17) 0 = z := ⟨_, rfl⟩
          obtain ⟨k5, hk5⟩ : ∃ k, (n + 5) % 17 = k := ⟨_, rfl⟩
          have hl5 : k5 < 17 := by omega
          have hcn := ends_at (HE.out _ HBM.out).1 hln
          have hcm := ends_at (HE.out _ HBM.out).1 hlm
          have hc5 := ends_at (HE.out _ HBM.out).1 hl5
          have X64 : Hid (I64 x) := hx ▸ ends_64 n hln
          have Y64 : Hid (I64 y) := hy ▸ ends_64 m hlm
          have Z64 : Hid (I64 z) := by have := ends_64 k5 hl5; rw [← hk5, hz] at this; exact this
          rw [hx] at hcn
          rw [hy] at hcm
          have hrem : Int.tmod ((n : Int) + 5) 17 = (k5 : Int) := by rw [Int.tmod_eq_emod_of_nonneg (by omega)]; omega
          have HXN := Lib.hid hx
          have HYN := Lib.hid hy
          have HZN : Hid (endsL.getD k5 0 = z) := by rw [← hk5]; exact Lib.hid hz
          clear hx hy hz hk5
          obtain ⟨w1, hw1⟩ : ∃ W : World, W = wr := ⟨_, rfl⟩
          have HQ2 := Lib.hid hrem
          clear hc5 hrem hw1
          go_upto_region 8 with (fail)
          have hcn1 : ∀ o, (wr.alloc o).cell? ⟨be, n, none⟩ = some (.int .i64 x) := fun o => by have := ends_at ((HE.out _ HBM.out).1.alloc o) HO.out; rw [HXN.out] at this; exact this
          have hcm1 : ∀ o, (wr.alloc o).cell? ⟨be, m, none⟩ = some (.int .i64 y) := fun o => by have := ends_at ((HE.out _ HBM.out).1.alloc o) hlm; rw [HYN.out] at this; exact this
          go_cut [4] (fun v wc => v = .pointer (some ⟨wr.heap.size, 0, none⟩) ∧ wc = (wr.alloc (.cells #[.int .i64 x, .int .i64 y] 24)).drew)
          case first =>
            go_region
            all_goals (go_wp2_with fail; go_meet; exact ⟨rfl, rfl⟩)
          case rest =>
          obtain ⟨rfl, rfl⟩ := hcut
          obtain ⟨w2, hw2⟩ : ∃ W, (wr.alloc (.cells #[.int .i64 x, .int .i64 y] 24)).drew = W := ⟨_, rfl⟩
          have ka : Blk w2 wr.heap.size 24 #[.int .i64 x, .int .i64 y] := hw2 ▸ (Blk.new wr _ _).drew
          have b2 : Below X.heap.size X w2 := hw2 ▸ (HBM.out.alloc HBM.out.size _).drew
          rw [hw2]
          obtain ⟨na, hna⟩ : ∃ n, wr.heap.size = n := ⟨_, rfl⟩
          rw [hna] at ka ⊢
          have KA := Lib.hid ka
          have HB2 := Lib.hid b2
          clear hw2 hna hcn hcm hcn1 hcm1 ka b2
          have hcm := ends_at (HE.out _ HB2.out).1 hlm
          rw [HYN.out] at hcm
          have hc5 := ends_at (HE.out _ HB2.out).1 hl5
          rw [HZN.out] at hc5
          have hcm1 : ∀ o, (w2.alloc o).cell? ⟨be, m, none⟩ = some (.int .i64 y) := fun o => by have := ends_at ((HE.out _ HB2.out).1.alloc o) hlm; rw [HYN.out] at this; exact this
          have hc51 : ∀ o, (w2.alloc o).cell? ⟨be, k5, none⟩ = some (.int .i64 z) := fun o => by have := ends_at ((HE.out _ HB2.out).1.alloc o) hl5; rw [HZN.out] at this; exact this
          have hrem := HQ2.out
          have hw5 : wrap64 ((n : Int) + 5) = (n : Int) + 5 := by have := HO.out; unfold wrap64; omega
          have hwk : wrap64 (k5 : Int) = (k5 : Int) := by unfold wrap64; omega
          go_upto_region 9 with (fail)
          go_cut [5] (fun v wc => v = .pointer (some ⟨w2.heap.size, 0, none⟩) ∧ wc = (w2.alloc (.cells #[.int .i64 y, .int .i64 z] 24)).drew)
          case first =>
            go_region
            all_goals (go_wp2_with fail; go_meet; exact ⟨rfl, rfl⟩)
          case rest =>
          obtain ⟨rfl, rfl⟩ := hcut
          obtain ⟨W5, hw5⟩ : ∃ W, (w2.alloc (.cells #[.int .i64 y, .int .i64 z] 24)).drew = W := ⟨_, rfl⟩
          have kb : Blk W5 w2.heap.size 24 #[.int .i64 y, .int .i64 z] := hw5 ▸ (Blk.new w2 _ _).drew
          have ka : Blk W5 na 24 #[.int .i64 x, .int .i64 y] := hw5 ▸ (KA.out.alloc _).drew
          have b5 : Below X.heap.size X W5 := hw5 ▸ (HB2.out.alloc HB2.out.size _).drew
          rw [hw5]
          obtain ⟨nb, hnb⟩ : ∃ n, w2.heap.size = n := ⟨_, rfl⟩
          rw [hnb] at kb ⊢
          have HB5 := Lib.hid b5
          have HS5 : Hid ((fun (w' : World) => w'.cell? ⟨be, n, none⟩ = some (.int .i64 x) ∧ w'.cell? ⟨be, m, none⟩ = some (.int .i64 y) ∧ w'.cell? ⟨na, 0, none⟩ = some (.int .i64 x) ∧ w'.cell? ⟨na, 1, none⟩ = some (.int .i64 y) ∧ w'.cell? ⟨nb, 0, none⟩ = some (.int .i64 y) ∧ w'.cell? ⟨nb, 1, none⟩ = some (.int .i64 z) ∧ Below W5.heap.size W5 w') W5) := by
            have h1 := ends_at (HE.out _ b5).1 HO.out
            rw [HXN.out] at h1
            have h2 := ends_at (HE.out _ b5).1 hlm
            rw [HYN.out] at h2
            exact ⟨h1, h2, ka.cell 0, ka.cell 1, kb.cell 0, kb.cell 1, Below.refl _ _⟩
          have HSY : Hid (∀ Y, Below W5.heap.size W5 Y → (fun (w' : World) => w'.cell? ⟨be, n, none⟩ = some (.int .i64 x) ∧ w'.cell? ⟨be, m, none⟩ = some (.int .i64 y) ∧ w'.cell? ⟨na, 0, none⟩ = some (.int .i64 x) ∧ w'.cell? ⟨na, 1, none⟩ = some (.int .i64 y) ∧ w'.cell? ⟨nb, 0, none⟩ = some (.int .i64 y) ∧ w'.cell? ⟨nb, 1, none⟩ = some (.int .i64 z) ∧ Below W5.heap.size W5 w') Y) := fun Y hY => by
            have h1 := ends_at (HE.out _ (through b5 (Nat.le_refl _) hY)).1 HO.out
            rw [HXN.out] at h1
            have h2 := ends_at (HE.out _ (through b5 (Nat.le_refl _) hY)).1 hlm
            rw [HYN.out] at h2
            have k1 := ka.below hY ka.lt
            have k2 := kb.below hY kb.lt
            exact ⟨h1, h2, k1.cell 0, k1.cell 1, k2.cell 0, k2.cell 1, hY⟩
          clear hw5 hnb hcm hc5 hcm1 hc51 hrem hwk ka kb b5
          have hn0 : (0 : Int) ≤ (n : Int) := by omega
          have hm0 : (0 : Int) ≤ (m : Int) := by omega
          have hn1 : (n : Int) < 17 := by have := HO.out; omega
          have hm1 : (m : Int) < 17 := by omega
          go_upto_region 10 with (fail)
          go_region_held3 ((fun (w' : World) => w'.cell? ⟨be, n, none⟩ = some (.int .i64 x) ∧ w'.cell? ⟨be, m, none⟩ = some (.int .i64 y) ∧ w'.cell? ⟨na, 0, none⟩ = some (.int .i64 x) ∧ w'.cell? ⟨na, 1, none⟩ = some (.int .i64 y) ∧ w'.cell? ⟨nb, 0, none⟩ = some (.int .i64 y) ∧ w'.cell? ⟨nb, 1, none⟩ = some (.int .i64 z) ∧ Below W5.heap.size W5 w'))
            (first | exact HS5.out | exact HSY.out _ (Below.refl _ _).drew | exact HSY.out _ h1 | exact HSY.out _ h2 | exact HSY.out _ h3 | exact HSY.out _ h4 | exact HSY.out _ h5)
            ((first
              | (go_at_call 10; refine (ints_any x y _ X64.out Y64.out).mono ?_; rintro e v1 ⟨rfl, q1⟩; have h1 := through (And.right (And.right (And.right (And.right (And.right (And.right (by assumption))))))) (Nat.le_refl _) q1)
              | (go_at_call 11; refine (rightlaw_any x y x y y z _ X64.out Y64.out X64.out Y64.out Y64.out Z64.out).mono ?_; rintro e v2 ⟨rfl, q2⟩; have h2 := through (And.right (And.right (And.right (And.right (And.right (And.right (by assumption))))))) (Nat.le_refl _) q2)
              | (go_at_call 12; refine (order_any x y y z x y _ X64.out Y64.out Y64.out Z64.out X64.out Y64.out).mono ?_; rintro e v3 ⟨rfl, q3⟩; have h3 := through (And.right (And.right (And.right (And.right (And.right (And.right (by assumption))))))) (Nat.le_refl _) q3)
              | (go_at_call 13; refine (sums_any x y y z y z _ X64.out Y64.out Y64.out Z64.out Y64.out Z64.out).mono ?_; rintro e v4 ⟨rfl, q4⟩; have h4 := through (And.right (And.right (And.right (And.right (And.right (And.right (by assumption))))))) (Nat.le_refl _) q4)
              | (go_at_call 14; refine (lowest_any x y 3 _ X64.out Y64.out (by unfold I64; omega)).mono ?_; rintro e v5 ⟨rfl, q5⟩; have h5 := through (And.right (And.right (And.right (And.right (And.right (And.right (by assumption))))))) (Nat.le_refl _) q5)))
          all_goals (have HBZ := Lib.hid (through HB5.out (Nat.le_refl _) (And.right (And.right (And.right (And.right (And.right (And.right (by assumption)))))))); go_wp2_with fail)
          all_goals (first | (exact ⟨⟨m + 1, by omega, by go_num, HBZ.out⟩, by simp [intOf]; omega⟩) | (go_roundw; (case rel => exact ⟨m + 1, by omega, by go_num, HBZ.out⟩); (case measure => simp [intOf]; omega)))
        · obtain rfl : m = 17 := by omega
          go_wp2_with fail
          go_roundw
          case rel => exact ⟨n + 1, by omega, by go_num, HBM.out⟩
          case measure => simp [intOf]; omega
    · obtain rfl : n = 17 := by omega
      obtain ⟨Y0, hY0⟩ : ∃ Y, wo = Y := ⟨_, rfl⟩
      have HQ := Lib.hid (HE.out _ HBN.out).2
      rw [hY0] at HQ ⊢
      clear hY0 HBN HE HX
      have HM1 : Hid (Calls Try.prog 15 #[.int .i64 4611686018427387904, .int .i64 (-2)] Y0 fun e w' => e = .returned (.tuple #[.int .i64 (-9223372036854775808), .bool true]) ∧ Y0 = w') := by
        have := mul_any 4611686018427387904 (-2) Y0 (by unfold I64; decide) (by unfold I64; decide)
        rw [mul_one_.1, mul_one_.2] at this
        exact this
      have HM2 : Hid (Calls Try.prog 15 #[.int .i64 (-9223372036854775808), .int .i64 (-1)] Y0 fun e w' => e = .returned (.tuple #[.int .i64 0, .bool false]) ∧ Y0 = w') := by
        have := mul_any (-9223372036854775808) (-1) Y0 (by unfold I64; decide) (by unfold I64; decide)
        rw [mul_two_.1, mul_two_.2] at this
        exact this
      have HOF : Hid (Calls Try.prog 16 #[.int .i64 6, .int .i64 4] Y0 fun e w' => e = .returned (.tuple #[.agg #[.int .i64 3, .int .i64 2], .bool true]) ∧ Below Y0.heap.size Y0 w') := by
        have := of_any 6 4 Y0 (by unfold I64; decide) (by unfold I64; decide)
        rw [of_six.1, of_six.2.1, of_six.2.2] at this
        exact this
      go_wp2_with fail
      refine HM1.out.mono ?_
      rintro e w1 ⟨rfl, rfl⟩
      go_wp2_with fail
      refine HM2.out.mono ?_
      rintro e w2 ⟨rfl, rfl⟩
      go_wp2_with fail
      refine HOF.out.mono ?_
      rintro e w3 ⟨rfl, hb3⟩
      have HB3 := Lib.hid (through HQ.out (Nat.le_refl _) hb3)
      clear hb3 HM1 HM2 HOF HQ
      go_wp2_with fail
      have HCM := Lib.hid (cmp_any 1 3 33 100 (w3.alloc (.cells #[.int .i64 3, .int .i64 2] 24)) (by unfold Lowest; decide +kernel) (by unfold Lowest; decide +kernel))
      rw [cmp_third] at HCM
      refine HCM.out.mono ?_
      rintro e w4 ⟨rfl, hb4⟩
      have HB4 := Lib.hid (through (HB3.out.alloc HB3.out.size _) (by have := HB3.out.size; simp <;> omega) hb4)
      have HCE := Lib.hid (ceil_any 4 1 w4 (by unfold Lowest; decide +kernel))
      rw [ceil_four] at HCE
      clear hb4 HCM
      go_wp2_with fail
      refine HCE.out.mono ?_
      rintro e w5 ⟨rfl, hb5⟩
      have HB5 := Lib.hid (through HB4.out (Nat.le_refl _) hb5)
      clear hb5 HCE
      go_wp2_with fail
      refine (known_any _).mono ?_
      rintro e w6 ⟨rfl, hb6⟩
      have HB6 := Lib.hid (through HB5.out (Nat.le_refl _) hb6)
      clear hb6
      go_wp2_with fail
      go_returns
      exact ⟨by first | rfl | simp, HB6.out⟩
end Go.Proofs.Ytjemcnlljjdmiaa.Fr
