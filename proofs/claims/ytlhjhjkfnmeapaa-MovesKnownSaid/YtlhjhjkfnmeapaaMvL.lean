/- The closed law: all numbers of tasks of up to 16 groups. -/
import Derived.Test.YtlhjhjkfnmeapaaMvJ
import Derived.Test.YtlhjhjkfnmeapaaMvK
namespace Go.Proofs.Ytlhjhjkfnmeapaa.Mv
open Go.ChangeShapes Go.WideShapes Go.ChangeAt Go.RowKit M

theorem fine_ways (g o p : Int) (h : ¬ (0 < g ∧ 0 < o ∧ 0 < p ∧ o ≤ g ∧ p ≤ g)) :
    (decide (0 < g) = false) ∨ (decide (0 < g) = true ∧ decide (0 < o) = false) ∨ (decide (0 < g) = true ∧ decide (0 < o) = true ∧ decide (0 < p) = false) ∨
      (decide (0 < g) = true ∧ decide (0 < o) = true ∧ decide (0 < p) = true ∧ decide (o ≤ g) = false) ∨ (decide (0 < g) = true ∧ decide (0 < o) = true ∧ decide (0 < p) = true ∧ decide (o ≤ g) = true ∧ decide (p ≤ g) = false) := by
  simp only [decide_eq_true_eq, decide_eq_false_iff_not]
  omega

set_option maxRecDepth 100000 in
set_option maxHeartbeats 4000000 in
theorem movesKnown_any (w : World) : Calls Try.prog 6 #[] w fun e w' => e = .returned (.bool true) ∧ Below w.heap.size w w' := by
  go_enter Try.func6, Try.ntmps6
  go_wp2_with fail
  go_loopw [1] (fun q wr => ∃ g : Int, 0 ≤ g ∧ g ≤ 17 ∧ q = .int .i64 g ∧ Below w.heap.size w wr) (fun q _ => (17 - intOf q).toNat)
  case atStart => exact ⟨0, by omega, by omega, rfl, Below.refl _ _⟩
  case round =>
    obtain ⟨g, hg0, hg1, rfl, hb⟩ := hrel
    obtain ⟨wo, rfl⟩ : ∃ wo : World, wo = wr := ⟨_, rfl⟩
    have HB := Lib.hid hb
    clear hb
    by_cases hlt : g ≤ 16
    · go_wp2_with fail
      go_loopw [2] (fun q wr => ∃ o : Int, 0 ≤ o ∧ o ≤ g + 2 ∧ q = .int .i64 o ∧ Below w.heap.size w wr) (fun q _ => (g + 2 - intOf q).toNat)
      case atStart => exact ⟨0, by omega, by omega, rfl, HB.out⟩
      case round =>
        obtain ⟨o, ho0, ho1, rfl, hb⟩ := hrel
        obtain ⟨wq, rfl⟩ : ∃ wq : World, wq = wr := ⟨_, rfl⟩
        have HB2 := Lib.hid hb
        clear hb
        by_cases hlo : o ≤ g + 1
        · go_wp2_with fail
          go_loopw [3] (fun q wr => ∃ p : Int, 0 ≤ p ∧ p ≤ g + 2 ∧ q = .int .i64 p ∧ Below w.heap.size w wr) (fun q _ => (g + 2 - intOf q).toNat)
          case atStart => exact ⟨0, by omega, by omega, rfl, HB2.out⟩
          case round =>
            obtain ⟨p, hp0, hp1, rfl, hb⟩ := hrel
            have HB3 := Lib.hid hb
            clear hb
            by_cases hlp : p ≤ g + 1
            · have HMP : Hid (∀ Z, Calls Try.prog 3 #[.int .i64 o, .int .i64 p, .int .i64 g] Z fun e w' => e = .returned (.bool true) ∧ Below Z.heap.size Z w') := Lib.hid (fun Z => movesPlans_any o p g Z)
              by_cases hf : 0 < g ∧ 0 < o ∧ 0 < p ∧ o ≤ g ∧ p ≤ g
              · obtain ⟨h1, h2, h3, h4, h5⟩ := hf
                have HMB : Hid (∀ Z, Calls Try.prog 4 #[.int .i64 (o - 1), .int .i64 (p - 1), .int .i64 (g - 1), .int .i64 p] Z fun e w' => e = .returned (.bool true) ∧ Below Z.heap.size Z w') := Lib.hid (fun Z => movesBring_any (o - 1) (p - 1) (g - 1) p Z (by unfold In64; omega) (by unfold In64; omega) (by unfold In64; omega) (by unfold In64; omega))
                have HMF : Hid (∀ Z, Calls Try.prog 5 #[.int .i64 (o - 1), .int .i64 (p - 1), .int .i64 (g - 1)] Z fun e w' => e = .returned (.bool true) ∧ Below Z.heap.size Z w') := Lib.hid (fun Z => movesFew_any (o - 1) (p - 1) (g - 1) Z (by unfold In64; omega) (by unfold In64; omega) (by unfold In64; omega))
                go_wp2_with fail
                refine (HMP.out _).mono ?_
                rintro e w1 ⟨rfl, hb⟩
                have HB4 := Lib.hid (through HB3.out (Nat.le_refl _) hb)
                clear hb
                go_wp2_with fail
                refine (HMB.out _).mono ?_
                rintro e w2 ⟨rfl, hb⟩
                have HB5 := Lib.hid (through HB4.out (Nat.le_refl _) hb)
                clear hb
                go_wp2_with fail
                refine (HMF.out _).mono ?_
                rintro e w3 ⟨rfl, hb⟩
                have HB6 := Lib.hid (through HB5.out (Nat.le_refl _) hb)
                clear hb
                go_wp2_with fail
                go_roundw
                case rel => exact ⟨p + 1, by omega, by omega, by go_num, HB6.out⟩
                case measure => simp [intOf]; omega
              · have HPL : Hid (∀ Z, Calls Try.prog 13 #[.int .i64 o, .int .i64 p, .int .i64 g] Z (RetQuads 34 Z [])) := Lib.hid (fun Z => by
                  have e1 : planF o p g = [] := if_neg (fun hc => hf ⟨by have := hc.1.1; omega, by have := hc.2.1.1; omega, by have := hc.2.2.1; omega, hc.2.1.2, hc.2.2.2⟩)
                  exact e1 ▸ plan_any o p g Z)
                have hw := fine_ways g o p hf
                clear hf
                rcases hw with d1 | ⟨d1, d2⟩ | ⟨d1, d2, d3⟩ | ⟨d1, d2, d3, d4⟩ | ⟨d1, d2, d3, d4, d5⟩
                all_goals
                  go_wp2_with fail
                  refine (HMP.out _).mono ?_
                  rintro e w1 ⟨rfl, hb⟩
                  have HB4 := Lib.hid (through HB3.out (Nat.le_refl _) hb)
                  clear hb
                  go_wp2_with fail
                  refine (HPL.out _).mono ?_
                  rintro e w2 ⟨A, c, rfl, own, hb⟩
                  have HB5 := Lib.hid (through HB4.out (Nat.le_refl _) hb)
                  clear hb own
                  go_wp2_with fail
                  go_roundw
                  case rel => exact ⟨p + 1, by omega, by omega, by go_num, HB5.out⟩
                  case measure => simp [intOf]; omega
            · go_wp2_with fail
              go_roundw
              case rel => exact ⟨o + 1, by omega, by omega, by go_num, HB3.out⟩
              case measure => simp [intOf]; omega
        · go_wp2_with fail
          go_roundw
          case rel => exact ⟨g + 1, by omega, by omega, by go_num, HB2.out⟩
          case measure => simp [intOf]; omega
    · have P1 : Hid (∀ Z, Calls Try.prog 13 #[.int .i64 2, .int .i64 3, .int .i64 6] Z (RetQuads 34 Z [(0, 1, 2, 3), (1, 2, 4, 6)])) := Lib.hid (fun Z => (show planF 2 3 6 = [(0, 1, 2, 3), (1, 2, 4, 6)] by decide +kernel) ▸ plan_any 2 3 6 Z)
      have P2 : Hid (∀ Z, Calls Try.prog 13 #[.int .i64 1, .int .i64 2, .int .i64 65] Z (RetQuads 34 Z [])) := Lib.hid (fun Z => (show planF 1 2 65 = [] by decide +kernel) ▸ plan_any 1 2 65 Z)
      have P3 : Hid (∀ Z, Calls Try.prog 13 #[.int .i64 (-1), .int .i64 2, .int .i64 4] Z (RetQuads 34 Z [])) := Lib.hid (fun Z => (show planF (-1) 2 4 = [] by decide +kernel) ▸ plan_any (-1) 2 4 Z)
      go_wp2_with fail
      refine (P1.out _).mono ?_
      rintro e w1 ⟨A, c, rfl, own, hb⟩
      have HQ := Lib.hid own.quads
      have HB1 := Lib.hid (through HB.out (Nat.le_refl _) hb)
      clear own hb
      go_wp2_with fail
      have hb2 : Below w1.heap.size w1 (w1.alloc (.cells #[.int .i64 0, .int .i64 1, .int .i64 2, .int .i64 3, .int .i64 1, .int .i64 2, .int .i64 4, .int .i64 6] 34)) := (Below.refl _ _).alloc (Nat.le_refl _) _
      refine (sameMoves_any A _ c 2 [(0, 1, 2, 3), (1, 2, 4, 6)] _ _ _ (HQ.out.below hb2) (quads_blk (xs := [(0, 1, 2, 3), (1, 2, 4, 6)]) (Blk.new w1 _ _) (by decide) (by decide) (fun x hx => by
        simp only [List.mem_cons, List.not_mem_nil, or_false] at hx
        rcases hx with rfl | rfl
        all_goals refine ⟨?_, ?_, ?_, ?_⟩ <;> (unfold In64; decide)))).mono ?_
      rintro e w2 ⟨rfl, hb3⟩
      have HB2 := Lib.hid (through HB1.out (Nat.le_refl _) (through hb2 (Nat.le_refl _) hb3))
      clear hb2 hb3
      go_wp2_with fail
      refine (P2.out _).mono ?_
      rintro e w3 ⟨A3, c3, rfl, own, hb⟩
      have HB3 := Lib.hid (through HB2.out (Nat.le_refl _) hb)
      clear own hb
      go_wp2_with fail
      refine (P3.out _).mono ?_
      rintro e w4 ⟨A4, c4, rfl, own, hb⟩
      have HB4 := Lib.hid (through HB3.out (Nat.le_refl _) hb)
      clear own hb
      go_wp2_with fail
      refine (known_any _).mono ?_
      rintro e w5 ⟨rfl, hb⟩
      have HB5 := Lib.hid (through HB4.out (Nat.le_refl _) hb)
      clear hb
      go_wp2_with fail
      go_returns
      exact ⟨by first | rfl | simp, HB5.out⟩
end Go.Proofs.Ytlhjhjkfnmeapaa.Mv
