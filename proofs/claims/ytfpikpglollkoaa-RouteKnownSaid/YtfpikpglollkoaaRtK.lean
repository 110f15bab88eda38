/- The law: the chapter's examples, all numbers of tasks, many keys, are as the document says. -/
import Derived.Test.YtfpikpglollkoaaRtL1
import Derived.Test.YtfpikpglollkoaaRtL2
import Derived.Test.YtfpikpglollkoaaRtL3
namespace Go.Proofs.Ytfpikpglollkoaa.Rt
open Go.ChangeShapes Go.WideShapes Go.ChangeAt Go.RowKit M Sp

set_option maxHeartbeats 4000000 in
theorem routeKnown_any (w : World) : Calls Try.prog 13 #[] w fun e w' => e = .returned (.bool true) ∧ Below w.heap.size w w' := by
  go_enter Try.func13, Try.ntmps13
  go_wp2_with fail
  refine (fork_any w).mono ?_
  rintro e w1 ⟨A, q, rfl, hi1, hb1⟩
  go_upto_region 2 with (fail)
  obtain ⟨X, hX⟩ : ∃ X, (w1.alloc (.cells #[.int .i64 8, .slice A 4 4] 24)) = X := ⟨_, rfl⟩
  have k3 : Blk X w1.heap.size 24 #[.int .i64 8, .slice A 4 4] := hX ▸ Blk.new w1 _ _
  have k3b : Below w1.heap.size w1 X := hX ▸ ((Below.refl _ _).alloc (Nat.le_refl _) _)
  rw [hX]
  have HI := Lib.hid (hi1.below k3b)
  have HK := Lib.hid k3
  have HBX := Lib.hid (through hb1 (Nat.le_refl _) k3b)
  have HSZ := Lib.hid (show w1.heap.size < X.heap.size from k3.lt)
  obtain ⟨n1, hn1⟩ : ∃ n, w1.heap.size = n := ⟨_, rfl⟩
  rw [hn1] at HI HK HSZ ⊢
  clear hX k3 k3b hi1 hb1 hn1
  have HX : Hid (∀ Z Y, Below X.heap.size X Z → Below Z.heap.size Z Y → Below X.heap.size X Y) := fun Z Y h1 h2 => through h1 (Nat.le_refl _) h2
  have HS : Hid (∀ Y, Below X.heap.size X Y → Y.cell? ⟨n1, 0, none⟩ = some (.int .i64 8) ∧ Y.cell? ⟨n1, 1, none⟩ = some (.slice A 4 4) ∧ IsOps Y n1 A forkL q ∧ n1 < Y.heap.size ∧ Below w.heap.size w Y) := fun Y hY => by
    obtain ⟨t0, t1⟩ := spec_blk (HK.out.below hY HSZ.out)
    exact ⟨t0, t1, HI.out.below (hY.mono (by have := HSZ.out; omega)), Nat.lt_of_lt_of_le HSZ.out hY.size, through HBX.out (Nat.le_refl _) hY⟩
  go_wp2_with fail
  go_loopw [2] (fun i wr => ∃ p : Nat, p ≤ 10 ∧ i = .int .i64 p ∧ Below X.heap.size X wr) (fun i _ => 10 - (intOf i).toNat)
  case atStart => exact ⟨0, by omega, rfl, Below.refl _ _⟩
  case round =>
    obtain ⟨p, hp, rfl, hbp⟩ := hrel
    obtain ⟨wo, rfl⟩ : ∃ wo : World, wo = wr := ⟨_, rfl⟩
    have HBP := Lib.hid hbp
    clear hbp
    by_cases hlp : p < 10
    · have tp : decide ((p : Int) ≤ 9) = true := decide_eq_true (by omega)
      go_wp2_with fail
      go_loopw [3] (fun i wr => ∃ op : Int, -1 ≤ op ∧ op ≤ 5 ∧ i = .int .i64 op ∧ Below X.heap.size X wr) (fun i _ => (5 - intOf i).toNat)
      case atStart => exact ⟨-1, by omega, by omega, rfl, HBP.out⟩
      case round =>
        obtain ⟨op, ho1, ho2, rfl, hbo⟩ := hrel
        obtain ⟨wq, rfl⟩ : ∃ wq : World, wq = wr := ⟨_, rfl⟩
        have HBO := Lib.hid hbo
        clear hbo
        by_cases hlo : op < 5
        · have tq : decide (op ≤ 4) = true := decide_eq_true (by omega)
          go_wp2_with fail
          go_loopw [4] (fun i wr => ∃ key : Int, -20 ≤ key ∧ key ≤ 20 ∧ i = .int .i64 key ∧ Below X.heap.size X wr) (fun i _ => (20 - intOf i).toNat)
          case atStart => exact ⟨-20, by omega, by omega, rfl, HBO.out⟩
          case round =>
            obtain ⟨key, hk1, hk2, rfl, hbk⟩ := hrel
            have HBK := Lib.hid hbk
            clear hbk
            by_cases hlk : key < 20
            · go_upto_region 12 with (fail)
              obtain ⟨v, hv⟩ : ∃ v, wrap64 (1 + bits .and .i64 key 1) = v := ⟨_, rfl⟩
              have v64 : In64 v := hv ▸ wf_in64 (RowKit.wrap64_wf _)
              rw [hv]
              clear hv
              obtain ⟨X2, hX2⟩ : ∃ X, (wr.alloc (.cells #[.int .i64 v, .int .i64 (p : Int), .int .i64 (1 + (p : Int) % 8), .int .i64 (8 - (p : Int) % 8)] 3)) = X := ⟨_, rfl⟩
              have k2 : Blk X2 wr.heap.size 3 #[.int .i64 v, .int .i64 (p : Int), .int .i64 (1 + (p : Int) % 8), .int .i64 (8 - (p : Int) % 8)] := hX2 ▸ Blk.new wr _ _
              have k2b : Below wr.heap.size wr X2 := hX2 ▸ ((Below.refl _ _).alloc (Nat.le_refl _) _)
              rw [hX2]
              have HI2 := Lib.hid (ints_blk (xs := [v, (p : Int), 1 + (p : Int) % 8, 8 - (p : Int) % 8]) k2 (by simp) (by
                intro x hx
                simp only [List.mem_cons, List.not_mem_nil, or_false] at hx
                rcases hx with rfl | rfl | rfl | rfl
                · exact v64
                all_goals (unfold In64; omega)))
              have HB2 := Lib.hid (HX.out _ _ HBK.out k2b)
              obtain ⟨nb, hnb⟩ : ∃ n, wr.heap.size = n := ⟨_, rfl⟩
              rw [hnb] at HI2 ⊢
              clear hX2 k2 k2b v64 hnb
              have HC1 : Hid (∀ Y, Below X2.heap.size X2 Y → Calls Try.prog 9 #[.agg #[.int .i64 8, .slice A 4 4], .slice (some ⟨nb, 0, none⟩) 4 4, .int .i64 op, .int .i64 key] Y fun e w' => e = .returned (.bool true) ∧ Below Y.heap.size Y w') := fun Y hY => by
                obtain ⟨-, -, hio, hz, -⟩ := HS.out Y (HX.out _ _ HB2.out hY)
                exact routeTells_any 8 A _ 4 4 forkL q (by decide) [v, (p : Int), 1 + (p : Int) % 8, 8 - (p : Int) % 8] op key Y n1 _ (by omega) hY.size hio (HI2.out.below hY)
              have HC2 : Hid (∀ Y, Below X2.heap.size X2 Y → Calls Try.prog 12 #[.agg #[.int .i64 8, .slice A 4 4], .slice (some ⟨nb, 0, none⟩) 4 4, .int .i64 op, .int .i64 key, .int .i64 (key + 7 * (p : Int))] Y fun e w' => e = .returned (.bool true) ∧ Below Y.heap.size Y w') := fun Y hY => by
                obtain ⟨-, -, hio, hz, -⟩ := HS.out Y (HX.out _ _ HB2.out hY)
                exact routeOneWay_any 8 A _ 4 4 forkL q (by decide) [v, (p : Int), 1 + (p : Int) % 8, 8 - (p : Int) % 8] op key _ Y n1 _ (by omega) hY.size hio (HI2.out.below hY)
              have HC3 : Hid (∀ Y, Below X2.heap.size X2 Y → Calls Try.prog 10 #[.agg #[.int .i64 8, .slice A 4 4], .slice (some ⟨nb, 0, none⟩) 4 4, .int .i64 op, .int .i64 0, .int .i64 (key * 1000)] Y fun e w' => e = .returned (.bool true) ∧ Below Y.heap.size Y w') := fun Y hY => by
                obtain ⟨-, -, hio, hz, -⟩ := HS.out Y (HX.out _ _ HB2.out hY)
                exact routeAlike_any 8 A _ 4 4 forkL q (by decide) [v, (p : Int), 1 + (p : Int) % 8, 8 - (p : Int) % 8] op 0 _ Y n1 _ (by omega) hY.size hio (HI2.out.below hY)
              obtain ⟨t0, t1, -⟩ := HS.out _ HB2.out
              go_wp2_with fail
              refine (HC1.out _ (Below.refl _ _)).mono ?_
              rintro e w3 ⟨rfl, hb3⟩
              have HB3 := Lib.hid hb3
              clear hb3 t0 t1
              obtain ⟨t0, t1, -⟩ := HS.out _ (HX.out _ _ HB2.out HB3.out)
              go_wp2_with fail
              refine (HC2.out _ HB3.out).mono ?_
              rintro e w4 ⟨rfl, hb4⟩
              have HB4 := Lib.hid (through HB3.out (Nat.le_refl _) hb4)
              clear hb4 t0 t1
              obtain ⟨t0, t1, -⟩ := HS.out _ (HX.out _ _ HB2.out HB4.out)
              go_wp2_with fail
              refine (HC3.out _ HB4.out).mono ?_
              rintro e w5 ⟨rfl, hb5⟩
              have HB5 := Lib.hid (HX.out _ _ HB2.out (through HB4.out (Nat.le_refl _) hb5))
              clear hb5 t0 t1
              go_wp2_with fail
              go_roundw
              case rel => exact ⟨key + 1, by omega, by omega, by go_num, HB5.out⟩
              case measure => simp [intOf]; omega
            · obtain rfl : key = 20 := by omega
              go_wp2_with fail
              go_roundw
              case rel => exact ⟨op + 1, by omega, by omega, by go_num, HBK.out⟩
              case measure => simp [intOf]; omega
        · obtain rfl : op = 5 := by omega
          go_wp2_with fail
          go_roundw
          case rel => exact ⟨p + 1, by omega, by go_num, HBO.out⟩
          case measure => simp [intOf]; omega
    · obtain rfl : p = 10 := by omega
      go_wp2_with fail
      refine (works_any _).mono ?_
      rintro e w9 ⟨rfl, hb9⟩
      have HB9 := Lib.hid (HS.out _ (HX.out _ _ HBP.out hb9)).2.2.2.2
      clear hb9
      go_wp2_with fail
      go_returns
      exact ⟨by first | rfl | simp, HB9.out⟩
end Go.Proofs.Ytfpikpglollkoaa.Rt
