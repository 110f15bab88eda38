/- Routes: the known job, and what is asked of each. -/
import Derived.Test.YtfpikpglollkoaaRt2
import Derived.Test.YtfpikpglollkoaaRt3
import Derived.Test.YtfpikpglollkoaaSp14
namespace Go.Proofs.Ytfpikpglollkoaa.Rt
open Go.ChangeShapes Go.WideShapes Go.ChangeAt Go.RowKit M Sp

def forkL : List OpP := [⟨1, [], 0, 0, 0, 2, 1, 1⟩, ⟨2, [0], 1, 0, 0, 0, 0, 1⟩, ⟨8, [0], 0, 0, 0, 0, 0, 1⟩, ⟨8, [1], 0, 0, 0, 0, 0, 1⟩]
def forkP (b : Nat) (i : Nat) : Option Addr × Nat := if i = 0 then (none, 0) else (some ⟨b + i, 0, none⟩, 1)
theorem pairs_blk {T : TypeId} {w : World} {b : Nat} {xs : List (Int × Int)} (h : Blk w b T (pairCells xs).toArray) (hl : xs.length ≤ 1000) (h2 : ∀ x ∈ xs, In2 x) : IsPairs w w.heap.size (some ⟨b, 0, none⟩) xs.length xs :=
  ⟨(h.lies fun i hi j hj => by simpa using pairCells_get hi hj).more h.lt, Nat.le_refl _, by unfold maxLen; omega, h2⟩

set_option maxHeartbeats 1000000 in
theorem fork_any (w : World) :
    Calls Try.prog 47 #[] w fun e w' => ∃ A p, e = .returned (.agg #[.int .i64 8, .slice A 4 4]) ∧ IsOps w' w'.heap.size A forkL p ∧ Below w.heap.size w w' := by
  go_enter Try.func47, Try.ntmps47
  go_wp2_with fail
  go_returns
  refine ⟨_, forkP w.heap.size, rfl, ?_, by go_grown⟩
  refine ops_blk (T := 38) (cs := #[.int .i64 1, .slice none 0 0, .int .i64 0, .int .i64 0, .int .i64 0, .int .i64 2, .int .i64 1, .int .i64 1, .int .i64 2, .slice (some ⟨w.heap.size + 1, 0, none⟩) 1 1, .int .i64 1, .int .i64 0, .int .i64 0, .int .i64 0, .int .i64 0, .int .i64 1, .int .i64 8, .slice (some ⟨w.heap.size + 2, 0, none⟩) 1 1, .int .i64 0, .int .i64 0, .int .i64 0, .int .i64 0, .int .i64 0, .int .i64 1, .int .i64 8, .slice (some ⟨w.heap.size + 3, 0, none⟩) 1 1, .int .i64 0, .int .i64 0, .int .i64 0, .int .i64 0, .int .i64 0, .int .i64 1]) ?_ (fun i hi j hj => ?_) (fun i hi => ?_)
  · have := Blk.new ((((w.alloc (.cells #[.int .i64 8, .slice (some ⟨w.heap.size + 1 + 1 + 1 + 1, 0, none⟩) 4 4] 24)).alloc (.cells #[.int .i64 0] 3)).alloc (.cells #[.int .i64 0] 3)).alloc (.cells #[.int .i64 1] 3)) 38 #[.int .i64 1, .slice none 0 0, .int .i64 0, .int .i64 0, .int .i64 0, .int .i64 2, .int .i64 1, .int .i64 1, .int .i64 2, .slice (some ⟨w.heap.size + 1, 0, none⟩) 1 1, .int .i64 1, .int .i64 0, .int .i64 0, .int .i64 0, .int .i64 0, .int .i64 1, .int .i64 8, .slice (some ⟨w.heap.size + 1 + 1, 0, none⟩) 1 1, .int .i64 0, .int .i64 0, .int .i64 0, .int .i64 0, .int .i64 0, .int .i64 1, .int .i64 8, .slice (some ⟨w.heap.size + 1 + 1 + 1, 0, none⟩) 1 1, .int .i64 0, .int .i64 0, .int .i64 0, .int .i64 0, .int .i64 0, .int .i64 1]
    simpa using this
  · have hi' : i < 4 := hi
    rcases (show i = 0 ∨ i = 1 ∨ i = 2 ∨ i = 3 by omega) with rfl | rfl | rfl | rfl <;> rcases (show j = 0 ∨ j = 1 ∨ j = 2 ∨ j = 3 ∨ j = 4 ∨ j = 5 ∨ j = 6 ∨ j = 7 by omega) with rfl | rfl | rfl | rfl | rfl | rfl | rfl | rfl <;> rfl
  · have hi' : i < 4 := hi
    rcases (show i = 0 ∨ i = 1 ∨ i = 2 ∨ i = 3 by omega) with rfl | rfl | rfl | rfl
    · exact ⟨by unfold OpIn In64; decide, ints_nil _ _ (Nat.zero_le _)⟩
    · refine ⟨by unfold OpIn In64; decide, ints_blk (T := 3) (xs := [0]) ?_ (by decide) (by simp [In64])⟩
      have := (((Blk.new (w.alloc (.cells #[.int .i64 8, .slice (some ⟨w.heap.size + 1 + 1 + 1 + 1, 0, none⟩) 4 4] 24)) 3 #[.int .i64 0]).alloc (.cells #[.int .i64 0] 3)).alloc (.cells #[.int .i64 1] 3)).alloc (.cells #[.int .i64 1, .slice none 0 0, .int .i64 0, .int .i64 0, .int .i64 0, .int .i64 2, .int .i64 1, .int .i64 1, .int .i64 2, .slice (some ⟨w.heap.size + 1, 0, none⟩) 1 1, .int .i64 1, .int .i64 0, .int .i64 0, .int .i64 0, .int .i64 0, .int .i64 1, .int .i64 8, .slice (some ⟨w.heap.size + 1 + 1, 0, none⟩) 1 1, .int .i64 0, .int .i64 0, .int .i64 0, .int .i64 0, .int .i64 0, .int .i64 1, .int .i64 8, .slice (some ⟨w.heap.size + 1 + 1 + 1, 0, none⟩) 1 1, .int .i64 0, .int .i64 0, .int .i64 0, .int .i64 0, .int .i64 0, .int .i64 1] 38)
      simpa using this
    · refine ⟨by unfold OpIn In64; decide, ints_blk (T := 3) (xs := [0]) ?_ (by decide) (by simp [In64])⟩
      have := ((Blk.new ((w.alloc (.cells #[.int .i64 8, .slice (some ⟨w.heap.size + 1 + 1 + 1 + 1, 0, none⟩) 4 4] 24)).alloc (.cells #[.int .i64 0] 3)) 3 #[.int .i64 0]).alloc (.cells #[.int .i64 1] 3)).alloc (.cells #[.int .i64 1, .slice none 0 0, .int .i64 0, .int .i64 0, .int .i64 0, .int .i64 2, .int .i64 1, .int .i64 1, .int .i64 2, .slice (some ⟨w.heap.size + 1, 0, none⟩) 1 1, .int .i64 1, .int .i64 0, .int .i64 0, .int .i64 0, .int .i64 0, .int .i64 1, .int .i64 8, .slice (some ⟨w.heap.size + 1 + 1, 0, none⟩) 1 1, .int .i64 0, .int .i64 0, .int .i64 0, .int .i64 0, .int .i64 0, .int .i64 1, .int .i64 8, .slice (some ⟨w.heap.size + 1 + 1 + 1, 0, none⟩) 1 1, .int .i64 0, .int .i64 0, .int .i64 0, .int .i64 0, .int .i64 0, .int .i64 1] 38)
      simpa using this
    · refine ⟨by unfold OpIn In64; decide, ints_blk (T := 3) (xs := [1]) ?_ (by decide) (by simp [In64])⟩
      have := (Blk.new (((w.alloc (.cells #[.int .i64 8, .slice (some ⟨w.heap.size + 1 + 1 + 1 + 1, 0, none⟩) 4 4] 24)).alloc (.cells #[.int .i64 0] 3)).alloc (.cells #[.int .i64 0] 3)) 3 #[.int .i64 1]).alloc (.cells #[.int .i64 1, .slice none 0 0, .int .i64 0, .int .i64 0, .int .i64 0, .int .i64 2, .int .i64 1, .int .i64 1, .int .i64 2, .slice (some ⟨w.heap.size + 1, 0, none⟩) 1 1, .int .i64 1, .int .i64 0, .int .i64 0, .int .i64 0, .int .i64 0, .int .i64 1, .int .i64 8, .slice (some ⟨w.heap.size + 1 + 1, 0, none⟩) 1 1, .int .i64 0, .int .i64 0, .int .i64 0, .int .i64 0, .int .i64 0, .int .i64 1, .int .i64 8, .slice (some ⟨w.heap.size + 1 + 1 + 1, 0, none⟩) 1 1, .int .i64 0, .int .i64 0, .int .i64 0, .int .i64 0, .int .i64 0, .int .i64 1] 38)
      simpa using this

theorem targ0 : targF 8 forkL [1, 4, 1, 8] 0 5 = [(1, Gr.ofG 5 8 / 2), (2, 0)] := by decide +kernel
theorem targ1 : targF 8 forkL [1, 4, 1, 8] 1 5 = [(3, Gr.ofG 5 8)] := by decide +kernel
theorem targ3 : targF 8 forkL [1, 4, 1, 8] 3 5 = [] := by decide +kernel

/-- the known job's records, by known numbers of tasks in a new block -/
theorem fork_targets (op : Int) (xs : List (Int × Int)) (hx : targF 8 forkL [1, 4, 1, 8] op 5 = xs) (Y w1 : World) (A : Option Addr) (p : Nat → Option Addr × Nat) (hi : IsOps w1 w1.heap.size A forkL p) (hb : Below Y.heap.size Y w1) :
    Calls Try.prog 40 #[.agg #[.int .i64 8, .slice A 4 4], .slice (some ⟨w1.heap.size, 0, none⟩) 4 4, .int .i64 op, .int .i64 5] (w1.alloc (.cells #[.int .i64 1, .int .i64 4, .int .i64 1, .int .i64 8] 3))
      fun e w' => ∃ A c, e = .returned (.slice A xs.length c) ∧ OwnP 54 w' Y.heap.size (.slice A xs.length c) xs ∧ Below Y.heap.size Y w' := by
  subst hx
  have h1 := targets_any 8 A (some ⟨w1.heap.size, 0, none⟩) 4 4 forkL p [1, 4, 1, 8] rfl (by decide) op 5 (w1.alloc (.cells #[.int .i64 1, .int .i64 4, .int .i64 1, .int .i64 8] 3)) w1.heap.size _ (by simp) (Nat.le_refl _) (hi.alloc (Nat.le_refl _) _)
    (ints_blk (T := 3) (xs := [1, 4, 1, 8]) (Blk.new _ _ _) (by decide) (by simp [In64]))
  refine h1.mono ?_
  rintro e w' ⟨A2, c2, rfl, ho, hb2⟩
  exact ⟨A2, c2, rfl, ho.mono (by have := hb.size; first | (simp; done) | (simp; omega)), through (hb.alloc hb.size _) (by have := hb.size; first | (simp; done) | (simp; omega)) hb2⟩

set_option maxRecDepth 100000 in
set_option maxHeartbeats 4000000 in
theorem works_any (w : World) : Calls Try.prog 38 #[] w fun e w' => e = .returned (.bool true) ∧ Below w.heap.size w w' := by
  have HOF := Lib.hid (fun Y => Gr.of_any 5 8 Y)
  have hg := Gr.ofG_bd (key := 5) (groups := 8) (by omega) (by omega)
  have T0 := Lib.hid targ0
  have T1 := Lib.hid targ1
  have T3 := Lib.hid targ3
  generalize Gr.ofG 5 8 = gg at *
  go_enter Try.func38, Try.ntmps38
  go_wp2_with fail
  refine (fork_any w).mono ?_
  rintro e w1 ⟨A1, p1, rfl, hi1, hb1⟩
  have H1 := Lib.hid (fork_targets 0 _ T0.out w w1 A1 p1 hi1 hb1)
  clear hi1 hb1
  go_wp2_with fail
  refine H1.out.mono ?_
  rintro e w2 ⟨Al, cl, rfl, ol, hb2⟩
  have HL2 := Lib.hid ol
  have HB2 := Lib.hid hb2
  clear ol hb2
  go_wp2_with fail
  refine (fork_any w2).mono ?_
  rintro e w3 ⟨A3, p3, rfl, hi3, hb3⟩
  have H3 := Lib.hid (fork_targets 1 _ T1.out w2 w3 A3 p3 hi3 hb3)
  clear hi3 hb3
  go_wp2_with fail
  refine H3.out.mono ?_
  rintro e w4 ⟨Am, cm, rfl, om, hb4⟩
  have HM4 := Lib.hid om
  have HL4 := Lib.hid (HL2.out.below hb4)
  have HB4 := Lib.hid (through HB2.out (Nat.le_refl _) hb4)
  clear om hb4
  go_wp2_with fail
  refine (HOF.out w4).mono ?_
  rintro e w5 ⟨rfl, rfl⟩
  have HSA := Lib.hid (sameSpots_any Al (some ⟨w4.heap.size, 0, none⟩) cl 2 [(1, gg / 2), (2, 0)] _ _ (w4.alloc (.cells #[.int .i64 1, .int .i64 (gg / 2), .int .i64 2, .int .i64 0] 54)) (HL4.out.alloc _).pairs (pairs_blk (xs := [(1, gg / 2), (2, 0)]) (Blk.new _ _ _) (by simp) (by simp [In2, In64]; omega)))
  simp only [List.length_cons, List.length_nil] at HSA
  go_wp2_with fail
  refine HSA.out.mono ?_
  rintro e w6 ⟨rfl, hb6⟩
  have HW6 := Lib.hid (through ((Below.refl w4.heap.size w4).alloc (Nat.le_refl _) _) (Nat.le_refl _) hb6)
  have HB6 := Lib.hid (through HB4.out (Nat.le_refl _) HW6.out)
  have HM6 := Lib.hid (HM4.out.below HW6.out)
  clear hb6 HSA
  have HSB := Lib.hid (sameSpots_any Am (some ⟨w6.heap.size, 0, none⟩) cm 1 [(3, gg)] _ _ (w6.alloc (.cells #[.int .i64 3, .int .i64 gg] 54)) (HM6.out.alloc _).pairs (pairs_blk (xs := [(3, gg)]) (Blk.new _ _ _) (by simp) (by simp [In2, In64]; omega)))
  simp only [List.length_cons, List.length_nil] at HSB
  go_wp2_with fail
  refine HSB.out.mono ?_
  rintro e w7 ⟨rfl, hb7⟩
  have HB7 := Lib.hid (through HB6.out (Nat.le_refl _) (through ((Below.refl w6.heap.size w6).alloc (Nat.le_refl _) _) (Nat.le_refl _) hb7))
  clear hb7 HSB
  go_wp2_with fail
  refine (fork_any w7).mono ?_
  rintro e w8 ⟨A8, p8, rfl, hi8, hb8⟩
  have H8 := Lib.hid (fork_targets 3 _ T3.out w7 w8 A8 p8 hi8 hb8)
  clear hi8 hb8
  go_wp2_with fail
  refine H8.out.mono ?_
  rintro e w9 ⟨A9, c9, rfl, -, hb9⟩
  have HB9 := Lib.hid (through HB7.out (Nat.le_refl _) hb9)
  clear hb9
  go_wp2_with fail
  go_returns
  exact ⟨by first | rfl | simp, HB9.out⟩
end Go.Proofs.Ytfpikpglollkoaa.Rt
