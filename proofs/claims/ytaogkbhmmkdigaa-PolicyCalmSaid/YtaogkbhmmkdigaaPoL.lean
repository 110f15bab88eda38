/- The policy's laws return true. No condition. -/
import Derived.Test.YtaogkbhmmkdigaaPoD
namespace Go.Proofs.Ytaogkbhmmkdigaa.Po
open Go.ChangeShapes Go.WideShapes Go.ChangeAt Go.RowKit M

theorem new_any (c s : Int) (w : World) :
    Calls Try.prog 7 #[.int .i64 c, .int .i64 s] w fun e w' => e = .returned (.pointer (some ⟨w.heap.size, 0, none⟩)) ∧ w' = w.alloc (.cells #[.int .i64 c, .int .u64 (IntKind.u64.wrap s), .pointer none] 38) := by
  go_enter Try.func7, Try.ntmps7
  go_wp2
  go_returns
  exact ⟨rfl, rfl⟩

/-- Decide with two lists that were just built -/
theorem decide_built {W w2 : World} (c s now no : Int) (idle : Bool) (last : Option Int) (cur ts : List Int) (ca cb : Array Value) (n m pb : Nat) (hn : n = cur.length) (hm : m = ts.length)
    (hca : ∀ k, k < cur.length → ca[k]? = some (.int .i64 (cur.getD k 0))) (hcb : ∀ k, k < ts.length → cb[k]? = some (.int .i64 (ts.getD k 0)))
    (hlen : cur.length < 1000) (hcs : ∀ t ∈ cur, -9223372036854775808 ≤ t ∧ t ≤ 9223372036854775807) (hts : ∀ t ∈ ts, -9223372036854775808 ≤ t ∧ t ≤ 9223372036854775807)
    (hnow : 0 ≤ now ∧ now ≤ 9223372036854775807) (hlast : ∀ t, last = some t → 0 ≤ t ∧ t ≤ 9223372036854775807) (hbel : Below W.heap.size W w2) (hpb : W.heap.size ≤ pb) (hP : Pol w2 pb c s last) :
    Calls Try.prog 8 #[.pointer (some ⟨pb, 0, none⟩), .int .i64 now, .slice (some ⟨w2.heap.size, 0, none⟩) n n, .slice (some ⟨w2.heap.size + 1, 0, none⟩) m m, .int .i64 no, .bool idle]
      ((w2.alloc (.cells ca 3)).alloc (.cells cb 3)) fun e w' =>
      e = .returned (.bool (decideB c s last now no idle cur ts)) ∧ Below W.heap.size W w' ∧ Pol w' pb c s (noted (decideB c s last now no idle cur ts) now last) := by
  subst hn hm
  have b1 := (Blk.new w2 3 ca).alloc (.cells cb 3)
  have b2 := Blk.new (w2.alloc (.cells ca 3)) 3 cb
  have e1 : (w2.alloc (.cells ca 3)).heap.size = w2.heap.size + 1 := by simp
  have e2 : ((w2.alloc (.cells ca 3)).alloc (.cells cb 3)).heap.size = w2.heap.size + 1 + 1 := by simp
  rw [e1] at b2
  have hb3 : Below w2.heap.size w2 ((w2.alloc (.cells ca 3)).alloc (.cells cb 3)) := ((Below.refl _ _).alloc (Nat.le_refl _) _).alloc (by simp) _
  have hW : Below W.heap.size W ((w2.alloc (.cells ca 3)).alloc (.cells cb 3)) := hbel.trans (hb3.mono hbel.size)
  have l1 := b1.lies (size := 1) (n := cur.length) (f := fun i _ => .int .i64 (cur.getD i 0)) (fun i hi j hj => by obtain rfl : j = 0 := (by omega); simpa using hca i hi)
  have l2 := b2.lies (size := 1) (n := ts.length) (f := fun i _ => .int .i64 (ts.getD i 0)) (fun i hi j hj => by obtain rfl : j = 0 := (by omega); simpa using hcb i hi)
  generalize hX : (w2.alloc (.cells ca 3)).alloc (.cells cb 3) = X at *
  refine (decide_any c s now no idle last cur ts _ _ ts.length cur.length pb X hlen hcs hts hnow hlast (pol_kept hP hb3) (l2.more (by omega)) (l1.more (by omega))).mono ?_
  rintro e w3 ⟨he, hg, hp⟩
  exact ⟨he, hW.trans (below_of_only hg (by have := hbel.size; omega) (fun g e => by cases e; exact hpb)), hp⟩

theorem pol_new (w : World) (c s : Int) : Pol (w.alloc (.cells #[.int .i64 c, .int .u64 s, .pointer none] 38)) w.heap.size c s none := ⟨none, Blk.new _ _ _, rfl⟩

theorem two_cells {a b : Int} : ∀ k, k < [a, b].length → (#[Value.int .i64 a, Value.int .i64 b] : Array Value)[k]? = some (.int .i64 ([a, b].getD k 0)) := by
  intro k hk
  rcases k with _ | _ | k
  · rfl
  · rfl
  · exact absurd hk (by simp)
theorem some_five : ∀ t, some (5 : Int) = some t → 0 ≤ t ∧ t ≤ 9223372036854775807 := by rintro t ⟨⟩; decide

theorem known_any (w : World) :
    Calls Try.prog 9 #[] w fun e w' => e = .returned (.bool true) ∧ Below w.heap.size w w' := by
  have d1 : decideB 10 2 none 5 0 true [1, 4] [2, 4] = false := by decide
  have d2 : decideB 10 2 none 5 0 true [1, 4] [3, 4] = true := by decide
  have d3 : decideB 10 2 (some 5) 14 0 true [3, 4] [1, 4] = false := by decide
  have d4 : decideB 10 2 (some 5) 15 0 true [3, 4] [1, 4] = true := by decide
  have u2 : IntKind.u64.wrap 2 = 2 := by decide
  have HP := pol_new w 10 2
  have HB : Below w.heap.size w (w.alloc (.cells #[.int .i64 10, .int .u64 2, .pointer none] 38)) := (Below.refl _ _).alloc (Nat.le_refl _) _
  have D1 : ∀ w2, Below w.heap.size w w2 → Pol w2 w.heap.size 10 2 none → _ := fun w2 hb hp => decide_built (W := w) (w2 := w2) 10 2 5 0 true none [1, 4] [2, 4] #[.int .i64 1, .int .i64 4] #[.int .i64 2, .int .i64 4] 2 2 w.heap.size rfl rfl two_cells two_cells (by decide) (by decide) (by decide) (by decide) (by decide) hb (Nat.le_refl _) hp
  have D2 : ∀ w2, Below w.heap.size w w2 → Pol w2 w.heap.size 10 2 none → _ := fun w2 hb hp => decide_built (W := w) (w2 := w2) 10 2 5 0 true none [1, 4] [3, 4] #[.int .i64 1, .int .i64 4] #[.int .i64 3, .int .i64 4] 2 2 w.heap.size rfl rfl two_cells two_cells (by decide) (by decide) (by decide) (by decide) (by decide) hb (Nat.le_refl _) hp
  have D3 : ∀ w2, Below w.heap.size w w2 → Pol w2 w.heap.size 10 2 (some 5) → _ := fun w2 hb hp => decide_built (W := w) (w2 := w2) 10 2 14 0 true (some 5) [3, 4] [1, 4] #[.int .i64 3, .int .i64 4] #[.int .i64 1, .int .i64 4] 2 2 w.heap.size rfl rfl two_cells two_cells (by decide) (by decide) (by decide) (by decide) some_five hb (Nat.le_refl _) hp
  have D4 : ∀ w2, Below w.heap.size w w2 → Pol w2 w.heap.size 10 2 (some 5) → _ := fun w2 hb hp => decide_built (W := w) (w2 := w2) 10 2 15 0 true (some 5) [3, 4] [1, 4] #[.int .i64 3, .int .i64 4] #[.int .i64 1, .int .i64 4] 2 2 w.heap.size rfl rfl two_cells two_cells (by decide) (by decide) (by decide) (by decide) some_five hb (Nat.le_refl _) hp
  rw [d1] at D1; rw [d2] at D2; rw [d3] at D3; rw [d4] at D4
  have H1 := Lib.hid D1; have H2 := Lib.hid D2; have H3 := Lib.hid D3; have H4 := Lib.hid D4
  have P0 := Lib.hid HP; have B0 := Lib.hid HB
  clear d1 d2 d3 d4 D1 D2 D3 D4 HP HB
  go_enter Try.func9, Try.ntmps9
  go_wp2_with fail
  refine (new_any _ _ _).mono ?_; rintro e w1 ⟨rfl, hw1⟩
  rw [u2] at hw1
  rw [← hw1] at P0 B0
  clear hw1 u2
  go_wp2_with fail
  refine (H1.out w1 B0.out P0.out).mono ?_
  rintro e w2 ⟨rfl, hb2, hp2⟩
  have B2 := Lib.hid hb2; have P2 := Lib.hid (show Pol w2 w.heap.size 10 2 none from hp2)
  clear hb2 hp2 B0 P0
  go_wp2_with fail
  refine (H2.out w2 B2.out P2.out).mono ?_
  rintro e w3 ⟨rfl, hb3, hp3⟩
  have B3 := Lib.hid hb3; have P3 := Lib.hid (show Pol w3 w.heap.size 10 2 (some 5) from hp3)
  clear hb3 hp3 B2 P2
  go_wp2_with fail
  refine (H3.out w3 B3.out P3.out).mono ?_
  rintro e w4 ⟨rfl, hb4, hp4⟩
  have B4 := Lib.hid hb4; have P4 := Lib.hid (show Pol w4 w.heap.size 10 2 (some 5) from hp4)
  clear hb4 hp4 B3 P3
  go_wp2_with fail
  refine (H4.out w4 B4.out P4.out).mono ?_
  rintro e w5 ⟨rfl, hb5, hp5⟩
  have B5 := Lib.hid hb5
  clear hb5 hp5 B4 P4
  go_wp2
  go_returns
  exact ⟨rfl, B5.out⟩
end Go.Proofs.Ytaogkbhmmkdigaa.Po
