/- The laws' own examples, and the law: the moves are the document's, new each time. -/
import Derived.Test.YtlhjhjkfnmeapaaMv8
namespace Go.Proofs.Ytlhjhjkfnmeapaa.Mv
open Go.ChangeShapes Go.WideShapes Go.ChangeAt Go.RowKit M

theorem refPlan_any (old par groups : Int) (w : World) :
    Calls Try.prog 15 #[.int .i64 old, .int .i64 par, .int .i64 groups] w (RetQuads 34 w (planF old par groups)) := by
  by_cases h : fitP old par groups
  · have h2 := h
    obtain ⟨⟨h1, h2⟩, ⟨h3, h4⟩, h5, h6⟩ := h2
    obtain ⟨G, rfl⟩ : ∃ G : Nat, groups = (G : Int) := ⟨groups.toNat, by omega⟩
    have e1 : planF old par (G : Int) = refL old par G G := by unfold planF; rw [if_pos h]; rfl
    rw [e1]
    exact refPlan_fit old par G w ⟨by omega, by omega⟩ ⟨h3, h4⟩ ⟨h5, h6⟩
  · exact refPlan_no old par groups w h

/-- moves that lie in a block -/
theorem quads_blk {w : World} {g : Nat} {t : TypeId} {xs : List Q4} {c : Nat} (h : Blk w g t (quadCells xs).toArray) (hc : xs.length ≤ c) (hm : c ≤ maxLen) (hx : ∀ x ∈ xs, In4 x) : IsQuads w (g + 1) (some ⟨g, 0, none⟩) c xs :=
  ⟨h.lies fun i hi j hj => by simpa using quadCells_get hi hj, hc, hm, hx⟩

theorem planF_len (old par groups : Int) : (planF old par groups).length ≤ 64 := by
  unfold planF
  split
  · rename_i h
    have := refL_len old par groups.toNat groups.toNat
    have h1 := h.1
    omega
  · simp

set_option maxHeartbeats 2000000 in
theorem known_any (w : World) : Calls Try.prog 17 #[] w fun e w' => e = .returned (.bool true) ∧ Below w.heap.size w w' := by
  have P1 := Lib.hid (plan_any 1 2 4 w)
  have e1 : planF 1 2 4 = [(0, 1, 2, 4)] := by decide +kernel
  have e2 : planF 3 3 6 = [] := by decide +kernel
  rw [e1] at P1
  have P2 : Hid (∀ Y, Calls Try.prog 13 #[.int .i64 3, .int .i64 3, .int .i64 6] Y (RetQuads 34 Y [])) := Lib.hid (fun Y => e2 ▸ plan_any 3 3 6 Y)
  clear e1 e2
  go_enter Try.func17, Try.ntmps17
  go_wp2_with fail
  refine P1.out.mono ?_
  rintro e w1 ⟨A, c, rfl, own, hb⟩
  have HQ := Lib.hid own.quads
  have HB := Lib.hid hb
  clear own hb P1
  go_wp2_with fail
  have hb2 : Below w1.heap.size w1 (w1.alloc (.cells #[.int .i64 0, .int .i64 1, .int .i64 2, .int .i64 4] 34)) := (Below.refl _ _).alloc (Nat.le_refl _) _
  refine (sameMoves_any A _ c 1 [(0, 1, 2, 4)] _ _ _ (HQ.out.below hb2) (quads_blk (xs := [(0, 1, 2, 4)]) (Blk.new w1 _ _) (by decide) (by decide) (fun x hx => by
    have : x = (0, 1, 2, 4) := by simpa using hx
    subst this
    refine ⟨?_, ?_, ?_, ?_⟩ <;> (unfold In64; decide)))).mono ?_
  rintro e w2 ⟨rfl, hb3⟩
  have HB2 := Lib.hid (through HB.out (Nat.le_refl _) (through hb2 (Nat.le_refl _) hb3))
  clear hb2 hb3
  go_wp2_with fail
  refine (P2.out _).mono ?_
  rintro e w3 ⟨A3, c3, rfl, own, hb⟩
  have HB3 := Lib.hid (through HB2.out (Nat.le_refl _) hb)
  clear own hb
  go_wp2_with fail
  go_returns
  exact ⟨by first | rfl | simp, HB3.out⟩

set_option maxHeartbeats 4000000 in
theorem movesPlans_any (old par groups : Int) (w : World) : Calls Try.prog 3 #[.int .i64 old, .int .i64 par, .int .i64 groups] w fun e w' => e = .returned (.bool true) ∧ Below w.heap.size w w' := by
  obtain ⟨L, hL⟩ : ∃ L, planF old par groups = L := ⟨_, rfl⟩
  have h64 : L.length ≤ 64 := by rw [← hL]; exact planF_len old par groups
  have P1 : Hid (∀ Y, Calls Try.prog 13 #[.int .i64 old, .int .i64 par, .int .i64 groups] Y (RetQuads 34 Y L)) := Lib.hid (fun Y => hL ▸ plan_any old par groups Y)
  have P2 : Hid (∀ Y, Calls Try.prog 15 #[.int .i64 old, .int .i64 par, .int .i64 groups] Y (RetQuads 34 Y L)) := Lib.hid (fun Y => hL ▸ refPlan_any old par groups Y)
  have H64 := Lib.hid h64
  clear hL h64
  go_enter Try.func3, Try.ntmps3
  go_wp2_with fail
  refine (P1.out _).mono ?_
  rintro e w1 ⟨A, c, rfl, own, hb⟩
  have HO1 := Lib.hid own
  have HB1 := Lib.hid hb
  clear own hb
  go_wp2_with fail
  refine (P2.out _).mono ?_
  rintro e w2 ⟨A2, c2, rfl, own, hb⟩
  have HO2 := Lib.hid (HO1.out.below hb)
  have HQ2 := Lib.hid own.quads
  have HB2 := Lib.hid (through HB1.out (Nat.le_refl _) hb)
  clear own hb HO1
  go_wp2_with fail
  refine (sameMoves_any A A2 c c2 L _ _ _ HO2.out.quads HQ2.out).mono ?_
  rintro e w3 ⟨rfl, hb⟩
  have HO3 := Lib.hid (HO2.out.below hb)
  have HB3 := Lib.hid (through HB2.out (Nat.le_refl _) hb)
  clear hb HO2 HQ2
  go_wp2_with fail
  refine (spoilMoves_any A c L _ _ HO3.out (by have := H64.out; omega)).mono ?_
  rintro e w4 ⟨rfl, hg⟩
  have HB4 := Lib.hid (HB3.out.grown hg HB3.out.size (fun g hv => (HO3.out.blk g hv).1))
  clear hg HO3
  go_wp2_with fail
  refine (P1.out _).mono ?_
  rintro e w5 ⟨A5, c5, rfl, own, hb⟩
  have HO5 := Lib.hid own
  have HB5 := Lib.hid (through HB4.out (Nat.le_refl _) hb)
  clear own hb
  go_wp2_with fail
  refine (P2.out _).mono ?_
  rintro e w6 ⟨A6, c6, rfl, own, hb⟩
  have HO6 := Lib.hid (HO5.out.below hb)
  have HQ6 := Lib.hid own.quads
  have HB6 := Lib.hid (through HB5.out (Nat.le_refl _) hb)
  clear own hb HO5
  go_wp2_with fail
  refine (sameMoves_any A5 A6 c5 c6 L _ _ _ HO6.out.quads HQ6.out).mono ?_
  rintro e w7 ⟨rfl, hb⟩
  have HB7 := Lib.hid (through HB6.out (Nat.le_refl _) hb)
  clear hb
  go_wp2_with fail
  refine (known_any _).mono ?_
  rintro e w8 ⟨rfl, hb⟩
  have HB8 := Lib.hid (through HB7.out (Nat.le_refl _) hb)
  clear hb
  go_wp2_with fail
  go_returns
  exact ⟨by first | rfl | simp, HB8.out⟩
end Go.Proofs.Ytlhjhjkfnmeapaa.Mv
