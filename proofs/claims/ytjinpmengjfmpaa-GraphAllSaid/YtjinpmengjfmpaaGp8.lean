/- The laws' own examples of tasks and edges; the law: all tasks, and their numbers. -/
import Derived.Test.YtjinpmengjfmpaaGp5
import Derived.Test.YtjinpmengjfmpaaGp6
import Derived.Test.YtjinpmengjfmpaaGp7
import Derived.Test.YtjinpmengjfmpaaSp14
namespace Go.Proofs.Ytjinpmengjfmpaa.Gp
open Go.ChangeShapes Go.WideShapes Go.ChangeAt Go.RowKit M Sp

def l0 : List OpP := [⟨1, [], 0, 0, 0, 2, 1, 1⟩, ⟨8, [0], 0, 0, 0, 0, 0, 1⟩]
theorem l0_ops {w : World} {q g : Nat} (h1 : Blk w q 3 #[.int .i64 0]) (h2 : Blk w g 58 #[.int .i64 1, .slice none 0 0, .int .i64 0, .int .i64 0, .int .i64 0, .int .i64 2, .int .i64 1, .int .i64 1, .int .i64 8, .slice (some ⟨q, 0, none⟩) 1 1, .int .i64 0, .int .i64 0, .int .i64 0, .int .i64 0, .int .i64 0, .int .i64 1]) :
    IsOps w w.heap.size (some ⟨g, 0, none⟩) l0 (twoP q) := by
  refine ops_blk h2 (fun i hi j hj => ?_) (fun i hi => ?_)
  · have hi' : i < 2 := hi
    rcases (show i = 0 ∨ i = 1 by omega) with rfl | rfl <;> rcases (show j = 0 ∨ j = 1 ∨ j = 2 ∨ j = 3 ∨ j = 4 ∨ j = 5 ∨ j = 6 ∨ j = 7 by omega) with rfl | rfl | rfl | rfl | rfl | rfl | rfl | rfl <;> rfl
  · have hi' : i < 2 := hi
    rcases (show i = 0 ∨ i = 1 by omega) with rfl | rfl
    · exact ⟨by unfold OpIn In64; decide, ints_nil _ _ (Nat.zero_le _)⟩
    · exact ⟨by unfold OpIn In64; decide, ints_blk (xs := [0]) h1 (by decide) (by simp [In64])⟩
theorem l0_in : ∀ i, i < l0.length → (insOf l0 i).length ≤ 12 ∧ ∀ x ∈ insOf l0 i, ∃ j : Nat, x = j ∧ j < l0.length := by
  intro i hi
  have hi' : i < 2 := hi
  rcases (show i = 0 ∨ i = 1 by omega) with rfl | rfl
  · exact ⟨by decide, fun x hx => by simp [insOf, opOf, l0] at hx⟩
  · exact ⟨by decide, fun x hx => ⟨0, by simpa [insOf, opOf, l0] using hx, by decide⟩⟩
theorem e22 : edgesP l0 [2, 2] = [(0, 2), (1, 2), (0, 3), (1, 3)] := by decide +kernel
theorem t201 : spotsP [2, 0, 1] = [(0, 0), (0, 1), (2, 0)] := by decide +kernel
theorem i201 : idxP (spotsP [2, 0, 1]) (1, 0) = -1 := by decide +kernel
theorem in3 : insP [(0, 2), (1, 2), (0, 3), (1, 3)] 3 = [2, 3] := by decide +kernel
theorem out0 : outsP [(0, 2), (1, 2), (0, 3), (1, 3)] 0 = [0, 2] := by decide +kernel
theorem small2 {x : Int × Int} (h : (0 ≤ x.1 ∧ x.1 ≤ 9) ∧ 0 ≤ x.2 ∧ x.2 ≤ 9) : In2 x := by unfold In2 In64; omega

theorem pairs_lit {w : World} {t : TypeId} {xs : List (Int × Int)} {c : Nat} (hc : xs.length ≤ c) (hm : c ≤ 1000) (hx : ∀ x ∈ xs, In2 x) : IsPairs (w.alloc (.cells (pairCells xs).toArray t)) (w.heap.size + 1) (some ⟨w.heap.size, 0, none⟩) c xs :=
  pairs_blk (Blk.new w t _) hc (by unfold maxLen; omega) hx
theorem ints_lit {w : World} {t : TypeId} {xs : List Int} (hl : xs.length ≤ 1000) (hx : ∀ x ∈ xs, In64 x) : IsInts (w.alloc (.cells (xs.map (Value.int .i64)).toArray t)) (w.heap.size + 1) ⟨some ⟨w.heap.size, 0, none⟩, xs.length, xs⟩ :=
  ints_blkG (Blk.new w t _) (Nat.le_refl _) (by unfold maxLen; show xs.length ≤ _; omega) hx

set_option maxHeartbeats 4000000 in
theorem known_any (w : World) : Calls Try.prog 16 #[] w fun e w' => e = .returned (.bool true) ∧ Below w.heap.size w w' := by
  have HI3 : Hid (∀ Y : World, IsInts (Y.alloc (.cells #[.int .i64 2, .int .i64 0, .int .i64 1] 3)) (Y.alloc (.cells #[.int .i64 2, .int .i64 0, .int .i64 1] 3)).heap.size ⟨some ⟨Y.heap.size, 0, none⟩, 3, [2, 0, 1]⟩) := Lib.hid (fun Y => (ints_lit (w := Y) (t := 3) (xs := [2, 0, 1]) (by decide) (by simp [In64])).more (by simp))
  have HBL : Hid (∀ (Y : World) (o : Obj) (Z : World), Below (Y.alloc o).heap.size (Y.alloc o) Z → Below Y.heap.size Y Z) := Lib.hid (fun Y o Z h => ((Below.refl _ Y).alloc (Nat.le_refl _) o).trans (h.mono (by simp)))
  have HTS : Hid (∀ Y : World, Calls Try.prog 17 #[.slice (some ⟨Y.heap.size, 0, none⟩) 3 3] (Y.alloc (.cells #[.int .i64 2, .int .i64 0, .int .i64 1] 3)) fun e w' => ∃ A c, e = .returned (.slice A 3 c) ∧ IsPairs w' w'.heap.size A c [(0, 0), (0, 1), (2, 0)] ∧ Below Y.heap.size Y w') := Lib.hid (fun Y => (tasks_any _ 3 [2, 0, 1] _ (by decide +kernel) (HI3.out Y)).mono (by
    rintro e w' ⟨A, c, rfl, own, hb⟩
    rw [t201] at own ⊢
    exact ⟨A, c, rfl, own.pairs, HBL.out _ _ _ hb⟩))
  have HIX : Hid (∀ Y : World, Calls Try.prog 20 #[.slice (some ⟨Y.heap.size, 0, none⟩) 3 3, .agg #[.int .i64 1, .int .i64 0]] (Y.alloc (.cells #[.int .i64 2, .int .i64 0, .int .i64 1] 3)) fun e w' => e = .returned (.int .i64 (-1)) ∧ Below Y.heap.size Y w') := Lib.hid (fun Y => (index_any _ 3 [2, 0, 1] (1, 0) _ (by decide +kernel) (HI3.out Y)).mono (by
    rintro e w' ⟨rfl, hb⟩
    rw [i201]
    exact ⟨rfl, HBL.out _ _ _ hb⟩))
  go_enter Try.func16, Try.ntmps16
  go_wp2_with fail
  obtain ⟨X, hX⟩ : ∃ X, ((((w.alloc (.cells #[.int .i64 0] 3)).alloc (.cells #[.int .i64 1, .slice none 0 0, .int .i64 0, .int .i64 0, .int .i64 0, .int .i64 2, .int .i64 1, .int .i64 1, .int .i64 8, .slice (some ⟨w.heap.size, 0, none⟩) 1 1, .int .i64 0, .int .i64 0, .int .i64 0, .int .i64 0, .int .i64 0, .int .i64 1] 58)).alloc (.cells #[.int .i64 4, .slice (some ⟨w.heap.size + 1, 0, none⟩) 2 2] 35)).alloc (.cells #[.int .i64 2, .int .i64 2] 3)) = X := ⟨_, rfl⟩
  have k1 : Blk X w.heap.size 3 #[.int .i64 0] := hX ▸ (((Blk.new w _ _).alloc _).alloc _).alloc _
  have k2 : Blk X (w.heap.size + 1) 58 #[.int .i64 1, .slice none 0 0, .int .i64 0, .int .i64 0, .int .i64 0, .int .i64 2, .int .i64 1, .int .i64 1, .int .i64 8, .slice (some ⟨w.heap.size, 0, none⟩) 1 1, .int .i64 0, .int .i64 0, .int .i64 0, .int .i64 0, .int .i64 0, .int .i64 1] := by
    have := ((Blk.new (w.alloc (.cells #[.int .i64 0] 3)) 58 #[.int .i64 1, .slice none 0 0, .int .i64 0, .int .i64 0, .int .i64 0, .int .i64 2, .int .i64 1, .int .i64 1, .int .i64 8, .slice (some ⟨w.heap.size, 0, none⟩) 1 1, .int .i64 0, .int .i64 0, .int .i64 0, .int .i64 0, .int .i64 0, .int .i64 1]).alloc (.cells #[.int .i64 4, .slice (some ⟨w.heap.size + 1, 0, none⟩) 2 2] 35)).alloc (.cells #[.int .i64 2, .int .i64 2] 3)
    rw [World.size_alloc] at this; exact hX ▸ this
  have k4 : IsInts X X.heap.size ⟨some ⟨w.heap.size + 1 + 1 + 1, 0, none⟩, 2, [2, 2]⟩ := by
    have := ints_lit (w := ((w.alloc (.cells #[.int .i64 0] 3)).alloc (.cells #[.int .i64 1, .slice none 0 0, .int .i64 0, .int .i64 0, .int .i64 0, .int .i64 2, .int .i64 1, .int .i64 1, .int .i64 8, .slice (some ⟨w.heap.size, 0, none⟩) 1 1, .int .i64 0, .int .i64 0, .int .i64 0, .int .i64 0, .int .i64 0, .int .i64 1] 58)).alloc (.cells #[.int .i64 4, .slice (some ⟨w.heap.size + 1, 0, none⟩) 2 2] 35)) (t := 3) (xs := [2, 2]) (by decide) (by simp [In64])
    rw [World.size_alloc, World.size_alloc, World.size_alloc] at this
    exact (hX ▸ this : IsInts X _ _).more (by rw [← hX]; simp)
  have hb : Below w.heap.size w X := hX ▸ (((((Below.refl _ w).alloc (Nat.le_refl _) _).alloc (by simp) _).alloc (by simp; omega) _).alloc (by simp; omega) _)
  have HED := Lib.hid (edges_any 4 _ _ 2 2 l0 (twoP w.heap.size) [2, 2] (by decide) rfl (by decide) l0_in X (l0_ops k1 k2) k4)
  rw [e22] at HED
  have HB := Lib.hid hb
  rw [hX]
  clear hX k1 k2 k4 hb
  refine HED.out.mono ?_
  rintro e w1 ⟨A, c, rfl, own, hb⟩
  have HQ := Lib.hid own.pairs
  have HB1 := Lib.hid (through HB.out (Nat.le_refl _) hb)
  clear own hb HED HB
  go_wp2_with fail
  refine (HTS.out _).mono ?_
  rintro e w2 ⟨A2, c2, rfl, hp, hb⟩
  have HQ2 := Lib.hid hp
  have C2 := Lib.hid hb
  clear hp hb
  go_wp2_with fail
  have hq3 := HQ2.out.below ((Below.refl _ w2).alloc (Nat.le_refl _) (.cells #[.int .i64 0, .int .i64 0, .int .i64 0, .int .i64 1, .int .i64 2, .int .i64 0] 24))
  refine (sameSpots_any _ _ c2 3 [(0, 0), (0, 1), (2, 0)] _ _ _ hq3 (pairs_lit (w := w2) (t := 24) (xs := [(0, 0), (0, 1), (2, 0)]) (by decide) (by decide) (by simp [In2, In64]))).mono ?_
  rintro e w3 ⟨rfl, hb⟩
  have C3 := Lib.hid (through C2.out (Nat.le_refl _) (HBL.out _ _ _ hb))
  clear hq3 hb C2
  go_wp2_with fail
  refine (HIX.out _).mono ?_
  rintro e w4 ⟨rfl, hb⟩
  have C4 := Lib.hid (through C3.out (Nat.le_refl _) hb)
  clear hb C3
  go_wp2_with fail
  have hq5 := HQ.out.below (through C4.out (Nat.le_refl _) ((Below.refl _ w4).alloc (Nat.le_refl _) (.cells #[.int .i64 0, .int .i64 2, .int .i64 1, .int .i64 2, .int .i64 0, .int .i64 3, .int .i64 1, .int .i64 3] 49)))
  refine (sameEdges_any A _ c 4 [(0, 2), (1, 2), (0, 3), (1, 3)] _ _ _ hq5 (pairs_lit (w := w4) (t := 49) (xs := [(0, 2), (1, 2), (0, 3), (1, 3)]) (by decide) (by decide) (by simp [In2, In64]))).mono ?_
  rintro e w5 ⟨rfl, hb⟩
  have C5 := Lib.hid (through C4.out (Nat.le_refl _) (HBL.out _ _ _ hb))
  clear hq5 hb C4
  have HI6 := Lib.hid (ins_any A c [(0, 2), (1, 2), (0, 3), (1, 3)] 3 w1.heap.size w5 C5.out.size (HQ.out.below C5.out) (by decide))
  rw [in3] at HI6
  go_wp2_with fail
  refine HI6.out.mono ?_
  rintro e w6 ⟨A6, c6, rfl, own, hb⟩
  have C6 := Lib.hid (through C5.out (Nat.le_refl _) hb)
  have HO6 := Lib.hid own.ints
  clear own hb C5 HI6
  go_wp2_with fail
  have hq7 := HO6.out.below ((Below.refl _ w6).alloc (Nat.le_refl _) (.cells #[.int .i64 2, .int .i64 3] 3))
  have hs7 := sameInts_any A6 _ c6 2 [2, 3] [2, 3] _ _ _ hq7 (ints_lit (w := w6) (t := 3) (xs := [2, 3]) (by decide) (by simp [In64]))
  rw [sameB_yes rfl] at hs7
  refine hs7.mono ?_
  rintro e w7 ⟨rfl, hb⟩
  have C7 := Lib.hid (through C6.out (Nat.le_refl _) (HBL.out _ _ _ hb))
  clear hq7 hb C6 hs7
  have HI8 := Lib.hid (outs_any A c [(0, 2), (1, 2), (0, 3), (1, 3)] 0 w1.heap.size w7 C7.out.size (HQ.out.below C7.out) (by decide))
  rw [out0] at HI8
  go_wp2_with fail
  refine HI8.out.mono ?_
  rintro e w8 ⟨A8, c8, rfl, own, hb⟩
  have C8 := Lib.hid (through C7.out (Nat.le_refl _) hb)
  have HO8 := Lib.hid own.ints
  clear own hb C7 HI8
  go_wp2_with fail
  have hq9 := HO8.out.below ((Below.refl _ w8).alloc (Nat.le_refl _) (.cells #[.int .i64 0, .int .i64 2] 3))
  have hs9 := sameInts_any A8 _ c8 2 [0, 2] [0, 2] _ _ _ hq9 (ints_lit (w := w8) (t := 3) (xs := [0, 2]) (by decide) (by simp [In64]))
  rw [sameB_yes rfl] at hs9
  refine hs9.mono ?_
  rintro e w9 ⟨rfl, hb⟩
  have C9 := Lib.hid (through HB1.out (Nat.le_refl _) (through C8.out (Nat.le_refl _) (HBL.out _ _ _ hb)))
  clear hq9 hb C8 hs9
  go_wp2_with fail
  go_returns
  exact ⟨by first | rfl | simp, C9.out⟩
end Go.Proofs.Ytjinpmengjfmpaa.Gp
