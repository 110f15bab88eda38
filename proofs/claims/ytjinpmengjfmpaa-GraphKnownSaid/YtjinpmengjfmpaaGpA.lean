/- The closed law: no tasks; numbers below 1. -/
import Derived.Test.YtjinpmengjfmpaaGp8
namespace Go.Proofs.Ytjinpmengjfmpaa.Gp
open Go.ChangeShapes Go.WideShapes Go.ChangeAt Go.RowKit M Sp

theorem HBLg (Y : World) (o : Obj) (Z : World) (h : Below (Y.alloc o).heap.size (Y.alloc o) Z) : Below Y.heap.size Y Z := ((Below.refl _ Y).alloc (Nat.le_refl _) o).trans (h.mono (by simp))
theorem tasks_lit (xs : List Int) (hl : xs.length ≤ 1000) (hx : ∀ x ∈ xs, In64 x) (hs : spotsP xs = []) (Y : World) :
    Calls Try.prog 17 #[.slice (some ⟨Y.heap.size, 0, none⟩) xs.length xs.length] (Y.alloc (.cells (xs.map (Value.int .i64)).toArray 3)) fun e w' => ∃ A c, e = .returned (.slice A 0 c) ∧ Below Y.heap.size Y w' :=
  (tasks_any _ xs.length xs _ (by have : (spotsP xs).length = 0 := by rw [hs]; rfl
                                  rw [spotsP_len] at this; omega) ((ints_lit (w := Y) (t := 3) hl hx).more (by simp))).mono (by
    rintro e w' ⟨A, c, rfl, own, hb⟩
    rw [hs]
    exact ⟨A, c, rfl, HBLg _ _ _ hb⟩)
theorem index_lit (xs : List Int) (s : Int × Int) (r : Int) (hl : xs.length ≤ 1000) (hx : ∀ x ∈ xs, In64 x) (hn : (spotsN xs).length ≤ 1000) (hs : idxP (spotsP xs) s = r) (Y : World) :
    Calls Try.prog 20 #[.slice (some ⟨Y.heap.size, 0, none⟩) xs.length xs.length, .agg #[.int .i64 s.1, .int .i64 s.2]] (Y.alloc (.cells (xs.map (Value.int .i64)).toArray 3)) fun e w' => e = .returned (.int .i64 r) ∧ Below Y.heap.size Y w' :=
  (index_any _ xs.length xs s _ (by omega) ((ints_lit (w := Y) (t := 3) hl hx).more (by simp))).mono (by
    rintro e w' ⟨rfl, hb⟩
    rw [hs]
    exact ⟨rfl, HBLg _ _ _ hb⟩)

set_option maxHeartbeats 4000000 in
theorem graphKnown_any (w : World) : Calls Try.prog 6 #[] w fun e w' => e = .returned (.bool true) ∧ Below w.heap.size w w' := by
  have H1 := Lib.hid (tasks_any none 0 [] w (by decide) (ints_nil _ _ (Nat.zero_le _)))
  have H2 := Lib.hid (fun Y => tasks_lit [0, -5, -9223372036854775808] (by decide) (by intro x hx; simp at hx; rcases hx with rfl | rfl | rfl <;> (unfold In64; decide)) (by decide +kernel) Y)
  have H3 := Lib.hid (fun Y => index_any none 0 [] (0, 0) Y (by decide) (ints_nil _ _ (Nat.zero_le _)))
  have H4 := Lib.hid (fun Y => index_lit [-1, 2] (1, 1) 1 (by decide) (by simp [In64]) (by decide +kernel) (by decide +kernel) Y)
  have H5 := Lib.hid (fun Y => index_lit [3] (0, -1) (-1) (by decide) (by simp [In64]) (by decide +kernel) (by decide +kernel) Y)
  have H6 := Lib.hid (fun Y => index_lit [3] (-1, 0) (-1) (by decide) (by simp [In64]) (by decide +kernel) (by decide +kernel) Y)
  go_enter Try.func6, Try.ntmps6
  go_wp2_with fail
  refine H1.out.mono ?_
  rintro e w1 ⟨A1, c1, rfl, own, hb⟩
  have HB1 := Lib.hid hb
  clear own hb
  go_wp2_with fail
  refine (H2.out _).mono ?_
  rintro e w2 ⟨A2, c2, rfl, hb⟩
  have HB2 := Lib.hid (through HB1.out (Nat.le_refl _) hb)
  clear hb
  go_wp2_with fail
  refine (H3.out _).mono ?_
  rintro e w3 ⟨rfl, hb⟩
  have HB3 := Lib.hid (through HB2.out (Nat.le_refl _) hb)
  clear hb
  rw [show idxP (spotsP []) (0, 0) = -1 by decide +kernel]
  go_wp2_with fail
  refine (H4.out _).mono ?_
  rintro e w4 ⟨rfl, hb⟩
  have HB4 := Lib.hid (through HB3.out (Nat.le_refl _) hb)
  clear hb
  go_wp2_with fail
  refine (H5.out _).mono ?_
  rintro e w5 ⟨rfl, hb⟩
  have HB5 := Lib.hid (through HB4.out (Nat.le_refl _) hb)
  clear hb
  go_wp2_with fail
  refine (H6.out _).mono ?_
  rintro e w6 ⟨rfl, hb⟩
  have HB6 := Lib.hid (through HB5.out (Nat.le_refl _) hb)
  clear hb
  go_wp2_with fail
  refine (ins_any none 0 [] 0 0 _ (Nat.zero_le _) ⟨Lies.zero _ _, Nat.zero_le _, Nat.zero_le _, by simp⟩ (by decide)).mono ?_
  rintro e w7 ⟨A7, c7, rfl, own, hb⟩
  have HB7 := Lib.hid (through HB6.out (Nat.le_refl _) hb)
  clear own hb
  go_wp2_with fail
  have ho := outs_any (some ⟨w7.heap.size, 0, none⟩) 1 [(1, 0)] 0 (w7.heap.size + 1) (w7.alloc (.cells #[.int .i64 1, .int .i64 0] 49)) (by simp) (pairs_lit (w := w7) (t := 49) (xs := [(1, 0)]) (by decide) (by decide) (by simp [In2, In64])) (by decide)
  rw [show outsP [(1, 0)] 0 = [] by decide +kernel] at ho
  refine ho.mono ?_
  rintro e w8 ⟨A8, c8, rfl, own, hb⟩
  have HB8 := Lib.hid (through HB7.out (Nat.le_refl _) (HBLg _ _ _ hb))
  clear own hb ho
  go_wp2_with fail
  refine (known_any _).mono ?_
  rintro e w9 ⟨rfl, hb⟩
  have HB9 := Lib.hid (through HB8.out (Nat.le_refl _) hb)
  clear hb
  go_wp2_with fail
  go_returns
  exact ⟨by first | rfl | simp, HB9.out⟩
end Go.Proofs.Ytjinpmengjfmpaa.Gp
