/- Jobs: what the known ones answer. -/
import Derived.Test.YtaodbjgcidkpkaaSp14
namespace Go.Proofs.Ytaodbjgcidkpkaa.Sp
open Go.ChangeShapes Go.WideShapes Go.ChangeAt Go.RowKit M

set_option maxHeartbeats 4000000 in
theorem known_any (w : World) : Calls Try.prog 13 #[] w fun e w' => e = .returned (.bool true) ∧ Below w.heap.size w w' := by
  have H2 := Lib.hid (two_any w)
  go_enter Try.func13, Try.ntmps13
  go_wp2_with fail
  refine H2.out.mono ?_
  rintro e w1 ⟨rfl, hb1, hs1, hi1, ho1⟩
  have HO := Lib.hid (two_ops hi1 ho1)
  have HB1 := Lib.hid hb1
  have HS1 := Lib.hid hs1
  clear hb1 hs1 hi1 ho1
  obtain ⟨G, hG⟩ : ∃ G, w.heap.size + 2 = G := ⟨_, rfl⟩
  rw [hG] at HO ⊢
  clear hG
  go_upto_region 3 with (fail)
  obtain ⟨X, hX⟩ : ∃ X, ((w1.alloc (.cells #[.int .i64 4, .slice (some ⟨G, 0, none⟩) 2 2] 24)).alloc (.cells #[.int .i64 4, .slice (some ⟨G, 0, none⟩) 1 2] 24)) = X := ⟨_, rfl⟩
  have k1 : Blk X w1.heap.size 24 #[.int .i64 4, .slice (some ⟨G, 0, none⟩) 2 2] := hX ▸ (Blk.new w1 _ _).alloc _
  have k2 : Blk X (w1.heap.size + 1) 24 #[.int .i64 4, .slice (some ⟨G, 0, none⟩) 1 2] := hX ▸ (by have := Blk.new (w1.alloc (.cells #[.int .i64 4, .slice (some ⟨G, 0, none⟩) 2 2] 24)) 24 #[.int .i64 4, .slice (some ⟨G, 0, none⟩) 1 2]; simpa using this)
  have k3 : Below w1.heap.size w1 X := hX ▸ (((Below.refl _ _).alloc (Nat.le_refl _) _).alloc (by simp) _)
  have k4 : X.heap.size = w1.heap.size + 1 + 1 := hX ▸ (by simp)
  (try rw [hX])
  clear hX
  have HF : Hid (∀ Y, Below X.heap.size X Y → (Y.cell? ⟨w1.heap.size, 0, none⟩ = some (.int .i64 4) ∧ Y.cell? ⟨w1.heap.size, 1, none⟩ = some (.slice (some ⟨G, 0, none⟩) 2 2) ∧ Y.cell? ⟨w1.heap.size + 1, 0, none⟩ = some (.int .i64 4) ∧ Y.cell? ⟨w1.heap.size + 1, 1, none⟩ = some (.slice (some ⟨G, 0, none⟩) 1 2)) ∧ IsOps Y w1.heap.size (some ⟨G, 0, none⟩) twoL (twoP (w.heap.size + 1)) ∧ w1.heap.size ≤ Y.heap.size ∧ Below w.heap.size w Y) := fun Y hY => by
    obtain ⟨a0, a1⟩ := spec_blk (k1.below hY (by omega))
    obtain ⟨a2, a3⟩ := spec_blk (k2.below hY (by omega))
    exact ⟨⟨a0, a1, a2, a3⟩, HO.out.below (k3.trans (hY.mono (by omega))), by have := hY.size; omega, through (through HB1.out (Nat.le_refl _) k3) (by have := HB1.out.size; have := k3.size; omega) hY⟩
  clear k1 k2 k3 k4
  obtain ⟨⟨a0, a1, a2, a3⟩, hio, hsz, -⟩ := HF.out X (Below.refl _ _)
  have HC1 := Lib.hid (check_any 4 (some ⟨G, 0, none⟩) 2 twoL _ (by decide) X w1.heap.size hsz hio)
  rw [known_chk] at HC1
  clear hio
  go_wp2_with fail
  refine HC1.out.mono ?_
  rintro e w2 ⟨rfl, hb2⟩
  have HB2 := Lib.hid hb2
  clear hb2 a0 a1 a2 a3 hsz
  obtain ⟨⟨a0, a1, a2, a3⟩, hio, hsz, -⟩ := HF.out w2 HB2.out
  have HC2 := Lib.hid (check_any 4 (some ⟨G, 0, none⟩) 2 (twoL.take 1) _ (by decide) w2 w1.heap.size hsz (hio.less 1 (by decide)))
  rw [known_chk1] at HC2
  have HC3 : Hid (∀ Y, Below X.heap.size X Y → Calls Try.prog 20 #[.agg #[.int .i64 4, .slice (some ⟨G, 0, none⟩) 2 2]] Y (RetInts Y [0, 1])) := fun Y hY => by
    obtain ⟨-, hio, hsz, -⟩ := HF.out Y hY
    have := order_any 4 (some ⟨G, 0, none⟩) 2 twoL _ Y w1.heap.size hsz hio (by decide)
    rw [known_ord] at this
    exact this
  have HC4 : Hid (∀ Y, Below X.heap.size X Y → Calls Try.prog 15 #[.agg #[.int .i64 4, .slice (some ⟨G, 0, none⟩) 2 2], .int .i64 1] Y (RetInts Y [0])) := fun Y hY => by
    obtain ⟨-, hio, hsz, -⟩ := HF.out Y hY
    obtain ⟨rank, hr⟩ := two_rank
    have := roots_any 4 (some ⟨G, 0, none⟩) 2 twoL _ rank hr (by decide) 1 (by decide) Y w1.heap.size hsz hio
    rw [two_bits] at this
    exact this
  clear hio
  go_wp2_with fail
  refine HC2.out.mono ?_
  rintro e w3 ⟨rfl, hb3⟩
  have HB3 := Lib.hid (HB2.out.trans (hb3.mono HB2.out.size))
  clear hb3 a0 a1 a2 a3 hsz
  obtain ⟨⟨a0, a1, a2, a3⟩, -, hsz, -⟩ := HF.out w3 HB3.out
  go_wp2_with fail
  refine (HC3.out _ HB3.out).mono ?_
  rintro e w4 ⟨A4, c4, rfl, hown4, hb4⟩
  have HB4 := Lib.hid (HB3.out.trans (hb4.mono HB3.out.size))
  clear hb4 a0 a1 a2 a3 hsz
  obtain ⟨⟨a0, a1, a2, a3⟩, -, hsz, -⟩ := HF.out w4 HB4.out
  have HS1 := Lib.hid (sameInts_any A4 (some ⟨w4.heap.size, 0, none⟩) c4 2 [0, 1] [0, 1] _ _ (w4.alloc (.cells #[.int .i64 0, .int .i64 1] 3)) (hown4.alloc _).ints (ints_blk (Blk.new _ _ _) (by decide) (by simp [In64])))
  rw [sameB_yes rfl] at HS1
  clear hown4
  go_wp2_with fail
  refine HS1.out.mono ?_
  rintro e w5 ⟨rfl, hb5⟩
  have HB5 := Lib.hid (through (HB4.out.alloc HB4.out.size _) (by simp) hb5)
  clear hb5 a0 a1 a2 a3 hsz
  obtain ⟨⟨a0, a1, a2, a3⟩, -, hsz, -⟩ := HF.out w5 HB5.out
  go_wp2_with fail
  refine (HC4.out _ HB5.out).mono ?_
  rintro e w6 ⟨A6, c6, rfl, hown6, hb6⟩
  have HB6 := Lib.hid (HB5.out.trans (hb6.mono HB5.out.size))
  have HS2 := Lib.hid (sameInts_any A6 (some ⟨w6.heap.size, 0, none⟩) c6 1 [0] [0] _ _ (w6.alloc (.cells #[.int .i64 0] 3)) (hown6.alloc _).ints (ints_blk (Blk.new _ _ _) (by decide) (by simp [In64])))
  rw [sameB_yes rfl] at HS2
  clear hown6 hb6 a0 a1 a2 a3 hsz
  go_wp2_with fail
  refine HS2.out.mono ?_
  rintro e w7 ⟨rfl, hb7⟩
  have HB7 := Lib.hid (through (HB6.out.alloc HB6.out.size _) (by simp) hb7)
  clear hb7
  go_wp2_with fail
  go_returns
  exact ⟨rfl, (HF.out _ HB7.out).2.2.2⟩
end Go.Proofs.Ytaodbjgcidkpkaa.Sp
