/- The law: of any job what is wrong with it is what the document says. -/
import Derived.Test.YtfpikpglollkoaaSp15
import Derived.Test.YtfpikpglollkoaaSp17
namespace Go.Proofs.Ytfpikpglollkoaa.Sp
open Go.ChangeShapes Go.WideShapes Go.ChangeAt Go.RowKit M

set_option maxHeartbeats 4000000 in
theorem specChecks_any (g : Int) (A : Option Addr) (c : Nat) (l : List OpP) (p : Nat → Option Addr × Nat) (hl : l.length ≤ 9223372036854775807) (w : World) (B : Nat) (hB : B ≤ w.heap.size) (h : IsOps w B A l p) :
    Calls Try.prog 3 #[.agg #[.int .i64 g, .slice A l.length c]] w fun e w' => e = .returned (.bool true) ∧ Below w.heap.size w w' := by
  have HH := Lib.hid h
  have HL := Lib.hid (long_any g A c l p hl (w.alloc (.cells #[.int .i64 g, .slice A l.length c] 24)) B (by simp; omega) (h.alloc hB _))
  clear h
  cases elong : longB l with
  | true =>
    rw [elong] at HL
    go_enter Try.func3, Try.ntmps3
    go_wp2_with fail
    refine HL.out.mono ?_
    rintro e w1 ⟨rfl, hb1⟩
    have HB1 := Lib.hid (through ((Below.refl _ _).alloc (Nat.le_refl _) _) (Nat.le_refl w.heap.size) hb1)
    clear hb1
    go_wp2_with fail
    refine (known_any _).mono ?_
    rintro e w2 ⟨rfl, hb2⟩
    have HB2 := Lib.hid (through HB1.out (Nat.le_refl _) hb2)
    clear hb2
    go_wp2_with fail
    go_returns
    exact ⟨rfl, HB2.out⟩
  | false =>
    obtain ⟨l20, i20⟩ := long_no elong
    rw [elong] at HL
    clear elong
    have I20 := Lib.hid i20
    clear i20
    go_enter Try.func3, Try.ntmps3
    go_wp2_with fail
    refine HL.out.mono ?_
    rintro e w1 ⟨rfl, hb1⟩
    have HB1 := Lib.hid (through ((Below.refl _ _).alloc (Nat.le_refl _) _) (Nat.le_refl w.heap.size) hb1)
    have k1 : Blk w1 w.heap.size 24 #[.int .i64 g, .slice A l.length c] := (Blk.new w _ _).below hb1 (by simp)
    obtain ⟨a0, a1⟩ := spec_blk k1
    have hsz1 : w.heap.size + 1 ≤ w1.heap.size := k1.lt
    have HK1 := Lib.hid k1
    clear hb1 k1
    have HCP := Lib.hid (copySpec_any g A c l p (by omega) (fun i hi => by have := I20.out i hi; omega) w1 w.heap.size (by omega) ((HH.out.more hB).below HB1.out))
    go_wp2_with fail
    refine HCP.out.mono ?_
    rintro e w2 ⟨A2, c2, p2, rfl, hown, hb2⟩
    have HI2 := Lib.hid hown.ops
    have HB2 := Lib.hid (through HB1.out (by omega) hb2)
    have HK2 := Lib.hid (HK1.out.below hb2 (by omega))
    have hsz2 : w.heap.size + 1 ≤ w2.heap.size := by have := hb2.size; omega
    clear hown hb2 a0 a1
    go_upto_region 4 with (fail)
    obtain ⟨X, hX⟩ : ∃ X, (w2.alloc (.cells #[.int .i64 g, .slice A2 l.length c2] 24)) = X := ⟨_, rfl⟩
    have k3 : Blk X w2.heap.size 24 #[.int .i64 g, .slice A2 l.length c2] := hX ▸ Blk.new w2 _ _
    have k4 : Below w2.heap.size w2 X := hX ▸ (Below.refl _ _).alloc (Nat.le_refl _) _
    have k5 : X.heap.size = w2.heap.size + 1 := hX ▸ (by simp)
    rw [hX]
    clear hX
    have HF : Hid (∀ Y, Below X.heap.size X Y → (Y.cell? ⟨w2.heap.size, 0, none⟩ = some (.int .i64 g) ∧ Y.cell? ⟨w2.heap.size, 1, none⟩ = some (.slice A2 l.length c2) ∧ Y.cell? ⟨w.heap.size, 0, none⟩ = some (.int .i64 g) ∧ Y.cell? ⟨w.heap.size, 1, none⟩ = some (.slice A l.length c)) ∧
        IsOps Y w2.heap.size A l p ∧ IsOps Y w2.heap.size A2 l p2 ∧ w2.heap.size ≤ Y.heap.size ∧ Below w.heap.size w Y) := fun Y hY => by
      obtain ⟨x0, x1⟩ := spec_blk (k3.below hY (by omega))
      obtain ⟨x2, x3⟩ := spec_blk ((HK2.out.below k4 (by omega)).below hY (by omega))
      exact ⟨⟨x0, x1, x2, x3⟩, ((HH.out.below ((through HB2.out (Nat.le_refl _) k4).mono hB)).below (hY.mono (by omega))).more (by omega), (HI2.out.below k4).below (hY.mono (by omega)), by have := hY.size; omega, through (through HB2.out (Nat.le_refl _) k4) (by omega) hY⟩
    have T0 := (HF.out X (Below.refl _ _)).1
    have HC1 : Hid (∀ Y, Below X.heap.size X Y → Calls Try.prog 17 #[.agg #[.int .i64 g, .slice A2 l.length c2]] Y fun e w' => e = .returned (.int .i64 (chkE g l)) ∧ Below Y.heap.size Y w') := fun Y hY => by
      obtain ⟨-, h1, h2, h3, -⟩ := HF.out Y hY
      exact check_any g A2 c2 l p2 (by omega) Y _ h3 h2
    have HC2 : Hid (∀ Y, Below X.heap.size X Y → Calls Try.prog 18 #[.agg #[.int .i64 g, .slice A l.length c]] Y fun e w' => e = .returned (.int .i64 (chkE g l)) ∧ Below Y.heap.size Y w') := fun Y hY => by
      obtain ⟨-, h1, h2, h3, -⟩ := HF.out Y hY
      exact refCheck_any g A c l p (by omega) (fun i hi => by have := I20.out i hi; omega) Y _ h3 h1
    have HC3 : Hid (∀ Y, Below X.heap.size X Y → Calls Try.prog 19 #[.agg #[.int .i64 g, .slice A2 l.length c2], .agg #[.int .i64 g, .slice A l.length c]] Y fun e w' => e = .returned (.bool true) ∧ Below Y.heap.size Y w') := fun Y hY => by
      obtain ⟨-, h1, h2, h3, -⟩ := HF.out Y hY
      exact sameSpec_any g A2 A c2 c l p2 p (by omega) Y _ h3 h2 h1
    generalize chkE g l = z at *
    have HXX := Lib.hid (Below.refl X.heap.size X)
    clear k3 k4 k5
    have tz : (z == z) = true := by simp
    go_region_held3 (fun w' => w'.cell? ⟨w2.heap.size, 0, none⟩ = some (.int .i64 g) ∧ w'.cell? ⟨w2.heap.size, 1, none⟩ = some (.slice A2 l.length c2) ∧ w'.cell? ⟨w.heap.size, 0, none⟩ = some (.int .i64 g) ∧ w'.cell? ⟨w.heap.size, 1, none⟩ = some (.slice A l.length c))
      (first | exact (HF.out _ (Below.refl _ _).drew).1 | exact (HF.out _ (Below.refl _ _)).1 | exact (HF.out _ h1).1 | exact (HF.out _ h2).1 | exact (HF.out _ h3).1 | exact (HF.out _ h4).1)
      ((first
        | (go_at_call 17; refine (HC1.out _ HXX.out.drew).mono ?_; rintro e y1 ⟨rfl, hq1⟩; have h1 := of_drew hq1)
        | (go_at_call 18; refine (HC2.out _ h1).mono ?_; rintro e y2 ⟨rfl, hq2⟩; have h2 := through h1 (Nat.le_refl _) hq2)
        | (go_at_call 19; refine (HC3.out _ h2).mono ?_; rintro e y3 ⟨rfl, hq3⟩; have h3 := through h2 (Nat.le_refl _) hq3)
        | (go_at_call 15; refine (known_any _).mono ?_; rintro e y4 ⟨rfl, hq4⟩; have h4 := through h3 (Nat.le_refl _) hq4)))
    have HE := Lib.hid (HF.out _ h4).2.2.2.2
    clear h1 h2 h3 h4 hq1 hq2 hq3 hq4 T0
    go_wp2
    go_returns
    exact ⟨by first | rfl | simp, HE.out⟩
end Go.Proofs.Ytfpikpglollkoaa.Sp
