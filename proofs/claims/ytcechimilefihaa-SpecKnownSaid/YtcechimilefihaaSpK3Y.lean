/- The law: the chapter's examples; what each kind may do. -/
import Derived.Test.YtcechimilefihaaSpK4Y
import Derived.Test.YtcechimilefihaaSpL3Y
import Derived.Test.YtcechimilefihaaSpL4Y
import Derived.Test.YtcechimilefihaaSpL5Y
import Derived.Test.YtcechimilefihaaJoinY
import Derived.Deep.DeepCutAuto

namespace Go.Proofs.Ytcechimilefihaa.Sp
open Go.ChangeShapes Go.WideShapes Go.ChangeAt Go.RowKit M

theorem field_spec (w : World) (g : Int) (A : Option Addr) (n c : Nat) : (Instr.field 24 (.agg #[.int .i64 g, .slice A n c]) 1).run Try.prog w = .ok (.slice A n c) w := by kernel_rfl

set_option maxRecDepth 100000 in
set_option maxHeartbeats 8000000 in
theorem specKnown_any (w : World) : Calls Try.prog 4 #[] w fun e w' => e = .returned (.bool true) ∧ Below w.heap.size w w' := by
  have Ga := Lib.hid (Got.nil w)
  have HBz := Lib.hid (Below.refl w.heap.size w)
  go_enter Try.func4, Try.ntmps4
  go_wp2_with fail
  refine (one_any (2) (1) (-5) (0) (by unfold In64; decide) (by unfold In64; decide) (by unfold In64; decide) (by unfold In64; decide) _).mono ?_
  rintro e wa0 ⟨Aa0, ca0, pa0, rfl, hi, hb⟩
  have Ga0 := Lib.hid (Ga.out.snoc hb (c := ca0) (2, 1, -5, 0) hi)
  have HBa0 := Lib.hid (through HBz.out (Nat.le_refl _) hb)
  clear hi hb Ga HBz
  go_wp2_with fail
  refine (one_any (2) (5) (1) (0) (by unfold In64; decide) (by unfold In64; decide) (by unfold In64; decide) (by unfold In64; decide) _).mono ?_
  rintro e wa1 ⟨Aa1, ca1, pa1, rfl, hi, hb⟩
  have Ga1 := Lib.hid (Ga0.out.snoc hb (c := ca1) (2, 5, 1, 0) hi)
  have HBa1 := Lib.hid (through HBa0.out (Nat.le_refl _) hb)
  clear hi hb Ga0 HBa0
  go_wp2_with fail
  refine (one_any (2) (7) (0) (0) (by unfold In64; decide) (by unfold In64; decide) (by unfold In64; decide) (by unfold In64; decide) _).mono ?_
  rintro e wa2 ⟨Aa2, ca2, pa2, rfl, hi, hb⟩
  have Ga2 := Lib.hid (Ga1.out.snoc hb (c := ca2) (2, 7, 0, 0) hi)
  have HBa2 := Lib.hid (through HBa1.out (Nat.le_refl _) hb)
  clear hi hb Ga1 HBa1
  go_wp2_with fail
  refine (one_any (3) (1) (-1) (0) (by unfold In64; decide) (by unfold In64; decide) (by unfold In64; decide) (by unfold In64; decide) _).mono ?_
  rintro e wa3 ⟨Aa3, ca3, pa3, rfl, hi, hb⟩
  have Ga3 := Lib.hid (Ga2.out.snoc hb (c := ca3) (3, 1, -1, 0) hi)
  have HBa3 := Lib.hid (through HBa2.out (Nat.le_refl _) hb)
  clear hi hb Ga2 HBa2
  go_wp2_with fail
  refine (one_any (3) (2) (3) (2) (by unfold In64; decide) (by unfold In64; decide) (by unfold In64; decide) (by unfold In64; decide) _).mono ?_
  rintro e wa4 ⟨Aa4, ca4, pa4, rfl, hi, hb⟩
  have Ga4 := Lib.hid (Ga3.out.snoc hb (c := ca4) (3, 2, 3, 2) hi)
  have HBa4 := Lib.hid (through HBa3.out (Nat.le_refl _) hb)
  clear hi hb Ga3 HBa3
  go_wp2_with fail
  refine (one_any (3) (3) (1) (0) (by unfold In64; decide) (by unfold In64; decide) (by unfold In64; decide) (by unfold In64; decide) _).mono ?_
  rintro e wa5 ⟨Aa5, ca5, pa5, rfl, hi, hb⟩
  have Ga5 := Lib.hid (Ga4.out.snoc hb (c := ca5) (3, 3, 1, 0) hi)
  have HBa5 := Lib.hid (through HBa4.out (Nat.le_refl _) hb)
  clear hi hb Ga4 HBa4
  go_wp2_with fail
  refine (one_any (4) (0) (0) (0) (by unfold In64; decide) (by unfold In64; decide) (by unfold In64; decide) (by unfold In64; decide) _).mono ?_
  rintro e wa6 ⟨Aa6, ca6, pa6, rfl, hi, hb⟩
  have Ga6 := Lib.hid (Ga5.out.snoc hb (c := ca6) (4, 0, 0, 0) hi)
  have HBa6 := Lib.hid (through HBa5.out (Nat.le_refl _) hb)
  clear hi hb Ga5 HBa5
  go_wp2_with fail
  refine (one_any (4) (0) (4) (-9) (by unfold In64; decide) (by unfold In64; decide) (by unfold In64; decide) (by unfold In64; decide) _).mono ?_
  rintro e wa7 ⟨Aa7, ca7, pa7, rfl, hi, hb⟩
  have Ga7 := Lib.hid (Ga6.out.snoc hb (c := ca7) (4, 0, 4, -9) hi)
  have HBa7 := Lib.hid (through HBa6.out (Nat.le_refl _) hb)
  clear hi hb Ga6 HBa6
  go_wp2_with fail
  refine (one_any (5) (4) (0) (0) (by unfold In64; decide) (by unfold In64; decide) (by unfold In64; decide) (by unfold In64; decide) _).mono ?_
  rintro e wa8 ⟨Aa8, ca8, pa8, rfl, hi, hb⟩
  have Ga8 := Lib.hid (Ga7.out.snoc hb (c := ca8) (5, 4, 0, 0) hi)
  have HBa8 := Lib.hid (through HBa7.out (Nat.le_refl _) hb)
  clear hi hb Ga7 HBa7
  go_wp2_with fail
  refine (one_any (6) (1) (16) (0) (by unfold In64; decide) (by unfold In64; decide) (by unfold In64; decide) (by unfold In64; decide) _).mono ?_
  rintro e wa9 ⟨Aa9, ca9, pa9, rfl, hi, hb⟩
  have Ga9 := Lib.hid (Ga8.out.snoc hb (c := ca9) (6, 1, 16, 0) hi)
  have HBa9 := Lib.hid (through HBa8.out (Nat.le_refl _) hb)
  clear hi hb Ga8 HBa8
  go_upto_region 2 with (fail)
  obtain ⟨Wg, hWg⟩ : ∃ W, (wa9.alloc (.cells ([.int .i64 4, .slice Aa0 3 ca0, .int .i64 4, .slice Aa1 3 ca1, .int .i64 4, .slice Aa2 3 ca2, .int .i64 4, .slice Aa3 3 ca3, .int .i64 4, .slice Aa4 3 ca4, .int .i64 4, .slice Aa5 3 ca5, .int .i64 4, .slice Aa6 3 ca6, .int .i64 4, .slice Aa7 3 ca7, .int .i64 4, .slice Aa8 3 ca8, .int .i64 4, .slice Aa9 3 ca9] : List Value).toArray 24)) = W := ⟨_, rfl⟩
  have HG := Lib.hid (Got.blk Ga9.out hWg)
  have hbg : Below wa9.heap.size wa9 Wg := hWg ▸ (Below.refl _ _).alloc (Nat.le_refl _) _
  have HSG := Lib.hid (show wa9.heap.size < Wg.heap.size by rw [← hWg]; simp)
  have HBy := Lib.hid (through HBa9.out (Nat.le_refl _) hbg)
  rw [hWg]
  obtain ⟨bg, hbgn⟩ : ∃ n, wa9.heap.size = n := ⟨_, rfl⟩
  rw [hbgn] at HG HSG ⊢
  have Gb := Lib.hid (Got.nil Wg)
  have HWg := Lib.hid (Below.refl Wg.heap.size Wg)
  clear hWg hbg hbgn Ga9 HBa9
  go_wp2_with fail
  refine (one_any (2) (0) (0) (0) (by unfold In64; decide) (by unfold In64; decide) (by unfold In64; decide) (by unfold In64; decide) _).mono ?_
  rintro e wb0 ⟨Ab0, cb0, pb0, rfl, hi, hb⟩
  have HWgN := Lib.hid (through HWg.out (Nat.le_refl _) hb)
  clear HWg
  have HWg := HWgN
  clear HWgN
  have Gb0 := Lib.hid (Gb.out.snoc hb (c := cb0) (2, 0, 0, 0) hi)
  have HBb0 := Lib.hid (through HBy.out (Nat.le_refl _) hb)
  clear hi hb Gb HBy
  go_wp2_with fail
  refine (one_any (2) (8) (0) (0) (by unfold In64; decide) (by unfold In64; decide) (by unfold In64; decide) (by unfold In64; decide) _).mono ?_
  rintro e wb1 ⟨Ab1, cb1, pb1, rfl, hi, hb⟩
  have HWgN := Lib.hid (through HWg.out (Nat.le_refl _) hb)
  clear HWg
  have HWg := HWgN
  clear HWgN
  have Gb1 := Lib.hid (Gb0.out.snoc hb (c := cb1) (2, 8, 0, 0) hi)
  have HBb1 := Lib.hid (through HBb0.out (Nat.le_refl _) hb)
  clear hi hb Gb0 HBb0
  go_wp2_with fail
  refine (one_any (2) (5) (0) (0) (by unfold In64; decide) (by unfold In64; decide) (by unfold In64; decide) (by unfold In64; decide) _).mono ?_
  rintro e wb2 ⟨Ab2, cb2, pb2, rfl, hi, hb⟩
  have HWgN := Lib.hid (through HWg.out (Nat.le_refl _) hb)
  clear HWg
  have HWg := HWgN
  clear HWgN
  have Gb2 := Lib.hid (Gb1.out.snoc hb (c := cb2) (2, 5, 0, 0) hi)
  have HBb2 := Lib.hid (through HBb1.out (Nat.le_refl _) hb)
  clear hi hb Gb1 HBb1
  go_wp2_with fail
  refine (one_any (2) (1) (0) (1) (by unfold In64; decide) (by unfold In64; decide) (by unfold In64; decide) (by unfold In64; decide) _).mono ?_
  rintro e wb3 ⟨Ab3, cb3, pb3, rfl, hi, hb⟩
  have HWgN := Lib.hid (through HWg.out (Nat.le_refl _) hb)
  clear HWg
  have HWg := HWgN
  clear HWgN
  have Gb3 := Lib.hid (Gb2.out.snoc hb (c := cb3) (2, 1, 0, 1) hi)
  have HBb3 := Lib.hid (through HBb2.out (Nat.le_refl _) hb)
  clear hi hb Gb2 HBb2
  go_wp2_with fail
  refine (one_any (3) (1) (0) (1) (by unfold In64; decide) (by unfold In64; decide) (by unfold In64; decide) (by unfold In64; decide) _).mono ?_
  rintro e wb4 ⟨Ab4, cb4, pb4, rfl, hi, hb⟩
  have HWgN := Lib.hid (through HWg.out (Nat.le_refl _) hb)
  clear HWg
  have HWg := HWgN
  clear HWgN
  have Gb4 := Lib.hid (Gb3.out.snoc hb (c := cb4) (3, 1, 0, 1) hi)
  have HBb4 := Lib.hid (through HBb3.out (Nat.le_refl _) hb)
  clear hi hb Gb3 HBb3
  go_wp2_with fail
  refine (one_any (3) (2) (3) (3) (by unfold In64; decide) (by unfold In64; decide) (by unfold In64; decide) (by unfold In64; decide) _).mono ?_
  rintro e wb5 ⟨Ab5, cb5, pb5, rfl, hi, hb⟩
  have HWgN := Lib.hid (through HWg.out (Nat.le_refl _) hb)
  clear HWg
  have HWg := HWgN
  clear HWgN
  have Gb5 := Lib.hid (Gb4.out.snoc hb (c := cb5) (3, 2, 3, 3) hi)
  have HBb5 := Lib.hid (through HBb4.out (Nat.le_refl _) hb)
  clear hi hb Gb4 HBb4
  go_wp2_with fail
  refine (one_any (3) (3) (0) (0) (by unfold In64; decide) (by unfold In64; decide) (by unfold In64; decide) (by unfold In64; decide) _).mono ?_
  rintro e wb6 ⟨Ab6, cb6, pb6, rfl, hi, hb⟩
  have HWgN := Lib.hid (through HWg.out (Nat.le_refl _) hb)
  clear HWg
  have HWg := HWgN
  clear HWgN
  have Gb6 := Lib.hid (Gb5.out.snoc hb (c := cb6) (3, 3, 0, 0) hi)
  have HBb6 := Lib.hid (through HBb5.out (Nat.le_refl _) hb)
  clear hi hb Gb5 HBb5
  go_wp2_with fail
  refine (one_any (3) (4) (1) (0) (by unfold In64; decide) (by unfold In64; decide) (by unfold In64; decide) (by unfold In64; decide) _).mono ?_
  rintro e wb7 ⟨Ab7, cb7, pb7, rfl, hi, hb⟩
  have HWgN := Lib.hid (through HWg.out (Nat.le_refl _) hb)
  clear HWg
  have HWg := HWgN
  clear HWgN
  have Gb7 := Lib.hid (Gb6.out.snoc hb (c := cb7) (3, 4, 1, 0) hi)
  have HBb7 := Lib.hid (through HBb6.out (Nat.le_refl _) hb)
  clear hi hb Gb6 HBb6
  go_wp2_with fail
  refine (one_any (4) (1) (0) (0) (by unfold In64; decide) (by unfold In64; decide) (by unfold In64; decide) (by unfold In64; decide) _).mono ?_
  rintro e wb8 ⟨Ab8, cb8, pb8, rfl, hi, hb⟩
  have HWgN := Lib.hid (through HWg.out (Nat.le_refl _) hb)
  clear HWg
  have HWg := HWgN
  clear HWgN
  have Gb8 := Lib.hid (Gb7.out.snoc hb (c := cb8) (4, 1, 0, 0) hi)
  have HBb8 := Lib.hid (through HBb7.out (Nat.le_refl _) hb)
  clear hi hb Gb7 HBb7
  go_wp2_with fail
  refine (one_any (4) (0) (5) (0) (by unfold In64; decide) (by unfold In64; decide) (by unfold In64; decide) (by unfold In64; decide) _).mono ?_
  rintro e wb9 ⟨Ab9, cb9, pb9, rfl, hi, hb⟩
  have HWgN := Lib.hid (through HWg.out (Nat.le_refl _) hb)
  clear HWg
  have HWg := HWgN
  clear HWgN
  have Gb9 := Lib.hid (Gb8.out.snoc hb (c := cb9) (4, 0, 5, 0) hi)
  have HBb9 := Lib.hid (through HBb8.out (Nat.le_refl _) hb)
  clear hi hb Gb8 HBb8
  go_wp2_with fail
  refine (one_any (5) (1) (1) (0) (by unfold In64; decide) (by unfold In64; decide) (by unfold In64; decide) (by unfold In64; decide) _).mono ?_
  rintro e wb10 ⟨Ab10, cb10, pb10, rfl, hi, hb⟩
  have HWgN := Lib.hid (through HWg.out (Nat.le_refl _) hb)
  clear HWg
  have HWg := HWgN
  clear HWgN
  have Gb10 := Lib.hid (Gb9.out.snoc hb (c := cb10) (5, 1, 1, 0) hi)
  have HBb10 := Lib.hid (through HBb9.out (Nat.le_refl _) hb)
  clear hi hb Gb9 HBb9
  go_wp2_with fail
  refine (one_any (5) (5) (0) (0) (by unfold In64; decide) (by unfold In64; decide) (by unfold In64; decide) (by unfold In64; decide) _).mono ?_
  rintro e wb11 ⟨Ab11, cb11, pb11, rfl, hi, hb⟩
  have HWgN := Lib.hid (through HWg.out (Nat.le_refl _) hb)
  clear HWg
  have HWg := HWgN
  clear HWgN
  have Gb11 := Lib.hid (Gb10.out.snoc hb (c := cb11) (5, 5, 0, 0) hi)
  have HBb11 := Lib.hid (through HBb10.out (Nat.le_refl _) hb)
  clear hi hb Gb10 HBb10
  go_wp2_with fail
  refine (one_any (6) (1) (0) (0) (by unfold In64; decide) (by unfold In64; decide) (by unfold In64; decide) (by unfold In64; decide) _).mono ?_
  rintro e wb12 ⟨Ab12, cb12, pb12, rfl, hi, hb⟩
  have HWgN := Lib.hid (through HWg.out (Nat.le_refl _) hb)
  clear HWg
  have HWg := HWgN
  clear HWgN
  have Gb12 := Lib.hid (Gb11.out.snoc hb (c := cb12) (6, 1, 0, 0) hi)
  have HBb12 := Lib.hid (through HBb11.out (Nat.le_refl _) hb)
  clear hi hb Gb11 HBb11
  go_wp2_with fail
  refine (one_any (6) (1) (17) (0) (by unfold In64; decide) (by unfold In64; decide) (by unfold In64; decide) (by unfold In64; decide) _).mono ?_
  rintro e wb13 ⟨Ab13, cb13, pb13, rfl, hi, hb⟩
  have HWgN := Lib.hid (through HWg.out (Nat.le_refl _) hb)
  clear HWg
  have HWg := HWgN
  clear HWgN
  have Gb13 := Lib.hid (Gb12.out.snoc hb (c := cb13) (6, 1, 17, 0) hi)
  have HBb13 := Lib.hid (through HBb12.out (Nat.le_refl _) hb)
  clear hi hb Gb12 HBb12
  go_wp2_with fail
  refine (one_any (6) (0) (2) (0) (by unfold In64; decide) (by unfold In64; decide) (by unfold In64; decide) (by unfold In64; decide) _).mono ?_
  rintro e wb14 ⟨Ab14, cb14, pb14, rfl, hi, hb⟩
  have HWgN := Lib.hid (through HWg.out (Nat.le_refl _) hb)
  clear HWg
  have HWg := HWgN
  clear HWgN
  have Gb14 := Lib.hid (Gb13.out.snoc hb (c := cb14) (6, 0, 2, 0) hi)
  have HBb14 := Lib.hid (through HBb13.out (Nat.le_refl _) hb)
  clear hi hb Gb13 HBb13
  go_upto_region 3 with (fail)
  obtain ⟨Wb, hWb⟩ : ∃ W, (wb14.alloc (.cells ([.int .i64 4, .slice Ab0 3 cb0, .int .i64 4, .slice Ab1 3 cb1, .int .i64 4, .slice Ab2 3 cb2, .int .i64 4, .slice Ab3 3 cb3, .int .i64 4, .slice Ab4 3 cb4, .int .i64 4, .slice Ab5 3 cb5, .int .i64 4, .slice Ab6 3 cb6, .int .i64 4, .slice Ab7 3 cb7, .int .i64 4, .slice Ab8 3 cb8, .int .i64 4, .slice Ab9 3 cb9, .int .i64 4, .slice Ab10 3 cb10, .int .i64 4, .slice Ab11 3 cb11, .int .i64 4, .slice Ab12 3 cb12, .int .i64 4, .slice Ab13 3 cb13, .int .i64 4, .slice Ab14 3 cb14] : List Value).toArray 24)) = W := ⟨_, rfl⟩
  have HBD := Lib.hid (show ∀ Y, Below Wb.heap.size Wb Y → ∀ k, k < 15 → ∃ A c p, Y.cell? ⟨wb14.heap.size, k * 2, none⟩ = some (.int .i64 4) ∧ Y.cell? ⟨wb14.heap.size, k * 2 + 1, none⟩ = some (.slice A 3 c) ∧ IsOps Y wb14.heap.size A (oneT (bads.getD k default)) p from Got.blk Gb14.out hWb)
  have hbb : Below wb14.heap.size wb14 Wb := hWb ▸ (Below.refl _ _).alloc (Nat.le_refl _) _
  have HSB := Lib.hid (show wb14.heap.size < Wb.heap.size by rw [← hWb]; simp)
  have HBW := Lib.hid (through HBb14.out (Nat.le_refl _) hbb)
  have HWGB := Lib.hid (through HWg.out (Nat.le_refl _) hbb)
  rw [hWb]
  obtain ⟨bb, hbbn⟩ : ∃ n, wb14.heap.size = n := ⟨_, rfl⟩
  rw [hbbn] at HBD HSB ⊢
  clear hWb hbb hbbn Gb14 HBb14 HWg
  have HGY : Hid (∀ Y, Below Wb.heap.size Wb Y → Below Wg.heap.size Wg Y ∧ Below w.heap.size w Y) := fun Y hY => ⟨through HWGB.out (Nat.le_refl _) hY, through HBW.out (Nat.le_refl _) hY⟩
  have HX : Hid (∀ X Y, Below Wb.heap.size Wb X → Below X.heap.size X Y → Below Wb.heap.size Wb Y) := fun X Y h1 h2 => through h1 (Nat.le_refl _) h2
  go_wp2_with fail
  go_loopw [3] (fun i wr => ∃ k : Nat, k ≤ 10 ∧ i = .int .i64 k ∧ Below Wb.heap.size Wb wr) (fun i _ => 10 - (intOf i).toNat)
  case atStart => exact ⟨0, by omega, rfl, Below.refl _ _⟩
  case round =>
    obtain ⟨k, hk, rfl, hbl⟩ := hrel
    have HB := Lib.hid hbl
    clear hbl
    by_cases hlt : k < 10
    · have hc0 := HG.out wr (HGY.out _ HB.out).1 k hlt
      obtain ⟨A, c, p, d0, d1, hio⟩ := hc0
      have HD : Hid (∀ Y, Below wr.heap.size wr Y → Y.cell? ⟨bg, k * 2, none⟩ = some (.int .i64 4) ∧ Y.cell? ⟨bg, k * 2 + 1, none⟩ = some (.slice A 3 c) ∧ IsOps Y bg A (oneT (goods.getD k default)) p ∧ bg ≤ Y.heap.size) := fun Y hY => by
        have hbw : bg < wr.heap.size := Nat.lt_of_lt_of_le HSG.out (HGY.out _ HB.out).1.size
        exact ⟨(hY.cell (p := ⟨bg, k * 2, none⟩) hbw).trans d0, (hY.cell (p := ⟨bg, k * 2 + 1, none⟩) hbw).trans d1, hio.below (hY.mono (by omega)), by have := hY.size; omega⟩
      have EG := Lib.hid (goods_ok k hlt)
      generalize goods.getD k default = x at *
      have HC : Hid (∀ Y, Below wr.heap.size wr Y → Calls Try.prog 28 #[.agg #[.int .i64 4, .slice A 3 c]] Y fun e w' => e = .returned (.int .i64 0) ∧ Below Y.heap.size Y w') := fun Y hY => by
        obtain ⟨-, -, hio, hz⟩ := HD.out Y hY
        have := check_any 4 A c (oneT x) p (by show 3 ≤ 1000; decide) Y bg hz hio
        rw [EG.out] at this
        exact this
      have HO : Hid (∀ Y, Below wr.heap.size wr Y → Calls Try.prog 29 #[.agg #[.int .i64 4, .slice A 3 c]] Y fun e w' => e = .returned (.bool true) ∧ Below Y.heap.size Y w') := fun Y hY => by
        obtain ⟨-, -, hio, hz⟩ := HD.out Y hY
        exact specOrders_any 4 A c (oneT x) p (by show 3 ≤ 9223372036854775807; decide) Y bg hz hio
      have HR : Hid (∀ Y, Below wr.heap.size wr Y → Calls Try.prog 30 #[.agg #[.int .i64 4, .slice A 3 c]] Y fun e w' => e = .returned (.bool true) ∧ Below Y.heap.size Y w') := fun Y hY => by
        obtain ⟨-, -, hio, hz⟩ := HD.out Y hY
        exact specRoots_any 4 A c (oneT x) p (by show 3 ≤ 9223372036854775807; decide) Y bg hz hio
      have HT : Hid (∀ Y, Below wr.heap.size wr Y → Calls Try.prog 31 #[.agg #[.int .i64 4, .slice A 3 c], .int .i64 (k : Int)] Y fun e w' => e = .returned (.bool true) ∧ Below Y.heap.size Y w') := fun Y hY => by
        obtain ⟨-, -, hio, hz⟩ := HD.out Y hY
        exact specTurned_any 4 A c (oneT x) p (by show 3 ≤ 9223372036854775807; decide) k (by unfold In64; omega) Y bg hz hio
      have H5 : Hid (∀ X Y, Below wr.heap.size wr X → Below X.heap.size X Y → Below wr.heap.size wr Y) := fun X Y h1 h2 => through h1 (Nat.le_refl _) h2
      have tk : (k : Int) < 10 := by omega
      clear hio
      go_wp2_with fail
      refine (HC.out _ (Below.refl _ _)).mono ?_
      rintro e x1 ⟨rfl, hx⟩
      have H1 := Lib.hid hx
      clear hx d0 d1
      obtain ⟨d0, d1, -⟩ := HD.out _ H1.out
      go_wp2_with fail
      refine (HO.out _ H1.out).mono ?_
      rintro e x2 ⟨rfl, hx⟩
      have H2 := Lib.hid (H5.out _ _ H1.out hx)
      clear hx d0 d1
      obtain ⟨d0, d1, -⟩ := HD.out _ H2.out
      go_wp2_with fail
      refine (HR.out _ H2.out).mono ?_
      rintro e x3 ⟨rfl, hx⟩
      have H3 := Lib.hid (H5.out _ _ H2.out hx)
      clear hx d0 d1
      obtain ⟨d0, d1, -⟩ := HD.out _ H3.out
      go_wp2_with fail
      refine (HT.out _ H3.out).mono ?_
      rintro e x4 ⟨rfl, hx⟩
      have H4 := Lib.hid (HX.out _ _ HB.out (H5.out _ _ H3.out hx))
      clear hx d0 d1
      go_wp2_with fail
      go_roundw
      case rel => exact ⟨k + 1, by omega, by go_num, H4.out⟩
      case measure => simp [intOf]; omega
    · obtain rfl : k = 10 := by omega
      have e10 : ((10 : Nat) : Int) = 10 := rfl
      rw [e10]
      obtain ⟨wq, rfl⟩ : ∃ wq : World, wq = wr := ⟨_, rfl⟩
      go_wp2_with fail
      go_loopw [4] (fun i wr => ∃ k : Nat, k ≤ 15 ∧ i = .int .i64 k ∧ Below Wb.heap.size Wb wr) (fun i _ => 15 - (intOf i).toNat)
      case atStart => exact ⟨0, by omega, rfl, HB.out⟩
      case round =>
        obtain ⟨k, hk, rfl, hbl⟩ := hrel
        have HB2 := Lib.hid hbl
        clear hbl
        by_cases hlt : k < 15
        · obtain ⟨A, c, p, d0, d1, hio⟩ := HBD.out wr HB2.out k hlt
          have EB := Lib.hid (bads_no k hlt)
          generalize bads.getD k default = x at *
          have HC := Lib.hid (check_any 4 A c (oneT x) p (by show 3 ≤ 1000; decide) wr bb (by have := HSB.out; have := HB2.out.size; omega) hio)
          rw [EB.out] at HC
          have HC2 : Hid (Calls Try.prog 28 #[.agg #[.int .i64 4, .slice A 3 c]] wr fun e w' => e = .returned (.int .i64 1) ∧ Below wr.heap.size wr w') := HC.out
          have tk : (k : Int) < 15 := by omega
          clear hio HC
          go_wp2_with fail
          refine HC2.out.mono ?_
          rintro e x1 ⟨rfl, hx⟩
          have H1 := Lib.hid (HX.out _ _ HB2.out hx)
          clear hx d0 d1
          go_wp2_with fail
          go_roundw
          case rel => exact ⟨k + 1, by omega, by go_num, H1.out⟩
          case measure => simp [intOf]; omega
        · obtain rfl : k = 15 := by omega
          have e15 : ((15 : Nat) : Int) = 15 := rfl
          rw [e15]
          have HQ := Lib.hid (HGY.out _ HB2.out).2
          clear HX HGY HWGB HBW HBD HG HB HB2
          obtain ⟨y0, hy0⟩ : ∃ x, wr = x := ⟨_, rfl⟩
          rw [hy0] at HQ ⊢
          clear hy0
          clear e10 e15
          go_wp2_with fail
          -- the source of the known job
          have hfd := field_spec
          refine (two_any _).mono ?_
          rintro e y1 ⟨rfl, hb, -, -, hbo⟩
          obtain ⟨qz, hqz⟩ : ∃ n, y0.heap.size + 2 = n := ⟨_, rfl⟩
          rw [hqz] at hbo ⊢
          have a0 := hbo.cell 0
          have a1 := hbo.cell 1
          have a2 := hbo.cell 2
          have a3 := hbo.cell 3
          have a4 := hbo.cell 4
          have a5 := hbo.cell 5
          have a6 := hbo.cell 6
          have a7 := hbo.cell 7
          have HQ1 := Lib.hid (through HQ.out (Nat.le_refl _) hb)
          clear hb hbo hqz HQ
          go_upto_region 14 with (fail)
          obtain ⟨Y2, hY2⟩ : ∃ W, (y1.alloc (.cells #[.int .i64 1, .slice none 0 0, .int .i64 0, .int .i64 0, .int .i64 0, .int .i64 1, .int .i64 1, .int .i64 1] 40)) = W := ⟨_, rfl⟩
          have k5 : Blk Y2 y1.heap.size 40 #[.int .i64 1, .slice none 0 0, .int .i64 0, .int .i64 0, .int .i64 0, .int .i64 1, .int .i64 1, .int .i64 1] := hY2 ▸ Blk.new _ _ _
          have b5 : Below w.heap.size w Y2 := hY2 ▸ HQ1.out.alloc HQ1.out.size _
          rw [hY2]
          obtain ⟨s5, hs5⟩ : ∃ n, y1.heap.size = n := ⟨_, rfl⟩
          rw [hs5] at k5 ⊢
          have K5 := Lib.hid k5
          have B5 := Lib.hid b5
          clear hY2 hs5 k5 b5 a0 a1 a2 a3 a4 a5 a6 a7 HQ1
          go_upto_region 15 with (fail)
          obtain ⟨Y3, hY3⟩ : ∃ W, ((Y2.alloc (.cells #[.int .i64 0] 3)).alloc (.cells #[.int .i64 2, .slice (some ⟨Y2.heap.size, 0, none⟩) 1 1, .int .i64 1, .int .i64 0, .int .i64 0, .int .i64 0, .int .i64 0, .int .i64 1] 40)) = W := ⟨_, rfl⟩
          have ki : Blk Y3 Y2.heap.size 3 #[.int .i64 0] := hY3 ▸ (Blk.new _ _ _).alloc _
          have e6 : (Y2.alloc (.cells #[.int .i64 0] 3)).heap.size = Y2.heap.size + 1 := by simp
          have k6 : Blk Y3 (Y2.heap.size + 1) 40 #[.int .i64 2, .slice (some ⟨Y2.heap.size, 0, none⟩) 1 1, .int .i64 1, .int .i64 0, .int .i64 0, .int .i64 0, .int .i64 0, .int .i64 1] := hY3 ▸ e6 ▸ Blk.new _ _ _
          have k5 : Blk Y3 s5 40 #[.int .i64 1, .slice none 0 0, .int .i64 0, .int .i64 0, .int .i64 0, .int .i64 1, .int .i64 1, .int .i64 1] := hY3 ▸ (K5.out.alloc _).alloc _
          have b6 : Below w.heap.size w Y3 := hY3 ▸ (B5.out.alloc B5.out.size _).alloc (by have := B5.out.size; simp; omega) _
          rw [hY3]
          obtain ⟨i6, hi6⟩ : ∃ n, Y2.heap.size = n := ⟨_, rfl⟩
          rw [hi6] at ki k6 ⊢
          have h56 : s5 < i6 := hi6 ▸ K5.out.lt
          have KI := Lib.hid ki
          have K6 := Lib.hid k6
          have K5 := Lib.hid k5
          have B6 := Lib.hid b6
          have HSM := Lib.hid (show i6 + 1 < Y3.heap.size from k6.lt)
          clear hY3 ki k6 k5 b6 e6 hi6 B5
          have HST : Hid (∀ Y, Below Y3.heap.size Y3 Y → (fun (w' : World) => w'.cell? ⟨s5, 0, none⟩ = some (.int .i64 1) ∧ w'.cell? ⟨s5, 1, none⟩ = some (.slice none 0 0) ∧ w'.cell? ⟨s5, 2, none⟩ = some (.int .i64 0) ∧ w'.cell? ⟨s5, 3, none⟩ = some (.int .i64 0) ∧ w'.cell? ⟨s5, 4, none⟩ = some (.int .i64 0) ∧ w'.cell? ⟨s5, 5, none⟩ = some (.int .i64 1) ∧ w'.cell? ⟨s5, 6, none⟩ = some (.int .i64 1) ∧ w'.cell? ⟨s5, 7, none⟩ = some (.int .i64 1) ∧ w'.cell? ⟨i6 + 1, 0, none⟩ = some (.int .i64 2) ∧ w'.cell? ⟨i6 + 1, 1, none⟩ = some (.slice (some ⟨i6, 0, none⟩) 1 1) ∧ w'.cell? ⟨i6 + 1, 2, none⟩ = some (.int .i64 1) ∧ w'.cell? ⟨i6 + 1, 3, none⟩ = some (.int .i64 0) ∧ w'.cell? ⟨i6 + 1, 4, none⟩ = some (.int .i64 0) ∧ w'.cell? ⟨i6 + 1, 5, none⟩ = some (.int .i64 0) ∧ w'.cell? ⟨i6 + 1, 6, none⟩ = some (.int .i64 0) ∧ w'.cell? ⟨i6 + 1, 7, none⟩ = some (.int .i64 1)) Y) := fun Y hY => by
            have m5 := K5.out.below hY K5.out.lt
            have m6 := K6.out.below hY K6.out.lt
            exact ⟨m5.cell 0, m5.cell 1, m5.cell 2, m5.cell 3, m5.cell 4, m5.cell 5, m5.cell 6, m5.cell 7, m6.cell 0, m6.cell 1, m6.cell 2, m6.cell 3, m6.cell 4, m6.cell 5, m6.cell 6, m6.cell 7⟩
          go_cut [7] (fun v wc => LoopAt Y3 i6 v wc)
          case first =>
            refine wp_region_held_drew (S := (fun (w' : World) => w'.cell? ⟨s5, 0, none⟩ = some (.int .i64 1) ∧ w'.cell? ⟨s5, 1, none⟩ = some (.slice none 0 0) ∧ w'.cell? ⟨s5, 2, none⟩ = some (.int .i64 0) ∧ w'.cell? ⟨s5, 3, none⟩ = some (.int .i64 0) ∧ w'.cell? ⟨s5, 4, none⟩ = some (.int .i64 0) ∧ w'.cell? ⟨s5, 5, none⟩ = some (.int .i64 1) ∧ w'.cell? ⟨s5, 6, none⟩ = some (.int .i64 1) ∧ w'.cell? ⟨s5, 7, none⟩ = some (.int .i64 1) ∧ w'.cell? ⟨i6 + 1, 0, none⟩ = some (.int .i64 2) ∧ w'.cell? ⟨i6 + 1, 1, none⟩ = some (.slice (some ⟨i6, 0, none⟩) 1 1) ∧ w'.cell? ⟨i6 + 1, 2, none⟩ = some (.int .i64 1) ∧ w'.cell? ⟨i6 + 1, 3, none⟩ = some (.int .i64 0) ∧ w'.cell? ⟨i6 + 1, 4, none⟩ = some (.int .i64 0) ∧ w'.cell? ⟨i6 + 1, 5, none⟩ = some (.int .i64 0) ∧ w'.cell? ⟨i6 + 1, 6, none⟩ = some (.int .i64 0) ∧ w'.cell? ⟨i6 + 1, 7, none⟩ = some (.int .i64 1))) (by kernel_rfl) (HST.out _ (Below.refl _ _).drew) (fun hHeld => ?_)
            have HB := Lib.hid ((Below.refl Y3.heap.size Y3).drew)
            obtain ⟨y3, hy3⟩ : ∃ Y, Y3.drew = Y := ⟨_, rfl⟩
            rw [hy3] at HB hHeld ⊢
            clear hy3
            (refine held_take 0 (by kernel_rfl) (by kernel_rfl) (by kernel_rfl) (by assumption) ?_; simp only [List.getElem?_toArray, List.getElem?_cons_zero]; refine ⟨fun _ _ _ _ h => h, ?_, Or.inl ⟨by kernel_rfl, ?_⟩, ?_⟩; rotate_left; (focus (intro wS hSw; (try dsimp only at hSw); go_simp; try with_reducible rfl)); (try simp only [Act.put, List.setIfInBounds_toArray, List.set_cons_zero, List.set_cons_succ]))
            (refine held_take 1 (by kernel_rfl) (by kernel_rfl) (by kernel_rfl) (by assumption) ?_; simp only [List.getElem?_toArray, List.getElem?_cons_succ, List.getElem?_cons_zero]; refine ⟨fun _ _ _ _ h => h, ?_, Or.inl ⟨by kernel_rfl, ?_⟩, ?_⟩; rotate_left; (focus (intro wS hSw; (try dsimp only at hSw); go_simp; try with_reducible rfl)); (try simp only [Act.put, List.setIfInBounds_toArray, List.set_cons_zero, List.set_cons_succ]))
            (refine held_take 2 (by kernel_rfl) (by kernel_rfl) (by kernel_rfl) (by assumption) ?_; simp only [List.getElem?_toArray, List.getElem?_cons_succ, List.getElem?_cons_zero]; refine ⟨fun _ _ _ _ h => h, ?_, Or.inl ⟨by kernel_rfl, ?_⟩, ?_⟩; rotate_left; (focus (intro wS hSw; (try dsimp only at hSw); go_simp; try with_reducible rfl)); (try simp only [Act.put, List.setIfInBounds_toArray, List.set_cons_zero, List.set_cons_succ]))
            have HH0 := Lib.hid hHeld
            clear hHeld
            apply held_joinS (#[true, true, true, true, true, true, true, true, true, true, true, true, true, true, false]) (fun q1 q2 o7 n7 (Y : World) => StL Y3 Y i6 (some q1) (some q2) (some o7) (some n7) ∧ Blk Y (q1 + 1) 40 (twoCells (.slice (some ⟨q1, 0, none⟩) 1 1)) ∧ Blk Y (q2 + 1) 40 (twoCells (.slice (some ⟨q2, 0, none⟩) 1 1))) (fun q1 q2 => (fun (w' : World) => (fun (w' : World) => (fun (w' : World) => w'.cell? ⟨s5, 0, none⟩ = some (.int .i64 1) ∧ w'.cell? ⟨s5, 1, none⟩ = some (.slice none 0 0) ∧ w'.cell? ⟨s5, 2, none⟩ = some (.int .i64 0) ∧ w'.cell? ⟨s5, 3, none⟩ = some (.int .i64 0) ∧ w'.cell? ⟨s5, 4, none⟩ = some (.int .i64 0) ∧ w'.cell? ⟨s5, 5, none⟩ = some (.int .i64 1) ∧ w'.cell? ⟨s5, 6, none⟩ = some (.int .i64 1) ∧ w'.cell? ⟨s5, 7, none⟩ = some (.int .i64 1) ∧ w'.cell? ⟨i6 + 1, 0, none⟩ = some (.int .i64 2) ∧ w'.cell? ⟨i6 + 1, 1, none⟩ = some (.slice (some ⟨i6, 0, none⟩) 1 1) ∧ w'.cell? ⟨i6 + 1, 2, none⟩ = some (.int .i64 1) ∧ w'.cell? ⟨i6 + 1, 3, none⟩ = some (.int .i64 0) ∧ w'.cell? ⟨i6 + 1, 4, none⟩ = some (.int .i64 0) ∧ w'.cell? ⟨i6 + 1, 5, none⟩ = some (.int .i64 0) ∧ w'.cell? ⟨i6 + 1, 6, none⟩ = some (.int .i64 0) ∧ w'.cell? ⟨i6 + 1, 7, none⟩ = some (.int .i64 1)) w' ∧ (w'.cell? ⟨q1 + 1, 8, none⟩ = some (.int .i64 8) ∧ w'.cell? ⟨q1 + 1, 9, none⟩ = some (.slice (some ⟨q1, 0, none⟩) 1 1) ∧ w'.cell? ⟨q1 + 1, 10, none⟩ = some (.int .i64 0) ∧ w'.cell? ⟨q1 + 1, 11, none⟩ = some (.int .i64 0) ∧ w'.cell? ⟨q1 + 1, 12, none⟩ = some (.int .i64 0) ∧ w'.cell? ⟨q1 + 1, 13, none⟩ = some (.int .i64 0) ∧ w'.cell? ⟨q1 + 1, 14, none⟩ = some (.int .i64 0) ∧ w'.cell? ⟨q1 + 1, 15, none⟩ = some (.int .i64 1))) w' ∧ (w'.cell? ⟨q2 + 1, 8, none⟩ = some (.int .i64 8) ∧ w'.cell? ⟨q2 + 1, 9, none⟩ = some (.slice (some ⟨q2, 0, none⟩) 1 1) ∧ w'.cell? ⟨q2 + 1, 10, none⟩ = some (.int .i64 0) ∧ w'.cell? ⟨q2 + 1, 11, none⟩ = some (.int .i64 0) ∧ w'.cell? ⟨q2 + 1, 12, none⟩ = some (.int .i64 0) ∧ w'.cell? ⟨q2 + 1, 13, none⟩ = some (.int .i64 0) ∧ w'.cell? ⟨q2 + 1, 14, none⟩ = some (.int .i64 0) ∧ w'.cell? ⟨q2 + 1, 15, none⟩ = some (.int .i64 1))))
            case main =>
              intro J
              have hHeld := HH0.out
              refine held_two 3 13 (by kernel_rfl) ?_ ?_
              · (simp only [List.getElem?_toArray, List.getElem?_cons_succ, List.getElem?_cons_zero]; intro K hK; go_simp)
                clear hHeld
                refine (two2_any _).mono ?_
                rintro e v1 ⟨q1, rfl, hb, hz, k1, k2⟩
                have Hq1 := Lib.hid (Nat.le_trans HB.out.size hz)
                have HB := Lib.hid (through HB.out (Nat.le_refl _) hb)
                have KQ1 := Lib.hid k1
                have K1 := Lib.hid k2
                clear hb hz k1 k2
                (go_wp2_with fail; refine hK.out _ _ ?_ (fun hHeld => ?_); (focus (exact HST.out _ (HB.out))); clear hK K; (try simp only [Act.put, List.setIfInBounds_toArray, List.set_cons_zero, List.set_cons_succ]))
                refine held_mono (S' := (fun (w' : World) => (fun (w' : World) => w'.cell? ⟨s5, 0, none⟩ = some (.int .i64 1) ∧ w'.cell? ⟨s5, 1, none⟩ = some (.slice none 0 0) ∧ w'.cell? ⟨s5, 2, none⟩ = some (.int .i64 0) ∧ w'.cell? ⟨s5, 3, none⟩ = some (.int .i64 0) ∧ w'.cell? ⟨s5, 4, none⟩ = some (.int .i64 0) ∧ w'.cell? ⟨s5, 5, none⟩ = some (.int .i64 1) ∧ w'.cell? ⟨s5, 6, none⟩ = some (.int .i64 1) ∧ w'.cell? ⟨s5, 7, none⟩ = some (.int .i64 1) ∧ w'.cell? ⟨i6 + 1, 0, none⟩ = some (.int .i64 2) ∧ w'.cell? ⟨i6 + 1, 1, none⟩ = some (.slice (some ⟨i6, 0, none⟩) 1 1) ∧ w'.cell? ⟨i6 + 1, 2, none⟩ = some (.int .i64 1) ∧ w'.cell? ⟨i6 + 1, 3, none⟩ = some (.int .i64 0) ∧ w'.cell? ⟨i6 + 1, 4, none⟩ = some (.int .i64 0) ∧ w'.cell? ⟨i6 + 1, 5, none⟩ = some (.int .i64 0) ∧ w'.cell? ⟨i6 + 1, 6, none⟩ = some (.int .i64 0) ∧ w'.cell? ⟨i6 + 1, 7, none⟩ = some (.int .i64 1)) w' ∧ (w'.cell? ⟨q1 + 1, 8, none⟩ = some (.int .i64 8) ∧ w'.cell? ⟨q1 + 1, 9, none⟩ = some (.slice (some ⟨q1, 0, none⟩) 1 1) ∧ w'.cell? ⟨q1 + 1, 10, none⟩ = some (.int .i64 0) ∧ w'.cell? ⟨q1 + 1, 11, none⟩ = some (.int .i64 0) ∧ w'.cell? ⟨q1 + 1, 12, none⟩ = some (.int .i64 0) ∧ w'.cell? ⟨q1 + 1, 13, none⟩ = some (.int .i64 0) ∧ w'.cell? ⟨q1 + 1, 14, none⟩ = some (.int .i64 0) ∧ w'.cell? ⟨q1 + 1, 15, none⟩ = some (.int .i64 1)))) (fun _ h => h.1) _ _ _ _ ?_
                clear hHeld
                have hHeld : (fun (w' : World) => (fun (w' : World) => w'.cell? ⟨s5, 0, none⟩ = some (.int .i64 1) ∧ w'.cell? ⟨s5, 1, none⟩ = some (.slice none 0 0) ∧ w'.cell? ⟨s5, 2, none⟩ = some (.int .i64 0) ∧ w'.cell? ⟨s5, 3, none⟩ = some (.int .i64 0) ∧ w'.cell? ⟨s5, 4, none⟩ = some (.int .i64 0) ∧ w'.cell? ⟨s5, 5, none⟩ = some (.int .i64 1) ∧ w'.cell? ⟨s5, 6, none⟩ = some (.int .i64 1) ∧ w'.cell? ⟨s5, 7, none⟩ = some (.int .i64 1) ∧ w'.cell? ⟨i6 + 1, 0, none⟩ = some (.int .i64 2) ∧ w'.cell? ⟨i6 + 1, 1, none⟩ = some (.slice (some ⟨i6, 0, none⟩) 1 1) ∧ w'.cell? ⟨i6 + 1, 2, none⟩ = some (.int .i64 1) ∧ w'.cell? ⟨i6 + 1, 3, none⟩ = some (.int .i64 0) ∧ w'.cell? ⟨i6 + 1, 4, none⟩ = some (.int .i64 0) ∧ w'.cell? ⟨i6 + 1, 5, none⟩ = some (.int .i64 0) ∧ w'.cell? ⟨i6 + 1, 6, none⟩ = some (.int .i64 0) ∧ w'.cell? ⟨i6 + 1, 7, none⟩ = some (.int .i64 1)) w' ∧ (w'.cell? ⟨q1 + 1, 8, none⟩ = some (.int .i64 8) ∧ w'.cell? ⟨q1 + 1, 9, none⟩ = some (.slice (some ⟨q1, 0, none⟩) 1 1) ∧ w'.cell? ⟨q1 + 1, 10, none⟩ = some (.int .i64 0) ∧ w'.cell? ⟨q1 + 1, 11, none⟩ = some (.int .i64 0) ∧ w'.cell? ⟨q1 + 1, 12, none⟩ = some (.int .i64 0) ∧ w'.cell? ⟨q1 + 1, 13, none⟩ = some (.int .i64 0) ∧ w'.cell? ⟨q1 + 1, 14, none⟩ = some (.int .i64 0) ∧ w'.cell? ⟨q1 + 1, 15, none⟩ = some (.int .i64 1))) v1 := ⟨HST.out _ (HB.out), two_cells8 K1.out⟩
                (refine held_take 4 (by kernel_rfl) (by kernel_rfl) (by kernel_rfl) (by assumption) ?_; simp only [List.getElem?_toArray, List.getElem?_cons_succ, List.getElem?_cons_zero]; refine ⟨fun _ _ _ _ h => h, ?_, Or.inl ⟨by kernel_rfl, ?_⟩, ?_⟩; rotate_left; (focus (intro wS hSw; clear hSw; go_simp; try with_reducible rfl)); (try simp only [Act.put, List.setIfInBounds_toArray, List.set_cons_zero, List.set_cons_succ]))
                (refine held_take 5 (by kernel_rfl) (by kernel_rfl) (by kernel_rfl) (by assumption) ?_; simp only [List.getElem?_toArray, List.getElem?_cons_succ, List.getElem?_cons_zero]; refine ⟨fun _ _ _ _ h => h, ?_, Or.inl ⟨by kernel_rfl, ?_⟩, ?_⟩; rotate_left; (focus (intro wS hSw; clear hSw; go_simp; try with_reducible rfl)); (try simp only [Act.put, List.setIfInBounds_toArray, List.set_cons_zero, List.set_cons_succ]))
                (refine held_take 6 (by kernel_rfl) (by kernel_rfl) (by kernel_rfl) (by assumption) ?_; simp only [List.getElem?_toArray, List.getElem?_cons_succ, List.getElem?_cons_zero]; refine ⟨fun _ _ _ _ h => h, ?_, Or.inl ⟨by kernel_rfl, ?_⟩, ?_⟩; rotate_left; (focus (intro wS hSw; replace hSw := hSw.2; (try dsimp only at hSw); go_simp; try with_reducible rfl)); (try simp only [Act.put, List.setIfInBounds_toArray, List.set_cons_zero, List.set_cons_succ]))
                refine held_two 7 13 (by kernel_rfl) ?_ ?_
                · (simp only [List.getElem?_toArray, List.getElem?_cons_succ, List.getElem?_cons_zero]; intro K hK; go_simp)
                  clear hHeld
                  refine (two2_any _).mono ?_
                  rintro e v2 ⟨q2, rfl, hb, hz, k1, k2⟩
                  have Hq2 := Lib.hid (Nat.le_trans HB.out.size hz)
                  have K1 := Lib.hid (K1.out.below hb K1.out.lt)
                  have KQ1 := Lib.hid (KQ1.out.below hb KQ1.out.lt)
                  have HB := Lib.hid (through HB.out (Nat.le_refl _) hb)
                  have KQ2 := Lib.hid k1
                  have K2 := Lib.hid k2
                  clear hb hz k1 k2
                  (go_wp2_with fail; refine hK.out _ _ ?_ (fun hHeld => ?_); (focus (exact ⟨HST.out _ (HB.out), two_cells8 K1.out⟩)); clear hK K; (try simp only [Act.put, List.setIfInBounds_toArray, List.set_cons_zero, List.set_cons_succ]))
                  refine held_mono (S' := (fun (w' : World) => (fun (w' : World) => (fun (w' : World) => w'.cell? ⟨s5, 0, none⟩ = some (.int .i64 1) ∧ w'.cell? ⟨s5, 1, none⟩ = some (.slice none 0 0) ∧ w'.cell? ⟨s5, 2, none⟩ = some (.int .i64 0) ∧ w'.cell? ⟨s5, 3, none⟩ = some (.int .i64 0) ∧ w'.cell? ⟨s5, 4, none⟩ = some (.int .i64 0) ∧ w'.cell? ⟨s5, 5, none⟩ = some (.int .i64 1) ∧ w'.cell? ⟨s5, 6, none⟩ = some (.int .i64 1) ∧ w'.cell? ⟨s5, 7, none⟩ = some (.int .i64 1) ∧ w'.cell? ⟨i6 + 1, 0, none⟩ = some (.int .i64 2) ∧ w'.cell? ⟨i6 + 1, 1, none⟩ = some (.slice (some ⟨i6, 0, none⟩) 1 1) ∧ w'.cell? ⟨i6 + 1, 2, none⟩ = some (.int .i64 1) ∧ w'.cell? ⟨i6 + 1, 3, none⟩ = some (.int .i64 0) ∧ w'.cell? ⟨i6 + 1, 4, none⟩ = some (.int .i64 0) ∧ w'.cell? ⟨i6 + 1, 5, none⟩ = some (.int .i64 0) ∧ w'.cell? ⟨i6 + 1, 6, none⟩ = some (.int .i64 0) ∧ w'.cell? ⟨i6 + 1, 7, none⟩ = some (.int .i64 1)) w' ∧ (w'.cell? ⟨q1 + 1, 8, none⟩ = some (.int .i64 8) ∧ w'.cell? ⟨q1 + 1, 9, none⟩ = some (.slice (some ⟨q1, 0, none⟩) 1 1) ∧ w'.cell? ⟨q1 + 1, 10, none⟩ = some (.int .i64 0) ∧ w'.cell? ⟨q1 + 1, 11, none⟩ = some (.int .i64 0) ∧ w'.cell? ⟨q1 + 1, 12, none⟩ = some (.int .i64 0) ∧ w'.cell? ⟨q1 + 1, 13, none⟩ = some (.int .i64 0) ∧ w'.cell? ⟨q1 + 1, 14, none⟩ = some (.int .i64 0) ∧ w'.cell? ⟨q1 + 1, 15, none⟩ = some (.int .i64 1))) w' ∧ (w'.cell? ⟨q2 + 1, 8, none⟩ = some (.int .i64 8) ∧ w'.cell? ⟨q2 + 1, 9, none⟩ = some (.slice (some ⟨q2, 0, none⟩) 1 1) ∧ w'.cell? ⟨q2 + 1, 10, none⟩ = some (.int .i64 0) ∧ w'.cell? ⟨q2 + 1, 11, none⟩ = some (.int .i64 0) ∧ w'.cell? ⟨q2 + 1, 12, none⟩ = some (.int .i64 0) ∧ w'.cell? ⟨q2 + 1, 13, none⟩ = some (.int .i64 0) ∧ w'.cell? ⟨q2 + 1, 14, none⟩ = some (.int .i64 0) ∧ w'.cell? ⟨q2 + 1, 15, none⟩ = some (.int .i64 1)))) (fun _ h => h.1) _ _ _ _ ?_
                  clear hHeld
                  have hHeld : (fun (w' : World) => (fun (w' : World) => (fun (w' : World) => w'.cell? ⟨s5, 0, none⟩ = some (.int .i64 1) ∧ w'.cell? ⟨s5, 1, none⟩ = some (.slice none 0 0) ∧ w'.cell? ⟨s5, 2, none⟩ = some (.int .i64 0) ∧ w'.cell? ⟨s5, 3, none⟩ = some (.int .i64 0) ∧ w'.cell? ⟨s5, 4, none⟩ = some (.int .i64 0) ∧ w'.cell? ⟨s5, 5, none⟩ = some (.int .i64 1) ∧ w'.cell? ⟨s5, 6, none⟩ = some (.int .i64 1) ∧ w'.cell? ⟨s5, 7, none⟩ = some (.int .i64 1) ∧ w'.cell? ⟨i6 + 1, 0, none⟩ = some (.int .i64 2) ∧ w'.cell? ⟨i6 + 1, 1, none⟩ = some (.slice (some ⟨i6, 0, none⟩) 1 1) ∧ w'.cell? ⟨i6 + 1, 2, none⟩ = some (.int .i64 1) ∧ w'.cell? ⟨i6 + 1, 3, none⟩ = some (.int .i64 0) ∧ w'.cell? ⟨i6 + 1, 4, none⟩ = some (.int .i64 0) ∧ w'.cell? ⟨i6 + 1, 5, none⟩ = some (.int .i64 0) ∧ w'.cell? ⟨i6 + 1, 6, none⟩ = some (.int .i64 0) ∧ w'.cell? ⟨i6 + 1, 7, none⟩ = some (.int .i64 1)) w' ∧ (w'.cell? ⟨q1 + 1, 8, none⟩ = some (.int .i64 8) ∧ w'.cell? ⟨q1 + 1, 9, none⟩ = some (.slice (some ⟨q1, 0, none⟩) 1 1) ∧ w'.cell? ⟨q1 + 1, 10, none⟩ = some (.int .i64 0) ∧ w'.cell? ⟨q1 + 1, 11, none⟩ = some (.int .i64 0) ∧ w'.cell? ⟨q1 + 1, 12, none⟩ = some (.int .i64 0) ∧ w'.cell? ⟨q1 + 1, 13, none⟩ = some (.int .i64 0) ∧ w'.cell? ⟨q1 + 1, 14, none⟩ = some (.int .i64 0) ∧ w'.cell? ⟨q1 + 1, 15, none⟩ = some (.int .i64 1))) w' ∧ (w'.cell? ⟨q2 + 1, 8, none⟩ = some (.int .i64 8) ∧ w'.cell? ⟨q2 + 1, 9, none⟩ = some (.slice (some ⟨q2, 0, none⟩) 1 1) ∧ w'.cell? ⟨q2 + 1, 10, none⟩ = some (.int .i64 0) ∧ w'.cell? ⟨q2 + 1, 11, none⟩ = some (.int .i64 0) ∧ w'.cell? ⟨q2 + 1, 12, none⟩ = some (.int .i64 0) ∧ w'.cell? ⟨q2 + 1, 13, none⟩ = some (.int .i64 0) ∧ w'.cell? ⟨q2 + 1, 14, none⟩ = some (.int .i64 0) ∧ w'.cell? ⟨q2 + 1, 15, none⟩ = some (.int .i64 1))) v2 := ⟨⟨HST.out _ (HB.out), two_cells8 K1.out⟩, two_cells8 K2.out⟩
                  (refine held_take 8 (by kernel_rfl) (by kernel_rfl) (by kernel_rfl) (by assumption) ?_; simp only [List.getElem?_toArray, List.getElem?_cons_succ, List.getElem?_cons_zero]; refine ⟨fun _ _ _ _ h => h, ?_, Or.inl ⟨by kernel_rfl, ?_⟩, ?_⟩; rotate_left; (focus (intro wS hSw; clear hSw; go_simp; try with_reducible rfl)); (try simp only [Act.put, List.setIfInBounds_toArray, List.set_cons_zero, List.set_cons_succ]))
                  (refine held_take 9 (by kernel_rfl) (by kernel_rfl) (by kernel_rfl) (by assumption) ?_; simp only [List.getElem?_toArray, List.getElem?_cons_succ, List.getElem?_cons_zero]; refine ⟨fun _ _ _ _ h => h, ?_, Or.inl ⟨by kernel_rfl, ?_⟩, ?_⟩; rotate_left; (focus (intro wS hSw; clear hSw; go_simp; try with_reducible rfl)); (try simp only [Act.put, List.setIfInBounds_toArray, List.set_cons_zero, List.set_cons_succ]))
                  (refine held_take 10 (by kernel_rfl) (by kernel_rfl) (by kernel_rfl) (by assumption) ?_; simp only [List.getElem?_toArray, List.getElem?_cons_succ, List.getElem?_cons_zero]; refine ⟨fun _ _ _ _ h => h, ?_, Or.inl ⟨by kernel_rfl, ?_⟩, ?_⟩; rotate_left; (focus (intro wS hSw; replace hSw := hSw.2; (try dsimp only at hSw); go_simp; try with_reducible rfl)); (try simp only [Act.put, List.setIfInBounds_toArray, List.set_cons_zero, List.set_cons_succ]))
                  refine held_two 11 13 (by kernel_rfl) ?_ ?_
                  · (simp only [List.getElem?_toArray, List.getElem?_cons_succ, List.getElem?_cons_zero]; intro K hK; go_simp)
                    clear hHeld
                    have hb : Below v2.heap.size v2 (v2.alloc (.cells (loopCells (oneS i6) (oneS i6) (oneS q1) (oneS q2)) 40)) := (Below.refl _ _).alloc (Nat.le_refl _) _
                    have kn := Blk.new v2 40 (loopCells (oneS i6) (oneS i6) (oneS q1) (oneS q2))
                    have Ho7 := Lib.hid HB.out.size
                    have kk1 := through HB.out (Nat.le_refl _) hb
                    have kq1 := K1.out.below hb K1.out.lt
                    have kq2 := K2.out.below hb K2.out.lt
                    (go_wp2_with fail; refine hK.out _ _ ?_ (fun hHeld => ?_); (focus (exact ⟨⟨HST.out _ (kk1), two_cells8 kq1⟩, two_cells8 kq2⟩)); clear hK K; (try simp only [Act.put, List.setIfInBounds_toArray, List.set_cons_zero, List.set_cons_succ]))
                    clear kk1 kq1 kq2
                    obtain ⟨v3, hY⟩ : ∃ Y, v2.alloc (.cells (loopCells (oneS i6) (oneS i6) (oneS q1) (oneS q2)) 40) = Y := ⟨_, rfl⟩
                    have hY2 := hY
                    simp only [loopCells, oneS] at hY2
                    obtain ⟨o7, hbk⟩ : ∃ z, v2.heap.size = z := ⟨_, rfl⟩
                    rw [hY] at hb kn
                    rw [hbk] at kn Ho7
                    (try rw [hY2] at hHeld)
                    (try rw [hY] at hHeld)
                    (try rw [hY2])
                    (try rw [hY])
                    (try rw [hbk])
                    have KO := Lib.hid kn
                    have K1 := Lib.hid (K1.out.below hb K1.out.lt)
                    have KQ1 := Lib.hid (KQ1.out.below hb KQ1.out.lt)
                    have K2 := Lib.hid (K2.out.below hb K2.out.lt)
                    have KQ2 := Lib.hid (KQ2.out.below hb KQ2.out.lt)
                    have HB := Lib.hid (through HB.out (Nat.le_refl _) hb)
                    clear hb kn hY hY2 hbk
                    (refine held_take 12 (by kernel_rfl) (by kernel_rfl) (by kernel_rfl) (by assumption) ?_; simp only [List.getElem?_toArray, List.getElem?_cons_succ, List.getElem?_cons_zero]; refine ⟨fun _ _ _ _ h => h, ?_, Or.inl ⟨by kernel_rfl, ?_⟩, ?_⟩; rotate_left; (focus (intro wS hSw; clear hSw; go_simp; try with_reducible rfl)); (try simp only [Act.put, List.setIfInBounds_toArray, List.set_cons_zero, List.set_cons_succ]))
                    (refine held_one 13 (by kernel_rfl) ?_; simp only [List.getElem?_toArray, List.getElem?_cons_succ, List.getElem?_cons_zero]; intro K hK; go_simp)
                    clear hHeld
                    have hb : Below v3.heap.size v3 (v3.alloc (.cells #[.int .i64 0, .slice none 0 0] 24)) := (Below.refl _ _).alloc (Nat.le_refl _) _
                    have kn := Blk.new v3 24 #[.int .i64 0, .slice none 0 0]
                    have Hn7 := Lib.hid HB.out.size
                    have kk1 := through HB.out (Nat.le_refl _) hb
                    have kq1 := K1.out.below hb K1.out.lt
                    have kq2 := K2.out.below hb K2.out.lt
                    (go_wp2_with fail; refine hK.out _ _ ?_ (fun hHeld => ?_); (focus (exact ⟨⟨HST.out _ (kk1), two_cells8 kq1⟩, two_cells8 kq2⟩)); clear hK K; (try simp only [Act.put, List.setIfInBounds_toArray, List.set_cons_zero, List.set_cons_succ]))
                    clear kk1 kq1 kq2
                    obtain ⟨v4, hY⟩ : ∃ Y, v3.alloc (.cells #[.int .i64 0, .slice none 0 0] 24) = Y := ⟨_, rfl⟩
                    have hY2 := hY
                    skip
                    obtain ⟨n7, hbk⟩ : ∃ z, v3.heap.size = z := ⟨_, rfl⟩
                    rw [hY] at hb kn
                    rw [hbk] at kn Hn7
                    (try rw [hY2] at hHeld)
                    (try rw [hY] at hHeld)
                    (try rw [hY2])
                    (try rw [hY])
                    (try rw [hbk])
                    have KN := Lib.hid kn
                    have K1 := Lib.hid (K1.out.below hb K1.out.lt)
                    have KQ1 := Lib.hid (KQ1.out.below hb KQ1.out.lt)
                    have K2 := Lib.hid (K2.out.below hb K2.out.lt)
                    have KQ2 := Lib.hid (KQ2.out.below hb KQ2.out.lt)
                    have KO := Lib.hid (KO.out.below hb KO.out.lt)
                    have HB := Lib.hid (through HB.out (Nat.le_refl _) hb)
                    clear hb kn hY hY2 hbk
                    refine held_listed (listed' := #[true, true, true, true, true, true, true, true, true, true, true, true, true, true, false]) (by kernel_rfl) ?_
                    exact J q1 q2 o7 n7 v4 ⟨⟨HB.out, fun q e => by cases e; exact ⟨Hq1.out, KQ1.out⟩, fun q e => by cases e; exact ⟨Hq2.out, KQ2.out⟩, fun q e => by cases e; exact ⟨Ho7.out, q1, q2, rfl, rfl, KO.out⟩, fun q e => by cases e; exact ⟨Hn7.out, KN.out⟩⟩, K1.out, K2.out⟩ hHeld
                  · (simp only [List.getElem?_toArray, List.getElem?_cons_succ, List.getElem?_cons_zero]; intro K hK; go_simp)
                    clear hHeld
                    have hb : Below v2.heap.size v2 (v2.alloc (.cells #[.int .i64 0, .slice none 0 0] 24)) := (Below.refl _ _).alloc (Nat.le_refl _) _
                    have kn := Blk.new v2 24 #[.int .i64 0, .slice none 0 0]
                    have Hn7 := Lib.hid HB.out.size
                    have kk1 := through HB.out (Nat.le_refl _) hb
                    have kq1 := K1.out.below hb K1.out.lt
                    have kq2 := K2.out.below hb K2.out.lt
                    (go_wp2_with fail; refine hK.out _ _ ?_ (fun hHeld => ?_); (focus (exact ⟨⟨HST.out _ (kk1), two_cells8 kq1⟩, two_cells8 kq2⟩)); clear hK K; (try simp only [Act.put, List.setIfInBounds_toArray, List.set_cons_zero, List.set_cons_succ]))
                    clear kk1 kq1 kq2
                    obtain ⟨v5, hY⟩ : ∃ Y, v2.alloc (.cells #[.int .i64 0, .slice none 0 0] 24) = Y := ⟨_, rfl⟩
                    have hY2 := hY
                    skip
                    obtain ⟨n7, hbk⟩ : ∃ z, v2.heap.size = z := ⟨_, rfl⟩
                    rw [hY] at hb kn
                    rw [hbk] at kn Hn7
                    (try rw [hY2] at hHeld)
                    (try rw [hY] at hHeld)
                    (try rw [hY2])
                    (try rw [hY])
                    (try rw [hbk])
                    have KN := Lib.hid kn
                    have K1 := Lib.hid (K1.out.below hb K1.out.lt)
                    have KQ1 := Lib.hid (KQ1.out.below hb KQ1.out.lt)
                    have K2 := Lib.hid (K2.out.below hb K2.out.lt)
                    have KQ2 := Lib.hid (KQ2.out.below hb KQ2.out.lt)
                    have HB := Lib.hid (through HB.out (Nat.le_refl _) hb)
                    clear hb kn hY hY2 hbk
                    (refine held_one 11 (by kernel_rfl) ?_; simp only [List.getElem?_toArray, List.getElem?_cons_succ, List.getElem?_cons_zero]; intro K hK; go_simp)
                    clear hHeld
                    have hb : Below v5.heap.size v5 (v5.alloc (.cells (loopCells (oneS i6) (oneS i6) (oneS q1) (oneS q2)) 40)) := (Below.refl _ _).alloc (Nat.le_refl _) _
                    have kn := Blk.new v5 40 (loopCells (oneS i6) (oneS i6) (oneS q1) (oneS q2))
                    have Ho7 := Lib.hid HB.out.size
                    have kk1 := through HB.out (Nat.le_refl _) hb
                    have kq1 := K1.out.below hb K1.out.lt
                    have kq2 := K2.out.below hb K2.out.lt
                    (go_wp2_with fail; refine hK.out _ _ ?_ (fun hHeld => ?_); (focus (exact ⟨⟨HST.out _ (kk1), two_cells8 kq1⟩, two_cells8 kq2⟩)); clear hK K; (try simp only [Act.put, List.setIfInBounds_toArray, List.set_cons_zero, List.set_cons_succ]))
                    clear kk1 kq1 kq2
                    obtain ⟨v6, hY⟩ : ∃ Y, v5.alloc (.cells (loopCells (oneS i6) (oneS i6) (oneS q1) (oneS q2)) 40) = Y := ⟨_, rfl⟩
                    have hY2 := hY
                    simp only [loopCells, oneS] at hY2
                    obtain ⟨o7, hbk⟩ : ∃ z, v5.heap.size = z := ⟨_, rfl⟩
                    rw [hY] at hb kn
                    rw [hbk] at kn Ho7
                    (try rw [hY2] at hHeld)
                    (try rw [hY] at hHeld)
                    (try rw [hY2])
                    (try rw [hY])
                    (try rw [hbk])
                    have KO := Lib.hid kn
                    have K1 := Lib.hid (K1.out.below hb K1.out.lt)
                    have KQ1 := Lib.hid (KQ1.out.below hb KQ1.out.lt)
                    have K2 := Lib.hid (K2.out.below hb K2.out.lt)
                    have KQ2 := Lib.hid (KQ2.out.below hb KQ2.out.lt)
                    have KN := Lib.hid (KN.out.below hb KN.out.lt)
                    have HB := Lib.hid (through HB.out (Nat.le_refl _) hb)
                    clear hb kn hY hY2 hbk
                    (refine held_take 12 (by kernel_rfl) (by kernel_rfl) (by kernel_rfl) (by assumption) ?_; simp only [List.getElem?_toArray, List.getElem?_cons_succ, List.getElem?_cons_zero]; refine ⟨fun _ _ _ _ h => h, ?_, Or.inl ⟨by kernel_rfl, ?_⟩, ?_⟩; rotate_left; (focus (intro wS hSw; clear hSw; go_simp; try with_reducible rfl)); (try simp only [Act.put, List.setIfInBounds_toArray, List.set_cons_zero, List.set_cons_succ]))
                    refine held_listed (listed' := #[true, true, true, true, true, true, true, true, true, true, true, true, true, true, false]) (by kernel_rfl) ?_
                    exact J q1 q2 o7 n7 v6 ⟨⟨HB.out, fun q e => by cases e; exact ⟨Hq1.out, KQ1.out⟩, fun q e => by cases e; exact ⟨Hq2.out, KQ2.out⟩, fun q e => by cases e; exact ⟨Ho7.out, q1, q2, rfl, rfl, KO.out⟩, fun q e => by cases e; exact ⟨Hn7.out, KN.out⟩⟩, K1.out, K2.out⟩ hHeld
                · (simp only [List.getElem?_toArray, List.getElem?_cons_succ, List.getElem?_cons_zero]; intro K hK; go_simp)
                  clear hHeld
                  have hb : Below v1.heap.size v1 (v1.alloc (.cells #[.int .i64 0, .slice none 0 0] 24)) := (Below.refl _ _).alloc (Nat.le_refl _) _
                  have kn := Blk.new v1 24 #[.int .i64 0, .slice none 0 0]
                  have Hn7 := Lib.hid HB.out.size
                  have kk1 := through HB.out (Nat.le_refl _) hb
                  have kq1 := K1.out.below hb K1.out.lt
                  (go_wp2_with fail; refine hK.out _ _ ?_ (fun hHeld => ?_); (focus (exact ⟨HST.out _ (kk1), two_cells8 kq1⟩)); clear hK K; (try simp only [Act.put, List.setIfInBounds_toArray, List.set_cons_zero, List.set_cons_succ]))
                  clear kk1 kq1
                  obtain ⟨v7, hY⟩ : ∃ Y, v1.alloc (.cells #[.int .i64 0, .slice none 0 0] 24) = Y := ⟨_, rfl⟩
                  have hY2 := hY
                  skip
                  obtain ⟨n7, hbk⟩ : ∃ z, v1.heap.size = z := ⟨_, rfl⟩
                  rw [hY] at hb kn
                  rw [hbk] at kn Hn7
                  (try rw [hY2] at hHeld)
                  (try rw [hY] at hHeld)
                  (try rw [hY2])
                  (try rw [hY])
                  (try rw [hbk])
                  have KN := Lib.hid kn
                  have K1 := Lib.hid (K1.out.below hb K1.out.lt)
                  have KQ1 := Lib.hid (KQ1.out.below hb KQ1.out.lt)
                  have HB := Lib.hid (through HB.out (Nat.le_refl _) hb)
                  clear hb kn hY hY2 hbk
                  (refine held_one 7 (by kernel_rfl) ?_; simp only [List.getElem?_toArray, List.getElem?_cons_succ, List.getElem?_cons_zero]; intro K hK; go_simp)
                  clear hHeld
                  refine (two2_any _).mono ?_
                  rintro e v8 ⟨q2, rfl, hb, hz, k1, k2⟩
                  have Hq2 := Lib.hid (Nat.le_trans HB.out.size hz)
                  have K1 := Lib.hid (K1.out.below hb K1.out.lt)
                  have KQ1 := Lib.hid (KQ1.out.below hb KQ1.out.lt)
                  have KN := Lib.hid (KN.out.below hb KN.out.lt)
                  have HB := Lib.hid (through HB.out (Nat.le_refl _) hb)
                  have KQ2 := Lib.hid k1
                  have K2 := Lib.hid k2
                  clear hb hz k1 k2
                  (go_wp2_with fail; refine hK.out _ _ ?_ (fun hHeld => ?_); (focus (exact ⟨HST.out _ (HB.out), two_cells8 K1.out⟩)); clear hK K; (try simp only [Act.put, List.setIfInBounds_toArray, List.set_cons_zero, List.set_cons_succ]))
                  refine held_mono (S' := (fun (w' : World) => (fun (w' : World) => (fun (w' : World) => w'.cell? ⟨s5, 0, none⟩ = some (.int .i64 1) ∧ w'.cell? ⟨s5, 1, none⟩ = some (.slice none 0 0) ∧ w'.cell? ⟨s5, 2, none⟩ = some (.int .i64 0) ∧ w'.cell? ⟨s5, 3, none⟩ = some (.int .i64 0) ∧ w'.cell? ⟨s5, 4, none⟩ = some (.int .i64 0) ∧ w'.cell? ⟨s5, 5, none⟩ = some (.int .i64 1) ∧ w'.cell? ⟨s5, 6, none⟩ = some (.int .i64 1) ∧ w'.cell? ⟨s5, 7, none⟩ = some (.int .i64 1) ∧ w'.cell? ⟨i6 + 1, 0, none⟩ = some (.int .i64 2) ∧ w'.cell? ⟨i6 + 1, 1, none⟩ = some (.slice (some ⟨i6, 0, none⟩) 1 1) ∧ w'.cell? ⟨i6 + 1, 2, none⟩ = some (.int .i64 1) ∧ w'.cell? ⟨i6 + 1, 3, none⟩ = some (.int .i64 0) ∧ w'.cell? ⟨i6 + 1, 4, none⟩ = some (.int .i64 0) ∧ w'.cell? ⟨i6 + 1, 5, none⟩ = some (.int .i64 0) ∧ w'.cell? ⟨i6 + 1, 6, none⟩ = some (.int .i64 0) ∧ w'.cell? ⟨i6 + 1, 7, none⟩ = some (.int .i64 1)) w' ∧ (w'.cell? ⟨q1 + 1, 8, none⟩ = some (.int .i64 8) ∧ w'.cell? ⟨q1 + 1, 9, none⟩ = some (.slice (some ⟨q1, 0, none⟩) 1 1) ∧ w'.cell? ⟨q1 + 1, 10, none⟩ = some (.int .i64 0) ∧ w'.cell? ⟨q1 + 1, 11, none⟩ = some (.int .i64 0) ∧ w'.cell? ⟨q1 + 1, 12, none⟩ = some (.int .i64 0) ∧ w'.cell? ⟨q1 + 1, 13, none⟩ = some (.int .i64 0) ∧ w'.cell? ⟨q1 + 1, 14, none⟩ = some (.int .i64 0) ∧ w'.cell? ⟨q1 + 1, 15, none⟩ = some (.int .i64 1))) w' ∧ (w'.cell? ⟨q2 + 1, 8, none⟩ = some (.int .i64 8) ∧ w'.cell? ⟨q2 + 1, 9, none⟩ = some (.slice (some ⟨q2, 0, none⟩) 1 1) ∧ w'.cell? ⟨q2 + 1, 10, none⟩ = some (.int .i64 0) ∧ w'.cell? ⟨q2 + 1, 11, none⟩ = some (.int .i64 0) ∧ w'.cell? ⟨q2 + 1, 12, none⟩ = some (.int .i64 0) ∧ w'.cell? ⟨q2 + 1, 13, none⟩ = some (.int .i64 0) ∧ w'.cell? ⟨q2 + 1, 14, none⟩ = some (.int .i64 0) ∧ w'.cell? ⟨q2 + 1, 15, none⟩ = some (.int .i64 1)))) (fun _ h => h.1) _ _ _ _ ?_
                  clear hHeld
                  have hHeld : (fun (w' : World) => (fun (w' : World) => (fun (w' : World) => w'.cell? ⟨s5, 0, none⟩ = some (.int .i64 1) ∧ w'.cell? ⟨s5, 1, none⟩ = some (.slice none 0 0) ∧ w'.cell? ⟨s5, 2, none⟩ = some (.int .i64 0) ∧ w'.cell? ⟨s5, 3, none⟩ = some (.int .i64 0) ∧ w'.cell? ⟨s5, 4, none⟩ = some (.int .i64 0) ∧ w'.cell? ⟨s5, 5, none⟩ = some (.int .i64 1) ∧ w'.cell? ⟨s5, 6, none⟩ = some (.int .i64 1) ∧ w'.cell? ⟨s5, 7, none⟩ = some (.int .i64 1) ∧ w'.cell? ⟨i6 + 1, 0, none⟩ = some (.int .i64 2) ∧ w'.cell? ⟨i6 + 1, 1, none⟩ = some (.slice (some ⟨i6, 0, none⟩) 1 1) ∧ w'.cell? ⟨i6 + 1, 2, none⟩ = some (.int .i64 1) ∧ w'.cell? ⟨i6 + 1, 3, none⟩ = some (.int .i64 0) ∧ w'.cell? ⟨i6 + 1, 4, none⟩ = some (.int .i64 0) ∧ w'.cell? ⟨i6 + 1, 5, none⟩ = some (.int .i64 0) ∧ w'.cell? ⟨i6 + 1, 6, none⟩ = some (.int .i64 0) ∧ w'.cell? ⟨i6 + 1, 7, none⟩ = some (.int .i64 1)) w' ∧ (w'.cell? ⟨q1 + 1, 8, none⟩ = some (.int .i64 8) ∧ w'.cell? ⟨q1 + 1, 9, none⟩ = some (.slice (some ⟨q1, 0, none⟩) 1 1) ∧ w'.cell? ⟨q1 + 1, 10, none⟩ = some (.int .i64 0) ∧ w'.cell? ⟨q1 + 1, 11, none⟩ = some (.int .i64 0) ∧ w'.cell? ⟨q1 + 1, 12, none⟩ = some (.int .i64 0) ∧ w'.cell? ⟨q1 + 1, 13, none⟩ = some (.int .i64 0) ∧ w'.cell? ⟨q1 + 1, 14, none⟩ = some (.int .i64 0) ∧ w'.cell? ⟨q1 + 1, 15, none⟩ = some (.int .i64 1))) w' ∧ (w'.cell? ⟨q2 + 1, 8, none⟩ = some (.int .i64 8) ∧ w'.cell? ⟨q2 + 1, 9, none⟩ = some (.slice (some ⟨q2, 0, none⟩) 1 1) ∧ w'.cell? ⟨q2 + 1, 10, none⟩ = some (.int .i64 0) ∧ w'.cell? ⟨q2 + 1, 11, none⟩ = some (.int .i64 0) ∧ w'.cell? ⟨q2 + 1, 12, none⟩ = some (.int .i64 0) ∧ w'.cell? ⟨q2 + 1, 13, none⟩ = some (.int .i64 0) ∧ w'.cell? ⟨q2 + 1, 14, none⟩ = some (.int .i64 0) ∧ w'.cell? ⟨q2 + 1, 15, none⟩ = some (.int .i64 1))) v8 := ⟨⟨HST.out _ (HB.out), two_cells8 K1.out⟩, two_cells8 K2.out⟩
                  (refine held_take 8 (by kernel_rfl) (by kernel_rfl) (by kernel_rfl) (by assumption) ?_; simp only [List.getElem?_toArray, List.getElem?_cons_succ, List.getElem?_cons_zero]; refine ⟨fun _ _ _ _ h => h, ?_, Or.inl ⟨by kernel_rfl, ?_⟩, ?_⟩; rotate_left; (focus (intro wS hSw; clear hSw; go_simp; try with_reducible rfl)); (try simp only [Act.put, List.setIfInBounds_toArray, List.set_cons_zero, List.set_cons_succ]))
                  (refine held_take 9 (by kernel_rfl) (by kernel_rfl) (by kernel_rfl) (by assumption) ?_; simp only [List.getElem?_toArray, List.getElem?_cons_succ, List.getElem?_cons_zero]; refine ⟨fun _ _ _ _ h => h, ?_, Or.inl ⟨by kernel_rfl, ?_⟩, ?_⟩; rotate_left; (focus (intro wS hSw; clear hSw; go_simp; try with_reducible rfl)); (try simp only [Act.put, List.setIfInBounds_toArray, List.set_cons_zero, List.set_cons_succ]))
                  (refine held_take 10 (by kernel_rfl) (by kernel_rfl) (by kernel_rfl) (by assumption) ?_; simp only [List.getElem?_toArray, List.getElem?_cons_succ, List.getElem?_cons_zero]; refine ⟨fun _ _ _ _ h => h, ?_, Or.inl ⟨by kernel_rfl, ?_⟩, ?_⟩; rotate_left; (focus (intro wS hSw; replace hSw := hSw.2; (try dsimp only at hSw); go_simp; try with_reducible rfl)); (try simp only [Act.put, List.setIfInBounds_toArray, List.set_cons_zero, List.set_cons_succ]))
                  (refine held_one 11 (by kernel_rfl) ?_; simp only [List.getElem?_toArray, List.getElem?_cons_succ, List.getElem?_cons_zero]; intro K hK; go_simp)
                  clear hHeld
                  have hb : Below v8.heap.size v8 (v8.alloc (.cells (loopCells (oneS i6) (oneS i6) (oneS q1) (oneS q2)) 40)) := (Below.refl _ _).alloc (Nat.le_refl _) _
                  have kn := Blk.new v8 40 (loopCells (oneS i6) (oneS i6) (oneS q1) (oneS q2))
                  have Ho7 := Lib.hid HB.out.size
                  have kk1 := through HB.out (Nat.le_refl _) hb
                  have kq1 := K1.out.below hb K1.out.lt
                  have kq2 := K2.out.below hb K2.out.lt
                  (go_wp2_with fail; refine hK.out _ _ ?_ (fun hHeld => ?_); (focus (exact ⟨⟨HST.out _ (kk1), two_cells8 kq1⟩, two_cells8 kq2⟩)); clear hK K; (try simp only [Act.put, List.setIfInBounds_toArray, List.set_cons_zero, List.set_cons_succ]))
                  clear kk1 kq1 kq2
                  obtain ⟨v9, hY⟩ : ∃ Y, v8.alloc (.cells (loopCells (oneS i6) (oneS i6) (oneS q1) (oneS q2)) 40) = Y := ⟨_, rfl⟩
                  have hY2 := hY
                  simp only [loopCells, oneS] at hY2
                  obtain ⟨o7, hbk⟩ : ∃ z, v8.heap.size = z := ⟨_, rfl⟩
                  rw [hY] at hb kn
                  rw [hbk] at kn Ho7
                  (try rw [hY2] at hHeld)
                  (try rw [hY] at hHeld)
                  (try rw [hY2])
                  (try rw [hY])
                  (try rw [hbk])
                  have KO := Lib.hid kn
                  have K1 := Lib.hid (K1.out.below hb K1.out.lt)
                  have KQ1 := Lib.hid (KQ1.out.below hb KQ1.out.lt)
                  have KN := Lib.hid (KN.out.below hb KN.out.lt)
                  have K2 := Lib.hid (K2.out.below hb K2.out.lt)
                  have KQ2 := Lib.hid (KQ2.out.below hb KQ2.out.lt)
                  have HB := Lib.hid (through HB.out (Nat.le_refl _) hb)
                  clear hb kn hY hY2 hbk
                  (refine held_take 12 (by kernel_rfl) (by kernel_rfl) (by kernel_rfl) (by assumption) ?_; simp only [List.getElem?_toArray, List.getElem?_cons_succ, List.getElem?_cons_zero]; refine ⟨fun _ _ _ _ h => h, ?_, Or.inl ⟨by kernel_rfl, ?_⟩, ?_⟩; rotate_left; (focus (intro wS hSw; clear hSw; go_simp; try with_reducible rfl)); (try simp only [Act.put, List.setIfInBounds_toArray, List.set_cons_zero, List.set_cons_succ]))
                  refine held_listed (listed' := #[true, true, true, true, true, true, true, true, true, true, true, true, true, true, false]) (by kernel_rfl) ?_
                  exact J q1 q2 o7 n7 v9 ⟨⟨HB.out, fun q e => by cases e; exact ⟨Hq1.out, KQ1.out⟩, fun q e => by cases e; exact ⟨Hq2.out, KQ2.out⟩, fun q e => by cases e; exact ⟨Ho7.out, q1, q2, rfl, rfl, KO.out⟩, fun q e => by cases e; exact ⟨Hn7.out, KN.out⟩⟩, K1.out, K2.out⟩ hHeld
              · (simp only [List.getElem?_toArray, List.getElem?_cons_succ, List.getElem?_cons_zero]; intro K hK; go_simp)
                clear hHeld
                have hb : Below y3.heap.size y3 (y3.alloc (.cells #[.int .i64 0, .slice none 0 0] 24)) := (Below.refl _ _).alloc (Nat.le_refl _) _
                have kn := Blk.new y3 24 #[.int .i64 0, .slice none 0 0]
                have Hn7 := Lib.hid HB.out.size
                have kk1 := through HB.out (Nat.le_refl _) hb
                (go_wp2_with fail; refine hK.out _ _ ?_ (fun hHeld => ?_); (focus (exact HST.out _ (kk1))); clear hK K; (try simp only [Act.put, List.setIfInBounds_toArray, List.set_cons_zero, List.set_cons_succ]))
                clear kk1
                obtain ⟨v10, hY⟩ : ∃ Y, y3.alloc (.cells #[.int .i64 0, .slice none 0 0] 24) = Y := ⟨_, rfl⟩
                have hY2 := hY
                skip
                obtain ⟨n7, hbk⟩ : ∃ z, y3.heap.size = z := ⟨_, rfl⟩
                rw [hY] at hb kn
                rw [hbk] at kn Hn7
                (try rw [hY2] at hHeld)
                (try rw [hY] at hHeld)
                (try rw [hY2])
                (try rw [hY])
                (try rw [hbk])
                have KN := Lib.hid kn
                have HB := Lib.hid (through HB.out (Nat.le_refl _) hb)
                clear hb kn hY hY2 hbk
                (refine held_one 3 (by kernel_rfl) ?_; simp only [List.getElem?_toArray, List.getElem?_cons_succ, List.getElem?_cons_zero]; intro K hK; go_simp)
                clear hHeld
                refine (two2_any _).mono ?_
                rintro e v11 ⟨q1, rfl, hb, hz, k1, k2⟩
                have Hq1 := Lib.hid (Nat.le_trans HB.out.size hz)
                have KN := Lib.hid (KN.out.below hb KN.out.lt)
                have HB := Lib.hid (through HB.out (Nat.le_refl _) hb)
                have KQ1 := Lib.hid k1
                have K1 := Lib.hid k2
                clear hb hz k1 k2
                (go_wp2_with fail; refine hK.out _ _ ?_ (fun hHeld => ?_); (focus (exact HST.out _ (HB.out))); clear hK K; (try simp only [Act.put, List.setIfInBounds_toArray, List.set_cons_zero, List.set_cons_succ]))
                refine held_mono (S' := (fun (w' : World) => (fun (w' : World) => w'.cell? ⟨s5, 0, none⟩ = some (.int .i64 1) ∧ w'.cell? ⟨s5, 1, none⟩ = some (.slice none 0 0) ∧ w'.cell? ⟨s5, 2, none⟩ = some (.int .i64 0) ∧ w'.cell? ⟨s5, 3, none⟩ = some (.int .i64 0) ∧ w'.cell? ⟨s5, 4, none⟩ = some (.int .i64 0) ∧ w'.cell? ⟨s5, 5, none⟩ = some (.int .i64 1) ∧ w'.cell? ⟨s5, 6, none⟩ = some (.int .i64 1) ∧ w'.cell? ⟨s5, 7, none⟩ = some (.int .i64 1) ∧ w'.cell? ⟨i6 + 1, 0, none⟩ = some (.int .i64 2) ∧ w'.cell? ⟨i6 + 1, 1, none⟩ = some (.slice (some ⟨i6, 0, none⟩) 1 1) ∧ w'.cell? ⟨i6 + 1, 2, none⟩ = some (.int .i64 1) ∧ w'.cell? ⟨i6 + 1, 3, none⟩ = some (.int .i64 0) ∧ w'.cell? ⟨i6 + 1, 4, none⟩ = some (.int .i64 0) ∧ w'.cell? ⟨i6 + 1, 5, none⟩ = some (.int .i64 0) ∧ w'.cell? ⟨i6 + 1, 6, none⟩ = some (.int .i64 0) ∧ w'.cell? ⟨i6 + 1, 7, none⟩ = some (.int .i64 1)) w' ∧ (w'.cell? ⟨q1 + 1, 8, none⟩ = some (.int .i64 8) ∧ w'.cell? ⟨q1 + 1, 9, none⟩ = some (.slice (some ⟨q1, 0, none⟩) 1 1) ∧ w'.cell? ⟨q1 + 1, 10, none⟩ = some (.int .i64 0) ∧ w'.cell? ⟨q1 + 1, 11, none⟩ = some (.int .i64 0) ∧ w'.cell? ⟨q1 + 1, 12, none⟩ = some (.int .i64 0) ∧ w'.cell? ⟨q1 + 1, 13, none⟩ = some (.int .i64 0) ∧ w'.cell? ⟨q1 + 1, 14, none⟩ = some (.int .i64 0) ∧ w'.cell? ⟨q1 + 1, 15, none⟩ = some (.int .i64 1)))) (fun _ h => h.1) _ _ _ _ ?_
                clear hHeld
                have hHeld : (fun (w' : World) => (fun (w' : World) => w'.cell? ⟨s5, 0, none⟩ = some (.int .i64 1) ∧ w'.cell? ⟨s5, 1, none⟩ = some (.slice none 0 0) ∧ w'.cell? ⟨s5, 2, none⟩ = some (.int .i64 0) ∧ w'.cell? ⟨s5, 3, none⟩ = some (.int .i64 0) ∧ w'.cell? ⟨s5, 4, none⟩ = some (.int .i64 0) ∧ w'.cell? ⟨s5, 5, none⟩ = some (.int .i64 1) ∧ w'.cell? ⟨s5, 6, none⟩ = some (.int .i64 1) ∧ w'.cell? ⟨s5, 7, none⟩ = some (.int .i64 1) ∧ w'.cell? ⟨i6 + 1, 0, none⟩ = some (.int .i64 2) ∧ w'.cell? ⟨i6 + 1, 1, none⟩ = some (.slice (some ⟨i6, 0, none⟩) 1 1) ∧ w'.cell? ⟨i6 + 1, 2, none⟩ = some (.int .i64 1) ∧ w'.cell? ⟨i6 + 1, 3, none⟩ = some (.int .i64 0) ∧ w'.cell? ⟨i6 + 1, 4, none⟩ = some (.int .i64 0) ∧ w'.cell? ⟨i6 + 1, 5, none⟩ = some (.int .i64 0) ∧ w'.cell? ⟨i6 + 1, 6, none⟩ = some (.int .i64 0) ∧ w'.cell? ⟨i6 + 1, 7, none⟩ = some (.int .i64 1)) w' ∧ (w'.cell? ⟨q1 + 1, 8, none⟩ = some (.int .i64 8) ∧ w'.cell? ⟨q1 + 1, 9, none⟩ = some (.slice (some ⟨q1, 0, none⟩) 1 1) ∧ w'.cell? ⟨q1 + 1, 10, none⟩ = some (.int .i64 0) ∧ w'.cell? ⟨q1 + 1, 11, none⟩ = some (.int .i64 0) ∧ w'.cell? ⟨q1 + 1, 12, none⟩ = some (.int .i64 0) ∧ w'.cell? ⟨q1 + 1, 13, none⟩ = some (.int .i64 0) ∧ w'.cell? ⟨q1 + 1, 14, none⟩ = some (.int .i64 0) ∧ w'.cell? ⟨q1 + 1, 15, none⟩ = some (.int .i64 1))) v11 := ⟨HST.out _ (HB.out), two_cells8 K1.out⟩
                (refine held_take 4 (by kernel_rfl) (by kernel_rfl) (by kernel_rfl) (by assumption) ?_; simp only [List.getElem?_toArray, List.getElem?_cons_succ, List.getElem?_cons_zero]; refine ⟨fun _ _ _ _ h => h, ?_, Or.inl ⟨by kernel_rfl, ?_⟩, ?_⟩; rotate_left; (focus (intro wS hSw; clear hSw; go_simp; try with_reducible rfl)); (try simp only [Act.put, List.setIfInBounds_toArray, List.set_cons_zero, List.set_cons_succ]))
                (refine held_take 5 (by kernel_rfl) (by kernel_rfl) (by kernel_rfl) (by assumption) ?_; simp only [List.getElem?_toArray, List.getElem?_cons_succ, List.getElem?_cons_zero]; refine ⟨fun _ _ _ _ h => h, ?_, Or.inl ⟨by kernel_rfl, ?_⟩, ?_⟩; rotate_left; (focus (intro wS hSw; clear hSw; go_simp; try with_reducible rfl)); (try simp only [Act.put, List.setIfInBounds_toArray, List.set_cons_zero, List.set_cons_succ]))
                (refine held_take 6 (by kernel_rfl) (by kernel_rfl) (by kernel_rfl) (by assumption) ?_; simp only [List.getElem?_toArray, List.getElem?_cons_succ, List.getElem?_cons_zero]; refine ⟨fun _ _ _ _ h => h, ?_, Or.inl ⟨by kernel_rfl, ?_⟩, ?_⟩; rotate_left; (focus (intro wS hSw; replace hSw := hSw.2; (try dsimp only at hSw); go_simp; try with_reducible rfl)); (try simp only [Act.put, List.setIfInBounds_toArray, List.set_cons_zero, List.set_cons_succ]))
                (refine held_one 7 (by kernel_rfl) ?_; simp only [List.getElem?_toArray, List.getElem?_cons_succ, List.getElem?_cons_zero]; intro K hK; go_simp)
                clear hHeld
                refine (two2_any _).mono ?_
                rintro e v12 ⟨q2, rfl, hb, hz, k1, k2⟩
                have Hq2 := Lib.hid (Nat.le_trans HB.out.size hz)
                have KN := Lib.hid (KN.out.below hb KN.out.lt)
                have K1 := Lib.hid (K1.out.below hb K1.out.lt)
                have KQ1 := Lib.hid (KQ1.out.below hb KQ1.out.lt)
                have HB := Lib.hid (through HB.out (Nat.le_refl _) hb)
                have KQ2 := Lib.hid k1
                have K2 := Lib.hid k2
                clear hb hz k1 k2
                (go_wp2_with fail; refine hK.out _ _ ?_ (fun hHeld => ?_); (focus (exact ⟨HST.out _ (HB.out), two_cells8 K1.out⟩)); clear hK K; (try simp only [Act.put, List.setIfInBounds_toArray, List.set_cons_zero, List.set_cons_succ]))
                refine held_mono (S' := (fun (w' : World) => (fun (w' : World) => (fun (w' : World) => w'.cell? ⟨s5, 0, none⟩ = some (.int .i64 1) ∧ w'.cell? ⟨s5, 1, none⟩ = some (.slice none 0 0) ∧ w'.cell? ⟨s5, 2, none⟩ = some (.int .i64 0) ∧ w'.cell? ⟨s5, 3, none⟩ = some (.int .i64 0) ∧ w'.cell? ⟨s5, 4, none⟩ = some (.int .i64 0) ∧ w'.cell? ⟨s5, 5, none⟩ = some (.int .i64 1) ∧ w'.cell? ⟨s5, 6, none⟩ = some (.int .i64 1) ∧ w'.cell? ⟨s5, 7, none⟩ = some (.int .i64 1) ∧ w'.cell? ⟨i6 + 1, 0, none⟩ = some (.int .i64 2) ∧ w'.cell? ⟨i6 + 1, 1, none⟩ = some (.slice (some ⟨i6, 0, none⟩) 1 1) ∧ w'.cell? ⟨i6 + 1, 2, none⟩ = some (.int .i64 1) ∧ w'.cell? ⟨i6 + 1, 3, none⟩ = some (.int .i64 0) ∧ w'.cell? ⟨i6 + 1, 4, none⟩ = some (.int .i64 0) ∧ w'.cell? ⟨i6 + 1, 5, none⟩ = some (.int .i64 0) ∧ w'.cell? ⟨i6 + 1, 6, none⟩ = some (.int .i64 0) ∧ w'.cell? ⟨i6 + 1, 7, none⟩ = some (.int .i64 1)) w' ∧ (w'.cell? ⟨q1 + 1, 8, none⟩ = some (.int .i64 8) ∧ w'.cell? ⟨q1 + 1, 9, none⟩ = some (.slice (some ⟨q1, 0, none⟩) 1 1) ∧ w'.cell? ⟨q1 + 1, 10, none⟩ = some (.int .i64 0) ∧ w'.cell? ⟨q1 + 1, 11, none⟩ = some (.int .i64 0) ∧ w'.cell? ⟨q1 + 1, 12, none⟩ = some (.int .i64 0) ∧ w'.cell? ⟨q1 + 1, 13, none⟩ = some (.int .i64 0) ∧ w'.cell? ⟨q1 + 1, 14, none⟩ = some (.int .i64 0) ∧ w'.cell? ⟨q1 + 1, 15, none⟩ = some (.int .i64 1))) w' ∧ (w'.cell? ⟨q2 + 1, 8, none⟩ = some (.int .i64 8) ∧ w'.cell? ⟨q2 + 1, 9, none⟩ = some (.slice (some ⟨q2, 0, none⟩) 1 1) ∧ w'.cell? ⟨q2 + 1, 10, none⟩ = some (.int .i64 0) ∧ w'.cell? ⟨q2 + 1, 11, none⟩ = some (.int .i64 0) ∧ w'.cell? ⟨q2 + 1, 12, none⟩ = some (.int .i64 0) ∧ w'.cell? ⟨q2 + 1, 13, none⟩ = some (.int .i64 0) ∧ w'.cell? ⟨q2 + 1, 14, none⟩ = some (.int .i64 0) ∧ w'.cell? ⟨q2 + 1, 15, none⟩ = some (.int .i64 1)))) (fun _ h => h.1) _ _ _ _ ?_
                clear hHeld
                have hHeld : (fun (w' : World) => (fun (w' : World) => (fun (w' : World) => w'.cell? ⟨s5, 0, none⟩ = some (.int .i64 1) ∧ w'.cell? ⟨s5, 1, none⟩ = some (.slice none 0 0) ∧ w'.cell? ⟨s5, 2, none⟩ = some (.int .i64 0) ∧ w'.cell? ⟨s5, 3, none⟩ = some (.int .i64 0) ∧ w'.cell? ⟨s5, 4, none⟩ = some (.int .i64 0) ∧ w'.cell? ⟨s5, 5, none⟩ = some (.int .i64 1) ∧ w'.cell? ⟨s5, 6, none⟩ = some (.int .i64 1) ∧ w'.cell? ⟨s5, 7, none⟩ = some (.int .i64 1) ∧ w'.cell? ⟨i6 + 1, 0, none⟩ = some (.int .i64 2) ∧ w'.cell? ⟨i6 + 1, 1, none⟩ = some (.slice (some ⟨i6, 0, none⟩) 1 1) ∧ w'.cell? ⟨i6 + 1, 2, none⟩ = some (.int .i64 1) ∧ w'.cell? ⟨i6 + 1, 3, none⟩ = some (.int .i64 0) ∧ w'.cell? ⟨i6 + 1, 4, none⟩ = some (.int .i64 0) ∧ w'.cell? ⟨i6 + 1, 5, none⟩ = some (.int .i64 0) ∧ w'.cell? ⟨i6 + 1, 6, none⟩ = some (.int .i64 0) ∧ w'.cell? ⟨i6 + 1, 7, none⟩ = some (.int .i64 1)) w' ∧ (w'.cell? ⟨q1 + 1, 8, none⟩ = some (.int .i64 8) ∧ w'.cell? ⟨q1 + 1, 9, none⟩ = some (.slice (some ⟨q1, 0, none⟩) 1 1) ∧ w'.cell? ⟨q1 + 1, 10, none⟩ = some (.int .i64 0) ∧ w'.cell? ⟨q1 + 1, 11, none⟩ = some (.int .i64 0) ∧ w'.cell? ⟨q1 + 1, 12, none⟩ = some (.int .i64 0) ∧ w'.cell? ⟨q1 + 1, 13, none⟩ = some (.int .i64 0) ∧ w'.cell? ⟨q1 + 1, 14, none⟩ = some (.int .i64 0) ∧ w'.cell? ⟨q1 + 1, 15, none⟩ = some (.int .i64 1))) w' ∧ (w'.cell? ⟨q2 + 1, 8, none⟩ = some (.int .i64 8) ∧ w'.cell? ⟨q2 + 1, 9, none⟩ = some (.slice (some ⟨q2, 0, none⟩) 1 1) ∧ w'.cell? ⟨q2 + 1, 10, none⟩ = some (.int .i64 0) ∧ w'.cell? ⟨q2 + 1, 11, none⟩ = some (.int .i64 0) ∧ w'.cell? ⟨q2 + 1, 12, none⟩ = some (.int .i64 0) ∧ w'.cell? ⟨q2 + 1, 13, none⟩ = some (.int .i64 0) ∧ w'.cell? ⟨q2 + 1, 14, none⟩ = some (.int .i64 0) ∧ w'.cell? ⟨q2 + 1, 15, none⟩ = some (.int .i64 1))) v12 := ⟨⟨HST.out _ (HB.out), two_cells8 K1.out⟩, two_cells8 K2.out⟩
                (refine held_take 8 (by kernel_rfl) (by kernel_rfl) (by kernel_rfl) (by assumption) ?_; simp only [List.getElem?_toArray, List.getElem?_cons_succ, List.getElem?_cons_zero]; refine ⟨fun _ _ _ _ h => h, ?_, Or.inl ⟨by kernel_rfl, ?_⟩, ?_⟩; rotate_left; (focus (intro wS hSw; clear hSw; go_simp; try with_reducible rfl)); (try simp only [Act.put, List.setIfInBounds_toArray, List.set_cons_zero, List.set_cons_succ]))
                (refine held_take 9 (by kernel_rfl) (by kernel_rfl) (by kernel_rfl) (by assumption) ?_; simp only [List.getElem?_toArray, List.getElem?_cons_succ, List.getElem?_cons_zero]; refine ⟨fun _ _ _ _ h => h, ?_, Or.inl ⟨by kernel_rfl, ?_⟩, ?_⟩; rotate_left; (focus (intro wS hSw; clear hSw; go_simp; try with_reducible rfl)); (try simp only [Act.put, List.setIfInBounds_toArray, List.set_cons_zero, List.set_cons_succ]))
                (refine held_take 10 (by kernel_rfl) (by kernel_rfl) (by kernel_rfl) (by assumption) ?_; simp only [List.getElem?_toArray, List.getElem?_cons_succ, List.getElem?_cons_zero]; refine ⟨fun _ _ _ _ h => h, ?_, Or.inl ⟨by kernel_rfl, ?_⟩, ?_⟩; rotate_left; (focus (intro wS hSw; replace hSw := hSw.2; (try dsimp only at hSw); go_simp; try with_reducible rfl)); (try simp only [Act.put, List.setIfInBounds_toArray, List.set_cons_zero, List.set_cons_succ]))
                (refine held_one 11 (by kernel_rfl) ?_; simp only [List.getElem?_toArray, List.getElem?_cons_succ, List.getElem?_cons_zero]; intro K hK; go_simp)
                clear hHeld
                have hb : Below v12.heap.size v12 (v12.alloc (.cells (loopCells (oneS i6) (oneS i6) (oneS q1) (oneS q2)) 40)) := (Below.refl _ _).alloc (Nat.le_refl _) _
                have kn := Blk.new v12 40 (loopCells (oneS i6) (oneS i6) (oneS q1) (oneS q2))
                have Ho7 := Lib.hid HB.out.size
                have kk1 := through HB.out (Nat.le_refl _) hb
                have kq1 := K1.out.below hb K1.out.lt
                have kq2 := K2.out.below hb K2.out.lt
                (go_wp2_with fail; refine hK.out _ _ ?_ (fun hHeld => ?_); (focus (exact ⟨⟨HST.out _ (kk1), two_cells8 kq1⟩, two_cells8 kq2⟩)); clear hK K; (try simp only [Act.put, List.setIfInBounds_toArray, List.set_cons_zero, List.set_cons_succ]))
                clear kk1 kq1 kq2
                obtain ⟨v13, hY⟩ : ∃ Y, v12.alloc (.cells (loopCells (oneS i6) (oneS i6) (oneS q1) (oneS q2)) 40) = Y := ⟨_, rfl⟩
                have hY2 := hY
                simp only [loopCells, oneS] at hY2
                obtain ⟨o7, hbk⟩ : ∃ z, v12.heap.size = z := ⟨_, rfl⟩
                rw [hY] at hb kn
                rw [hbk] at kn Ho7
                (try rw [hY2] at hHeld)
                (try rw [hY] at hHeld)
                (try rw [hY2])
                (try rw [hY])
                (try rw [hbk])
                have KO := Lib.hid kn
                have KN := Lib.hid (KN.out.below hb KN.out.lt)
                have K1 := Lib.hid (K1.out.below hb K1.out.lt)
                have KQ1 := Lib.hid (KQ1.out.below hb KQ1.out.lt)
                have K2 := Lib.hid (K2.out.below hb K2.out.lt)
                have KQ2 := Lib.hid (KQ2.out.below hb KQ2.out.lt)
                have HB := Lib.hid (through HB.out (Nat.le_refl _) hb)
                clear hb kn hY hY2 hbk
                (refine held_take 12 (by kernel_rfl) (by kernel_rfl) (by kernel_rfl) (by assumption) ?_; simp only [List.getElem?_toArray, List.getElem?_cons_succ, List.getElem?_cons_zero]; refine ⟨fun _ _ _ _ h => h, ?_, Or.inl ⟨by kernel_rfl, ?_⟩, ?_⟩; rotate_left; (focus (intro wS hSw; clear hSw; go_simp; try with_reducible rfl)); (try simp only [Act.put, List.setIfInBounds_toArray, List.set_cons_zero, List.set_cons_succ]))
                refine held_listed (listed' := #[true, true, true, true, true, true, true, true, true, true, true, true, true, true, false]) (by kernel_rfl) ?_
                exact J q1 q2 o7 n7 v13 ⟨⟨HB.out, fun q e => by cases e; exact ⟨Hq1.out, KQ1.out⟩, fun q e => by cases e; exact ⟨Hq2.out, KQ2.out⟩, fun q e => by cases e; exact ⟨Ho7.out, q1, q2, rfl, rfl, KO.out⟩, fun q e => by cases e; exact ⟨Hn7.out, KN.out⟩⟩, K1.out, K2.out⟩ hHeld
            case rest =>
              clear HB HH0
              intro q1 q2 o7 n7 y9 hR hHeld
              obtain ⟨hR, hR1, hR2⟩ := hR
              have HR := Lib.hid hR
              have HK1 := Lib.hid hR1
              have HK2 := Lib.hid hR2
              clear hR hR1 hR2
              obtain ⟨n0, n1, n2, n3⟩ := HR.out.cells
              (refine held_one 14 (by kernel_rfl) ?_; simp only [List.getElem?_toArray, List.getElem?_cons_succ, List.getElem?_cons_zero]; intro K hK; go_simp)
              clear hHeld
              have hkn := (HR.out.2.2.2.2 n7 rfl)
              have he1 := blk_ne hkn.2 HK1.out (by decide)
              have he2 := blk_ne hkn.2 HK2.out (by decide)
              have hbw : Below Y3.heap.size Y3 ((y9.setCell ⟨n7, 0, none⟩ (.int .i64 1)).setCell ⟨n7, 1, none⟩ (.slice (some ⟨o7, 0, none⟩) 5 5)) := (HR.out.1.setCell hkn.1 _).setCell hkn.1 _
              have kw1 := (HK1.out.far (p := ⟨n7, 0, none⟩) he1.symm (.int .i64 1)).far (p := ⟨n7, 1, none⟩) he1.symm (.slice (some ⟨o7, 0, none⟩) 5 5)
              have kw2 := (HK2.out.far (p := ⟨n7, 0, none⟩) he2.symm (.int .i64 1)).far (p := ⟨n7, 1, none⟩) he2.symm (.slice (some ⟨o7, 0, none⟩) 5 5)
              (go_wp2_with fail; refine hK.out _ _ ?_ (fun hHeld => ?_); (focus (exact ⟨⟨HST.out _ (hbw), two_cells8 kw1⟩, two_cells8 kw2⟩)); clear hK K; (try simp only [List.setIfInBounds_toArray, List.set_cons_zero, List.set_cons_succ]))
              (refine wpAnyH_done (by kernel_rfl) ?_ _)
              clear hHeld
              go_wp2_with fail
              go_meet
              exact HR.out.whole rfl
          case rest =>
            obtain ⟨n7, o7, q1, q2, rfl, hbw, hn, ho, hq1, hq2, hne, kn, ko, kq1, kq2⟩ := hcut
            have L0 := Lib.hid (show LoopB Y3 wc n7 o7 (loopCells (oneS i6) (oneS i6) (oneS q1) (oneS q2)) from ⟨hbw, hn, ho, hne, kn, ko⟩)
            have KQ := Lib.hid kq1
            clear hbw hn ho hq1 hq2 hne kn ko kq1 kq2
            (
  have n1 := (L0.out.2.2.2.2.1).cell 1
  have oc := (L0.out.2.2.2.2.2).cell 9
  have of := (L0.out.2.2.2.2.2).frozen 9
  have hol := (L0.out.2.2.2.2.2).lt
  have hnl := (L0.out.2.2.2.2.1).lt
  go_upto_region 17 with (fail)
  obtain ⟨w16, hW9⟩ : ∃ W9, ((wc.setCell ⟨o7, 9, none⟩ (oneS wc.heap.size)).alloc (.cells #[.int .i64 2] 3)) = W9 := ⟨_, rfl⟩
  have hput := L0.out.put 9 2 hW9
  unfold oneS at hW9
  rw [hW9]
  clear hW9 n1 oc of hol hnl
  obtain ⟨qa, hq9⟩ : ∃ q, wc.heap.size = q := ⟨_, rfl⟩
  rw [hq9] at hput ⊢
  clear hq9
  obtain ⟨l9, k9, hkeep⟩ := hput
  have L1 := Lib.hid l9
  have KA := Lib.hid k9
  have HKEEP := Lib.hid hkeep
  clear l9 k9 hkeep)
            have KQN := Lib.hid (HKEEP.out q1 _ KQ.out)
            clear KQ HKEEP
            (
  have n1 := (L1.out.2.2.2.2.1).cell 1
  have oc := (L1.out.2.2.2.2.2).cell 17
  have of := (L1.out.2.2.2.2.2).frozen 17
  have hol := (L1.out.2.2.2.2.2).lt
  have hnl := (L1.out.2.2.2.2.1).lt
  go_upto_region 18 with (fail)
  obtain ⟨w17, hW9⟩ : ∃ W9, ((w16.setCell ⟨o7, 17, none⟩ (oneS w16.heap.size)).alloc (.cells #[.int .i64 1] 3)) = W9 := ⟨_, rfl⟩
  have hput := L1.out.put 17 1 hW9
  unfold oneS at hW9
  rw [hW9]
  clear hW9 n1 oc of hol hnl
  obtain ⟨qb, hq9⟩ : ∃ q, w16.heap.size = q := ⟨_, rfl⟩
  rw [hq9] at hput ⊢
  clear hq9
  obtain ⟨l9, k9, hkeep⟩ := hput
  have L2 := Lib.hid l9
  have KB := Lib.hid k9
  have HKEEP := Lib.hid hkeep
  clear l9 k9 hkeep)
            have KQ := Lib.hid (HKEEP.out q1 _ KQN.out)
            have KA2 := Lib.hid (HKEEP.out qa _ KA.out)
            clear KQN HKEEP KA
            (
  have n1 := (L2.out.2.2.2.2.1).cell 1
  have oc := (L2.out.2.2.2.2.2).cell 33
  have of := (L2.out.2.2.2.2.2).frozen 33
  have hol := (L2.out.2.2.2.2.2).lt
  have hnl := (L2.out.2.2.2.2.1).lt
  go_upto_region 19 with (fail)
  obtain ⟨w18, hW9⟩ : ∃ W9, ((w17.setCell ⟨o7, 33, none⟩ (oneS w17.heap.size)).alloc (.cells #[.int .i64 1] 3)) = W9 := ⟨_, rfl⟩
  have hput := L2.out.put 33 1 hW9
  unfold oneS at hW9
  rw [hW9]
  clear hW9 n1 oc of hol hnl
  obtain ⟨qd, hq9⟩ : ∃ q, w17.heap.size = q := ⟨_, rfl⟩
  rw [hq9] at hput ⊢
  clear hq9
  obtain ⟨l9, k9, hkeep⟩ := hput
  have L3 := Lib.hid l9
  have KD := Lib.hid k9
  have HKEEP := Lib.hid hkeep
  clear l9 k9 hkeep)
            have KQ2 := Lib.hid (HKEEP.out q1 _ KQ.out)
            have KA3 := Lib.hid (HKEEP.out qa _ KA2.out)
            have KB2 := Lib.hid (HKEEP.out qb _ KB.out)
            clear KQ HKEEP KA2 KB
            have HOC := Lib.hid (circle_ops (show Blk w18 o7 40 (loopCells (oneS qa) (oneS qb) (oneS q1) (oneS qd)) from L3.out.2.2.2.2.2) KA3.out KB2.out KQ2.out KD.out)
            have HIW := Lib.hid (KI.out.below L3.out.1 KI.out.lt)
            obtain ⟨a0, a1, a2, a3, a4, a5, a6, a7, b0, b1, b2, b3, b4, b5, b6, b7⟩ := HST.out w18 L3.out.1
            have hs5 : s5 < w18.heap.size := by have := L3.out.1.size; have := HSM.out; omega
            obtain ⟨X1, hX⟩ : ∃ X, ((((w18.alloc (.cells #[.int .i64 0, .int .i64 1] 3)).alloc (.cells #[.int .i64 2] 3)).alloc (.cells (keysCells i6 w18.heap.size (w18.heap.size + 1)) 40)).alloc (.cells #[.int .i64 1, .slice (some ⟨w18.heap.size + 1 + 1, 0, none⟩) 4 4] 24)) = X := ⟨_, rfl⟩
            have T1 : Bk w18 [(w18.heap.size + 1 + 1 + 1, 24, #[.int .i64 1, .slice (some ⟨w18.heap.size + 1 + 1, 0, none⟩) 4 4]), (w18.heap.size + 1 + 1, 40, keysCells i6 w18.heap.size (w18.heap.size + 1)), (w18.heap.size + 1, 3, #[.int .i64 2]), (w18.heap.size, 3, #[.int .i64 0, .int .i64 1])] X1 := by
              rw [← hX]
              exact ((((Bk.nil w18).alloc _ _ rfl).alloc _ _ (by simp)).alloc _ _ (by simp)).alloc _ _ (by simp)
            have hX2 := hX
            simp only [keysCells, oneS] at hX2
            have HX9 := Lib.hid hX2
            have HZ1 := Lib.hid (show X1.heap.size = w18.heap.size + 1 + 1 + 1 + 1 by rw [← hX]; simp)
            clear hX hX2
            go_upto_region 20 with (fail)
            rw [HX9.out]
            clear a0 a1 a2 a3 a4 a5 a6 a7 b0 b1 b2 b3 b4 b5 b6 b7 HX9
            obtain ⟨a0, a1, a2, a3, a4, a5, a6, a7, -⟩ := HST.out (X1.alloc (.cells #[.int .i64 2] 3)) ((through L3.out.1 (Nat.le_refl _) T1.1).alloc (through L3.out.1 (Nat.le_refl _) T1.1).size _)
            obtain ⟨X, hX⟩ : ∃ X, ((((X1.alloc (.cells #[.int .i64 2] 3)).alloc (.cells #[.int .i64 1] 3)).alloc (.cells (lateCells X1.heap.size (X1.heap.size + 1)) 40)).alloc (.cells #[.int .i64 1, .slice (some ⟨X1.heap.size + 1 + 1, 0, none⟩) 3 3] 24)) = X := ⟨_, rfl⟩
            have T0 : Bk w18 [(X1.heap.size + 1 + 1 + 1, 24, #[.int .i64 1, .slice (some ⟨X1.heap.size + 1 + 1, 0, none⟩) 3 3]), (X1.heap.size + 1 + 1, 40, lateCells X1.heap.size (X1.heap.size + 1)), (X1.heap.size + 1, 3, #[.int .i64 1]), (X1.heap.size, 3, #[.int .i64 2]), (w18.heap.size + 1 + 1 + 1, 24, #[.int .i64 1, .slice (some ⟨w18.heap.size + 1 + 1, 0, none⟩) 4 4]), (w18.heap.size + 1 + 1, 40, keysCells i6 w18.heap.size (w18.heap.size + 1)), (w18.heap.size + 1, 3, #[.int .i64 2]), (w18.heap.size, 3, #[.int .i64 0, .int .i64 1])] X := by
              rw [← hX]
              exact (((T1.alloc _ _ rfl).alloc _ _ (by simp)).alloc _ _ (by simp)).alloc _ _ (by simp)
            have hX2 := hX
            simp only [lateCells, oneS] at hX2
            have HX9 := Lib.hid hX2
            clear hX hX2 T1
            go_upto_region 21 with (fail)
            rw [HX9.out]
            clear a0 a1 a2 a3 a4 a5 a6 a7 HX9
            obtain ⟨x1, hx1⟩ : ∃ x, X1.heap.size = x := ⟨_, rfl⟩
            rw [hx1] at T0 ⊢
            clear hx1 HZ1
            have g := fun z hz => T0.2 z hz
            have kb8 : Blk X (w18.heap.size + 1 + 1 + 1) 24 #[.int .i64 1, .slice (some ⟨w18.heap.size + 1 + 1, 0, none⟩) 4 4] := g (w18.heap.size + 1 + 1 + 1, _, _) (by simp)
            have kb9 : Blk X (x1 + 1 + 1 + 1) 24 #[.int .i64 1, .slice (some ⟨x1 + 1 + 1, 0, none⟩) 3 3] := g (x1 + 1 + 1 + 1, _, _) (by simp)
            have kb7 : Blk X n7 24 #[.int .i64 1, .slice (some ⟨o7, 0, none⟩) 5 5] := L3.out.2.2.2.2.1.below T0.1 L3.out.2.2.2.2.1.lt
            have hko := keys_ops (g (w18.heap.size + 1 + 1, _, keysCells i6 w18.heap.size (w18.heap.size + 1)) (by simp)) (HIW.out.below T0.1 HIW.out.lt) (g (w18.heap.size, _, _) (by simp)) (g (w18.heap.size + 1, _, _) (by simp))
            have hlo := late_ops (g (x1 + 1 + 1, _, lateCells x1 (x1 + 1)) (by simp)) (g (x1, _, _) (by simp)) (g (x1 + 1, _, _) (by simp))
            have hco := (HOC.out.below T0.1).more T0.1.size
            have HALL : Hid (∀ Y, Below X.heap.size X Y → (Y.cell? ⟨n7, 0, none⟩ = some (.int .i64 1) ∧ Y.cell? ⟨n7, 1, none⟩ = some (.slice (some ⟨o7, 0, none⟩) 5 5)) ∧ (Y.cell? ⟨w18.heap.size + 1 + 1 + 1, 0, none⟩ = some (.int .i64 1) ∧ Y.cell? ⟨w18.heap.size + 1 + 1 + 1, 1, none⟩ = some (.slice (some ⟨w18.heap.size + 1 + 1, 0, none⟩) 4 4)) ∧ (Y.cell? ⟨x1 + 1 + 1 + 1, 0, none⟩ = some (.int .i64 1) ∧ Y.cell? ⟨x1 + 1 + 1 + 1, 1, none⟩ = some (.slice (some ⟨x1 + 1 + 1, 0, none⟩) 3 3))) := fun Y hY =>
              ⟨spec_blk (kb7.below hY kb7.lt), spec_blk (kb8.below hY kb8.lt), spec_blk (kb9.below hY kb9.lt)⟩
            have HC1 : Hid (∀ Y, Below X.heap.size X Y → Calls Try.prog 28 #[.agg #[.int .i64 1, .slice (some ⟨o7, 0, none⟩) 5 5]] Y fun e w' => e = .returned (.int .i64 9) ∧ Below Y.heap.size Y w') := fun Y hY => circle_chk ▸ check_any 1 _ 5 circleL _ (by decide) Y X.heap.size hY.size (hco.below hY)
            have HC2 : Hid (∀ Y, Below X.heap.size X Y → Calls Try.prog 28 #[.agg #[.int .i64 1, .slice (some ⟨w18.heap.size + 1 + 1, 0, none⟩) 4 4]] Y fun e w' => e = .returned (.int .i64 10) ∧ Below Y.heap.size Y w') := fun Y hY => keys_chk ▸ check_any 1 _ 4 keysL _ (by decide) Y X.heap.size hY.size (hko.below hY)
            have HC3 : Hid (∀ Y, Below X.heap.size X Y → Calls Try.prog 28 #[.agg #[.int .i64 1, .slice (some ⟨x1 + 1 + 1, 0, none⟩) 3 3]] Y fun e w' => e = .returned (.int .i64 0) ∧ Below Y.heap.size Y w') := fun Y hY => late_chk ▸ check_any 1 _ 3 lateL _ (by decide) Y X.heap.size hY.size (hlo.below hY)
            have HC4 : Hid (∀ Y, Below X.heap.size X Y → Calls Try.prog 21 #[.agg #[.int .i64 1, .slice (some ⟨x1 + 1 + 1, 0, none⟩) 3 3]] Y (RetInts Y [1, 2, 0])) := fun Y hY => late_ord ▸ order_any 1 _ 3 lateL _ Y X.heap.size hY.size (hlo.below hY) (by decide)
            have HC5 : Hid (∀ Y, Calls Try.prog 28 #[.agg #[.int .i64 1, .slice none 0 0]] Y fun e w' => e = .returned (.int .i64 3) ∧ Below Y.heap.size Y w') := fun Y => nil_chk1 ▸ check_any 1 none 0 [] (fun _ => (none, 0)) (by decide) Y Y.heap.size (Nat.le_refl _) (nil_ops _ _ _)
            have HC6 : Hid (∀ Y, Calls Try.prog 28 #[.agg #[.int .i64 0, .slice none 0 0]] Y fun e w' => e = .returned (.int .i64 1) ∧ Below Y.heap.size Y w') := fun Y => nil_chk0 ▸ check_any 0 none 0 [] (fun _ => (none, 0)) (by decide) Y Y.heap.size (Nat.le_refl _) (nil_ops _ _ _)
            have HBX := Lib.hid (through (through B6.out (Nat.le_refl _) L3.out.1) (Nat.le_refl _) T0.1)
            have HB0 := Lib.hid (Below.refl X.heap.size X)
            clear T0 g kb7 kb8 kb9 hko hlo hco HOC HIW L3 KA3 KB2 KQ2 KD hs5
            obtain ⟨⟨s0, s1⟩, ⟨t0, t1⟩, u0, u1⟩ := HALL.out X HB0.out
            (
  go_wp2_with fail
  refine (HC1.out _ HB0.out).mono ?_
  rintro e v1 ⟨rfl, hx⟩
  have HB1 := Lib.hid (through HB0.out (Nat.le_refl _) hx)
  clear hx s0 s1 t0 t1 u0 u1
  obtain ⟨⟨s0, s1⟩, ⟨t0, t1⟩, u0, u1⟩ := HALL.out _ HB1.out)
            (
  go_wp2_with fail
  refine (HC2.out _ HB1.out).mono ?_
  rintro e v2 ⟨rfl, hx⟩
  have HB2 := Lib.hid (through HB1.out (Nat.le_refl _) hx)
  clear hx s0 s1 t0 t1 u0 u1
  obtain ⟨⟨s0, s1⟩, ⟨t0, t1⟩, u0, u1⟩ := HALL.out _ HB2.out)
            (
  go_wp2_with fail
  refine (HC3.out _ HB2.out).mono ?_
  rintro e v3 ⟨rfl, hx⟩
  have HB3 := Lib.hid (through HB2.out (Nat.le_refl _) hx)
  clear hx s0 s1 t0 t1 u0 u1
  obtain ⟨⟨s0, s1⟩, ⟨t0, t1⟩, u0, u1⟩ := HALL.out _ HB3.out)
            go_wp2_with fail
            refine (HC4.out _ HB3.out).mono ?_
            rintro e v4 ⟨A4, c4, rfl, own4, hx⟩
            have HB4 := Lib.hid (through HB3.out (Nat.le_refl _) hx)
            have HO4 := Lib.hid own4
            clear hx own4 s0 s1 t0 t1 u0 u1
            have HSM4 := Lib.hid (sameInts_any A4 (some ⟨v4.heap.size, 0, none⟩) c4 3 [1, 2, 0] [1, 2, 0] _ _ (v4.alloc (.cells #[.int .i64 1, .int .i64 2, .int .i64 0] 3)) (HO4.out.alloc _).ints (ints_blk (xs := [1, 2, 0]) (Blk.new _ _ _) (by decide) (by simp [In64])))
            rw [sameB_yes rfl] at HSM4
            go_wp2_with fail
            refine HSM4.out.mono ?_
            rintro e v5 ⟨rfl, hx⟩
            have HB5 := Lib.hid (through (HB4.out.alloc HB4.out.size _) (Nat.le_refl _) hx)
            clear hx HSM4 HO4
            go_wp2_with fail
            refine (HC5.out _).mono ?_
            rintro e v6 ⟨rfl, hx⟩
            have HB6 := Lib.hid (through HB5.out (Nat.le_refl _) hx)
            clear hx
            go_wp2_with fail
            refine (HC6.out _).mono ?_
            rintro e v7 ⟨rfl, hx⟩
            have HB7 := Lib.hid (through HB6.out (Nat.le_refl _) hx)
            clear hx
            go_wp2_with fail
            refine (known_any _).mono ?_
            rintro e v8 ⟨rfl, hx⟩
            have HB8 := Lib.hid (through (through HBX.out (Nat.le_refl _) HB7.out) (Nat.le_refl _) hx)
            clear hx
            go_wp2_with fail
            go_returns
            exact ⟨rfl, HB8.out⟩

end Go.Proofs.Ytcechimilefihaa.Sp
