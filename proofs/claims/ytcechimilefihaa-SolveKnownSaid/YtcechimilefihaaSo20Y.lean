/- The law: the answer does not hang on how many tasks there are, nor on how often all was measured. -/
import Derived.Test.YtcechimilefihaaSoSY
import Derived.Test.YtcechimilefihaaZo
import Derived.Test.YtcechimilefihaaPickY
import Derived.Deep.RegionHeld3

namespace Go.Proofs.Ytcechimilefihaa.So
open Go.ChangeShapes Go.WideShapes Go.ChangeAt Go.RowKit M Sp Fr

theorem scale_take {ms : List Q4} {ts : List Int} {k : Nat} {u : Q4} (hk : k < ms.length) (hu : scaleM ts k (ms.getD k z4) = u) : (scaleL ms ts).take (k + 1) = (scaleL ms ts).take k ++ [u] :=
  quads_take (by rw [scale_len]; exact hk) ((scale_get hk).trans hu)
theorem times_in {ts : List Int} {k : Nat} {v : Int} (h : k < ts.length) (hv : ts.getD k 0 = v) : timesF ts k = 1 + pickF v 1000 := by
  unfold timesF; rw [if_pos h, hv, pickF_pos (by decide)]
theorem times_out {ts : List Int} {k : Nat} (h : ¬ k < ts.length) : timesF ts k = 1 := by unfold timesF; rw [if_neg h]
theorem c3_keep {w wr Y : World} {b o : Nat} {x y z : Value} (hb : b < w.heap.size) (h : wr.cell? ⟨b, o, none⟩ = some x ∧ wr.cell? ⟨b, o + 1, none⟩ = some y ∧ wr.cell? ⟨b, o + 2, none⟩ = some z) (hw : Below w.heap.size w wr) (hY : Below w.heap.size w Y) : Y.cell? ⟨b, o, none⟩ = some x ∧ Y.cell? ⟨b, o + 1, none⟩ = some y ∧ Y.cell? ⟨b, o + 2, none⟩ = some z :=
  have f : ∀ {i : Nat} {v : Value}, wr.cell? ⟨b, i, none⟩ = some v → Y.cell? ⟨b, i, none⟩ = some v := fun {i} {_v} hv => ((hY.cell (p := ⟨b, i, none⟩) hb).trans (hw.cell (p := ⟨b, i, none⟩) hb).symm).trans hv
  ⟨f h.1, f h.2.1, f h.2.2⟩
theorem wrap_of {n : Int} (h0 : 0 ≤ n) (h1 : n ≤ 1048576000) : IntKind.i64.wrap n = n := by rw [IntKind.wrap_i64]; omega
theorem mul_bd' {a k : Int} (h0 : 0 ≤ a) (h1 : a ≤ 1048576) (h2 : 0 ≤ k) (h3 : k < 1000) : 0 ≤ a * (1 + k) ∧ a * (1 + k) ≤ 1048576000 := mul_bd h0 h1 (by omega) (by omega)

set_option maxRecDepth 100000 in
set_option maxHeartbeats 8000000 in
theorem solveSteady_any (g most : Int) (A M C O TT : Option Addr) (c mc cc oc tc : Nat) (l : List OpP) (p : Nat → Option Addr × Nat) (ms : List Q4) (cur oth ts : List Int) (hl : l.length ≤ 9223372036854775807) (w : World) (B : Nat) (hB : B ≤ w.heap.size) (h : IsOps w B A l p) (hm : IsQuads w B M mc ms) (hc : IsInts w B ⟨C, cc, cur⟩) (ho : IsInts w B ⟨O, oc, oth⟩) (ht : IsInts w B ⟨TT, tc, ts⟩) :
    Calls Try.prog 9 #[.agg #[.int .i64 g, .slice A l.length c], .slice M ms.length mc, .slice C cur.length cc, .slice O oth.length oc, .slice TT ts.length tc, .int .i64 most] w fun e w' => e = .returned (.bool true) ∧ Below w.heap.size w w' := by
  have T0 := (Bs.nil w w.heap.size).alloc (Nat.le_refl _) #[.int .i64 g, .slice A l.length c] 24 rfl
  obtain ⟨X, hX⟩ : ∃ X, w.alloc (.cells #[.int .i64 g, .slice A l.length c] 24) = X := ⟨_, rfl⟩
  rw [hX] at T0
  have T := Lib.hid T0
  have HW : Hid (∀ Y, Below w.heap.size w Y → IsOps Y w.heap.size A l p ∧ IsQuads Y w.heap.size M mc ms ∧ IsInts Y w.heap.size ⟨C, cc, cur⟩ ∧ IsInts Y w.heap.size ⟨O, oc, oth⟩ ∧ IsInts Y w.heap.size ⟨TT, tc, ts⟩ ∧ w.heap.size ≤ Y.heap.size) := fun Y hY =>
    ⟨(h.below (hY.mono hB)).more hB, (hm.below (hY.mono hB)).more hB, (hc.below (hY.mono hB)).more hB, (ho.below (hY.mono hB)).more hB, (ht.below (hY.mono hB)).more hB, hY.size⟩
  have HR1 := Lib.hid (fun Y (hY : Below w.heap.size w Y) => right_any g most A M C c mc cc l p ms cur hl Y w.heap.size (HW.out Y hY).2.2.2.2.2 (HW.out Y hY).1 (HW.out Y hY).2.1 (HW.out Y hY).2.2.1)
  have HR2 := Lib.hid (fun Y (hY : Below w.heap.size w Y) => right_any g most A M O c mc oc l p ms oth hl Y w.heap.size (HW.out Y hY).2.2.2.2.2 (HW.out Y hY).1 (HW.out Y hY).2.1 (HW.out Y hY).2.2.2.1)
  have hq64 := hm.2.2.2
  have hi64 := hc.2.2.2
  have ho64 := ho.2.2.2
  have hts : (ts.length : Int) ≤ 9223372036854775807 := by have h1 := ht.2.1; have h2 := ht.2.2.1; unfold maxLen at h2; simp only at h1 h2; omega
  clear T0 h hm hc ho ht
  obtain ⟨s0, s1⟩ := Sp.spec_blk T.out.g0
  have HX := Lib.hid hX
  clear hX
  cases hR : rightB g most l ms cur with
  | false =>
    rw [hR] at HR1
    clear hR HR2
    go_enter Try.func9, Try.ntmps9
    go_upto_region 1 with (fail)
    rw [HX.out]
    go_wp2_with fail
    refine (HR1.out _ T.out.1).mono ?_
    rintro e w1 ⟨rfl, hb1⟩
    have T1 := Lib.hid (T.out.step (Nat.le_refl _) hb1)
    (clear T; have T := T1; clear T1)
    clear hb1 s0 s1
    go_wp2_with fail
    (refine (works_any _).mono ?_; rintro e w9 ⟨rfl, hb9⟩; have HB9 := Lib.hid (through T.out.1 (Nat.le_refl _) hb9); clear hb9; go_wp2_with fail; go_returns; exact ⟨rfl, HB9.out⟩)
  | true =>
    cases hS : rightB g most l ms oth with
    | false =>
      rw [hR] at HR1
      rw [hS] at HR2
      clear hR hS
      go_enter Try.func9, Try.ntmps9
      go_upto_region 1 with (fail)
      rw [HX.out]
      go_wp2_with fail
      refine (HR1.out _ T.out.1).mono ?_
      rintro e w1 ⟨rfl, hb1⟩
      have T1 := Lib.hid (T.out.step (Nat.le_refl _) hb1)
      (clear T; have T := T1; clear T1)
      clear hb1 s0 s1
      obtain ⟨s0, s1⟩ := Sp.spec_blk T.out.g0
      go_wp2_with fail
      refine (HR2.out _ T.out.1).mono ?_
      rintro e w2 ⟨rfl, hb2⟩
      have T1 := Lib.hid (T.out.step (Nat.le_refl _) hb2)
      (clear T; have T := T1; clear T1)
      clear hb2 s0 s1
      go_wp2_with fail
      (refine (works_any _).mono ?_; rintro e w9 ⟨rfl, hb9⟩; have HB9 := Lib.hid (through T.out.1 (Nat.le_refl _) hb9); clear hb9; go_wp2_with fail; go_returns; exact ⟨rfl, HB9.out⟩)
    | true =>
      have hok := rightB_ok hR hq64 hi64
      have hok2 := rightB_ok hS hq64 ho64
      rw [hR] at HR1
      rw [hS] at HR2
      have HOK := Lib.hid hok
      have HOK2 := Lib.hid hok2
      have hml := hok.mlen
      have hcl := hok.clen
      have hol := hok2.clen
      have hl12 := hok.nlen
      rw [hml, hcl] at HR1
      rw [hml, hol] at HR2
      rw [hml, hcl, hol]
      have HML := Lib.hid hml
      have HCL := Lib.hid hcl
      have HOL := Lib.hid hol
      have HPK := Lib.hid (fun v (hv : In64 v) Y => pick_any v 1000 Y (by unfold In64; omega) hv)
      have HPB := Lib.hid (fun v => pickF_bd (k := v) (n := 1000) (by decide))
      clear hR hS hok hok2 hml hcl hol hq64 hi64 ho64
      go_enter Try.func9, Try.ntmps9
      go_upto_region 1 with (fail)
      rw [HX.out]
      go_wp2_with fail
      refine (HR1.out _ T.out.1).mono ?_
      rintro e w1 ⟨rfl, hb1⟩
      have T1 := Lib.hid (T.out.step (Nat.le_refl _) hb1)
      (clear T; have T := T1; clear T1)
      clear hb1 s0 s1
      obtain ⟨s0, s1⟩ := Sp.spec_blk T.out.g0
      go_wp2_with fail
      refine (HR2.out _ T.out.1).mono ?_
      rintro e wb ⟨rfl, hb2⟩
      have T1 := Lib.hid (T.out.step (Nat.le_refl _) hb2)
      (clear T; have T := T1; clear T1)
      clear hb2 s0 s1 HR1 HR2 HX
      have hww : w.heap.size < wb.heap.size := T.out.g0.lt
      go_wp2_with fail
      go_loopw [13, 14] (fun v u wr => ∃ k : Nat, k ≤ l.length ∧ u = .int .i64 k ∧ Bs w w.heap.size [(w.heap.size, 24, #[.int .i64 g, .slice A l.length c])] wr ∧ OwnQ 55 wr wb.heap.size v ((scaleL ms ts).take k) ∧ Below wb.heap.size wb wr ∧ ∀ j, j < k → smallM (ms.getD j z4)) (fun _ u _ => l.length - (intOf u).toNat)
      case atStart => exact ⟨0, by omega, rfl, T.out, OwnQ.nil _ _ _, Below.refl _ _, fun j hj => absurd hj (by omega)⟩
      case round =>
        clear T
        obtain ⟨k, hk, rfl, htr, hown, hbb, hall⟩ := hrel
        have T := Lib.hid htr
        have HOW := Lib.hid hown
        have HBB := Lib.hid hbb
        have HA := Lib.hid hall
        clear htr hown hbb hall
        by_cases hlt : k < l.length
        · obtain ⟨b, o, x, rfl, hb, HV, h4, c0, c1, c2, c3⟩ := quads_at (HW.out wr T.out.1).2.1 (k := k) (by rw [HML.out]; exact hlt)
          obtain ⟨ma, mb, md, me⟩ := x
          simp only at c0 c1 c2 c3
          by_cases n0 : 1048576 < ma
          · go_wp2_with fail
            (refine (works_any _).mono ?_; rintro e w9 ⟨rfl, hb9⟩; have HB9 := Lib.hid (through T.out.1 (Nat.le_refl _) hb9); clear hb9; go_wp2_with fail; go_returns; exact ⟨rfl, HB9.out⟩)
          · have d0 : decide (1048576 < ma) = false := by simpa using n0
            by_cases n1 : 1048576 < mb
            · go_wp2_with fail
              (refine (works_any _).mono ?_; rintro e w9 ⟨rfl, hb9⟩; have HB9 := Lib.hid (through T.out.1 (Nat.le_refl _) hb9); clear hb9; go_wp2_with fail; go_returns; exact ⟨rfl, HB9.out⟩)
            · have d1 : decide (1048576 < mb) = false := by simpa using n1
              by_cases n2 : 1048576 < md
              · go_wp2_with fail
                (refine (works_any _).mono ?_; rintro e w9 ⟨rfl, hb9⟩; have HB9 := Lib.hid (through T.out.1 (Nat.le_refl _) hb9); clear hb9; go_wp2_with fail; go_returns; exact ⟨rfl, HB9.out⟩)
              · have d2 : decide (1048576 < md) = false := by simpa using n2
                have hmo : MeaOk (ma, mb, md, me) := by have := HOK.out.mea k hlt; rwa [show meaOf ms k = (ma, mb, md, me) from HV.out] at this
                obtain ⟨x0, x1, x2, x3, x4, x5⟩ := hmo
                simp only at x0 x1 x2 x3 x4 x5
                have HSM := Lib.hid (show smallM (ma, mb, md, me) from ⟨by show ma ≤ _; omega, by show mb ≤ _; omega, by show md ≤ _; omega⟩)
                have HLN := Lib.hid (show ((scaleL ms ts).take k).length < 1000000000 by rw [List.length_take]; omega)
                clear h4 c3
                by_cases htk : k < ts.length
                · obtain ⟨tb, t1, tv, rfl, htb, HTV, htv, tc0⟩ := Sp.ints_at (HW.out wr T.out.1).2.2.2.2.1 htk
                  have HP := Lib.hid (fun Y => HPK.out tv htv Y)
                  have hpb := HPB.out tv
                  have htm := times_in htk HTV.out
                  obtain ⟨pf, hpf⟩ : ∃ q, pickF tv 1000 = q := ⟨_, rfl⟩
                  rw [hpf] at HP hpb htm
                  obtain ⟨hp0, hp1⟩ := hpb
                  have ET := Lib.hid (scale_take (ts := ts) (k := k) (u := (ma * (1 + pf), mb * (1 + pf), md * (1 + pf), (k : Int))) (by rw [HML.out]; exact hlt) (by rw [HV.out]; unfold scaleM; rw [htm]))
                  obtain ⟨m0, m1⟩ := mul_bd' x0 (show ma ≤ 1048576 by omega) hp0 hp1
                  obtain ⟨m2, m3⟩ := mul_bd' x2 (show mb ≤ 1048576 by omega) hp0 hp1
                  obtain ⟨m4, m5⟩ := mul_bd' x4 (show md ≤ 1048576 by omega) hp0 hp1
                  have v1 := wrap_of m0 m1
                  have v2 := wrap_of m2 m3
                  have v3 := wrap_of m4 m5
                  clear hpf htm
                  go_wp2_with fail
                  refine (HP.out _).mono ?_
                  rintro e wz ⟨rfl, rfl⟩
                  (
  have HU := Lib.hid (show In4 (ma * (1 + pf), mb * (1 + pf), md * (1 + pf), (k : Int)) by unfold In4 In64; simp only; omega)
  have HN := Lib.hid ((Blk.new wr 55 #[.int .i64 (ma * (1 + pf)), .int .i64 (mb * (1 + pf)), .int .i64 (md * (1 + pf)), .int .i64 (k : Int)]).drew)
  have HOW2 := Lib.hid ((HOW.out.alloc (.cells #[.int .i64 (ma * (1 + pf)), .int .i64 (mb * (1 + pf)), .int .i64 (md * (1 + pf)), .int .i64 (k : Int)] 55)).drew)
  have HAP : Hid (∀ w', (wr.alloc (.cells #[.int .i64 (ma * (1 + pf)), .int .i64 (mb * (1 + pf)), .int .i64 (md * (1 + pf)), .int .i64 (k : Int)] 55)).drew.grownBy w' (Value.ownBlock u13) → Bs w w.heap.size [(w.heap.size, 24, #[.int .i64 g, .slice A l.length c])] w' ∧ Below wb.heap.size wb w') := fun w' hg =>
    ⟨⟨((T.out.1.alloc T.out.1.size _).drew).grown hg (by have := T.out.1.size; simp; omega) (fun z hz => by have := (HOW.out.blk z hz).1; omega), fun z hz => by
      obtain rfl : z = (w.heap.size, 24, #[.int .i64 g, .slice A l.length c]) := by simpa using hz
      exact ((T.out.g0.alloc _).drew).grown hg (fun e => by have := (HOW.out.blk _ e.symm).1; simp only at this; omega)⟩, ((HBB.out.alloc HBB.out.size _).drew).grown hg (by have := HBB.out.size; simp; omega) (fun z hz => (HOW.out.blk z hz).1)⟩
  go_upto_region 12 with (fail)
  go_region_held3 (fun w' => (w'.cell? ⟨b, o + k * 4, none⟩ = some (.int .i64 ma) ∧ w'.cell? ⟨b, o + k * 4 + 1, none⟩ = some (.int .i64 mb) ∧ w'.cell? ⟨b, o + k * 4 + 2, none⟩ = some (.int .i64 md)))
    (first | exact ⟨c0, c1, c2⟩ | exact c3_keep hb ⟨c0, c1, c2⟩ T.out.1 T.out.1.drew | exact c3_keep hb ⟨c0, c1, c2⟩ T.out.1 ((T.out.1.alloc T.out.1.size _).drew) | exact c3_keep hb ⟨c0, c1, c2⟩ T.out.1 hap.1.1)
    ((first
      | (rw [if_pos (by kernel_rfl)]; refine wp_quad qtMea (.tmp 78) (.tmp 102) rfl wb.heap.size (by rfl) HOW2.out HU.out ⟨wr.heap.size, 0, none⟩ (by rfl) (HN.out.cell 0) (HN.out.cell 1) (HN.out.cell 2) (HN.out.cell 3) HLN.out (by have h9 := HBB.out.size; simp; omega) ?_; intro A3 c3' w3 h3 g3; have hap := HAP.out _ g3)))
  have HN2 := Lib.hid h3
  have HB3 := Lib.hid hap
  clear h3 g3 hap
  go_wp2
  go_roundw
  case rel => exact ⟨k + 1, by omega, by go_num, HB3.out.1, by rw [ET.out]; have h9 := HN2.out; rw [List.length_take] at h9; exact h9, HB3.out.2, fun j hj => by
    rcases (show j < k ∨ j = k by omega) with h | rfl
    · exact HA.out j h
    · rw [HV.out]; exact HSM.out⟩
  case measure => simp [intOf]; omega)
                · have htm := times_out htk
                  have ET := Lib.hid (scale_take (ts := ts) (k := k) (u := (ma, mb, md, (k : Int))) (by rw [HML.out]; exact hlt) (by rw [HV.out]; unfold scaleM; rw [htm]; simp only [Int.mul_one]))
                  have v1 := wrap_of (n := ma) (by omega) (by omega)
                  have v2 := wrap_of (n := mb) (by omega) (by omega)
                  have v3 := wrap_of (n := md) (by omega) (by omega)
                  clear htm
                  go_wp2_with fail
                  (
  have HU := Lib.hid (show In4 (ma, mb, md, (k : Int)) by unfold In4 In64; simp only; omega)
  have HN := Lib.hid ((Blk.new wr 55 #[.int .i64 (ma), .int .i64 (mb), .int .i64 (md), .int .i64 (k : Int)]).drew)
  have HOW2 := Lib.hid ((HOW.out.alloc (.cells #[.int .i64 (ma), .int .i64 (mb), .int .i64 (md), .int .i64 (k : Int)] 55)).drew)
  have HAP : Hid (∀ w', (wr.alloc (.cells #[.int .i64 (ma), .int .i64 (mb), .int .i64 (md), .int .i64 (k : Int)] 55)).drew.grownBy w' (Value.ownBlock u13) → Bs w w.heap.size [(w.heap.size, 24, #[.int .i64 g, .slice A l.length c])] w' ∧ Below wb.heap.size wb w') := fun w' hg =>
    ⟨⟨((T.out.1.alloc T.out.1.size _).drew).grown hg (by have := T.out.1.size; simp; omega) (fun z hz => by have := (HOW.out.blk z hz).1; omega), fun z hz => by
      obtain rfl : z = (w.heap.size, 24, #[.int .i64 g, .slice A l.length c]) := by simpa using hz
      exact ((T.out.g0.alloc _).drew).grown hg (fun e => by have := (HOW.out.blk _ e.symm).1; simp only at this; omega)⟩, ((HBB.out.alloc HBB.out.size _).drew).grown hg (by have := HBB.out.size; simp; omega) (fun z hz => (HOW.out.blk z hz).1)⟩
  go_upto_region 12 with (fail)
  go_region_held3 (fun w' => (w'.cell? ⟨b, o + k * 4, none⟩ = some (.int .i64 ma) ∧ w'.cell? ⟨b, o + k * 4 + 1, none⟩ = some (.int .i64 mb) ∧ w'.cell? ⟨b, o + k * 4 + 2, none⟩ = some (.int .i64 md)))
    (first | exact ⟨c0, c1, c2⟩ | exact c3_keep hb ⟨c0, c1, c2⟩ T.out.1 T.out.1.drew | exact c3_keep hb ⟨c0, c1, c2⟩ T.out.1 ((T.out.1.alloc T.out.1.size _).drew) | exact c3_keep hb ⟨c0, c1, c2⟩ T.out.1 hap.1.1)
    ((first
      | (rw [if_pos (by kernel_rfl)]; refine wp_quad qtMea (.tmp 78) (.tmp 102) rfl wb.heap.size (by rfl) HOW2.out HU.out ⟨wr.heap.size, 0, none⟩ (by rfl) (HN.out.cell 0) (HN.out.cell 1) (HN.out.cell 2) (HN.out.cell 3) HLN.out (by have h9 := HBB.out.size; simp; omega) ?_; intro A3 c3' w3 h3 g3; have hap := HAP.out _ g3)))
  have HN2 := Lib.hid h3
  have HB3 := Lib.hid hap
  clear h3 g3 hap
  go_wp2
  go_roundw
  case rel => exact ⟨k + 1, by omega, by go_num, HB3.out.1, by rw [ET.out]; have h9 := HN2.out; rw [List.length_take] at h9; exact h9, HB3.out.2, fun j hj => by
    rcases (show j < k ∨ j = k by omega) with h | rfl
    · exact HA.out j h
    · rw [HV.out]; exact HSM.out⟩
  case measure => simp [intOf]; omega)
        · obtain rfl : k = l.length := by omega
          have hst : (scaleL ms ts).take l.length = scaleL ms ts := List.take_of_length_le (by rw [scale_len, HML.out]; exact Nat.le_refl _)
          have hxo := HOW.out
          rw [hst] at hxo
          obtain ⟨xa, xc, rfl⟩ := hxo.form
          have hxl : (scaleL ms ts).length = l.length := by rw [scale_len]; exact HML.out
          have HXQ := Lib.hid hxo.quads
          have HXL := Lib.hid hxl
          obtain ⟨kx, ex⟩ := scale_ok (ts := ts) HOK.out HA.out
          obtain ⟨k2, f2, o2⟩ := steady_again HOK.out
          obtain ⟨kx2, ex2⟩ := scale_ok (ts := ts) k2 HA.out
          obtain ⟨f1, o1⟩ := steady_out HOK.out HOK2.out
          rw [hxl]
          clear hst hxl hxo HOW HA
          obtain ⟨a, ha⟩ : ∃ a, (solF g most l ms cur).out = a := ⟨_, rfl⟩
          obtain ⟨f, hf⟩ : ∃ f, (solF g most l ms cur).first = f := ⟨_, rfl⟩
          obtain ⟨d, hd⟩ : ∃ d, (solF g most l ms oth).out = d := ⟨_, rfl⟩
          rw [ha] at k2 f2 o2 kx2 ex2 o1
          rw [hf] at f2 f1 o1
          rw [hd] at o1
          have E1 := Lib.hid (And.intro ha hf)
          have E2 := Lib.hid (And.intro hd f1.symm)
          have E3 := Lib.hid (show (solF g most l (scaleL ms ts) cur).out = a ∧ (solF g most l (scaleL ms ts) cur).first = f by rw [ex]; exact ⟨ha, hf⟩)
          have E4 := Lib.hid (show (solF g most l (scaleL ms ts) a).out = a ∧ (solF g most l (scaleL ms ts) a).first = f by rw [ex2]; exact ⟨o2, f2⟩)
          have HK3 := Lib.hid kx
          have HK4 := Lib.hid kx2
          have HO9 := Lib.hid o1
          clear kx ex k2 f2 o2 kx2 ex2 f1 o1 ha hf hd
          obtain ⟨s0, s1⟩ := Sp.spec_blk T.out.g0
          have HS := Lib.hid (solve_any g most A M C c mc cc l p ms cur wr w.heap.size T.out.1.size (HW.out wr T.out.1).1 (HW.out wr T.out.1).2.1 (HW.out wr T.out.1).2.2.1 HOK.out)
          rw [HML.out, HCL.out] at HS
          go_wp2_with fail
          (
  refine HS.out.mono ?_
  rintro e w2 hr
  obtain ⟨R1, k1, rfl, own1, hb7⟩ := hr.as E1.out.1 E1.out.2
  have T1 := Lib.hid (T.out.step (Nat.le_refl _) hb7)
  (clear T; have T := T1; clear T1)
  clear hr HS s0 s1
  obtain ⟨s0, s1⟩ := Sp.spec_blk T.out.g0)
          have HO1 := Lib.hid own1
          have HX2 := Lib.hid ((HXQ.out.below hb7).more hb7.size)
          clear own1 hb7 HXQ
          have HS := Lib.hid (solve_any g most A M O c mc oc l p ms oth w2 w.heap.size T.out.1.size (HW.out w2 T.out.1).1 (HW.out w2 T.out.1).2.1 (HW.out w2 T.out.1).2.2.2.1 HOK2.out)
          rw [HML.out, HOL.out] at HS
          go_wp2_with fail
          (
  refine HS.out.mono ?_
  rintro e w3 hr
  obtain ⟨R2, k2, rfl, own2, hb7⟩ := hr.as E2.out.1 E2.out.2
  have T1 := Lib.hid (T.out.step (Nat.le_refl _) hb7)
  (clear T; have T := T1; clear T1)
  clear hr HS s0 s1
  obtain ⟨s0, s1⟩ := Sp.spec_blk T.out.g0)
          have HO2 := Lib.hid own2
          have HX3 := Lib.hid ((HX2.out.below hb7).more hb7.size)
          have X := Lib.hid (HO1.out.below hb7); clear HO1; have HO1 := X; clear X
          clear own2 hb7 HX2
          have HS := Lib.hid (solve_any g most A xa C c xc cc l p (scaleL ms ts) cur w3 w3.heap.size (Nat.le_refl _) ((HW.out w3 T.out.1).1.more T.out.1.size) HX3.out ((HW.out w3 T.out.1).2.2.1.more T.out.1.size) HK3.out)
          rw [HXL.out, HCL.out] at HS
          go_wp2_with fail
          (
  refine HS.out.mono ?_
  rintro e w4 hr
  obtain ⟨R3, k3, rfl, own3, hb7⟩ := hr.as E3.out.1 E3.out.2
  have T1 := Lib.hid (T.out.step (Nat.le_refl _) hb7)
  (clear T; have T := T1; clear T1)
  clear hr HS s0 s1
  obtain ⟨s0, s1⟩ := Sp.spec_blk T.out.g0)
          have HO3 := Lib.hid own3
          have HX4 := Lib.hid ((HX3.out.below hb7).more hb7.size)
          have X := Lib.hid (HO1.out.below hb7); clear HO1; have HO1 := X; clear X
          have X := Lib.hid (HO2.out.below hb7); clear HO2; have HO2 := X; clear X
          clear own3 hb7 HX3
          have HS := Lib.hid (solve_any g most A xa R1 c xc k1 l p (scaleL ms ts) a w4 w4.heap.size (Nat.le_refl _) ((HW.out w4 T.out.1).1.more T.out.1.size) HX4.out HO1.out.ints HK4.out)
          rw [HXL.out] at HS
          go_wp2_with fail
          (
  refine HS.out.mono ?_
  rintro e w5 hr
  obtain ⟨R4, k4, rfl, own4, hb7⟩ := hr.as E4.out.1 E4.out.2
  have T1 := Lib.hid (T.out.step (Nat.le_refl _) hb7)
  (clear T; have T := T1; clear T1)
  clear hr HS s0 s1
  obtain ⟨s0, s1⟩ := Sp.spec_blk T.out.g0)
          have HO4 := Lib.hid own4
          have X := Lib.hid (HO1.out.below hb7); clear HO1; have HO1 := X; clear X
          have X := Lib.hid (HO2.out.below hb7); clear HO2; have HO2 := X; clear X
          have X := Lib.hid (HO3.out.below hb7); clear HO3; have HO3 := X; clear X
          clear own4 hb7 HX4 E1 E2 E3 E4 HK3 HK4 HOK HOK2
          have tff : (f != f) = false := by simp
          (
  have HSA := Lib.hid (sameInts_any R1 R3 k1 k3 a a _ _ _ HO1.out.ints HO3.out.ints)
  rw [sameB_yes rfl] at HSA
  go_wp2_with fail
  refine HSA.out.mono ?_
  rintro e w7 ⟨rfl, hb7⟩
  have T1 := Lib.hid (T.out.step (Nat.le_refl _) hb7)
  (clear T; have T := T1; clear T1))
          have X := Lib.hid (HO1.out.below hb7); clear HO1; have HO1 := X; clear X
          have X := Lib.hid (HO2.out.below hb7); clear HO2; have HO2 := X; clear X
          have X := Lib.hid (HO4.out.below hb7); clear HO4; have HO4 := X; clear X
          clear hb7 HSA HO3
          (
  have HSA := Lib.hid (sameInts_any R1 R4 k1 k4 a a _ _ _ HO1.out.ints HO4.out.ints)
  rw [sameB_yes rfl] at HSA
  go_wp2_with fail
  refine HSA.out.mono ?_
  rintro e w7 ⟨rfl, hb7⟩
  have T1 := Lib.hid (T.out.step (Nat.le_refl _) hb7)
  (clear T; have T := T1; clear T1))
          have X := Lib.hid (HO1.out.below hb7); clear HO1; have HO1 := X; clear X
          have X := Lib.hid (HO2.out.below hb7); clear HO2; have HO2 := X; clear X
          clear hb7 HSA HO4
          by_cases hf0 : f = 0
          · obtain rfl := HO9.out hf0
            subst hf0
            (
  have HSA := Lib.hid (sameInts_any R1 R2 k1 k2 a a _ _ _ HO1.out.ints HO2.out.ints)
  rw [sameB_yes rfl] at HSA
  go_wp2_with fail
  refine HSA.out.mono ?_
  rintro e w7 ⟨rfl, hb7⟩
  have T1 := Lib.hid (T.out.step (Nat.le_refl _) hb7)
  (clear T; have T := T1; clear T1))
            clear hb7 HSA HO1 HO2
            go_wp2_with fail
            (refine (works_any _).mono ?_; rintro e w9 ⟨rfl, hb9⟩; have HB9 := Lib.hid (through T.out.1 (Nat.le_refl _) hb9); clear hb9; go_wp2_with fail; go_returns; exact ⟨rfl, HB9.out⟩)
          · have tf : (f != 0) = true := by simpa using hf0
            clear HO1 HO2
            go_wp2_with fail
            (refine (works_any _).mono ?_; rintro e w9 ⟨rfl, hb9⟩; have HB9 := Lib.hid (through T.out.1 (Nat.le_refl _) hb9); clear hb9; go_wp2_with fail; go_returns; exact ⟨rfl, HB9.out⟩)
end Go.Proofs.Ytcechimilefihaa.So
