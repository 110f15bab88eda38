/- The law: by whatever was measured it is told how many tasks each operator needs. -/
import Derived.Test.YtcechimilefihaaZn
import Derived.Test.YtcechimilefihaaZo
import Derived.Test.YtcechimilefihaaZj
import Derived.Deep.RegionHeld3

namespace Go.Proofs.Ytcechimilefihaa.So
open Go.ChangeShapes Go.WideShapes Go.ChangeAt Go.RowKit M Sp Fr

theorem ints_head {w : World} {B : Nat} {A : Option Addr} {c : Nat} {xs ys : List Int} (h : IsInts w B ⟨A, c, xs ++ ys⟩) : IsInts w B ⟨A, c, xs⟩ := by
  have := ints_take h xs.length (by simp)
  rwa [List.take_left' rfl] at this

set_option maxRecDepth 100000 in
set_option maxHeartbeats 8000000 in
theorem solveTells_any (g most : Int) (A M C : Option Addr) (c mc cc : Nat) (l : List OpP) (p : Nat → Option Addr × Nat) (ms : List Q4) (cur : List Int) (hl : l.length ≤ 9223372036854775807) (w : World) (B : Nat) (hB : B ≤ w.heap.size) (h : IsOps w B A l p) (hm : IsQuads w B M mc ms) (hc : IsInts w B ⟨C, cc, cur⟩) :
    Calls Try.prog 8 #[.agg #[.int .i64 g, .slice A l.length c], .slice M ms.length mc, .slice C cur.length cc, .int .i64 most] w fun e w' => e = .returned (.bool true) ∧ Below w.heap.size w w' := by
  have T0 := (Bs.nil w w.heap.size).alloc (Nat.le_refl _) #[.int .i64 g, .slice A l.length c] 24 rfl
  obtain ⟨X, hX⟩ : ∃ X, w.alloc (.cells #[.int .i64 g, .slice A l.length c] 24) = X := ⟨_, rfl⟩
  rw [hX] at T0
  have T := Lib.hid T0
  have HW : Hid (∀ Y, Below w.heap.size w Y → IsOps Y w.heap.size A l p ∧ IsQuads Y w.heap.size M mc ms ∧ IsInts Y w.heap.size ⟨C, cc, cur⟩ ∧ w.heap.size ≤ Y.heap.size) := fun Y hY =>
    ⟨(h.below (hY.mono hB)).more hB, (hm.below (hY.mono hB)).more hB, (hc.below (hY.mono hB)).more hB, hY.size⟩
  obtain ⟨i1, i2, i3, i4⟩ := HW.out X T.out.1
  have HRI := Lib.hid (right_any g most A M C c mc cc l p ms cur hl X w.heap.size i4 i1 i2 i3)
  have hq64 := hm.2.2.2
  have hi64 := hc.2.2.2
  clear T0 h hm hc i1 i2 i3 i4
  obtain ⟨s0, s1⟩ := Sp.spec_blk T.out.g0
  have HX := Lib.hid hX
  clear hX
  cases hR : rightB g most l ms cur with
  | false =>
    rw [hR] at HRI
    clear hR
    go_enter Try.func8, Try.ntmps8
    go_upto_region 1 with (fail)
    rw [HX.out]
    go_wp2_with fail
    refine HRI.out.mono ?_
    rintro e w1 ⟨rfl, hb1⟩
    have HB1 := Lib.hid (through T.out.1 (Nat.le_refl _) hb1)
    clear hb1
    go_wp2_with fail
    refine (works_any _).mono ?_
    rintro e w2 ⟨rfl, hb2⟩
    have HB2 := Lib.hid (through HB1.out (Nat.le_refl _) hb2)
    clear hb2
    go_wp2_with fail
    go_returns
    exact ⟨rfl, HB2.out⟩
  | true =>
    have hok := rightB_ok hR hq64 hi64
    rw [hR] at HRI
    have HOK := Lib.hid hok
    have hml := hok.mlen
    have hcl := hok.clen
    have hl12 := hok.nlen
    have HIN := Lib.hid (fun i (hi : i < l.length) => in_len hok.okJ hi)
    rw [hml, hcl] at HRI
    rw [hml, hcl]
    have HML := Lib.hid hml
    have HCL := Lib.hid hcl
    clear hR hok hml hcl hq64 hi64
    go_enter Try.func8, Try.ntmps8
    go_upto_region 1 with (fail)
    rw [HX.out]
    go_wp2_with fail
    refine HRI.out.mono ?_
    rintro e w1 ⟨rfl, hb1⟩
    have T1 := Lib.hid (T.out.step (Nat.le_refl _) hb1)
    (clear T; have T := T1; clear T1)
    clear hb1 s0 s1 HRI
    obtain ⟨s0, s1⟩ := Sp.spec_blk T.out.g0
    obtain ⟨i1, i2, i3, i4⟩ := HW.out w1 T.out.1
    have HCP := Lib.hid (copySpec_any g A c l p (by omega) (fun i hi => by have := HIN.out i hi; omega) w1 w.heap.size i4 i1)
    clear i1 i2 i3 i4
    go_wp2_with fail
    refine HCP.out.mono ?_
    rintro e w2 ⟨A2, c2, p2, rfl, own2, hb2⟩
    have T1 := Lib.hid (T.out.step (Nat.le_refl _) hb2)
    (clear T; have T := T1; clear T1)
    have HO2 := Lib.hid own2
    clear hb2 own2 HCP s0 s1
    obtain ⟨b9, hg⟩ : ∃ k, w2.heap.size = k := ⟨_, rfl⟩
    go_upto_region 4 with (fail)
    obtain ⟨X2, hX⟩ : ∃ W9, (w2.alloc (.cells #[.int .i64 g, .slice A2 l.length c2] 24)) = W9 := ⟨_, rfl⟩
    have HI2 := Lib.hid (show IsOps X2 X2.heap.size A2 l p2 from hX ▸ (HO2.out.ops.alloc (Nat.le_refl _) _).more (by simp))
    have T1 := Lib.hid (T.out.alloc (Nat.le_refl _) #[.int .i64 g, .slice A2 l.length c2] 24 hg)
    (clear T; have T := T1; clear T1)
    rw [hX] at T
    (try rw [hX])
    clear hX hg HO2
    obtain ⟨i1, i2, i3, i4⟩ := HW.out X2 T.out.1
    have HLM := Lib.hid (lentMea_any M mc ms w.heap.size X2 i4 i2 (by rw [HML.out]; omega))
    rw [HML.out] at HLM
    clear i1 i2 i3 i4
    go_wp2_with fail
    refine HLM.out.mono ?_
    rintro e w3 ⟨M2, mc2, rfl, ownm, hb3⟩
    have hlm : (ms ++ marksM).length = l.length + 5 := by rw [List.length_append, HML.out]; rfl
    rw [hlm] at ownm ⊢
    obtain ⟨bm2, om2, -, rfl, -⟩ := quads_at ownm.quads (k := 0) (by rw [hlm]; omega)
    obtain ⟨hbm2, rfl, -⟩ := ownm.own rfl
    clear hlm
    have T1 := Lib.hid (T.out.step (Nat.le_refl _) hb3)
    (clear T; have T := T1; clear T1)
    have HQ3 := Lib.hid ownm.quads
    have HI3 := Lib.hid ((HI2.out.below hb3).more hb3.size)
    clear hb3 ownm HLM HI2 hbm2
    obtain ⟨i1, i2, i3, i4⟩ := HW.out w3 T.out.1
    have HLI := Lib.hid (lentInts_any C cc cur w.heap.size w3 i4 i3 (by rw [HCL.out]; omega))
    rw [HCL.out] at HLI
    clear i1 i2 i3 i4
    go_wp2_with fail
    refine HLI.out.mono ?_
    rintro e w4 ⟨C2, cc2, rfl, ownc, hb4⟩
    have hlc : (cur ++ marksL).length = l.length + 5 := by rw [List.length_append, HCL.out]; rfl
    rw [hlc] at ownc ⊢
    obtain ⟨bc2, oc2, -, rfl, -⟩ := Sp.ints_at ownc.ints (k := 0) (by rw [hlc]; omega)
    obtain ⟨hbc2, rfl, -⟩ := ownc.ints_own rfl
    clear hlc
    have T1 := Lib.hid (T.out.step (Nat.le_refl _) hb4)
    (clear T; have T := T1; clear T1)
    have HC4 := Lib.hid ownc.ints
    have HQ4 := Lib.hid ((HQ3.out.below hb4).more hb4.size)
    have HI4 := Lib.hid ((HI3.out.below hb4).more hb4.size)
    clear hb4 ownc HLI HQ3 HI3 hbc2
    have HWW := Lib.hid T.out.1.size
    -- what is lent, behind whatever call
    have HY : Hid (∀ Y, Below w4.heap.size w4 Y → IsOps Y w4.heap.size A2 l p2 ∧ IsQuads Y w4.heap.size (some ⟨bm2, 0, none⟩) mc2 (ms ++ marksM) ∧ IsInts Y w4.heap.size ⟨some ⟨bc2, 0, none⟩, cc2, cur ++ marksL⟩ ∧ w4.heap.size ≤ Y.heap.size) := fun Y hY =>
      ⟨HI4.out.below hY, HQ4.out.below hY, HC4.out.below hY, hY.size⟩
    have hmc2 : l.length + 5 ≤ mc2 := by have := HQ4.out.2.1; rwa [List.length_append, HML.out] at this
    have hcc2 : l.length + 5 ≤ cc2 := by have := HC4.out.2.1; simp only [List.length_append, HCL.out] at this; exact this
    have hx0 : (0 : Int) ≤ (l.length : Int) := by omega
    have hx1 : (l.length : Int) ≤ (mc2 : Int) := by omega
    have hx2 : (l.length : Int) ≤ (cc2 : Int) := by omega
    have HSO := Lib.hid (fun Y (hY : Below w4.heap.size w4 Y) => solve_any g most A2 (some ⟨bm2, 0, none⟩) (some ⟨bc2, 0, none⟩) c2 mc2 cc2 l p2 ms cur Y w4.heap.size hY.size (HI4.out.below hY) (quads_head (HQ4.out.below hY)) (ints_head (HC4.out.below hY)) HOK.out)
    rw [HML.out, HCL.out] at HSO
    have HRS := Lib.hid (fun Y (hY : Below w.heap.size w Y) => refSolve_any g most A M C c mc cc l p ms cur Y w.heap.size (HW.out Y hY).2.2.2 (HW.out Y hY).1 (HW.out Y hY).2.1 (HW.out Y hY).2.2.1 HOK.out)
    rw [HML.out, HCL.out] at HRS
    have hso := (solSt_ok HOK.out (orderF l).length (Nat.le_of_eq HOK.out.olen)).olen
    change (solF g most l ms cur).out.length = l.length at hso
    generalize solF g most l ms cur = st at *
    obtain ⟨so, sk, sf⟩ := st
    simp only at hso
    have HSL := Lib.hid hso
    clear hso HI4 HQ4 HC4
    obtain ⟨e0, e1⟩ := Sp.spec_blk T.out.g0
    have hb9 : b9 < w4.heap.size := T.out.g0.lt
    go_upto_region 6 with (fail)
    go_region_held3 (fun w' => (w'.cell? ⟨b9, 0, none⟩ = some (.int .i64 g) ∧ w'.cell? ⟨b9, 1, none⟩ = some (.slice A2 l.length c2)))
      (first | exact ⟨e0, e1⟩ | exact s2_keep hb9 ⟨e0, e1⟩ (kB0 hb5))
      ((first | (go_at_call 44; refine (HSO.out _ (Below.refl _ _).drew).mono ?_; rintro e w5 ⟨A5, c5, rfl, own5, hb5⟩)))
    have T1 := Lib.hid (T.out.step (Nat.le_refl _) (kB0 hb5))
    (clear T; have T := T1; clear T1)
    have HB5 := Lib.hid (kB0 hb5)
    have HO5 := Lib.hid (own5.mono (show w4.heap.size ≤ w4.drew.heap.size from Nat.le_refl _))
    clear hb5 own5 e0 e1 HSO hx0 hx1 hx2
    obtain ⟨e0, e1⟩ := Sp.spec_blk T.out.g1
    go_wp2_with fail
    refine (HRS.out _ T.out.1).mono ?_
    rintro e w6 ⟨A6, c6, rfl, own6, hb6⟩
    have T1 := Lib.hid (T.out.step (Nat.le_refl _) hb6)
    (clear T; have T := T1; clear T1)
    have HB6 := Lib.hid (through HB5.out (Nat.le_refl _) hb6)
    have HO5b := Lib.hid (HO5.out.below hb6)
    have HO6 := Lib.hid own6
    clear hb6 own6 e0 e1 HRS HO5 HB5
    have HSA := Lib.hid (sameInts_any A5 A6 c5 c6 so so _ _ w6 HO5b.out.ints HO6.out.ints)
    rw [sameB_yes rfl] at HSA
    have tsf : (sf != sf) = false := by simp
    obtain ⟨e0, e1⟩ := Sp.spec_blk T.out.g0
    obtain ⟨e2, e3⟩ := Sp.spec_blk T.out.g1
    go_wp2_with fail
    refine HSA.out.mono ?_
    rintro e w7 ⟨rfl, hb7⟩
    have T1 := Lib.hid (T.out.step (Nat.le_refl _) hb7)
    (clear T; have T := T1; clear T1)
    have HB7 := Lib.hid (through HB6.out (Nat.le_refl _) hb7)
    have HO7 := Lib.hid (HO5b.out.below hb7)
    clear hb7 e0 e1 e2 e3 HSA HO5b HO6 HB6
    obtain ⟨e0, e1⟩ := Sp.spec_blk T.out.g0
    obtain ⟨e2, e3⟩ := Sp.spec_blk T.out.g1
    have hww : w.heap.size ≤ w4.heap.size := HWW.out
    have HSS := Lib.hid (sameSpec_any g A2 A c2 c l p2 p (by omega) w7 w4.heap.size HB7.out.size (HY.out w7 HB7.out).1 ((HW.out w7 T.out.1).1.more hww))
    go_wp2_with fail
    refine HSS.out.mono ?_
    rintro e w8 ⟨rfl, hb8⟩
    have T1 := Lib.hid (T.out.step (Nat.le_refl _) hb8)
    (clear T; have T := T1; clear T1)
    have HB8 := Lib.hid (through HB7.out (Nat.le_refl _) hb8)
    have HO8 := Lib.hid (HO7.out.below hb8)
    clear hb8 e0 e1 e2 e3 HSS HO7 HB7
    have HKM := Lib.hid (keptMea_any (some ⟨bm2, 0, none⟩) M mc2 mc ms _ _ w8 HB8.out.size (HY.out w8 HB8.out).2.1 (HW.out w8 T.out.1).2.1 (by rw [HML.out]; omega))
    rw [HML.out] at HKM
    go_wp2_with fail
    refine HKM.out.mono ?_
    rintro e w9 ⟨rfl, hb9'⟩
    have T1 := Lib.hid (T.out.step (Nat.le_refl _) hb9')
    (clear T; have T := T1; clear T1)
    have HB9 := Lib.hid (through HB8.out (Nat.le_refl _) hb9')
    have HO9 := Lib.hid (HO8.out.below hb9')
    clear hb9' HKM HO8 HB8
    have HKI := Lib.hid (keptInts_any (some ⟨bc2, 0, none⟩) C cc2 cc cur _ _ w9 HB9.out.size (HY.out w9 HB9.out).2.2.1 (HW.out w9 T.out.1).2.2.1 (by rw [HCL.out]; omega))
    rw [HCL.out] at HKI
    go_wp2_with fail
    refine HKI.out.mono ?_
    rintro e w10 ⟨rfl, hb10⟩
    have T1 := Lib.hid (T.out.step (Nat.le_refl _) hb10)
    (clear T; have T := T1; clear T1)
    have HB10 := Lib.hid (through HB9.out (Nat.le_refl _) hb10)
    have HO10 := Lib.hid (HO9.out.below hb10)
    clear hb10 HKI HO9 HB9
    have HSP := Lib.hid (spoil_own A5 c5 so w4.heap.size w10 HB10.out.size HO10.out (by rw [HSL.out]; omega))
    go_wp2_with fail
    refine HSP.out.mono ?_
    rintro e w11 ⟨rfl, hb11, -⟩
    have HB11 := Lib.hid (HB10.out.trans hb11)
    have HT11 := Lib.hid (T.out.1.trans (hb11.mono hww))
    clear hb11 HSP HO10 HB10 T
    have HKI := Lib.hid (keptInts_any (some ⟨bc2, 0, none⟩) C cc2 cc cur _ _ w11 HB11.out.size (HY.out w11 HB11.out).2.2.1 (HW.out w11 HT11.out).2.2.1 (by rw [HCL.out]; omega))
    rw [HCL.out] at HKI
    go_wp2_with fail
    refine HKI.out.mono ?_
    rintro e w12 ⟨rfl, hb12⟩
    have HT12 := Lib.hid (through HT11.out (Nat.le_refl _) hb12)
    clear hb12 HKI HB11 HT11
    go_wp2_with fail
    refine (works_any _).mono ?_
    rintro e w13 ⟨rfl, hb13⟩
    have HT13 := Lib.hid (through HT12.out (Nat.le_refl _) hb13)
    clear hb13
    go_wp2_with fail
    go_returns
    exact ⟨rfl, HT13.out⟩
end Go.Proofs.Ytcechimilefihaa.So
