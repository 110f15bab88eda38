/- Of any feeds of any job it is told what is wrong with them, which keys they have, and how many records. -/
import Derived.Test.YtaodbjgcidkpkaaFdXY
import Derived.Test.YtaodbjgcidkpkaaFdSY
import Derived.Test.YtaodbjgcidkpkaaFdR1Y
import Derived.Test.YtaodbjgcidkpkaaFdR2Y
import Derived.Test.YtaodbjgcidkpkaaFdR3Y

namespace Go.Proofs.Ytaodbjgcidkpkaa.Fd
open Go.ChangeShapes Go.WideShapes Go.ChangeAt Go.RowKit M Sp

set_option maxRecDepth 100000 in
set_option maxHeartbeats 8000000 in
theorem feedTells_any (g : Int) (A Af : Option Addr) (c cf : Nat) (l : List OpP) (p : Nat → Option Addr × Nat) (fs : List Fp) (w : World) (hl : l.length ≤ 9223372036854775807) (h : IsOps w w.heap.size A l p) (hf : IsFeeds w w.heap.size Af cf fs) :
    Calls Try.prog 6 #[.agg #[.int .i64 g, .slice A l.length c], .slice Af fs.length cf] w fun e w' => e = .returned (.bool true) ∧ Below w.heap.size w w' := by
  obtain ⟨X, hX⟩ : ∃ X, w.alloc (.cells #[.int .i64 g, .slice A l.length c] 24) = X := ⟨_, rfl⟩
  have hbX : Below w.heap.size w X := hX ▸ (Below.refl _ w).alloc (Nat.le_refl _) _
  have hsX : w.heap.size + 1 = X.heap.size := by rw [← hX]; simp
  have KS := Lib.hid (show Blk X w.heap.size 24 #[.int .i64 g, .slice A l.length c] by rw [← hX]; exact Blk.new _ _ _)
  have HO := Lib.hid (show IsOps X w.heap.size A l p by rw [← hX]; exact h.alloc (Nat.le_refl _) _)
  have HF := Lib.hid (hf.below hbX)
  have HE := Lib.hid (show ∀ w', Below X.heap.size X w' → Below w.heap.size w w' from fun w' hb => through hbX (Nat.le_refl _) (hb.mono (by omega)))
  have hbX0 : w.heap.size ≤ X.heap.size := by omega
  have hsz : w.heap.size < X.heap.size := by omega
  have HLG := Lib.hid (long_any Af cf fs X w.heap.size HF.out)
  clear h hf hbX
  go_enter Try.func6, Try.ntmps6
  go_upto_region 1 with (fail)
  (try rw [hX])
  clear hX hsX
  cases hlb : longB fs with
  | true =>
    rw [hlb] at HLG
    go_wp2_with fail
    refine HLG.out.mono ?_
    rintro e w1 ⟨rfl, hb1⟩
    have HB := Lib.hid hb1
    clear hb1 HLG
    go_wp2_with fail
    refine (works_any w1).mono ?_
    rintro e w2 ⟨rfl, hb2⟩
    have HB := Lib.hid (through HB.out (Nat.le_refl _) hb2)
    clear hb2
    go_wp2_with fail
    go_returns
    exact ⟨rfl, HE.out _ HB.out⟩
  | false =>
    have HSH := Lib.hid (short_of hlb)
    have HSP := Lib.hid (short_parts hlb)
    obtain ⟨h20, h100, h600⟩ := longB_no hlb
    rw [hlb] at HLG
    clear hlb
    go_wp2_with fail
    refine HLG.out.mono ?_
    rintro e w1 ⟨rfl, hb1⟩
    have HB := Lib.hid hb1
    have HCK := Lib.hid (checkI_any g A c l p hl w1 w.heap.size (Nat.le_trans hbX0 hb1.size) (HO.out.below (hb1.mono hbX0)))
    obtain ⟨s0, s1⟩ := spec_blk (KS.out.below hb1 hsz)
    clear hb1 HLG
    by_cases hc : chkE g l = 0
    · rw [hc] at HCK
      have hlen := (ok_of hc).len.2
      clear hc
      go_wp2_with fail
      refine HCK.out.mono ?_
      rintro e w2 ⟨rfl, hb2⟩
      have HB := Lib.hid (through HB.out (Nat.le_refl _) hb2)
      have HCP := Lib.hid (copyFeeds_any Af cf fs w2 w.heap.size (Nat.le_trans hbX0 HB.out.size) (HF.out.below (HB.out.mono hbX0)) (by omega) HSP.out)
      clear hb2 s0 s1 HCK
      go_wp2_with fail
      refine HCP.out.mono ?_
      rintro e w3 ⟨Ax, cx, qx, px, rfl, hown, hb3⟩
      have HX := Lib.hid (hown.feeds HSH.out)
      have HB := Lib.hid (through HB.out (Nat.le_refl _) hb3)
      have HX03 := Lib.hid HB.out.size
      obtain ⟨s0, s1⟩ := spec_blk (KS.out.below HB.out hsz)
      have HCH := Lib.hid (fcheck_any g A Ax c cx l p fs w3 w3.heap.size (Nat.le_refl _) ((HO.out.below (HB.out.mono hbX0)).more (Nat.le_trans hbX0 HB.out.size)) (by omega) HX.out (by omega) (by omega))
      clear hown hb3 HCP
      go_wp2_with fail
      refine HCH.out.mono ?_
      rintro e w4 ⟨rfl, hb4⟩
      have HX := Lib.hid (HX.out.below hb4)
      have HX3 := Lib.hid (show w3.heap.size ≤ w4.heap.size from hb4.size)
      have HB := Lib.hid (through HB.out (Nat.le_refl _) hb4)
      have HKY := Lib.hid (keys_any Ax cx fs w4 w3.heap.size HX3.out HX.out (by omega))
      clear hb4 s0 s1 HCH
      go_wp2_with fail
      refine HKY.out.mono ?_
      rintro e w5 ⟨A5, c5, rfl, hown5, hb5⟩
      have HK := Lib.hid hown5
      have HX := Lib.hid (HX.out.below (hb5.mono HX3.out))
      have H45 := Lib.hid (show w4.heap.size ≤ w5.heap.size from hb5.size)
      have HB := Lib.hid (through HB.out (Nat.le_refl _) hb5)
      have HCN := Lib.hid (cnt_any Ax cx fs w5 w3.heap.size (Nat.le_trans HX3.out H45.out) HX.out (by omega))
      clear hown5 hb5 HKY
      go_wp2_with fail
      refine HCN.out.mono ?_
      rintro e w6 ⟨rfl, hb6⟩
      have HK := Lib.hid (HK.out.below hb6)
      have HX := Lib.hid (HX.out.below (hb6.mono (Nat.le_trans HX3.out H45.out)))
      have H46 := Lib.hid (show w4.heap.size ≤ w6.heap.size from Nat.le_trans H45.out hb6.size)
      have HB := Lib.hid (through HB.out (Nat.le_refl _) hb6)
      obtain ⟨s0, s1⟩ := spec_blk (KS.out.below HB.out hsz)
      have HRC := Lib.hid (rchk_any g A Af c cf l p fs w6 w.heap.size (Nat.le_trans hbX0 HB.out.size) (HO.out.below (HB.out.mono hbX0)) (by omega) (HF.out.below (HB.out.mono hbX0)) (by omega) (by omega) (by omega))
      clear hb6 HCN H45
      go_wp2_with fail
      refine HRC.out.mono ?_
      rintro e w7 ⟨rfl, hb7⟩
      have HK := Lib.hid (HK.out.below hb7)
      have HX := Lib.hid (HX.out.below (hb7.mono (Nat.le_trans HX3.out H46.out)))
      have H47 := Lib.hid (show w4.heap.size ≤ w7.heap.size from Nat.le_trans H46.out hb7.size)
      have HB := Lib.hid (through HB.out (Nat.le_refl _) hb7)
      have HRK := Lib.hid (rkeys_any Af cf fs w7 w.heap.size (Nat.le_trans hbX0 HB.out.size) (HF.out.below (HB.out.mono hbX0)) (by omega))
      have hz1 : (chkF l fs != chkF l fs) = false := by simp
      clear hb7 HRC H46 s0 s1
      go_wp2_with fail
      refine HRK.out.mono ?_
      rintro e w8 ⟨A8, c8, rfl, hown8, hb8⟩
      have HK := Lib.hid (HK.out.below hb8)
      have HX := Lib.hid (HX.out.below (hb8.mono (Nat.le_trans HX3.out H47.out)))
      have H48 := Lib.hid (show w4.heap.size ≤ w8.heap.size from Nat.le_trans H47.out hb8.size)
      have HB := Lib.hid (through HB.out (Nat.le_refl _) hb8)
      have HSM := Lib.hid (sameInts_any A5 A8 c5 c8 (keysF fs) (keysF fs) _ _ w8 HK.out.ints hown8.ints)
      rw [sameB_yes rfl] at HSM
      clear hown8 hb8 HRK H47
      go_wp2_with fail
      refine HSM.out.mono ?_
      rintro e w9 ⟨rfl, hb9⟩
      have HK := Lib.hid (HK.out.below hb9)
      have HX := Lib.hid (HX.out.below (hb9.mono (Nat.le_trans HX3.out H48.out)))
      have H49 := Lib.hid (show w4.heap.size ≤ w9.heap.size from Nat.le_trans H48.out hb9.size)
      have HB := Lib.hid (through HB.out (Nat.le_refl _) hb9)
      have HRN := Lib.hid (rcnt_any Af cf fs w9 w.heap.size (HF.out.below (HB.out.mono hbX0)) (by omega))
      have hz2 : ((cntF fs : Int) != (cntF fs : Int)) = false := by simp
      clear hb9 HSM H48
      go_wp2_with fail
      refine HRN.out.mono ?_
      rintro e w10 ⟨rfl, hb10⟩
      have HK := Lib.hid (HK.out.below hb10)
      have HX := Lib.hid (HX.out.below (hb10.mono (Nat.le_trans HX3.out H49.out)))
      have H410 := Lib.hid (show w4.heap.size ≤ w10.heap.size from Nat.le_trans H49.out hb10.size)
      have HB := Lib.hid (through HB.out (Nat.le_refl _) hb10)
      have HSF := Lib.hid (sameFeeds_yes Ax Af cx cf fs w10 w10.heap.size (Nat.le_refl _) (HX.out.more (Nat.le_trans HX3.out H410.out)) ((HF.out.below (HB.out.mono hbX0)).more (Nat.le_trans hbX0 HB.out.size)))
      clear hb10 HRN H49
      go_wp2_with fail
      refine HSF.out.mono ?_
      rintro e w11 ⟨rfl, hb11⟩
      have HK := Lib.hid (HK.out.below hb11)
      have HX := Lib.hid (HX.out.below (hb11.mono (Nat.le_trans HX3.out H410.out)))
      have H411 := Lib.hid (show w4.heap.size ≤ w11.heap.size from Nat.le_trans H410.out hb11.size)
      have HB := Lib.hid (through HB.out (Nat.le_refl _) hb11)
      have HSI := Lib.hid (spoil_own A5 c5 (keysF fs) w4.heap.size w11 H411.out HK.out (Nat.le_trans (keysF_len fs) (by omega)))
      have HX4 := Lib.hid (show X.heap.size ≤ w4.heap.size from Nat.le_trans HX03.out HX3.out)
      clear hb11 HSF H410
      go_wp2_with fail
      refine HSI.out.mono ?_
      rintro e w12 ⟨rfl, hb12, -⟩
      have HX := Lib.hid (HX.out.below (hb12.mono HX3.out))
      have H412 := Lib.hid (show w4.heap.size ≤ w12.heap.size from Nat.le_trans H411.out hb12.size)
      have HB := Lib.hid (HB.out.trans (hb12.mono HX4.out))
      have HKY := Lib.hid (keys_any Ax cx fs w12 w3.heap.size (Nat.le_trans HX3.out H412.out) HX.out (by omega))
      clear hb12 HSI HK H411
      go_wp2_with fail
      refine HKY.out.mono ?_
      rintro e w13 ⟨A13, c13, rfl, hown13, hb13⟩
      have HK := Lib.hid hown13
      have HB := Lib.hid (through HB.out (Nat.le_refl _) hb13)
      have HRK := Lib.hid (rkeys_any Af cf fs w13 w.heap.size (Nat.le_trans hbX0 HB.out.size) (HF.out.below (HB.out.mono hbX0)) (by omega))
      clear hown13 hb13 HKY
      go_wp2_with fail
      refine HRK.out.mono ?_
      rintro e w14 ⟨A14, c14, rfl, hown14, hb14⟩
      have HB := Lib.hid (through HB.out (Nat.le_refl _) hb14)
      have HSM := Lib.hid (sameInts_any A13 A14 c13 c14 (keysF fs) (keysF fs) _ _ w14 (HK.out.below hb14).ints hown14.ints)
      rw [sameB_yes rfl] at HSM
      clear hown14 hb14 HRK
      go_wp2_with fail
      refine HSM.out.mono ?_
      rintro e w15 ⟨rfl, hb15⟩
      have HB := Lib.hid (through HB.out (Nat.le_refl _) hb15)
      clear hb15 HSM
      go_wp2_with fail
      refine (works_any w15).mono ?_
      rintro e w16 ⟨rfl, hb16⟩
      have HB := Lib.hid (through HB.out (Nat.le_refl _) hb16)
      clear hb16
      go_wp2_with fail
      go_returns
      exact ⟨rfl, HE.out _ HB.out⟩
    · have ht : (chkE g l != 0) = true := by simpa using hc
      clear hc
      go_wp2_with fail
      refine HCK.out.mono ?_
      rintro e w2 ⟨rfl, hb2⟩
      have HB := Lib.hid (through HB.out (Nat.le_refl _) hb2)
      clear hb2 HCK s0 s1
      go_wp2_with fail
      refine (works_any w2).mono ?_
      rintro e w3 ⟨rfl, hb3⟩
      have HB := Lib.hid (through HB.out (Nat.le_refl _) hb3)
      clear hb3
      go_wp2_with fail
      go_returns
      exact ⟨rfl, HE.out _ HB.out⟩
end Go.Proofs.Ytaodbjgcidkpkaa.Fd
