/- Partitions and records that are put the other way round are as right, have the same keys, and are as many. -/
import Derived.Test.YtaodbjgcidkpkaaFdXY
import Derived.Test.YtaodbjgcidkpkaaFdTPY
import Derived.Test.YtaodbjgcidkpkaaFdQ2Y
import Derived.Test.YtaodbjgcidkpkaaZa

namespace Go.Proofs.Ytaodbjgcidkpkaa.Fd
open Go.ChangeShapes Go.WideShapes Go.ChangeAt Go.RowKit M Sp

set_option maxRecDepth 100000 in
set_option maxHeartbeats 8000000 in
theorem feedTurns_any (g : Int) (A Af : Option Addr) (c cf : Nat) (l : List OpP) (p : Nat → Option Addr × Nat) (fs : List Fp) (w : World) (hl : l.length ≤ 9223372036854775807) (h : IsOps w w.heap.size A l p) (hf : IsFeeds w w.heap.size Af cf fs) :
    Calls Try.prog 8 #[.agg #[.int .i64 g, .slice A l.length c], .slice Af fs.length cf] w fun e w' => e = .returned (.bool true) ∧ Below w.heap.size w w' := by
  obtain ⟨X, hX⟩ : ∃ X, w.alloc (.cells #[.int .i64 g, .slice A l.length c] 24) = X := ⟨_, rfl⟩
  have hbX : Below w.heap.size w X := hX ▸ (Below.refl _ w).alloc (Nat.le_refl _) _
  have hsX : w.heap.size + 1 = X.heap.size := by rw [← hX]; simp
  have KS := Lib.hid (show Blk X w.heap.size 24 #[.int .i64 g, .slice A l.length c] by rw [← hX]; exact Blk.new _ _ _)
  have HO := Lib.hid (show IsOps X w.heap.size A l p by rw [← hX]; exact h.alloc (Nat.le_refl _) _)
  have HF := Lib.hid (hf.below hbX)
  have HE := Lib.hid (show ∀ w', Below X.heap.size X w' → Below w.heap.size w w' from fun w' hb => through hbX (Nat.le_refl _) (hb.mono (by omega)))
  have hbX0 : w.heap.size ≤ X.heap.size := by omega
  have hsz : w.heap.size < X.heap.size := by omega
  have HLG := Lib.hid (long_any Af cf fs X w.heap.size HF.out)
  clear h hf hbX
  go_enter Try.func8, Try.ntmps8
  go_upto_region 1 with (fail)
  (try rw [hX])
  clear hX hsX
  cases hlb : longB fs with
  | true =>
    rw [hlb] at HLG
    go_wp2_with fail
    refine HLG.out.mono ?_
    rintro e w1 ⟨rfl, hb1⟩
    have HB := Lib.hid hb1
    clear hb1 HLG
    go_wp2_with fail
    refine (works_any w1).mono ?_
    rintro e w2 ⟨rfl, hb2⟩
    have HB := Lib.hid (through HB.out (Nat.le_refl _) hb2)
    clear hb2
    go_wp2_with fail
    go_returns
    exact ⟨rfl, HE.out _ HB.out⟩
  | false =>
    have HSH := Lib.hid (short_of hlb)
    have HSP := Lib.hid (short_parts hlb)
    obtain ⟨h20, h100, h600⟩ := longB_no hlb
    rw [hlb] at HLG
    clear hlb
    go_wp2_with fail
    refine HLG.out.mono ?_
    rintro e w1 ⟨rfl, hb1⟩
    have HB := Lib.hid hb1
    have HCK := Lib.hid (checkI_any g A c l p hl w1 w.heap.size (Nat.le_trans hbX0 hb1.size) (HO.out.below (hb1.mono hbX0)))
    obtain ⟨s0, s1⟩ := spec_blk (KS.out.below hb1 hsz)
    clear hb1 HLG
    by_cases hc : chkE g l = 0
    · rw [hc] at HCK
      have hlen := (ok_of hc).len.2
      clear hc
      go_wp2_with fail
      refine HCK.out.mono ?_
      rintro e w2 ⟨rfl, hb2⟩
      have HB := Lib.hid (through HB.out (Nat.le_refl _) hb2)
      clear hb2 s0 s1 HCK
      go_wp2_with fail
      go_loopw [5, 6] (fun v u wr => ∃ (k : Nat) (q : Nat → Sl) (p : Nat → Nat → Sl), k ≤ fs.length ∧ u = .int .i64 k ∧ OwnF wr X.heap.size v (turnF (fs.take k)) q p ∧ Below X.heap.size X wr) (fun _ u _ => fs.length - (Go.RowKit.intOf u).toNat)
      case atStart => exact ⟨0, fun _ => (none, 0), fun _ _ => (none, 0), by omega, rfl, OwnF.nil _ _ _ _, HB.out⟩
      case round =>
        clear HB
        obtain ⟨k, q, p2, hk, rfl, hown, hbl⟩ := hrel
        have HB := Lib.hid hbl
        have HOW := Lib.hid hown
        clear hown hbl
        by_cases hlt : k < fs.length
        · obtain ⟨b, o, f, A', c', rfl, hb, HV, h64, c0, c1, hli⟩ := feeds_at HF.out hlt
          have HLI := Lib.hid hli
          have H64 := Lib.hid h64
          have hb0 : b < X.heap.size := by omega
          have hfl : f.parts.length ≤ 100 := Nat.le_trans (prtF_mem (HV.out ▸ feeds_mem hlt)) h100
          have HFC := Lib.hid (Nat.le_trans (cntF_mem (HV.out ▸ feeds_mem hlt)) h600)
          have HC := Lib.hid (show ∀ Z, Below X.heap.size X Z → Z.cell? ⟨b, o + k * 2, none⟩ = some (.int .i64 f.op) ∧ Z.cell? ⟨b, o + k * 2 + 1, none⟩ = some (.slice A' f.parts.length c') from fun Z hZ => ⟨(hZ.cell (p := ⟨b, o + k * 2, none⟩) hb0).trans c0, (hZ.cell (p := ⟨b, o + k * 2 + 1, none⟩) hb0).trans c1⟩)
          obtain ⟨e0, e1⟩ := HC.out _ HB.out
          clear c0 c1 hli h64
          go_upto_region 8 with (fail)
          obtain ⟨V0, hV0⟩ : ∃ W, W = wr := ⟨_, rfl⟩
          subst hV0
          obtain ⟨g7, hg7⟩ : ∃ z, V0.heap.size = z := ⟨_, rfl⟩
          obtain ⟨V1, hV1⟩ : ∃ Y, V0.alloc (.cells #[.int .i64 f.op, .slice none 0 0] 47) = Y := ⟨_, rfl⟩
          have K1 := Lib.hid (show Blk V1 g7 47 #[.int .i64 f.op, .slice none 0 0] from hV1 ▸ hg7 ▸ Blk.new _ _ _)
          have HB1 := Lib.hid (show Below V0.heap.size V0 V1 from hV1 ▸ ((Below.refl _ _).alloc (Nat.le_refl _) _))
          have hXg : X.heap.size ≤ g7 := hg7 ▸ HB.out.size
          rw [hV1, hg7]
          obtain ⟨e0, e1⟩ := HC.out _ (through HB.out (Nat.le_refl _) HB1.out)
          rw [hg7] at HB1
          clear hV1
          have hw8 : IntKind.i64.wrap ((f.parts.length : Int) - 1) = (f.parts.length : Int) - 1 := by rw [IntKind.wrap_i64]; omega
          go_wp2_with fail
          go_loopw [8] (fun u wr => ∃ (j : Nat) (A2 : Option Addr) (c2 : Nat) (q2 : Nat → Sl), j ≤ f.parts.length ∧ u = .int .i64 ((f.parts.length : Int) - 1 - j) ∧ Blk wr g7 47 #[.int .i64 f.op, .slice A2 j c2] ∧ OwnL wr (g7 + 1) (.slice A2 j c2) ((turnL f.parts).take j) q2 ∧ Below g7 V0 wr) (fun u _ => (Go.RowKit.intOf u + 1).toNat)
          case atStart => exact ⟨0, none, 0, fun _ => (none, 0), by omega, by simp, K1.out, OwnL.nil _ _ _, HB1.out⟩
          case round =>
            clear HB1 K1 e0 e1
            obtain ⟨j, A2, c2, q2, hj, hu, hk1, hown, hbl⟩ := hrel
            have HBL := Lib.hid hbl
            have K1 := Lib.hid hk1
            have HOL := Lib.hid hown
            have HBX := Lib.hid (through HB.out (Nat.le_refl _) (hg7 ▸ hbl))
            have hg7w : g7 < wr.heap.size := hk1.lt
            clear hbl hk1 hown
            by_cases hltj : j < f.parts.length
            · obtain ⟨z, hz⟩ : ∃ z : Nat, (f.parts.length : Int) - 1 - j = z := ⟨f.parts.length - 1 - j, by omega⟩
              rw [hz] at hu
              subst hu
              have hzl : z < f.parts.length := by omega
              obtain ⟨b2, o2, r, A3, c3, rfl, hb2, HV2, d0, hrr⟩ := lists_at HLI.out hzl
              have HRR := Lib.hid hrr
              have hrl := hrr.2
              unfold LB at hrl
              have hr6 : r.length ≤ 600 := Nat.le_trans (cntL_mem (HV2.out ▸ lists_mem hzl)) HFC.out
              have HTK := Lib.hid (turnL_take (show j + z + 1 = f.parts.length by omega) HV2.out)
              have HC2 := Lib.hid (show ∀ Z, Below X.heap.size X Z → Z.cell? ⟨b2, o2 + z, none⟩ = some (.slice A3 r.length c3) from fun Z hZ => (hZ.cell (p := ⟨b2, o2 + z, none⟩) (show b2 < X.heap.size by omega)).trans d0)
              obtain ⟨e0, e1⟩ := HC.out _ HBX.out
              have e2 := HC2.out _ HBX.out
              have hz0 : (0 : Int) ≤ (z : Int) := by omega
              have hzn : (z : Int) < (f.parts.length : Int) := by omega
              have hw10 : IntKind.i64.wrap ((r.length : Int) - 1) = (r.length : Int) - 1 := by rw [IntKind.wrap_i64]; omega
              obtain ⟨V2, hV2⟩ : ∃ W, W = wr := ⟨_, rfl⟩
              subst hV2
              clear d0 hrr
              go_wp2_with fail
              go_loopw [9, 10] (fun v u wr => ∃ t : Nat, t ≤ r.length ∧ u = .int .i64 ((r.length : Int) - 1 - t) ∧ OwnR wr V2.heap.size v (r.reverse.take t) ∧ Below V2.heap.size V2 wr) (fun _ u _ => (Go.RowKit.intOf u + 1).toNat)
              case atStart => exact ⟨0, by omega, by simp, OwnP.nil _ _ _, Below.refl _ _⟩
              case round =>
                clear e0 e1 e2
                obtain ⟨t, ht, hu, hown, hbl⟩ := hrel
                have HBR := Lib.hid hbl
                have HOR := Lib.hid hown
                have HBY := Lib.hid (through HBX.out (Nat.le_refl _) hbl)
                clear hbl hown
                by_cases hltt : t < r.length
                · obtain ⟨y, hy⟩ : ∃ y : Nat, (r.length : Int) - 1 - t = y := ⟨r.length - 1 - t, by omega⟩
                  rw [hy] at hu
                  subst hu
                  have hyl : y < r.length := by omega
                  obtain ⟨b3, o3, x, rfl, hb3, HV3, hx64, f0, f1⟩ := pairs_at HRR.out.1 hyl
                  have HTR := Lib.hid (rev_take (show t + y + 1 = r.length by omega) HV3.out)
                  have e3 := (HBY.out.cell (p := ⟨b3, o3 + y * 2, none⟩) (show b3 < X.heap.size by omega)).trans f0
                  have e4 := (HBY.out.cell (p := ⟨b3, o3 + y * 2 + 1, none⟩) (show b3 < X.heap.size by omega)).trans f1
                  obtain ⟨e0, e1⟩ := HC.out _ HBY.out
                  have e2 := HC2.out _ HBY.out
                  have hy0 : (0 : Int) ≤ (y : Int) := by omega
                  have hyn : (y : Int) < (r.length : Int) := by omega
                  have hwy : IntKind.i64.wrap ((y : Int) - 1) = (y : Int) - 1 := by rw [IntKind.wrap_i64]; omega
                  have HL := Lib.hid (show (r.reverse.take t).length < 1000000000 by rw [List.length_take, List.length_reverse]; omega)
                  have HZ := Lib.hid HBR.out.size
                  have HU := Lib.hid hx64
                  obtain ⟨x, y9⟩ := x
                  simp only at e3 e4
                  clear f0 f1 hx64
                  go_wp2_with (at_builtin; refine app_pair (u := (x, y9)) isPT rfl _ _ rfl V2.heap.size HOR.out rfl HU.out rfl HL.out HZ.out ?_)
                  intro v' w4 hown2 hgr
                  have HO2 := Lib.hid hown2
                  have HB2 := Lib.hid (HBR.out.trans hgr)
                  clear hown2 hgr
                  go_wp2_with fail
                  go_roundw
                  case rel => exact ⟨t + 1, by omega, by congr 1; omega, by rw [HTR.out]; exact HO2.out, HB2.out⟩
                  case measure => simp [Go.RowKit.intOf] <;> omega
                · obtain rfl : t = r.length := by omega
                  have hu2 : (r.length : Int) - 1 - (r.length : Int) = -1 := by omega
                  rw [hu2] at hu
                  subst hu
                  rw [← List.length_reverse, List.take_length] at HOR
                  generalize r.reverse = R at *
                  obtain ⟨A6, c6, hv6⟩ := HOR.out.form
                  subst hv6
                  have K2 := Lib.hid (K1.out.below HBR.out hg7w)
                  have k0 := K2.out.cell 0
                  have k1 := K2.out.cell 1
                  have HOL2 := Lib.hid (HOL.out.below HBR.out)
                  have HTL := Lib.hid (show ((turnL f.parts).take j).length = j by rw [List.length_take, turnL_len]; omega)
                  have HFAR := Lib.hid (show ∀ i, i < ((turnL f.parts).take j).length → Far (q2 i) (A6, c6) from fun i hi g hg hg2 => by
                    have h1 := (HOL.out.ltQ hi hg).2
                    have h2 := (HOR.out.blk g (by rw [ownBlock_slice (A6, c6)]; exact hg2)).1
                    omega)
                  have HL := Lib.hid (show ((turnL f.parts).take j).length < 1000000000 by rw [HTL.out]; omega)
                  have HZ := Lib.hid (show g7 + 1 ≤ wr.heap.size from Nat.le_trans hg7w HBR.out.size)
                  have HR6 := Lib.hid (show OwnR wr (g7 + 1) (.slice A6 R.length c6) R from HOR.out.mono hg7w)
                  have HBW := Lib.hid (show Below g7 V0 wr from HBL.out.trans (HBR.out.mono (by omega)))
                  have hwz : IntKind.i64.wrap ((z : Int) - 1) = (z : Int) - 1 := by rw [IntKind.wrap_i64]; omega
                  try clear e0 e1 e2
                  go_wp2_with (at_builtin; refine app_lists (r := R) (z := (A6, c6)) rfl _ _ rfl (g7 + 1) HOL2.out rfl HR6.out HFAR.out rfl HL.out HZ.out ?_)
                  intro v' w4 hown4 hb4
                  obtain ⟨A4, c4, hv4⟩ := hown4.form
                  subst hv4
                  generalize upQ q2 _ (A6, c6) = q4 at hown4
                  have hn4 : ((turnL f.parts).take j ++ [R]).length = j + 1 := by rw [List.length_append, HTL.out, List.length_singleton]
                  rw [hn4] at hown4 ⊢
                  clear hn4
                  have HO4 := Lib.hid hown4
                  have HB4 := Lib.hid (HBW.out.trans (hb4.mono (by omega)))
                  have K4 := Lib.hid (K2.out.below hb4 (by omega))
                  have k0 := K4.out.cell 0
                  have k1 := K4.out.cell 1
                  have hf4 := K4.out.frozen 1
                  clear hown4 hb4
                  go_wp2_with fail
                  have HB5 := Lib.hid (show Below g7 V0 (w4.setCell ⟨g7, 1, none⟩ (.slice A4 (j + 1) c4)) from HB4.out.setCell (by show g7 ≤ g7; omega) _)
                  have K5 := Lib.hid (K4.out.set_ 1 (.slice A4 (j + 1) c4))
                  have HO5 := Lib.hid (HO4.out.low (a := ⟨g7, 1, none⟩) (by show g7 < g7 + 1; omega) (.slice A4 (j + 1) c4))
                  clear k0 k1 hf4
                  go_roundw
                  case rel => exact ⟨j + 1, A4, c4, q4, by omega, by congr 1; omega, K5.out, by rw [HTK.out]; exact HO5.out, HB5.out⟩
                  case measure => simp [Go.RowKit.intOf] <;> omega
            · obtain rfl : j = f.parts.length := by omega
              have hu2 : (f.parts.length : Int) - 1 - (f.parts.length : Int) = -1 := by omega
              rw [hu2] at hu
              subst hu
              have HTT := Lib.hid (show (turnL f.parts).take f.parts.length = turnL f.parts by rw [← turnL_len f.parts, List.take_length])
              rw [HTT.out] at HOL
              have HOW2 := Lib.hid (HOW.out.below (hg7 ▸ HBL.out))
              have hTP : (turnP f).parts.length = f.parts.length := turnL_len _
              have HFAR := Lib.hid (show ∀ i, i < (turnF (fs.take k)).length → Far (q i) (A2, c2) from fun i hi g hg hg2 => by
                have h1 := ((HOW.out.2.1 i hi).2.lt g (by rw [ownBlock_slice]; exact hg)).2
                have h2 := (HOL.out.lt g (by rw [ownBlock_slice (A2, c2)]; exact hg2)).1
                omega)
              have HFAR2 := Lib.hid (show ∀ i m n, i < (turnF (fs.take k)).length → m < ((turnF (fs.take k)).getD i default).parts.length → n < (turnP f).parts.length → Far (p2 i m) (q2 n) from fun i m n hi hm hn g hg hg2 => by
                have h1 := ((HOW.out.2.1 i hi).2.ltQ hm hg).2
                have h2 := (HOL.out.ltQ hn hg2).1
                omega)
              have HTL := Lib.hid (show (turnF (fs.take k)).length = k by rw [turnF_len, List.length_take]; omega)
              have HL := Lib.hid (show (turnF (fs.take k)).length < 1000000000 by rw [HTL.out]; omega)
              have HZ := Lib.hid (show X.heap.size ≤ wr.heap.size by omega)
              have HR6 := Lib.hid (show OwnL wr X.heap.size (.slice A2 (turnP f).parts.length c2) (turnP f).parts q2 by rw [hTP]; exact HOL.out.mono (by omega))
              have k0 := K1.out.cell 0
              have k1 := K1.out.cell 1
              have HTK := Lib.hid (turnF_take fs hlt HV.out)
              have hTO : f.op = (turnP f).op := rfl
              rw [← hTP] at k1
              rw [hTO] at k0
              have H64 := Lib.hid (show In64 (turnP f).op from H64.out)
              clear hTP hTO
              generalize turnP f = T at *
              go_wp2_with (at_builtin; refine app_feed (f := T) (z := (A2, c2)) (px := q2) rfl _ _ rfl X.heap.size HOW2.out rfl H64.out HR6.out HFAR.out HFAR2.out rfl HL.out HZ.out ?_)
              intro v' w4 hown4 hb4
              have HO4 := Lib.hid hown4
              have HB4 := Lib.hid (HBX.out.trans hb4)
              clear hown4 hb4
              go_wp2_with fail
              go_roundw
              case rel => exact ⟨k + 1, _, _, by omega, by go_num, by rw [HTK.out]; exact HO4.out, HB4.out⟩
              case measure => simp [Go.RowKit.intOf] <;> omega
        · obtain rfl : k = fs.length := by omega
          rw [List.take_length] at HOW
          obtain ⟨A2, c2, hv⟩ := HOW.out.form
          subst hv
          have hTL := turnF_len fs
          have HSHT : Hid (Short (turnF fs)) := by
            show Short (turnF fs)
            refine ⟨by unfold LB; omega, fun i hi => ?_, fun i m hi hm => ?_⟩
            · have h1 := prtF_mem (feeds_mem hi)
              rw [prtF_turn] at h1
              unfold LB; omega
            · have h1 := cntF_mem (feeds_mem hi)
              have h2 := cntL_mem (lists_mem hm)
              rw [cntF_turn] at h1
              unfold LB; omega
          have HX := Lib.hid (HOW.out.feeds HSHT.out)
          have HTC := Lib.hid (cntF_turn fs)
          have HTK := Lib.hid (keysF_turn fs)
          have HTH := Lib.hid (chkF_turn l fs)
          have HTL := Lib.hid hTL
          have hTn : (turnF fs).length ≤ 1000 := by omega
          have hTc : cntF (turnF fs) ≤ 1000000 := by rw [HTC.out]; omega
          clear hTL
          generalize turnF fs = T at *
          obtain ⟨s0, s1⟩ := spec_blk (KS.out.below HB.out hsz)
          have hww : w.heap.size < wr.heap.size := by have := HB.out.size; omega
          have HST := Lib.hid (show ∀ Z, Below wr.heap.size wr Z → Z.cell? ⟨w.heap.size, 0, none⟩ = some (.int .i64 g) ∧ Z.cell? ⟨w.heap.size, 1, none⟩ = some (.slice A l.length c) from fun Z hZ => ⟨(hZ.cell (p := ⟨w.heap.size, 0, none⟩) hww).trans s0, (hZ.cell (p := ⟨w.heap.size, 1, none⟩) hww).trans s1⟩)
          clear s0 s1
          go_upto_region 18 with (fail)
          refine wp_region_held_drew (S := (fun (Z : World) => Z.cell? ⟨w.heap.size, 0, none⟩ = some (.int .i64 g) ∧ Z.cell? ⟨w.heap.size, 1, none⟩ = some (.slice A l.length c))) (by kernel_rfl) (HST.out _ (Below.refl _ _).drew) (fun hHeld => ?_)
          have HW := Lib.hid (show Below wr.heap.size wr wr.drew from (Below.refl _ _).drew)
          obtain ⟨y0, hy0⟩ : ∃ Z, wr.drew = Z := ⟨_, rfl⟩
          rw [hy0] at HW hHeld ⊢
          clear hy0
          (refine held_take 0 (by kernel_rfl) (by kernel_rfl) (by kernel_rfl) (by assumption) ?_; simp only [List.getElem?_toArray, List.getElem?_cons_zero]; refine ⟨fun _ _ _ _ h => h, ?_, Or.inl ⟨by kernel_rfl, ?_⟩, ?_⟩; rotate_left; (focus (intro wS hSw; (try dsimp only at hSw); go_simp; try with_reducible rfl)); (try simp only [Act.put, List.setIfInBounds_toArray, List.set_cons_zero, List.set_cons_succ]))
          (refine held_take 1 (by kernel_rfl) (by kernel_rfl) (by kernel_rfl) (by assumption) ?_; simp only [List.getElem?_toArray, List.getElem?_cons_succ, List.getElem?_cons_zero]; refine ⟨fun _ _ _ _ h => h, ?_, Or.inl ⟨by kernel_rfl, ?_⟩, ?_⟩; rotate_left; (focus (intro wS hSw; (try dsimp only at hSw); go_simp; try with_reducible rfl)); (try simp only [Act.put, List.setIfInBounds_toArray, List.set_cons_zero, List.set_cons_succ]))
          (refine held_take 3 (by kernel_rfl) (by kernel_rfl) (by kernel_rfl) (by assumption) ?_; simp only [List.getElem?_toArray, List.getElem?_cons_succ, List.getElem?_cons_zero]; refine ⟨fun _ _ _ _ h => h, ?_, Or.inl ⟨by kernel_rfl, ?_⟩, ?_⟩; rotate_left; (focus (intro wS hSw; (try dsimp only at hSw); go_simp; try with_reducible rfl)); (try simp only [Act.put, List.setIfInBounds_toArray, List.set_cons_zero, List.set_cons_succ]))
          (refine held_take 4 (by kernel_rfl) (by kernel_rfl) (by kernel_rfl) (by assumption) ?_; simp only [List.getElem?_toArray, List.getElem?_cons_succ, List.getElem?_cons_zero]; refine ⟨fun _ _ _ _ h => h, ?_, Or.inl ⟨by kernel_rfl, ?_⟩, ?_⟩; rotate_left; (focus (intro wS hSw; (try dsimp only at hSw); go_simp; try with_reducible rfl)); (try simp only [Act.put, List.setIfInBounds_toArray, List.set_cons_zero, List.set_cons_succ]))
          have HC := Lib.hid (fcheck_any g A A2 c c2 l p T y0 y0.heap.size (Nat.le_refl _) ((HO.out.below ((HB.out.mono hbX0).trans (HW.out.mono (Nat.le_trans hbX0 HB.out.size)))).more (Nat.le_trans (Nat.le_trans hbX0 HB.out.size) HW.out.size)) (by omega) ((HX.out.below HW.out).more HW.out.size) hTn hTc)
          (refine held_one 2 (by kernel_rfl) ?_; simp only [List.getElem?_toArray, List.getElem?_cons_succ, List.getElem?_cons_zero]; intro K hK; go_simp)
          clear hHeld
          refine HC.out.mono ?_
          rintro e y1 ⟨rfl, hb⟩
          (go_wp2_with fail; refine hK.out _ _ ?_ (fun hHeld => ?_); (focus (exact HST.out _ (through HW.out (Nat.le_refl _) hb))); clear hK K; (try simp only [Act.put, List.setIfInBounds_toArray, List.set_cons_zero, List.set_cons_succ]))
          have HW := Lib.hid (through HW.out (Nat.le_refl _) hb)
          clear hb HC
          have HC := Lib.hid (fcheck_any g A _ c cf l p fs y1 y1.heap.size (Nat.le_refl _) ((HO.out.below ((HB.out.mono hbX0).trans (HW.out.mono (Nat.le_trans hbX0 HB.out.size)))).more (Nat.le_trans (Nat.le_trans hbX0 HB.out.size) HW.out.size)) (by omega) ((HF.out.below ((HB.out.mono hbX0).trans (HW.out.mono (Nat.le_trans hbX0 HB.out.size)))).more (Nat.le_trans (Nat.le_trans hbX0 HB.out.size) HW.out.size)) (by omega) (by omega))
          (refine held_one 5 (by kernel_rfl) ?_; simp only [List.getElem?_toArray, List.getElem?_cons_succ, List.getElem?_cons_zero]; intro K hK; go_simp)
          clear hHeld
          refine HC.out.mono ?_
          rintro e y2 ⟨rfl, hb⟩
          (go_wp2_with fail; refine hK.out _ _ ?_ (fun hHeld => ?_); (focus (exact HST.out _ (through HW.out (Nat.le_refl _) hb))); clear hK K; (try simp only [Act.put, List.setIfInBounds_toArray, List.set_cons_zero, List.set_cons_succ]))
          have HW := Lib.hid (through HW.out (Nat.le_refl _) hb)
          clear hb HC
          have hz1 : (chkF l T == chkF l fs) = true := by rw [HTH.out]; simp
          (refine held_take 6 (by kernel_rfl) (by kernel_rfl) (by kernel_rfl) (by assumption) ?_; simp only [List.getElem?_toArray, List.getElem?_cons_succ, List.getElem?_cons_zero]; refine ⟨fun _ _ _ _ h => h, ?_, Or.inl ⟨by kernel_rfl, ?_⟩, ?_⟩; rotate_left; (focus (intro wS hSw; (try dsimp only at hSw); go_simp; try with_reducible rfl)); (try simp only [Act.put, List.setIfInBounds_toArray, List.set_cons_zero, List.set_cons_succ]))
          (refine held_take 7 (by kernel_rfl) (by kernel_rfl) (by kernel_rfl) (by assumption) ?_; simp only [List.getElem?_toArray, List.getElem?_cons_succ, List.getElem?_cons_zero]; refine ⟨fun _ _ _ _ h => h, ?_, Or.inl ⟨by kernel_rfl, ?_⟩, ?_⟩; rotate_left; (focus (intro wS hSw; (try dsimp only at hSw); go_simp; try with_reducible rfl)); (try simp only [Act.put, List.setIfInBounds_toArray, List.set_cons_zero, List.set_cons_succ]))
          (refine held_take 8 (by kernel_rfl) (by kernel_rfl) (by kernel_rfl) (by assumption) ?_; simp only [List.getElem?_toArray, List.getElem?_cons_succ, List.getElem?_cons_zero]; refine ⟨fun _ _ _ _ h => h, ?_, Or.inl ⟨by kernel_rfl, ?_⟩, ?_⟩; rotate_left; (focus (intro wS hSw; (try dsimp only at hSw); go_simp; try with_reducible rfl)); (try simp only [Act.put, List.setIfInBounds_toArray, List.set_cons_zero, List.set_cons_succ]))
          (refine held_take 10 (by kernel_rfl) (by kernel_rfl) (by kernel_rfl) (by assumption) ?_; simp only [List.getElem?_toArray, List.getElem?_cons_succ, List.getElem?_cons_zero]; refine ⟨fun _ _ _ _ h => h, ?_, Or.inl ⟨by kernel_rfl, ?_⟩, ?_⟩; rotate_left; (focus (intro wS hSw; (try dsimp only at hSw); go_simp; try with_reducible rfl)); (try simp only [Act.put, List.setIfInBounds_toArray, List.set_cons_zero, List.set_cons_succ]))
          have HC := Lib.hid (keys_any A2 c2 T y2 y2.heap.size (Nat.le_refl _) ((HX.out.below HW.out).more HW.out.size) hTc)
          (refine held_one 9 (by kernel_rfl) ?_; simp only [List.getElem?_toArray, List.getElem?_cons_succ, List.getElem?_cons_zero]; intro K hK; go_simp)
          clear hHeld
          refine HC.out.mono ?_
          rintro e y3 ⟨A5, c5, rfl, hown5, hb⟩
          have HK := Lib.hid hown5
          clear hown5
          (go_wp2_with fail; refine hK.out _ _ ?_ (fun hHeld => ?_); (focus (exact HST.out _ (through HW.out (Nat.le_refl _) hb))); clear hK K; (try simp only [Act.put, List.setIfInBounds_toArray, List.set_cons_zero, List.set_cons_succ]))
          have HW := Lib.hid (through HW.out (Nat.le_refl _) hb)
          clear hb HC
          have HC := Lib.hid (keys_any _ cf fs y3 y3.heap.size (Nat.le_refl _) ((HF.out.below ((HB.out.mono hbX0).trans (HW.out.mono (Nat.le_trans hbX0 HB.out.size)))).more (Nat.le_trans (Nat.le_trans hbX0 HB.out.size) HW.out.size)) (by omega))
          (refine held_one 11 (by kernel_rfl) ?_; simp only [List.getElem?_toArray, List.getElem?_cons_succ, List.getElem?_cons_zero]; intro K hK; go_simp)
          clear hHeld
          refine HC.out.mono ?_
          rintro e y4 ⟨A6, c6, rfl, hown6, hb⟩
          have HK := Lib.hid (HK.out.below hb)
          have HK2 := Lib.hid hown6
          clear hown6
          (go_wp2_with fail; refine hK.out _ _ ?_ (fun hHeld => ?_); (focus (exact HST.out _ (through HW.out (Nat.le_refl _) hb))); clear hK K; (try simp only [Act.put, List.setIfInBounds_toArray, List.set_cons_zero, List.set_cons_succ]))
          have HW := Lib.hid (through HW.out (Nat.le_refl _) hb)
          clear hb HC
          have HC := Lib.hid (sameInts_any A5 A6 c5 c6 (keysF T) (keysF fs) _ _ y4 HK.out.ints HK2.out.ints)
          rw [sameB_yes HTK.out] at HC
          (refine held_one 12 (by kernel_rfl) ?_; simp only [List.getElem?_toArray, List.getElem?_cons_succ, List.getElem?_cons_zero]; intro K hK; go_simp)
          clear hHeld
          refine HC.out.mono ?_
          rintro e y5 ⟨rfl, hb⟩
          (go_wp2_with fail; refine hK.out _ _ ?_ (fun hHeld => ?_); (focus (exact HST.out _ (through HW.out (Nat.le_refl _) hb))); clear hK K; (try simp only [Act.put, List.setIfInBounds_toArray, List.set_cons_zero, List.set_cons_succ]))
          have HW := Lib.hid (through HW.out (Nat.le_refl _) hb)
          clear hb HC
          clear HK HK2
          (refine held_take 13 (by kernel_rfl) (by kernel_rfl) (by kernel_rfl) (by assumption) ?_; simp only [List.getElem?_toArray, List.getElem?_cons_succ, List.getElem?_cons_zero]; refine ⟨fun _ _ _ _ h => h, ?_, Or.inl ⟨by kernel_rfl, ?_⟩, ?_⟩; rotate_left; (focus (intro wS hSw; (try dsimp only at hSw); go_simp; try with_reducible rfl)); (try simp only [Act.put, List.setIfInBounds_toArray, List.set_cons_zero, List.set_cons_succ]))
          (refine held_take 14 (by kernel_rfl) (by kernel_rfl) (by kernel_rfl) (by assumption) ?_; simp only [List.getElem?_toArray, List.getElem?_cons_succ, List.getElem?_cons_zero]; refine ⟨fun _ _ _ _ h => h, ?_, Or.inl ⟨by kernel_rfl, ?_⟩, ?_⟩; rotate_left; (focus (intro wS hSw; (try dsimp only at hSw); go_simp; try with_reducible rfl)); (try simp only [Act.put, List.setIfInBounds_toArray, List.set_cons_zero, List.set_cons_succ]))
          (refine held_take 15 (by kernel_rfl) (by kernel_rfl) (by kernel_rfl) (by assumption) ?_; simp only [List.getElem?_toArray, List.getElem?_cons_succ, List.getElem?_cons_zero]; refine ⟨fun _ _ _ _ h => h, ?_, Or.inl ⟨by kernel_rfl, ?_⟩, ?_⟩; rotate_left; (focus (intro wS hSw; (try dsimp only at hSw); go_simp; try with_reducible rfl)); (try simp only [Act.put, List.setIfInBounds_toArray, List.set_cons_zero, List.set_cons_succ]))
          (refine held_take 17 (by kernel_rfl) (by kernel_rfl) (by kernel_rfl) (by assumption) ?_; simp only [List.getElem?_toArray, List.getElem?_cons_succ, List.getElem?_cons_zero]; refine ⟨fun _ _ _ _ h => h, ?_, Or.inl ⟨by kernel_rfl, ?_⟩, ?_⟩; rotate_left; (focus (intro wS hSw; (try dsimp only at hSw); go_simp; try with_reducible rfl)); (try simp only [Act.put, List.setIfInBounds_toArray, List.set_cons_zero, List.set_cons_succ]))
          have HC := Lib.hid (cnt_any A2 c2 T y5 y5.heap.size (Nat.le_refl _) ((HX.out.below HW.out).more HW.out.size) (by omega))
          (refine held_one 16 (by kernel_rfl) ?_; simp only [List.getElem?_toArray, List.getElem?_cons_succ, List.getElem?_cons_zero]; intro K hK; go_simp)
          clear hHeld
          refine HC.out.mono ?_
          rintro e y6 ⟨rfl, hb⟩
          (go_wp2_with fail; refine hK.out _ _ ?_ (fun hHeld => ?_); (focus (exact HST.out _ (through HW.out (Nat.le_refl _) hb))); clear hK K; (try simp only [Act.put, List.setIfInBounds_toArray, List.set_cons_zero, List.set_cons_succ]))
          have HW := Lib.hid (through HW.out (Nat.le_refl _) hb)
          clear hb HC
          have HC := Lib.hid (cnt_any _ cf fs y6 y6.heap.size (Nat.le_refl _) ((HF.out.below ((HB.out.mono hbX0).trans (HW.out.mono (Nat.le_trans hbX0 HB.out.size)))).more (Nat.le_trans (Nat.le_trans hbX0 HB.out.size) HW.out.size)) (by omega))
          (refine held_one 18 (by kernel_rfl) ?_; simp only [List.getElem?_toArray, List.getElem?_cons_succ, List.getElem?_cons_zero]; intro K hK; go_simp)
          clear hHeld
          refine HC.out.mono ?_
          rintro e y7 ⟨rfl, hb⟩
          (go_wp2_with fail; refine hK.out _ _ ?_ (fun hHeld => ?_); (focus (exact HST.out _ (through HW.out (Nat.le_refl _) hb))); clear hK K; (try simp only [Act.put, List.setIfInBounds_toArray, List.set_cons_zero, List.set_cons_succ]))
          have HW := Lib.hid (through HW.out (Nat.le_refl _) hb)
          clear hb HC
          have hz2 : ((cntF T : Int) == (cntF fs : Int)) = true := by rw [HTC.out]; simp
          (refine held_take 19 (by kernel_rfl) (by kernel_rfl) (by kernel_rfl) (by assumption) ?_; simp only [List.getElem?_toArray, List.getElem?_cons_succ, List.getElem?_cons_zero]; refine ⟨fun _ _ _ _ h => h, ?_, Or.inl ⟨by kernel_rfl, ?_⟩, ?_⟩; rotate_left; (focus (intro wS hSw; (try dsimp only at hSw); go_simp; try with_reducible rfl)); (try simp only [Act.put, List.setIfInBounds_toArray, List.set_cons_zero, List.set_cons_succ]))
          (refine held_take 20 (by kernel_rfl) (by kernel_rfl) (by kernel_rfl) (by assumption) ?_; simp only [List.getElem?_toArray, List.getElem?_cons_succ, List.getElem?_cons_zero]; refine ⟨fun _ _ _ _ h => h, ?_, Or.inl ⟨by kernel_rfl, ?_⟩, ?_⟩; rotate_left; (focus (intro wS hSw; (try dsimp only at hSw); go_simp; try with_reducible rfl)); (try simp only [Act.put, List.setIfInBounds_toArray, List.set_cons_zero, List.set_cons_succ]))
          (refine held_take 21 (by kernel_rfl) (by kernel_rfl) (by kernel_rfl) (by assumption) ?_; simp only [List.getElem?_toArray, List.getElem?_cons_succ, List.getElem?_cons_zero]; refine ⟨fun _ _ _ _ h => h, ?_, Or.inl ⟨by kernel_rfl, ?_⟩, ?_⟩; rotate_left; (focus (intro wS hSw; (try dsimp only at hSw); go_simp; try with_reducible rfl)); (try simp only [Act.put, List.setIfInBounds_toArray, List.set_cons_zero, List.set_cons_succ]))
          have HC := Lib.hid (works_any y7)
          (refine held_one 22 (by kernel_rfl) ?_; simp only [List.getElem?_toArray, List.getElem?_cons_succ, List.getElem?_cons_zero]; intro K hK; go_simp)
          clear hHeld
          refine HC.out.mono ?_
          rintro e y8 ⟨rfl, hb⟩
          (go_wp2_with fail; refine hK.out _ _ ?_ (fun hHeld => ?_); (focus (exact HST.out _ (through HW.out (Nat.le_refl _) hb))); clear hK K; (try simp only [Act.put, List.setIfInBounds_toArray, List.set_cons_zero, List.set_cons_succ]))
          have HW := Lib.hid (through HW.out (Nat.le_refl _) hb)
          clear hb HC
          (refine held_take 23 (by kernel_rfl) (by kernel_rfl) (by kernel_rfl) (by assumption) ?_; simp only [List.getElem?_toArray, List.getElem?_cons_succ, List.getElem?_cons_zero]; refine ⟨fun _ _ _ _ h => h, ?_, Or.inl ⟨by kernel_rfl, ?_⟩, ?_⟩; rotate_left; (focus (intro wS hSw; (try dsimp only at hSw); go_simp; try with_reducible rfl)); (try simp only [Act.put, List.setIfInBounds_toArray, List.set_cons_zero, List.set_cons_succ]))
          (refine held_take 24 (by kernel_rfl) (by kernel_rfl) (by kernel_rfl) (by assumption) ?_; simp only [List.getElem?_toArray, List.getElem?_cons_succ, List.getElem?_cons_zero]; refine ⟨fun _ _ _ _ h => h, ?_, Or.inl ⟨by kernel_rfl, ?_⟩, ?_⟩; rotate_left; (focus (intro wS hSw; (try dsimp only at hSw); go_simp; try with_reducible rfl)); (try simp only [Act.put, List.setIfInBounds_toArray, List.set_cons_zero, List.set_cons_succ]))
          (refine wpAnyH_done (by kernel_rfl) ?_ _)
          clear hHeld
          go_wp2_with fail
          go_returns
          exact ⟨rfl, HE.out _ (through HB.out (Nat.le_refl _) HW.out)⟩
    · have ht : (chkE g l != 0) = true := by simpa using hc
      clear hc
      go_wp2_with fail
      refine HCK.out.mono ?_
      rintro e w2 ⟨rfl, hb2⟩
      have HB := Lib.hid (through HB.out (Nat.le_refl _) hb2)
      clear hb2 HCK s0 s1
      go_wp2_with fail
      refine (works_any w2).mono ?_
      rintro e w3 ⟨rfl, hb3⟩
      have HB := Lib.hid (through HB.out (Nat.le_refl _) hb3)
      clear hb3
      go_wp2_with fail
      go_returns
      exact ⟨rfl, HE.out _ HB.out⟩
end Go.Proofs.Ytaodbjgcidkpkaa.Fd
