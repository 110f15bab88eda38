/- The law: an operator of which nothing was measured keeps what it has, and so does each that comes of it. -/
import Derived.Test.YtcechimilefihaaSoLY
import Derived.Test.YtcechimilefihaaZo
import Derived.Test.YtcechimilefihaaZn
import Derived.Deep.RegionHeld3
import Derived.Deep.DeepCutAuto

namespace Go.Proofs.Ytcechimilefihaa.So
open Go.ChangeShapes Go.WideShapes Go.ChangeAt Go.RowKit M Sp Fr

theorem any_snoc (ns : List Bool) (k : Nat) : (List.range (k + 1)).any (noF ns) = ((List.range k).any (noF ns) || noF ns k) := by
  rw [List.range_succ, List.any_append]; simp
theorem no_out {ns : List Bool} {k : Nat} (h : ¬ k < ns.length) : noF ns k = false := by
  unfold noF; rw [List.getD_eq_getElem?_getD, List.getElem?_eq_none (by omega)]; rfl
theorem Bs.far4 {w wr : World} {b : Nat} {t : TypeId} {cs : Array Value} (h : Bs w w.heap.size [(b, t, cs)] wr) {g : Nat} (hg : b < g) (hw : w.heap.size ≤ b) (i1 i2 i3 i4 : Nat) (x1 x2 x3 x4 : Value) :
    Bs w w.heap.size [(b, t, cs)] ((((wr.setCell ⟨g, i1, none⟩ x1).setCell ⟨g, i2, none⟩ x2).setCell ⟨g, i3, none⟩ x3).setCell ⟨g, i4, none⟩ x4) :=
  ⟨(((h.1.setCell (p := ⟨g, i1, none⟩) (by show _ ≤ g; omega) _).setCell (p := ⟨g, i2, none⟩) (by show _ ≤ g; omega) _).setCell (p := ⟨g, i3, none⟩) (by show _ ≤ g; omega) _).setCell (p := ⟨g, i4, none⟩) (by show _ ≤ g; omega) _, fun z hz => by
    obtain rfl : z = (b, t, cs) := by simpa using hz
    exact (((h.g0.far (p := ⟨g, i1, none⟩) (by show b ≠ g; omega) _).far (p := ⟨g, i2, none⟩) (by show b ≠ g; omega) _).far (p := ⟨g, i3, none⟩) (by show b ≠ g; omega) _).far (p := ⟨g, i4, none⟩) (by show b ≠ g; omega) _⟩
theorem any_take {l : List OpP} {f : Nat → Bool} {i j : Nat} {v : Int} (hj : j < (insOf l i).length) (hv : (insOf l i).getD j 0 = v) (nb : Bool) :
    (nb || ((insOf l i).take (j + 1)).any fun x => f x.toNat) = ((nb || ((insOf l i).take j).any fun x => f x.toNat) || f v.toNat) := by
  rw [take_snoc hj hv, List.any_append]; simp [Bool.or_assoc]

set_option maxRecDepth 100000 in
set_option maxHeartbeats 8000000 in
theorem solveKeeps_any (g : Int) (A M C N : Option Addr) (c mc cc nc : Nat) (l : List OpP) (p : Nat → Option Addr × Nat) (ms : List Q4) (cur : List Int) (ns : List Bool) (hl : l.length ≤ 9223372036854775807) (w : World) (B : Nat) (hB : B ≤ w.heap.size) (h : IsOps w B A l p) (hm : IsQuads w B M mc ms) (hc : IsInts w B ⟨C, cc, cur⟩) (hn : IsBools w B N nc ns) :
    Calls Try.prog 10 #[.agg #[.int .i64 g, .slice A l.length c], .slice M ms.length mc, .slice C cur.length cc, .slice N ns.length nc] w fun e w' => e = .returned (.bool true) ∧ Below w.heap.size w w' := by
  have T0 := (Bs.nil w w.heap.size).alloc (Nat.le_refl _) #[.int .i64 g, .slice A l.length c] 24 rfl
  obtain ⟨X, hX⟩ : ∃ X, w.alloc (.cells #[.int .i64 g, .slice A l.length c] 24) = X := ⟨_, rfl⟩
  rw [hX] at T0
  have T := Lib.hid T0
  have HW : Hid (∀ Y, Below w.heap.size w Y → IsOps Y w.heap.size A l p ∧ IsQuads Y w.heap.size M mc ms ∧ IsInts Y w.heap.size ⟨C, cc, cur⟩ ∧ IsBools Y w.heap.size N nc ns ∧ w.heap.size ≤ Y.heap.size) := fun Y hY =>
    ⟨(h.below (hY.mono hB)).more hB, (hm.below (hY.mono hB)).more hB, (hc.below (hY.mono hB)).more hB, (hn.below (hY.mono hB)).more hB, hY.size⟩
  have HR1 := Lib.hid (right_any g 8 A M C c mc cc l p ms cur hl X w.heap.size (HW.out X T.out.1).2.2.2.2 (HW.out X T.out.1).1 (HW.out X T.out.1).2.1 (HW.out X T.out.1).2.2.1)
  have hq64 := hm.2.2.2
  have hi64 := hc.2.2.2
  have hnl := hn.len
  clear T0 hm hn
  obtain ⟨s0, s1⟩ := Sp.spec_blk T.out.g0
  have HX := Lib.hid hX
  clear hX
  cases hR : rightB g 8 l ms cur with
  | false =>
    rw [hR] at HR1
    clear hR h hc
    go_enter Try.func10, Try.ntmps10
    go_upto_region 1 with (fail)
    rw [HX.out]
    go_wp2_with fail
    refine HR1.out.mono ?_
    rintro e w1 ⟨rfl, hb1⟩
    have T1 := Lib.hid (T.out.step (Nat.le_refl _) hb1)
    (clear T; have T := T1; clear T1)
    clear hb1 s0 s1
    go_wp2_with fail
    (refine (works_any _).mono ?_; rintro e w9 ⟨rfl, hb9⟩; have HB9 := Lib.hid (through T.out.1 (Nat.le_refl _) hb9); clear hb9; go_wp2_with fail; go_returns; exact ⟨rfl, HB9.out⟩)
  | true =>
    have hok := rightB_ok hR hq64 hi64
    rw [hR] at HR1
    have HOK := Lib.hid hok
    have hml := hok.mlen
    have hcl := hok.clen
    have hl12 := hok.nlen
    obtain ⟨ba, oa, rfl, hba, -⟩ := h.at_ (show 0 < l.length by omega)
    obtain ⟨bc, oc, -, rfl, hbc, -⟩ := Sp.ints_at hc (k := 0) (by rw [hcl]; omega)
    rw [hml, hcl] at HR1
    rw [hml, hcl]
    have HML := Lib.hid hml
    have HCL := Lib.hid hcl
    clear hR hok hml hcl hq64 hi64 h hc
    go_enter Try.func10, Try.ntmps10
    go_upto_region 1 with (fail)
    rw [HX.out]
    go_wp2_with fail
    refine HR1.out.mono ?_
    rintro e wb ⟨rfl, hb1⟩
    have T1 := Lib.hid (T.out.step (Nat.le_refl _) hb1)
    (clear T; have T := T1; clear T1)
    clear hb1 s0 s1 HR1 HX
    have hww : w.heap.size < wb.heap.size := T.out.g0.lt
    have HCM := Lib.hid (copyMea_any M mc ms w.heap.size wb (by omega) (HW.out wb T.out.1).2.1 (by rw [HML.out]; omega))
    rw [HML.out] at HCM
    go_wp2_with fail
    refine HCM.out.mono ?_
    rintro e wc ⟨xa, xc, rfl, ownx, hb2⟩
    rw [HML.out] at ownx ⊢
    obtain ⟨xg, xo, -, rfl, -⟩ := quads_at ownx.quads (k := 0) (by rw [HML.out]; omega)
    obtain ⟨hxg, rfl, -⟩ := ownx.own rfl
    have T1 := Lib.hid (T.out.step (Nat.le_refl _) hb2)
    (clear T; have T := T1; clear T1)
    have HO0 := Lib.hid (show OwnQ 55 wc wb.heap.size (.slice (some ⟨xg, 0, none⟩) l.length xc) (missL ms ns 0) by rw [miss_zero]; exact ownx)
    clear hb2 ownx HCM
    go_wp2_with fail
    go_loopw [10, 11] (fun v u wr => ∃ k : Nat, k ≤ l.length ∧ u = .int .i64 k ∧ v = .bool ((List.range k).any (noF ns)) ∧ Bs w w.heap.size [(w.heap.size, 24, #[.int .i64 g, .slice (some ⟨ba, oa, none⟩) l.length c])] wr ∧ OwnQ 55 wr wb.heap.size (.slice (some ⟨xg, 0, none⟩) l.length xc) (missL ms ns k) ∧ ∀ j, j < k → goodM (ms.getD j z4)) (fun _ u _ => l.length - (intOf u).toNat)
    case atStart => exact ⟨0, by omega, rfl, rfl, T.out, HO0.out, fun j hj => absurd hj (by omega)⟩
    case round =>
      clear T HO0
      obtain ⟨k, hk, rfl, rfl, htr, hown, hall⟩ := hrel
      have T := Lib.hid htr
      have HOX := Lib.hid hown
      have HA := Lib.hid hall
      clear htr hown hall
      have HRA := Lib.hid (any_snoc ns k)
      by_cases hlt : k < l.length
      · obtain ⟨b, o, x, rfl, hb, HV, h4, c0, c1, c2, c3⟩ := quads_at (HW.out wr T.out.1).2.1 (k := k) (by rw [HML.out]; exact hlt)
        obtain ⟨ma, mb, md, me⟩ := x
        simp only at c0 c1 c2 c3
        by_cases n0 : ma < 1
        · go_wp2_with fail
          (refine (works_any _).mono ?_; rintro e w9 ⟨rfl, hb9⟩; have HB9 := Lib.hid (through T.out.1 (Nat.le_refl _) hb9); clear hb9; go_wp2_with fail; go_returns; exact ⟨rfl, HB9.out⟩)
        have e0 : decide (ma < 1) = false := by simpa using n0
        by_cases n1 : 1024 < ma
        · go_wp2_with fail
          (refine (works_any _).mono ?_; rintro e w9 ⟨rfl, hb9⟩; have HB9 := Lib.hid (through T.out.1 (Nat.le_refl _) hb9); clear hb9; go_wp2_with fail; go_returns; exact ⟨rfl, HB9.out⟩)
        have e1 : decide (1024 < ma) = false := by simpa using n1
        by_cases n2 : md < 1
        · go_wp2_with fail
          (refine (works_any _).mono ?_; rintro e w9 ⟨rfl, hb9⟩; have HB9 := Lib.hid (through T.out.1 (Nat.le_refl _) hb9); clear hb9; go_wp2_with fail; go_returns; exact ⟨rfl, HB9.out⟩)
        have e2 : decide (md < 1) = false := by simpa using n2
        by_cases n3 : 1024 < md
        · go_wp2_with fail
          (refine (works_any _).mono ?_; rintro e w9 ⟨rfl, hb9⟩; have HB9 := Lib.hid (through T.out.1 (Nat.le_refl _) hb9); clear hb9; go_wp2_with fail; go_returns; exact ⟨rfl, HB9.out⟩)
        have e3 : decide (1024 < md) = false := by simpa using n3
        by_cases n4 : 1024 < mb
        · go_wp2_with fail
          (refine (works_any _).mono ?_; rintro e w9 ⟨rfl, hb9⟩; have HB9 := Lib.hid (through T.out.1 (Nat.le_refl _) hb9); clear hb9; go_wp2_with fail; go_returns; exact ⟨rfl, HB9.out⟩)
        have e4 : decide (1024 < mb) = false := by simpa using n4
        have HG := Lib.hid (show goodM (ma, mb, md, me) from ⟨by show 1 ≤ ma; omega, by show ma ≤ _; omega, by show 1 ≤ md; omega, by show md ≤ _; omega, by show mb ≤ _; omega⟩)
        clear h4 c3 n0 n1 n2 n3 n4
        by_cases hkn : k < ns.length
        · obtain ⟨nb, no, rfl, hnb, n0⟩ := bools_at (HW.out wr T.out.1).2.2.2.1 hkn
          obtain ⟨nv, hnv⟩ : ∃ x, ns.getD k false = x := ⟨_, rfl⟩
          rw [hnv] at n0
          cases nv with
          | true =>
            have HNO := Lib.hid (show noF ns k = true from hnv)
            obtain ⟨y, -, -, y0, y1, y2, y3⟩ := quads_get HOX.out.quads (k := k) (by rw [miss_len, HML.out]; exact hlt)
            simp only [Nat.zero_add] at y0 y1 y2 y3
            have z0 := ownq_free HOX.out (k * 4)
            have z1 := ownq_free HOX.out (k * 4 + 1)
            have z2 := ownq_free HOX.out (k * 4 + 2)
            have z3 := ownq_free HOX.out (k * 4 + 3)
            have hn9 := ownq_set HOX.out (i := k) (by rw [miss_len, HML.out]; exact hlt) (0, 3, (k : Int) % 2 * 5, 0) (by unfold In4 In64; simp only; omega)
            rw [← miss_set HNO.out] at hn9
            have HN9 := Lib.hid hn9
            have T1 := Lib.hid (T.out.far4 (g := xg) (by omega) (Nat.le_refl _) (k * 4) (k * 4 + 1) (k * 4 + 2) (k * 4 + 3) (.int .i64 0) (.int .i64 3) (.int .i64 ((k : Int) % 2 * 5)) (.int .i64 0))
            (clear T; have T := T1; clear T1)
            clear hn9
            go_upto_region 12 with (fail)
            generalize ((((wr.setCell ⟨xg, k * 4, none⟩ (.int .i64 0)).setCell ⟨xg, k * 4 + 1, none⟩ (.int .i64 3)).setCell ⟨xg, k * 4 + 2, none⟩ (.int .i64 ((k : Int) % 2 * 5))).setCell ⟨xg, k * 4 + 3, none⟩ (.int .i64 0)) = W9 at *
            clear y0 y1 y2 y3 z0 z1 z2 z3 c0 c1 c2 n0
            go_wp2_with fail
            go_roundw
            case rel => exact ⟨k + 1, by omega, by go_num, by rw [HRA.out, HNO.out, Bool.or_true], T.out, HN9.out, fun j hj => by
              rcases (show j < k ∨ j = k by omega) with h | rfl
              · exact HA.out j h
              · rw [HV.out]; exact HG.out⟩
            case measure => simp [intOf]; omega
          | false =>
            have HNO := Lib.hid (show noF ns k = false from hnv)
            have HNX := Lib.hid (show OwnQ 55 wr wb.heap.size (.slice (some ⟨xg, 0, none⟩) l.length xc) (missL ms ns (k + 1)) by rw [miss_same HNO.out]; exact HOX.out)
            go_wp2_with fail
            go_roundw
            case rel => exact ⟨k + 1, by omega, by go_num, by rw [HRA.out, HNO.out, Bool.or_false], T.out, HNX.out, fun j hj => by
              rcases (show j < k ∨ j = k by omega) with h | rfl
              · exact HA.out j h
              · rw [HV.out]; exact HG.out⟩
            case measure => simp [intOf]; omega
        · have HNO := Lib.hid (no_out hkn)
          have HNX := Lib.hid (show OwnQ 55 wr wb.heap.size (.slice (some ⟨xg, 0, none⟩) l.length xc) (missL ms ns (k + 1)) by rw [miss_same HNO.out]; exact HOX.out)
          go_wp2_with fail
          go_roundw
          case rel => exact ⟨k + 1, by omega, by go_num, by rw [HRA.out, HNO.out, Bool.or_false], T.out, HNX.out, fun j hj => by
            rcases (show j < k ∨ j = k by omega) with h | rfl
            · exact HA.out j h
            · rw [HV.out]; exact HG.out⟩
          case measure => simp [intOf]; omega
      · obtain rfl : k = l.length := by omega
        have HXQ := Lib.hid HOX.out.quads
        have HXL := Lib.hid (show (missL ms ns l.length).length = l.length by rw [miss_len]; exact HML.out)
        have hkb := miss_ok (none := ns) HOK.out
        have HKB := Lib.hid hkb
        have HER := Lib.hid (keeps_err HOK.out HA.out)
        have HMS := Lib.hid (fun hf => miss_of (none := ns) HOK.out hf)
        have s1l := (solSt_ok HOK.out l.length (Nat.le_refl _)).olen
        have s2l := (solSt_ok hkb l.length (Nat.le_refl _)).olen
        rw [← solF_eq HOK.out] at s1l
        rw [← solF_eq hkb] at s2l
        have HME := Lib.hid (fun hf => (HMS.out hf).err)
        have HMO := Lib.hid (fun hf op hop => (HMS.out hf).outs (op := op) hop)
        have HML2 := Lib.hid (fun hf k hk => (HMS.out hf).lost (k := k) hk)
        obtain ⟨a, ha⟩ : ∃ a, (solF g 8 l ms cur).out = a := ⟨_, rfl⟩
        obtain ⟨f, hf⟩ : ∃ f, (solF g 8 l ms cur).first = f := ⟨_, rfl⟩
        obtain ⟨d, hd⟩ : ∃ d, (solF g 8 l (missL ms ns l.length) cur).out = d := ⟨_, rfl⟩
        obtain ⟨f2, hf2⟩ : ∃ f2, (solF g 8 l (missL ms ns l.length) cur).first = f2 := ⟨_, rfl⟩
        obtain ⟨lf, hlf⟩ : ∃ lf, lostF g 8 l (missL ms ns l.length) cur = lf := ⟨_, rfl⟩
        rw [hf, hf2] at HME
        rw [hf, ha, hd, hlf] at HMO
        rw [hf, hlf] at HML2
        rw [hf] at HER
        rw [ha] at s1l
        rw [hd] at s2l
        have E1 := Lib.hid (And.intro ha hf)
        have E2 := Lib.hid (And.intro hd hf2)
        have HAL := Lib.hid s1l
        have HDL := Lib.hid s2l
        clear ha hf hd hf2 hlf s1l s2l hkb HA HMS
        obtain ⟨s0, s1⟩ := Sp.spec_blk T.out.g0
        have HS := Lib.hid (solve_any g 8 (some ⟨ba, oa, none⟩) M (some ⟨bc, oc, none⟩) c mc cc l p ms cur wr w.heap.size T.out.1.size (HW.out wr T.out.1).1 (HW.out wr T.out.1).2.1 (HW.out wr T.out.1).2.2.1 HOK.out)
        rw [HML.out, HCL.out] at HS
        go_wp2_with fail
        (
  refine HS.out.mono ?_
  rintro e w2 hr
  obtain ⟨R1, k1, rfl, own1, hb7⟩ := hr.as E1.out.1 E1.out.2
  have T1 := Lib.hid (T.out.step (Nat.le_refl _) hb7)
  (clear T; have T := T1; clear T1)
  clear hr HS s0 s1
  obtain ⟨s0, s1⟩ := Sp.spec_blk T.out.g0)
        rw [HAL.out] at own1 ⊢
        obtain ⟨r1, q1, -, rfl, -⟩ := Sp.ints_at own1.ints (k := 0) (by rw [HAL.out]; omega)
        obtain ⟨-, rfl, -⟩ := own1.ints_own rfl
        have HO1 := Lib.hid own1
        have HX2 := Lib.hid ((HXQ.out.below hb7).more hb7.size)
        clear own1 hb7 HXQ
        have HS := Lib.hid (solve_any g 8 (some ⟨ba, oa, none⟩) (some ⟨xg, 0, none⟩) (some ⟨bc, oc, none⟩) c xc cc l p (missL ms ns l.length) cur w2 w2.heap.size (Nat.le_refl _) ((HW.out w2 T.out.1).1.more T.out.1.size) HX2.out ((HW.out w2 T.out.1).2.2.1.more T.out.1.size) HKB.out)
        rw [HXL.out, HCL.out] at HS
        go_wp2_with fail
        (
  refine HS.out.mono ?_
  rintro e w3 hr
  obtain ⟨R2, k2, rfl, own2, hb7⟩ := hr.as E2.out.1 E2.out.2
  have T1 := Lib.hid (T.out.step (Nat.le_refl _) hb7)
  (clear T; have T := T1; clear T1)
  clear hr HS s0 s1
  obtain ⟨s0, s1⟩ := Sp.spec_blk T.out.g0)
        rw [HDL.out] at own2 ⊢
        obtain ⟨r2, q2, -, rfl, -⟩ := Sp.ints_at own2.ints (k := 0) (by rw [HDL.out]; omega)
        obtain ⟨-, rfl, -⟩ := own2.ints_own rfl
        have HO2 := Lib.hid own2
        have X := Lib.hid (HO1.out.below hb7); clear HO1; have HO1 := X; clear X
        clear own2 hb7 HX2 E1 E2
        have tll : ((l.length : Int) != (l.length : Int)) = false := by simp
        rcases HER.out with rfl | rfl
        · have HE2 := HME.out rfl
          have HOT := Lib.hid (HMO.out rfl)
          have HLO := Lib.hid (HML2.out rfl)
          clear HME HMO HML2 HER
          generalize (List.range l.length).any (noF ns) = bb at *
          subst HE2
          cases bb with
          | true =>
            obtain ⟨H, hH⟩ : ∃ k, w3.heap.size = k := ⟨_, rfl⟩
            obtain ⟨X4, hX4⟩ : ∃ Y, w3.alloc (.cells (bsCells (List.replicate l.length default)) 4) = Y := ⟨_, rfl⟩
            have hmk := make_bs l.length (by omega)
            go_upto_region 22 with (fail)
            (try rw [hX4])
            (try rw [hH])
            have HBL := Lib.hid (show IsBl X4 H (List.replicate l.length false) by rw [← hX4, ← hH, bl_made]; exact Blk.new _ _ _)
            have hbx : Below w3.heap.size w3 X4 := hX4 ▸ (Below.refl _ _).alloc (Nat.le_refl _) _
            have HX5 := Lib.hid (show X4.heap.size = H + 1 by rw [← hX4, ← hH]; simp)
            have hwH : w.heap.size < H := hH ▸ T.out.g0.lt
            have T1 := Lib.hid (T.out.step (Nat.le_refl _) hbx)
            (clear T; have T := T1; clear T1)
            have HIA := Lib.hid (show IsInts X4 H ⟨some ⟨r1, 0, none⟩, k1, a⟩ from hH ▸ HO1.out.ints.below hbx)
            have HIB := Lib.hid (show IsInts X4 H ⟨some ⟨r2, 0, none⟩, k2, d⟩ from hH ▸ HO2.out.ints.below hbx)
            clear hmk hbx hX4 hH HO1 HO2 s0 s1
            obtain ⟨s0, s1⟩ := Sp.spec_blk T.out.g0
            have HOR := Lib.hid (order_any g (some ⟨ba, oa, none⟩) c l p X4 w.heap.size T.out.1.size (HW.out X4 T.out.1).1 (by omega))
            go_wp2_with fail
            refine HOR.out.mono ?_
            rintro e w5 ⟨A3, c3, rfl, own3, hb5⟩
            have HOL := Lib.hid HOK.out.olen
            obtain ⟨b3, o3, -, rfl, -⟩ := Sp.ints_at own3.ints (k := 0) (by rw [HOL.out]; omega)
            obtain ⟨hb3, rfl, -⟩ := own3.ints_own rfl
            rw [HX5.out] at own3
            have HIK := Lib.hid (show InK w g (some ⟨ba, oa, none⟩) c l H (some ⟨r1, 0, none⟩) k1 a (some ⟨r2, 0, none⟩) k2 d (.slice (some ⟨b3, 0, none⟩) (orderF l).length c3) (upL l lf 0) w5 from
              ⟨T.out.step (Nat.le_refl _) hb5, HIA.out.below (hb5.mono (by rw [HX5.out]; omega)), HIB.out.below (hb5.mono (by rw [HX5.out]; omega)), own3, by rw [upL_zero]; exact Blk.below HBL.out hb5 (Blk.lt HBL.out), hwH⟩)
            have hol : (orderF l).length ≤ 12 := by rw [HOL.out]; exact hl12.2
            clear s0 s1 hb5 own3 HOR HBL HIA HIB hb3 HX5 T
            go_wp2_with fail
            go_loopw [18] (fun u wr => ∃ k : Nat, k ≤ (orderF l).length ∧ u = .int .i64 k ∧ InK w g (some ⟨ba, oa, none⟩) c l H (some ⟨r1, 0, none⟩) k1 a (some ⟨r2, 0, none⟩) k2 d (.slice (some ⟨b3, 0, none⟩) (orderF l).length c3) (upL l lf k) wr) (fun u _ => (orderF l).length - (intOf u).toNat)
            case atStart => exact ⟨0, by omega, rfl, HIK.out⟩
            case round =>
              clear HIK
              obtain ⟨k, hk, rfl, hin⟩ := hrel
              have HIN := Lib.hid hin
              clear hin
              by_cases hlt : k < (orderF l).length
              · have hkl : k < l.length := by have := HOL.out; omega
                obtain ⟨v, HV, -, d0⟩ := Sp.ints_get HIN.out.ord.ints hlt
                obtain ⟨hop, hov⟩ := opAt_lt (l := l) hlt
                obtain rfl : v = (opAt l k : Nat) := HV.out.symm.trans hov
                simp only [Nat.zero_add] at d0
                clear HV hov
                have g0 := HIN.out.bl.at_ (i := opAt l k) (by rw [upL_len]; exact hop)
                have g1 := Blk.frozen HIN.out.bl (opAt l k)
                have hil := in_len HOK.out.okJ hop
                obtain ⟨nb, hnb⟩ : ∃ x, noF ns (opAt l k) = x := ⟨_, rfl⟩
                have HNB := Lib.hid hnb
                go_upto_region 27 with (fail)
                go_cut [] (fun wc => wc = wr.setCell ⟨H, opAt l k, none⟩ (.bool nb))
                case first =>
                  by_cases hon : opAt l k < ns.length
                  · obtain ⟨b8, o8, hN8, hb8, n0⟩ := bools_at (HW.out wr HIN.out.t.1).2.2.2.1 hon
                    subst hN8
                    change wr.cell? _ = some (.bool (noF ns (opAt l k))) at n0
                    rw [hnb] at n0
                    clear hnb
                    go_wp2_with fail
                    go_meet
                    rfl
                  · rw [no_out hon] at hnb
                    subst hnb
                    go_wp2_with fail
                    go_meet
                    rfl
                case rest =>
                  subst hcut
                  clear hnb
                  have HN1 := Lib.hid (HIN.out.set (opAt l k) nb)
                  generalize wr.setCell ⟨H, opAt l k, none⟩ (.bool nb) = W1 at *
                  clear g0 g1 d0
                  have HN2 := Lib.hid (show InK w g (some ⟨ba, oa, none⟩) c l H (some ⟨r1, 0, none⟩) k1 a (some ⟨r2, 0, none⟩) k2 d (.slice (some ⟨b3, 0, none⟩) (orderF l).length c3) ((upL l lf k).set (opAt l k) (nb || ((insOf l (opAt l k)).take 0).any fun x => lf x.toNat)) W1 by rw [List.take_zero]; simpa using HN1.out)
                  go_wp2_with fail
                  go_loopw [20] (fun u wr => ∃ j : Nat, j ≤ (insOf l (opAt l k)).length ∧ u = .int .i64 j ∧ InK w g (some ⟨ba, oa, none⟩) c l H (some ⟨r1, 0, none⟩) k1 a (some ⟨r2, 0, none⟩) k2 d (.slice (some ⟨b3, 0, none⟩) (orderF l).length c3) ((upL l lf k).set (opAt l k) (nb || ((insOf l (opAt l k)).take j).any fun x => lf x.toNat)) wr) (fun u _ => (insOf l (opAt l k)).length - (intOf u).toNat)
                  case atStart => exact ⟨0, by omega, rfl, HN2.out⟩
                  case round =>
                    clear HN1 HN2
                    obtain ⟨j, hj, rfl, hin⟩ := hrel
                    have HJ := Lib.hid hin
                    clear hin
                    obtain ⟨s0, s1⟩ := Sp.spec_blk HJ.out.t.g0
                    have hops := (HW.out wr HJ.out.t.1).1
                    have q1 := (ops_cells hops hop).2.1
                    have HIS := Lib.hid (hops.2 _ hop).2
                    clear hops
                    have i0 := HJ.out.bl.at_ (i := opAt l k) (by rw [List.length_set, upL_len]; exact hop)
                    rw [getD_set', upL_len, if_pos ⟨rfl, hop⟩] at i0
                    by_cases hltj : j < (insOf l (opAt l k)).length
                    · obtain ⟨b9, o9, v, hpa, hb9, HV, hv64, d0⟩ := Sp.ints_at HIS.out hltj
                      obtain ⟨jk, hjk, rfl⟩ := opAt_in HOK.out hkl (HV.out ▸ getD_mem hltj)
                      have hjo : opAt l jk < l.length := (opAt_lt (l := l) (k := jk) (by rw [HOL.out]; omega)).1
                      have hjne : opAt l k ≠ opAt l jk := fun e => by have := opAt_inj (l := l) (by rw [HOL.out]; exact hkl) (by rw [HOL.out]; omega) e; omega
                      have i1 := HJ.out.bl.at_ (i := opAt l jk) (by rw [List.length_set, upL_len]; exact hjo)
                      rw [getD_set', if_neg (fun e => hjne e.1), upL_get hjk (by rw [HOL.out]; omega)] at i1
                      have g1 := Blk.frozen HJ.out.bl (opAt l k)
                      have HAT := Lib.hid (any_take (f := lf) hltj HV.out nb)
                      rw [Int.toNat_natCast] at HAT
                      have HSET := Lib.hid (fun x => HJ.out.set (opAt l k) x)
                      generalize (nb || ((insOf l (opAt l k)).take j).any fun x => lf x.toNat) = bv at *
                      obtain ⟨fb, hfb⟩ : ∃ x, lf (opAt l jk) = x := ⟨_, rfl⟩
                      rw [hfb] at i1 HAT
                      clear hfb
                      cases bv with
                      | true =>
                        have HNW := HSET.out true
                        rw [List.set_set] at HNW
                        have HNX := Lib.hid HNW
                        clear HNW HSET
                        go_upto_region 30 with (fail)
                        generalize wr.setCell ⟨H, opAt l k, none⟩ (.bool true) = W2 at *
                        clear i0 i1 g1 d0 q1 s0 s1
                        go_wp2_with fail
                        go_roundw
                        case rel => exact ⟨j + 1, by omega, by go_num, by rw [HAT.out]; exact HNX.out⟩
                        case measure => simp [intOf]; omega
                      | false =>
                        have HNW := HSET.out fb
                        rw [List.set_set] at HNW
                        have HNX := Lib.hid HNW
                        clear HNW HSET
                        go_upto_region 30 with (fail)
                        generalize wr.setCell ⟨H, opAt l k, none⟩ (.bool fb) = W2 at *
                        clear i0 i1 g1 d0 q1 s0 s1
                        go_wp2_with fail
                        go_roundw
                        case rel => exact ⟨j + 1, by omega, by go_num, by rw [HAT.out, Bool.false_or]; exact HNX.out⟩
                        case measure => simp [intOf]; omega
                    · obtain rfl : j = (insOf l (opAt l k)).length := by omega
                      have hlo : (nb || ((insOf l (opAt l k)).take (insOf l (opAt l k)).length).any fun x => lf x.toNat) = lf (opAt l k) := by rw [List.take_length]; exact (HNB.out ▸ HLO.out k hkl).symm
                      rw [hlo] at i0
                      have hup := upL_step (l := l) (f := lf) (k := k) (by rw [HOL.out]; exact hkl)
                      have HNX := Lib.hid (show InK w g (some ⟨ba, oa, none⟩) c l H (some ⟨r1, 0, none⟩) k1 a (some ⟨r2, 0, none⟩) k2 d (.slice (some ⟨b3, 0, none⟩) (orderF l).length c3) (upL l lf (k + 1)) wr by rw [hup, ← hlo]; exact HJ.out)
                      obtain ⟨va, HVA, -, a0⟩ := Sp.ints_get HJ.out.a (k := opAt l k) (by rw [HAL.out]; exact hop)
                      obtain ⟨vb, HVB, -, b0⟩ := Sp.ints_get HJ.out.b (k := opAt l k) (by rw [HDL.out]; exact hop)
                      obtain ⟨vc, HVC, -, c0⟩ := Sp.ints_get (HW.out wr HJ.out.t.1).2.2.1 (k := opAt l k) (by rw [HCL.out]; exact hop)
                      simp only [Nat.zero_add] at a0 b0
                      have HOU := Lib.hid (HOT.out (opAt l k) hop)
                      have hld : ((l.length : Nat) : Int) ≤ 9223372036854775807 := by omega
                      clear hlo hup
                      obtain ⟨fb, hfb⟩ : ∃ x, lf (opAt l k) = x := ⟨_, rfl⟩
                      rw [hfb] at i0 HOU
                      cases fb with
                      | true =>
                        obtain rfl : vb = vc := HVB.out.symm.trans ((HOU.out.1 rfl).trans HVC.out)
                        have tq : (vb != vb) = false := by simp
                        clear hfb HJ HIS HVA HVB HVC HOU
                        go_wp2_with fail
                        go_quiet (fail)
                        go_wp2_with fail
                        go_roundw
                        case rel => exact ⟨k + 1, by omega, by go_num, HNX.out.drewN _⟩
                        case measure => simp [intOf]; omega
                      | false =>
                        obtain rfl : vb = va := HVB.out.symm.trans ((HOU.out.2 rfl).trans HVA.out)
                        have tq : (vb != vb) = false := by simp
                        clear hfb HJ HIS HVA HVB HVC HOU
                        go_wp2_with fail
                        go_quiet (fail)
                        go_wp2_with fail
                        go_roundw
                        case rel => exact ⟨k + 1, by omega, by go_num, HNX.out.drewN _⟩
                        case measure => simp [intOf]; omega
              · obtain rfl : k = (orderF l).length := by omega
                have T := Lib.hid HIN.out.t
                go_wp2_with fail
                (refine (works_any _).mono ?_; rintro e w9 ⟨rfl, hb9⟩; have HB9 := Lib.hid (through T.out.1 (Nat.le_refl _) hb9); clear hb9; go_wp2_with fail; go_returns; exact ⟨rfl, HB9.out⟩)
          | false =>
            obtain ⟨H, hH⟩ : ∃ k, w3.heap.size = k := ⟨_, rfl⟩
            obtain ⟨X4, hX4⟩ : ∃ Y, w3.alloc (.cells (bsCells (List.replicate l.length default)) 4) = Y := ⟨_, rfl⟩
            have hmk := make_bs l.length (by omega)
            go_upto_region 22 with (fail)
            (try rw [hX4])
            (try rw [hH])
            have HBL := Lib.hid (show IsBl X4 H (List.replicate l.length false) by rw [← hX4, ← hH, bl_made]; exact Blk.new _ _ _)
            have hbx : Below w3.heap.size w3 X4 := hX4 ▸ (Below.refl _ _).alloc (Nat.le_refl _) _
            have HX5 := Lib.hid (show X4.heap.size = H + 1 by rw [← hX4, ← hH]; simp)
            have hwH : w.heap.size < H := hH ▸ T.out.g0.lt
            have T1 := Lib.hid (T.out.step (Nat.le_refl _) hbx)
            (clear T; have T := T1; clear T1)
            have HIA := Lib.hid (show IsInts X4 H ⟨some ⟨r1, 0, none⟩, k1, a⟩ from hH ▸ HO1.out.ints.below hbx)
            have HIB := Lib.hid (show IsInts X4 H ⟨some ⟨r2, 0, none⟩, k2, d⟩ from hH ▸ HO2.out.ints.below hbx)
            clear hmk hbx hX4 hH HO1 HO2 s0 s1
            obtain ⟨s0, s1⟩ := Sp.spec_blk T.out.g0
            have HOR := Lib.hid (order_any g (some ⟨ba, oa, none⟩) c l p X4 w.heap.size T.out.1.size (HW.out X4 T.out.1).1 (by omega))
            go_wp2_with fail
            refine HOR.out.mono ?_
            rintro e w5 ⟨A3, c3, rfl, own3, hb5⟩
            have HOL := Lib.hid HOK.out.olen
            obtain ⟨b3, o3, -, rfl, -⟩ := Sp.ints_at own3.ints (k := 0) (by rw [HOL.out]; omega)
            obtain ⟨hb3, rfl, -⟩ := own3.ints_own rfl
            rw [HX5.out] at own3
            have HIK := Lib.hid (show InK w g (some ⟨ba, oa, none⟩) c l H (some ⟨r1, 0, none⟩) k1 a (some ⟨r2, 0, none⟩) k2 d (.slice (some ⟨b3, 0, none⟩) (orderF l).length c3) (upL l lf 0) w5 from
              ⟨T.out.step (Nat.le_refl _) hb5, HIA.out.below (hb5.mono (by rw [HX5.out]; omega)), HIB.out.below (hb5.mono (by rw [HX5.out]; omega)), own3, by rw [upL_zero]; exact Blk.below HBL.out hb5 (Blk.lt HBL.out), hwH⟩)
            have hol : (orderF l).length ≤ 12 := by rw [HOL.out]; exact hl12.2
            clear s0 s1 hb5 own3 HOR HBL HIA HIB hb3 HX5 T
            go_wp2_with fail
            go_loopw [18] (fun u wr => ∃ k : Nat, k ≤ (orderF l).length ∧ u = .int .i64 k ∧ InK w g (some ⟨ba, oa, none⟩) c l H (some ⟨r1, 0, none⟩) k1 a (some ⟨r2, 0, none⟩) k2 d (.slice (some ⟨b3, 0, none⟩) (orderF l).length c3) (upL l lf k) wr) (fun u _ => (orderF l).length - (intOf u).toNat)
            case atStart => exact ⟨0, by omega, rfl, HIK.out⟩
            case round =>
              clear HIK
              obtain ⟨k, hk, rfl, hin⟩ := hrel
              have HIN := Lib.hid hin
              clear hin
              by_cases hlt : k < (orderF l).length
              · have hkl : k < l.length := by have := HOL.out; omega
                obtain ⟨v, HV, -, d0⟩ := Sp.ints_get HIN.out.ord.ints hlt
                obtain ⟨hop, hov⟩ := opAt_lt (l := l) hlt
                obtain rfl : v = (opAt l k : Nat) := HV.out.symm.trans hov
                simp only [Nat.zero_add] at d0
                clear HV hov
                have g0 := HIN.out.bl.at_ (i := opAt l k) (by rw [upL_len]; exact hop)
                have g1 := Blk.frozen HIN.out.bl (opAt l k)
                have hil := in_len HOK.out.okJ hop
                obtain ⟨nb, hnb⟩ : ∃ x, noF ns (opAt l k) = x := ⟨_, rfl⟩
                have HNB := Lib.hid hnb
                go_upto_region 27 with (fail)
                go_cut [] (fun wc => wc = wr.setCell ⟨H, opAt l k, none⟩ (.bool nb))
                case first =>
                  by_cases hon : opAt l k < ns.length
                  · obtain ⟨b8, o8, hN8, hb8, n0⟩ := bools_at (HW.out wr HIN.out.t.1).2.2.2.1 hon
                    subst hN8
                    change wr.cell? _ = some (.bool (noF ns (opAt l k))) at n0
                    rw [hnb] at n0
                    clear hnb
                    go_wp2_with fail
                    go_meet
                    rfl
                  · rw [no_out hon] at hnb
                    subst hnb
                    go_wp2_with fail
                    go_meet
                    rfl
                case rest =>
                  subst hcut
                  clear hnb
                  have HN1 := Lib.hid (HIN.out.set (opAt l k) nb)
                  generalize wr.setCell ⟨H, opAt l k, none⟩ (.bool nb) = W1 at *
                  clear g0 g1 d0
                  have HN2 := Lib.hid (show InK w g (some ⟨ba, oa, none⟩) c l H (some ⟨r1, 0, none⟩) k1 a (some ⟨r2, 0, none⟩) k2 d (.slice (some ⟨b3, 0, none⟩) (orderF l).length c3) ((upL l lf k).set (opAt l k) (nb || ((insOf l (opAt l k)).take 0).any fun x => lf x.toNat)) W1 by rw [List.take_zero]; simpa using HN1.out)
                  go_wp2_with fail
                  go_loopw [20] (fun u wr => ∃ j : Nat, j ≤ (insOf l (opAt l k)).length ∧ u = .int .i64 j ∧ InK w g (some ⟨ba, oa, none⟩) c l H (some ⟨r1, 0, none⟩) k1 a (some ⟨r2, 0, none⟩) k2 d (.slice (some ⟨b3, 0, none⟩) (orderF l).length c3) ((upL l lf k).set (opAt l k) (nb || ((insOf l (opAt l k)).take j).any fun x => lf x.toNat)) wr) (fun u _ => (insOf l (opAt l k)).length - (intOf u).toNat)
                  case atStart => exact ⟨0, by omega, rfl, HN2.out⟩
                  case round =>
                    clear HN1 HN2
                    obtain ⟨j, hj, rfl, hin⟩ := hrel
                    have HJ := Lib.hid hin
                    clear hin
                    obtain ⟨s0, s1⟩ := Sp.spec_blk HJ.out.t.g0
                    have hops := (HW.out wr HJ.out.t.1).1
                    have q1 := (ops_cells hops hop).2.1
                    have HIS := Lib.hid (hops.2 _ hop).2
                    clear hops
                    have i0 := HJ.out.bl.at_ (i := opAt l k) (by rw [List.length_set, upL_len]; exact hop)
                    rw [getD_set', upL_len, if_pos ⟨rfl, hop⟩] at i0
                    by_cases hltj : j < (insOf l (opAt l k)).length
                    · obtain ⟨b9, o9, v, hpa, hb9, HV, hv64, d0⟩ := Sp.ints_at HIS.out hltj
                      obtain ⟨jk, hjk, rfl⟩ := opAt_in HOK.out hkl (HV.out ▸ getD_mem hltj)
                      have hjo : opAt l jk < l.length := (opAt_lt (l := l) (k := jk) (by rw [HOL.out]; omega)).1
                      have hjne : opAt l k ≠ opAt l jk := fun e => by have := opAt_inj (l := l) (by rw [HOL.out]; exact hkl) (by rw [HOL.out]; omega) e; omega
                      have i1 := HJ.out.bl.at_ (i := opAt l jk) (by rw [List.length_set, upL_len]; exact hjo)
                      rw [getD_set', if_neg (fun e => hjne e.1), upL_get hjk (by rw [HOL.out]; omega)] at i1
                      have g1 := Blk.frozen HJ.out.bl (opAt l k)
                      have HAT := Lib.hid (any_take (f := lf) hltj HV.out nb)
                      rw [Int.toNat_natCast] at HAT
                      have HSET := Lib.hid (fun x => HJ.out.set (opAt l k) x)
                      generalize (nb || ((insOf l (opAt l k)).take j).any fun x => lf x.toNat) = bv at *
                      obtain ⟨fb, hfb⟩ : ∃ x, lf (opAt l jk) = x := ⟨_, rfl⟩
                      rw [hfb] at i1 HAT
                      clear hfb
                      cases bv with
                      | true =>
                        have HNW := HSET.out true
                        rw [List.set_set] at HNW
                        have HNX := Lib.hid HNW
                        clear HNW HSET
                        go_upto_region 30 with (fail)
                        generalize wr.setCell ⟨H, opAt l k, none⟩ (.bool true) = W2 at *
                        clear i0 i1 g1 d0 q1 s0 s1
                        go_wp2_with fail
                        go_roundw
                        case rel => exact ⟨j + 1, by omega, by go_num, by rw [HAT.out]; exact HNX.out⟩
                        case measure => simp [intOf]; omega
                      | false =>
                        have HNW := HSET.out fb
                        rw [List.set_set] at HNW
                        have HNX := Lib.hid HNW
                        clear HNW HSET
                        go_upto_region 30 with (fail)
                        generalize wr.setCell ⟨H, opAt l k, none⟩ (.bool fb) = W2 at *
                        clear i0 i1 g1 d0 q1 s0 s1
                        go_wp2_with fail
                        go_roundw
                        case rel => exact ⟨j + 1, by omega, by go_num, by rw [HAT.out, Bool.false_or]; exact HNX.out⟩
                        case measure => simp [intOf]; omega
                    · obtain rfl : j = (insOf l (opAt l k)).length := by omega
                      have hlo : (nb || ((insOf l (opAt l k)).take (insOf l (opAt l k)).length).any fun x => lf x.toNat) = lf (opAt l k) := by rw [List.take_length]; exact (HNB.out ▸ HLO.out k hkl).symm
                      rw [hlo] at i0
                      have hup := upL_step (l := l) (f := lf) (k := k) (by rw [HOL.out]; exact hkl)
                      have HNX := Lib.hid (show InK w g (some ⟨ba, oa, none⟩) c l H (some ⟨r1, 0, none⟩) k1 a (some ⟨r2, 0, none⟩) k2 d (.slice (some ⟨b3, 0, none⟩) (orderF l).length c3) (upL l lf (k + 1)) wr by rw [hup, ← hlo]; exact HJ.out)
                      obtain ⟨va, HVA, -, a0⟩ := Sp.ints_get HJ.out.a (k := opAt l k) (by rw [HAL.out]; exact hop)
                      obtain ⟨vb, HVB, -, b0⟩ := Sp.ints_get HJ.out.b (k := opAt l k) (by rw [HDL.out]; exact hop)
                      obtain ⟨vc, HVC, -, c0⟩ := Sp.ints_get (HW.out wr HJ.out.t.1).2.2.1 (k := opAt l k) (by rw [HCL.out]; exact hop)
                      simp only [Nat.zero_add] at a0 b0
                      have HOU := Lib.hid (HOT.out (opAt l k) hop)
                      have hld : ((l.length : Nat) : Int) ≤ 9223372036854775807 := by omega
                      clear hlo hup
                      obtain ⟨fb, hfb⟩ : ∃ x, lf (opAt l k) = x := ⟨_, rfl⟩
                      rw [hfb] at i0 HOU
                      cases fb with
                      | true =>
                        obtain rfl : vb = vc := HVB.out.symm.trans ((HOU.out.1 rfl).trans HVC.out)
                        have tq : (vb != vb) = false := by simp
                        clear hfb HJ HIS HVA HVB HVC HOU
                        go_wp2_with fail
                        go_quiet (fail)
                        go_wp2_with fail
                        go_roundw
                        case rel => exact ⟨k + 1, by omega, by go_num, HNX.out.drewN _⟩
                        case measure => simp [intOf]; omega
                      | false =>
                        obtain rfl : vb = va := HVB.out.symm.trans ((HOU.out.2 rfl).trans HVA.out)
                        have tq : (vb != vb) = false := by simp
                        clear hfb HJ HIS HVA HVB HVC HOU
                        go_wp2_with fail
                        go_quiet (fail)
                        go_wp2_with fail
                        go_roundw
                        case rel => exact ⟨k + 1, by omega, by go_num, HNX.out.drewN _⟩
                        case measure => simp [intOf]; omega
              · obtain rfl : k = (orderF l).length := by omega
                have T := Lib.hid HIN.out.t
                go_wp2_with fail
                (refine (works_any _).mono ?_; rintro e w9 ⟨rfl, hb9⟩; have HB9 := Lib.hid (through T.out.1 (Nat.le_refl _) hb9); clear hb9; go_wp2_with fail; go_returns; exact ⟨rfl, HB9.out⟩)
        · go_wp2_with fail
          (refine (works_any _).mono ?_; rintro e w9 ⟨rfl, hb9⟩; have HB9 := Lib.hid (through T.out.1 (Nat.le_refl _) hb9); clear hb9; go_wp2_with fail; go_returns; exact ⟨rfl, HB9.out⟩)
      end Go.Proofs.Ytcechimilefihaa.So
