/- Feeds that are right are right with a record less. -/
import Derived.Test.YtaodbjgcidkpkaaFdXY
import Derived.Test.YtaodbjgcidkpkaaFdR2Y
import Derived.Test.YtaodbjgcidkpkaaFdQ5Y
import Derived.Test.YtaodbjgcidkpkaaZa

namespace Go.Proofs.Ytaodbjgcidkpkaa.Fd
open Go.ChangeShapes Go.WideShapes Go.ChangeAt Go.RowKit M Sp

set_option maxRecDepth 100000 in
set_option maxHeartbeats 8000000 in
theorem feedLess_any (g a1 a2 a3 : Int) (h1i : In64 a1) (h2i : In64 a2) (h3i : In64 a3) (A Af : Option Addr) (c cf : Nat) (l : List OpP) (p : Nat → Option Addr × Nat) (fs : List Fp) (w : World) (hl : l.length ≤ 9223372036854775807) (h : IsOps w w.heap.size A l p) (hf : IsFeeds w w.heap.size Af cf fs) :
    Calls Try.prog 9 #[.agg #[.int .i64 g, .slice A l.length c], .slice Af fs.length cf, .int .i64 a1, .int .i64 a2, .int .i64 a3] w fun e w' => e = .returned (.bool true) ∧ Below w.heap.size w w' := by
  obtain ⟨X, hX⟩ : ∃ X, w.alloc (.cells #[.int .i64 g, .slice A l.length c] 24) = X := ⟨_, rfl⟩
  have hbX : Below w.heap.size w X := hX ▸ (Below.refl _ w).alloc (Nat.le_refl _) _
  have hsX : w.heap.size + 1 = X.heap.size := by rw [← hX]; simp
  have KS := Lib.hid (show Blk X w.heap.size 24 #[.int .i64 g, .slice A l.length c] by rw [← hX]; exact Blk.new _ _ _)
  have HO := Lib.hid (show IsOps X w.heap.size A l p by rw [← hX]; exact h.alloc (Nat.le_refl _) _)
  have HF := Lib.hid (hf.below hbX)
  have HE := Lib.hid (show ∀ w', Below X.heap.size X w' → Below w.heap.size w w' from fun w' hb => through hbX (Nat.le_refl _) (hb.mono (by omega)))
  have hbX0 : w.heap.size ≤ X.heap.size := by omega
  have hsz : w.heap.size < X.heap.size := by omega
  have HLG := Lib.hid (long_any Af cf fs X w.heap.size HF.out)
  have H1i := Lib.hid h1i
  have H2i := Lib.hid h2i
  have H3i := Lib.hid h3i
  clear h hf hbX h1i h2i h3i
  go_enter Try.func9, Try.ntmps9
  go_upto_region 1 with (fail)
  (try rw [hX])
  clear hX hsX
  cases hlb : longB fs with
  | true =>
    rw [hlb] at HLG
    go_wp2_with fail
    refine HLG.out.mono ?_
    rintro e w1 ⟨rfl, hb⟩
    have HB := Lib.hid hb
    clear hb HLG
    go_wp2_with fail
    refine (works_any w1).mono ?_
    rintro e w2 ⟨rfl, hb⟩
    have HB := Lib.hid (through HB.out (Nat.le_refl _) hb)
    clear hb
    go_wp2_with fail
    go_returns
    exact ⟨rfl, HE.out _ HB.out⟩
  | false =>
    have HSH := Lib.hid (short_of hlb)
    have HSP := Lib.hid (short_parts hlb)
    obtain ⟨h20, h100, h600⟩ := longB_no hlb
    rw [hlb] at HLG
    clear hlb
    go_wp2_with fail
    refine HLG.out.mono ?_
    rintro e w1 ⟨rfl, hb1⟩
    have HB := Lib.hid hb1
    have HCK := Lib.hid (checkI_any g A c l p hl w1 w.heap.size (Nat.le_trans hbX0 hb1.size) (HO.out.below (hb1.mono hbX0)))
    obtain ⟨s0, s1⟩ := spec_blk (KS.out.below hb1 hsz)
    clear hb1 HLG
    by_cases hc : chkE g l = 0
    · have HCE := Lib.hid hc
      rw [hc] at HCK
      have hlen := (ok_of hc).len.2
      clear hc
      go_wp2_with fail
      refine HCK.out.mono ?_
      rintro e w2 ⟨rfl, hb2⟩
      have HB := Lib.hid (through HB.out (Nat.le_refl _) hb2)
      obtain ⟨s0, s1⟩ := spec_blk (KS.out.below HB.out hsz)
      have HFC := Lib.hid (fcheck_any g A Af c cf l p fs w2 w2.heap.size (Nat.le_refl _) ((HO.out.below (HB.out.mono hbX0)).more (Nat.le_trans hbX0 HB.out.size)) (by omega) ((HF.out.below (HB.out.mono hbX0)).more (Nat.le_trans hbX0 HB.out.size)) (by omega) (by omega))
      clear hb2 HCK
      by_cases hfc : chkF l fs = 0
      · have HFZ := Lib.hid hfc
        rw [hfc] at HFC
        clear hfc
        go_wp2_with fail
        refine HFC.out.mono ?_
        rintro e w3 ⟨rfl, hb3⟩
        have HB := Lib.hid (through HB.out (Nat.le_refl _) hb3)
        clear hb3 HFC s0 s1
        by_cases h0 : fs.length = 0
        · have t0 : ((fs.length : Int) == 0) = true := by simpa using List.eq_nil_of_length_eq_zero h0
          clear h0
          go_wp2_with fail
          refine (works_any w3).mono ?_
          rintro e w4 ⟨rfl, hb⟩
          have HB := Lib.hid (through HB.out (Nat.le_refl _) hb)
          clear hb
          go_wp2_with fail
          go_returns
          exact ⟨rfl, HE.out _ HB.out⟩
        · have t0 : ((fs.length : Int) == 0) = false := by rw [beq_eq_false_iff_ne]; omega
          have hn : 0 < fs.length := by omega
          clear h0
          have HCP := Lib.hid (copyFeeds_any Af cf fs w3 w.heap.size (Nat.le_trans hbX0 HB.out.size) (HF.out.below (HB.out.mono hbX0)) (by omega) HSP.out)
          go_wp2_with fail
          refine HCP.out.mono ?_
          rintro e w4 ⟨Ax, cx, qx, px, rfl, hown, hb4⟩
          have HOW := Lib.hid hown
          have HX03 := Lib.hid HB.out.size
          have HB := Lib.hid (through HB.out (Nat.le_refl _) hb4)
          clear hown hb4 HCP t0
          obtain ⟨i, hpi, hi⟩ := pick_nat (k := a1) hn
          have HP1 := Lib.hid (pick_any a1 (fs.length : Int) w4 (by unfold In64; omega) H1i.out)
          rw [hpi] at HP1
          clear hpi
          go_wp2_with fail
          refine HP1.out.mono ?_
          rintro e w5 ⟨rfl, rfl⟩
          clear HP1
          obtain ⟨bx, rfl, hbx0, hbx1, x0, x1⟩ := HOW.out.at_ hi
          have HOL := Lib.hid (HOW.out.2.1 i hi).2
          have hpp : 0 < (fs.getD i default).parts.length := parts_pos HCE.out HFZ.out hi
          have hp100 : (fs.getD i default).parts.length ≤ 100 := Nat.le_trans (prtF_mem (feeds_mem hi)) h100
          obtain ⟨m, hm⟩ : ∃ m, (fs.getD i default).parts.length = m := ⟨_, rfl⟩
          have HM := Lib.hid hm
          rw [hm] at x1 hpp hp100
          clear hm
          have tp : ((m : Int) == 0) = false := by simp; omega
          have hin : (i : Int) < (fs.length : Int) := by omega
          obtain ⟨k, hpk, hk⟩ := pick_nat (k := a2) hpp
          have HP2 := Lib.hid (pick_any a2 (m : Int) w4 (by unfold In64; omega) H2i.out)
          rw [hpk] at HP2
          clear hpk
          go_wp2_with fail
          refine HP2.out.mono ?_
          rintro e w6 ⟨rfl, rfl⟩
          clear HP2 tp
          have hkm : k < (fs.getD i default).parts.length := by rw [HM.out]; exact hk
          obtain ⟨bq, hbq, hbq0, hbq1, y0⟩ := HOL.out.at_ hkm
          have HOR := Lib.hid (HOL.out.2.1 k hkm)
          have HR := Lib.hid (show (fs.getD i default).parts.getD k [] = partAt fs i k from rfl)
          rw [HR.out] at HOR y0
          have hr600 : (partAt fs i k).length ≤ 600 := Nat.le_trans (Nat.le_trans (cntL_mem (lists_mem hkm)) (cntF_mem (feeds_mem hi))) h600
          have HQ := Lib.hid hbq
          rw [hbq] at x1
          have hkn : (k : Int) < (m : Int) := by omega
          clear hbq
          by_cases hr0 : (partAt fs i k).length = 0
          · have tr : (((partAt fs i k).length : Int) == 0) = true := by simpa using List.eq_nil_of_length_eq_zero hr0
            clear hr0
            go_wp2_with fail
            refine (works_any w4).mono ?_
            rintro e w7 ⟨rfl, hb⟩
            have HB := Lib.hid (through HB.out (Nat.le_refl _) hb)
            clear hb
            go_wp2_with fail
            go_returns
            exact ⟨rfl, HE.out _ HB.out⟩
          · have tr : (((partAt fs i k).length : Int) == 0) = false := by simp; intro h; rw [h] at hr0; exact hr0 rfl
            have hrp : 0 < (partAt fs i k).length := by omega
            clear hr0
            obtain ⟨n, hpn, hn2⟩ := pick_nat (k := a3) hrp
            have HP3 := Lib.hid (pick_any a3 ((partAt fs i k).length : Int) w4 (by unfold In64; omega) H3i.out)
            rw [hpn] at HP3
            clear hpn
            go_wp2_with fail
            refine HP3.out.mono ?_
            rintro e w7 ⟨rfl, rfl⟩
            clear HP3 tr
            obtain ⟨br, hbr, hbr0, hbr1, hcr, z0, -⟩ := HOR.out.at_ hn2
            obtain ⟨pa, cr, hpx⟩ : ∃ pa cr, px i k = (pa, cr) := ⟨_, _, rfl⟩
            rw [hpx] at HOR hbr hcr y0
            simp only at HOR hbr hcr y0
            subst hbr
            obtain ⟨key, hkey⟩ : ∃ key, ((partAt fs i k).getD n (0, 0)).1 = key := ⟨_, rfl⟩
            rw [hkey] at z0
            have HKEY := Lib.hid hkey
            clear hkey
            have hnr : (n : Int) < ((partAt fs i k).length : Int) := by omega
            have hnc : (n : Int) ≤ (cr : Int) := by omega
            have hn1r : (n : Int) + 1 ≤ ((partAt fs i k).length : Int) := by omega
            have hwn : IntKind.i64.wrap ((n : Int) + 1) = (n : Int) + 1 := by rw [IntKind.wrap_i64]; omega
            have hc0 : ¬ cr = 0 := by omega
            have hn1p : (0 : Int) ≤ (n : Int) + 1 := by omega
            go_upto_region 13 with (fail)
            have hbxq : bx ≠ bq := fun e => by
              have h1 := rows_ne tFL HOW.out.1 HOL.out.1
              rw [ownBlock_slice, show blk (qx i) = some bq from by unfold blk; rw [HQ.out]; rfl] at h1
              rcases h1 with h1 | h1
              · cases h1
              · exact h1 (by subst e; rfl)
            have HST := Lib.hid (show ∀ Z, Below w4.heap.size w4 Z → Z.cell? ⟨bx, i * 2 + 1, none⟩ = some (.slice (some ⟨bq, 0, none⟩) m (qx i).2) from fun Z hZ => (hZ.cell (p := ⟨bx, i * 2 + 1, none⟩) hbx1).trans x1)
            have y0c := Lib.hid y0
            clear x0 x1 y0 z0
            refine wp_region_held_drew (S := (fun (Z : World) => Z.cell? ⟨bx, i * 2 + 1, none⟩ = some (.slice (some ⟨bq, 0, none⟩) m (qx i).2))) (by kernel_rfl) (HST.out _ (Below.refl _ _).drew) (fun hHeld => ?_)
            have HW := Lib.hid (show Below w4.heap.size w4 w4.drew from (Below.refl _ _).drew)
            obtain ⟨y0, hy0⟩ : ∃ Z, w4.drew = Z := ⟨_, rfl⟩
            rw [hy0] at HW hHeld ⊢
            clear hy0
            (refine held_take 0 (by kernel_rfl) (by kernel_rfl) (by kernel_rfl) (by assumption) ?_; simp only [List.getElem?_toArray, List.getElem?_cons_zero]; refine ⟨fun _ _ _ _ h => h, ?_, Or.inl ⟨by kernel_rfl, ?_⟩, ?_⟩; rotate_left; (focus (intro wS hSw; (try dsimp only at hSw); go_simp; try with_reducible rfl)); (try simp only [Act.put, List.setIfInBounds_toArray, List.set_cons_zero, List.set_cons_succ]))
            (refine held_take 1 (by kernel_rfl) (by kernel_rfl) (by kernel_rfl) (by assumption) ?_; simp only [List.getElem?_toArray, List.getElem?_cons_succ, List.getElem?_cons_zero]; refine ⟨fun _ _ _ _ h => h, ?_, Or.inl ⟨by kernel_rfl, ?_⟩, ?_⟩; rotate_left; (focus (intro wS hSw; (try dsimp only at hSw); go_simp; try with_reducible rfl)); (try simp only [Act.put, List.setIfInBounds_toArray, List.set_cons_zero, List.set_cons_succ]))
            (refine held_take 2 (by kernel_rfl) (by kernel_rfl) (by kernel_rfl) (by assumption) ?_; simp only [List.getElem?_toArray, List.getElem?_cons_succ, List.getElem?_cons_zero]; refine ⟨fun _ _ _ _ h => h, ?_, Or.inl ⟨by kernel_rfl, ?_⟩, ?_⟩; rotate_left; (focus (intro wS hSw; (try dsimp only at hSw); go_simp; try with_reducible rfl)); (try simp only [Act.put, List.setIfInBounds_toArray, List.set_cons_zero, List.set_cons_succ]))
            (refine held_take 3 (by kernel_rfl) (by kernel_rfl) (by kernel_rfl) (by assumption) ?_; simp only [List.getElem?_toArray, List.getElem?_cons_succ, List.getElem?_cons_zero]; refine ⟨fun _ _ _ _ h => h, ?_, Or.inl ⟨by kernel_rfl, ?_⟩, ?_⟩; rotate_left; (focus (intro wS hSw; (try dsimp only at hSw); go_simp; try with_reducible rfl)); (try simp only [Act.put, List.setIfInBounds_toArray, List.set_cons_zero, List.set_cons_succ]))
            (refine held_take 4 (by kernel_rfl) (by kernel_rfl) (by kernel_rfl) (by assumption) ?_; simp only [List.getElem?_toArray, List.getElem?_cons_succ, List.getElem?_cons_zero]; refine ⟨fun _ _ _ _ h => h, ?_, Or.inl ⟨by kernel_rfl, ?_⟩, ?_⟩; rotate_left; (focus (intro wS hSw; (try dsimp only at hSw); go_simp; try with_reducible rfl)); (try simp only [Act.put, List.setIfInBounds_toArray, List.set_cons_zero, List.set_cons_succ]))
            (refine held_take 5 (by kernel_rfl) (by kernel_rfl) (by kernel_rfl) (by assumption) ?_; simp only [List.getElem?_toArray, List.getElem?_cons_succ, List.getElem?_cons_zero]; refine ⟨fun _ _ _ _ h => h, ?_, Or.inl ⟨by kernel_rfl, ?_⟩, ?_⟩; rotate_left; (focus (intro wS hSw; (try dsimp only at hSw); go_simp; try with_reducible rfl)); (try simp only [Act.put, List.setIfInBounds_toArray, List.set_cons_zero, List.set_cons_succ]))
            (refine held_take 6 (by kernel_rfl) (by kernel_rfl) (by kernel_rfl) (by assumption) ?_; simp only [List.getElem?_toArray, List.getElem?_cons_succ, List.getElem?_cons_zero]; refine ⟨fun _ _ _ _ h => h, ?_, Or.inl ⟨by kernel_rfl, ?_⟩, ?_⟩; rotate_left; (focus (intro wS hSw; (try dsimp only at hSw); go_simp; try with_reducible rfl)); (try simp only [Act.put, List.setIfInBounds_toArray, List.set_cons_zero, List.set_cons_succ]))
            (refine held_take 7 (by kernel_rfl) (by kernel_rfl) (by kernel_rfl) (by assumption) ?_; simp only [List.getElem?_toArray, List.getElem?_cons_succ, List.getElem?_cons_zero]; refine ⟨fun _ _ _ _ h => h, ?_, Or.inl ⟨by kernel_rfl, ?_⟩, ?_⟩; rotate_left; (focus (intro wS hSw; (try dsimp only at hSw); go_simp; try with_reducible rfl)); (try simp only [Act.put, List.setIfInBounds_toArray, List.set_cons_zero, List.set_cons_succ]))
            (refine held_take 8 (by kernel_rfl) (by kernel_rfl) (by kernel_rfl) (by assumption) ?_; simp only [List.getElem?_toArray, List.getElem?_cons_succ, List.getElem?_cons_zero]; refine ⟨fun _ _ _ _ h => h, ?_, Or.inl ⟨by kernel_rfl, ?_⟩, ?_⟩; rotate_left; (focus (intro wS hSw; (try dsimp only at hSw); go_simp; try with_reducible rfl)); (try simp only [Act.put, List.setIfInBounds_toArray, List.set_cons_zero, List.set_cons_succ]))
            (refine held_take 10 (by kernel_rfl) (by kernel_rfl) (by kernel_rfl) (by assumption) ?_; simp only [List.getElem?_toArray, List.getElem?_cons_succ, List.getElem?_cons_zero]; refine ⟨fun _ _ _ _ h => h, ?_, Or.inl ⟨by kernel_rfl, ?_⟩, ?_⟩; rotate_left; (focus (intro wS hSw; (try dsimp only at hSw); go_simp; try with_reducible rfl)); (try simp only [Act.put, List.setIfInBounds_toArray, List.set_cons_zero, List.set_cons_succ]))
            (refine held_take 11 (by kernel_rfl) (by kernel_rfl) (by kernel_rfl) (by assumption) ?_; simp only [List.getElem?_toArray, List.getElem?_cons_succ, List.getElem?_cons_zero]; refine ⟨fun _ _ _ _ h => h, ?_, Or.inl ⟨by kernel_rfl, ?_⟩, ?_⟩; rotate_left; (focus (intro wS hSw; (try dsimp only at hSw); go_simp; try with_reducible rfl)); (try simp only [Act.put, List.setIfInBounds_toArray, List.set_cons_zero, List.set_cons_succ]))
            (refine held_take 12 (by kernel_rfl) (by kernel_rfl) (by kernel_rfl) (by assumption) ?_; simp only [List.getElem?_toArray, List.getElem?_cons_succ, List.getElem?_cons_zero]; refine ⟨fun _ _ _ _ h => h, ?_, Or.inl ⟨by kernel_rfl, ?_⟩, ?_⟩; rotate_left; (focus (intro wS hSw; (try dsimp only at hSw); go_simp; try with_reducible rfl)); (try simp only [Act.put, List.setIfInBounds_toArray, List.set_cons_zero, List.set_cons_succ]))
            (refine held_take 13 (by kernel_rfl) (by kernel_rfl) (by kernel_rfl) (by assumption) ?_; simp only [List.getElem?_toArray, List.getElem?_cons_succ, List.getElem?_cons_zero]; refine ⟨fun _ _ _ _ h => h, ?_, Or.inl ⟨by kernel_rfl, ?_⟩, ?_⟩; rotate_left; (focus (intro wS hSw; (try dsimp only at hSw); go_simp; try with_reducible rfl)); (try simp only [Act.put, List.setIfInBounds_toArray, List.set_cons_zero, List.set_cons_succ]))
            obtain ⟨A9, hA9⟩ : ∃ A9, (if cr = n + 1 then (some ⟨br, 0, none⟩ : Option Addr) else some ⟨br, (n + 1) * 2, none⟩) = A9 := ⟨_, rfl⟩
            rw [hA9]
            (try rw [hA9] at hHeld)
            have HA9 := Lib.hid hA9
            clear hA9
            have HRI := Lib.hid (show IsRecs w4 w4.heap.size (some ⟨br, 0, none⟩) cr (partAt fs i k) from ⟨HOR.out.pairs, by unfold LB; omega⟩)
            obtain ⟨R1, hR1⟩ : ∃ R, (partAt fs i k).take n = R := ⟨_, rfl⟩
            have hl1 : R1.length = n := by rw [← hR1, List.length_take]; omega
            have HCR := Lib.hid (copyRecs_any (some ⟨br, 0, none⟩) cr R1 y0 w4.heap.size HW.out.size (hR1 ▸ recs_take (HRI.out.below HW.out) n) (by omega))
            have HL1 := Lib.hid hl1
            rw [hl1] at HCR
            have HR1 := Lib.hid hR1
            clear hl1 hR1
            (refine held_one 9 (by kernel_rfl) ?_; simp only [List.getElem?_toArray, List.getElem?_cons_succ, List.getElem?_cons_zero]; intro K hK; go_simp)
            clear hHeld
            refine HCR.out.mono ?_
            rintro e y1 ⟨A2, c2, rfl, hown2, hb⟩
            have HO2 := Lib.hid hown2
            (go_wp2_with fail; refine hK.out _ _ ?_ (fun hHeld => ?_); (focus (exact HST.out _ (through HW.out (Nat.le_refl _) hb))); clear hK K; (try simp only [Act.put, List.setIfInBounds_toArray, List.set_cons_zero, List.set_cons_succ]))
            have HW0 := Lib.hid HW.out.size
            have HY0 := Lib.hid hb.size
            have HW := Lib.hid (through HW.out (Nat.le_refl _) hb)
            clear hb hown2 HCR
            obtain ⟨ad, had, hcells⟩ := rest_at (HRI.out.below HW.out) n
            have HCL := Lib.hid hcells
            rw [HA9.out] at had
            subst had
            clear hcells
            (refine held_one 14 (by kernel_rfl) ?_; simp only [List.getElem?_toArray, List.getElem?_cons_succ, List.getElem?_cons_zero]; intro K hK)
            clear hHeld
            refine wp_recs _ _ rfl y0.heap.size HO2.out rfl rfl (List.length_drop ..) (fun y hy => HRI.out.1.2.2.2 y (List.mem_of_mem_drop hy)) HCL.out (by rw [HL1.out, List.length_drop]; omega) HY0.out ?_
            intro A3 c3 y2 hown3 hg3
            rw [← List.length_append] at hown3
            rw [← List.length_append]
            have hRR : R1 ++ (partAt fs i k).drop (n + 1) = lessR (partAt fs i k) n := by rw [← HR1.out]; rfl
            rw [hRR] at hown3 ⊢
            clear hRR
            have HO3 := Lib.hid hown3
            have hb2 : Below w4.heap.size w4 y2 := HW.out.grown hg3 (Nat.le_trans HW0.out HY0.out) (fun g hg => Nat.le_trans HW0.out (HO2.out.blk g hg).1)
            have HW2 := Lib.hid hb2
            refine hK.out _ _ (HST.out _ hb2) (fun hHeld => ?_)
            clear hK K hown3 hg3 hb2
            (try simp only [Act.put, List.setIfInBounds_toArray, List.set_cons_zero, List.set_cons_succ])
            (refine held_take 15 (by kernel_rfl) (by kernel_rfl) (by kernel_rfl) (by assumption) ?_; simp only [List.getElem?_toArray, List.getElem?_cons_succ, List.getElem?_cons_zero]; refine ⟨fun _ _ _ _ h => h, ?_, Or.inl ⟨by kernel_rfl, ?_⟩, ?_⟩; rotate_left; (focus (intro wS hSw; (try dsimp only at hSw); go_simp; try with_reducible rfl)); (try simp only [Act.put, List.setIfInBounds_toArray, List.set_cons_zero, List.set_cons_succ]))
            have HOF2 := Lib.hid (HOW.out.below HW2.out)
            have HOL2 := Lib.hid (HOF2.out.2.1 i hi).2
            have hrow := HOL2.out.1
            rw [HQ.out] at hrow
            obtain ⟨cur, kq⟩ := row_blk hrow
            have hfz := kq.frozen k
            have hcell := (HW2.out.cell (p := ⟨bq, k, none⟩) hbq1).trans y0c.out
            clear hrow kq
            (refine held_one 16 (by kernel_rfl) ?_; simp only [List.getElem?_toArray, List.getElem?_cons_succ, List.getElem?_cons_zero]; intro K hK; go_simp)
            have hS5 : (y2.setCell ⟨bq, k, none⟩ (.slice A3 (lessR (partAt fs i k) n).length c3)).cell? ⟨bx, i * 2 + 1, none⟩ = some (.slice (some ⟨bq, 0, none⟩) m (qx i).2) := by
              rw [World.cell?_setCell_other y2 _ _ _ (by intro e; injection e with e1; exact hbxq e1.symm)]
              exact HST.out _ HW2.out
            refine hK.out _ _ hS5 (fun hHeld => ?_)
            clear hK K
            (try simp only [Act.put, List.setIfInBounds_toArray, List.set_cons_zero, List.set_cons_succ])
            (refine wpAnyH_done (by kernel_rfl) ?_ _)
            clear hHeld
            have h5b : (y2.setCell ⟨bq, k, none⟩ (.slice A3 (lessR (partAt fs i k) n).length c3)).cell? ⟨bq, k, none⟩ = some (.slice A3 (lessR (partAt fs i k) n).length c3) := World.cell?_setCell_same _ _ _ hcell
            have hob : (Value.slice (qx i).1 (fs.getD i default).parts.length (qx i).2).ownBlock = some bq := by rw [ownBlock_slice]; unfold blk; rw [HQ.out]; rfl
            have hLL := lessR_len hn2
            have HR5 := Lib.hid (show IsRecs (y2.setCell ⟨bq, k, none⟩ (.slice A3 (lessR (partAt fs i k) n).length c3)) (y2.setCell ⟨bq, k, none⟩ (.slice A3 (lessR (partAt fs i k) n).length c3)).heap.size A3 c3 (lessR (partAt fs i k) n) from ⟨(HO3.out.other HOL2.out.1 hob).pairs, by unfold LB; omega⟩)
            have HX5 := Lib.hid (set_feeds (z := (A3, c3)) HOF2.out.1 (fun j hj => ⟨(HOF2.out.2.1 j hj).1, (HOF2.out.2.1 j hj).2.1⟩) (fun j m hj hm _ => (HOF2.out.2.1 j hj).2.2.1 m hm) HOF2.out.2.2.1 hi hkm HQ.out HO3.out (short_set HSH.out hi hkm (by unfold LB; omega)))
            have HB5 := Lib.hid (show Below X.heap.size X (y2.setCell ⟨bq, k, none⟩ (.slice A3 (lessR (partAt fs i k) n).length c3)) from (through HB.out (Nat.le_refl _) HW2.out).setCell (by show X.heap.size ≤ bq; exact Nat.le_trans HX03.out hbq0) _)
            have HCE5 := Lib.hid (less_chk HFZ.out hi hkm hn2)
            have HCN5 := Lib.hid (less_cnt hi hkm hn2)
            have HKS5 := Lib.hid (less_keys HFZ.out hi hkm hn2 HKEY.out)
            have HFN : Hid ((setP fs i k (lessR (partAt fs i k) n)).length = fs.length) := setP_len
            have hL600 : (lessR (partAt fs i k) n).length ≤ 600 := by omega
            generalize setP fs i k (lessR (partAt fs i k) n) = FS at *
            generalize lessR (partAt fs i k) n = L at *
            generalize (qx i).2 = cq at *
            obtain ⟨W5, hW5⟩ : ∃ W, y2.setCell ⟨bq, k, none⟩ (.slice A3 L.length c3) = W := ⟨_, rfl⟩
            rw [hW5] at hS5 h5b HR5 HX5 HB5 ⊢
            have hbx5 : bx < W5.heap.size := by
              have h1 := HW2.out.size
              have h2 : W5.heap.size = y2.heap.size := by rw [← hW5]; simp [World.setCell]
              omega
            have hbq5 : bq < W5.heap.size := by
              have h1 := HW2.out.size
              have h2 : W5.heap.size = y2.heap.size := by rw [← hW5]; simp [World.setCell]
              omega
            have HC5 := Lib.hid (show ∀ Z, Below W5.heap.size W5 Z → Z.cell? ⟨bx, i * 2 + 1, none⟩ = some (.slice (some ⟨bq, 0, none⟩) m cq) ∧ Z.cell? ⟨bq, k, none⟩ = some (.slice A3 L.length c3) from fun Z hZ => ⟨(hZ.cell (p := ⟨bx, i * 2 + 1, none⟩) hbx5).trans hS5, (hZ.cell (p := ⟨bq, k, none⟩) hbq5).trans h5b⟩)
            have HKY := Lib.hid (keys_any Af cf fs W5 w.heap.size (Nat.le_trans hbX0 HB5.out.size) (HF.out.below (HB5.out.mono hbX0)) (by omega))
            clear hW5 hS5 h5b HW2 HO3 HOL2 HOF2 hfz hcell hob HRI HCL HR1 HO2 HL1 HOR HOL HOW HST HW HSP HB HA9
            go_wp2_with fail
            refine HKY.out.mono ?_
            rintro e w6 ⟨A6, c6, rfl, hown6, hb6⟩
            have HK := Lib.hid hown6.ints
            have HW := Lib.hid hb6
            have hkl : (keysF fs).length ≤ 600 := Nat.le_trans (keysF_len fs) h600
            clear hown6 hb6 HKY
            go_wp2_with fail
            go_loopw [16, 18] (fun v u wr => ∃ j : Nat, j ≤ (keysF fs).length ∧ u = .int .i64 j ∧ OwnI wr w6.heap.size v (((keysF fs).take j).filter fun y => decide (y ≠ key) || decide (key ∈ keysR L)) ∧ Below w6.heap.size w6 wr) (fun _ u _ => (keysF fs).length - (Go.RowKit.intOf u).toNat)
            case atStart => exact ⟨0, by omega, rfl, OwnI.nil _ _, Below.refl _ _⟩
            case round =>
              obtain ⟨j, hj, rfl, hown, hbl⟩ := hrel
              have HBL := Lib.hid hbl
              have HOW := Lib.hid hown
              have HZ := Lib.hid hbl.size
              have HW7 := Lib.hid (through HW.out (Nat.le_refl _) hbl)
              clear hown hbl
              by_cases hlt : j < (keysF fs).length
              · obtain ⟨b7, o7, y, rfl, hb7, HV, h64, c7⟩ := Sp.ints_at HK.out hlt
                have e7 := (HBL.out.cell (p := ⟨b7, o7 + j, none⟩) hb7).trans c7
                have HT := Lib.hid (filter_take (P := fun y => decide (y ≠ key) || decide (key ∈ keysR L)) hlt HV.out)
                have HU := Lib.hid h64
                have HL := Lib.hid (show (((keysF fs).take j).filter fun y => decide (y ≠ key) || decide (key ∈ keysR L)).length < 1000000000 by
                  have h1 := List.length_filter_le (fun y => decide (y ≠ key) || decide (key ∈ keysR L)) ((keysF fs).take j)
                  rw [List.length_take] at h1
                  omega)
                clear c7 h64
                by_cases hyk : y = key
                · have tn : (y != key) = false := by simp [hyk]
                  have HYK := Lib.hid hyk
                  clear hyk
                  obtain ⟨e8, e9⟩ := HC5.out _ HW7.out
                  have HOF := Lib.hid (of_any A3 c3 L key wr wr.heap.size (Nat.le_refl _) ((HR5.out.below HW7.out).more HW7.out.size) (by omega))
                  go_wp2_with fail
                  refine HOF.out.mono ?_
                  rintro e w8 ⟨A8, c8, rfl, hown8, hb8⟩
                  have HO8 := Lib.hid (HOW.out.below hb8)
                  have HB8 := Lib.hid (through HBL.out (Nat.le_refl _) hb8)
                  have HZ8 := Lib.hid HB8.out.size
                  have e7 := (HB8.out.cell (p := ⟨b7, o7 + j, none⟩) hb7).trans ((HBL.out.cell (p := ⟨b7, o7 + j, none⟩) hb7).symm.trans e7)
                  clear hown8 hb8 HOF e8 e9 HOW
                  by_cases hin : key ∈ keysR L
                  · have hp := ofF_pos.2 hin
                    have td : decide ((0 : Int) < ((ofF L key).length : Int)) = true := decide_eq_true (by omega)
                    have td2 : decide (0 < (ofF L key).length) = true := decide_eq_true hp
                    have HP := Lib.hid (show (decide (y ≠ key) || decide (key ∈ keysR L)) = true by rw [decide_eq_true hin]; simp)
                    have HT := Lib.hid (show ((keysF fs).take (j + 1)).filter (fun y => decide (y ≠ key) || decide (key ∈ keysR L)) = ((keysF fs).take j).filter (fun y => decide (y ≠ key) || decide (key ∈ keysR L)) ++ [y] by rw [HT.out, if_pos HP.out])
                    clear hin
                    generalize ((keysF fs).take j).filter (fun y => decide (y ≠ key) || decide (key ∈ keysR L)) = K0 at *
                    go_wp2_with (at_builtin; refine app_new rfl _ _ rfl w6.heap.size HO8.out rfl HU.out rfl HL.out HZ8.out ?_)
                    intro v' w9 hown9 hb9
                    have HO9 := Lib.hid hown9
                    have HB9 := Lib.hid (HB8.out.trans hb9)
                    clear hown9 hb9
                    go_wp2_with fail
                    go_roundw
                    case rel => exact ⟨j + 1, by omega, by go_num, by rw [HT.out]; exact HO9.out, HB9.out⟩
                    case measure => simp [Go.RowKit.intOf]; omega
                  · have hp : (ofF L key).length = 0 := by
                      apply Classical.byContradiction
                      intro h
                      exact hin (ofF_pos.1 (by omega))
                    have td : decide ((0 : Int) < ((ofF L key).length : Int)) = false := decide_eq_false (by omega)
                    have td2 : decide (0 < (ofF L key).length) = false := decide_eq_false (by omega)
                    have HT := Lib.hid (show ((keysF fs).take (j + 1)).filter (fun y => decide (y ≠ key) || decide (key ∈ keysR L)) = ((keysF fs).take j).filter (fun y => decide (y ≠ key) || decide (key ∈ keysR L)) by
                      rw [HT.out, decide_eq_false hin, HYK.out]; simp)
                    clear hin
                    clear hp
                    go_wp2_with fail
                    go_roundw
                    case rel => exact ⟨j + 1, by omega, by go_num, by rw [HT.out]; exact HO8.out, HB8.out⟩
                    case measure => simp [Go.RowKit.intOf]; omega
                · have tn : (y != key) = true := by simp [hyk]
                  have HT := Lib.hid (show ((keysF fs).take (j + 1)).filter (fun y => decide (y ≠ key) || decide (key ∈ keysR L)) = ((keysF fs).take j).filter (fun y => decide (y ≠ key) || decide (key ∈ keysR L)) ++ [y] by rw [HT.out, if_pos (by rw [decide_eq_true hyk]; rfl)])
                  clear hyk
                  generalize ((keysF fs).take j).filter (fun y => decide (y ≠ key) || decide (key ∈ keysR L)) = K0 at *
                  go_wp2_with (at_builtin; refine app_new rfl _ _ rfl w6.heap.size HOW.out rfl HU.out rfl HL.out HZ.out ?_)
                  intro v' w9 hown9 hb9
                  have HO9 := Lib.hid hown9
                  have HB9 := Lib.hid (HBL.out.trans hb9)
                  clear hown9 hb9
                  go_wp2_with fail
                  go_roundw
                  case rel => exact ⟨j + 1, by omega, by go_num, by rw [HT.out]; exact HO9.out, HB9.out⟩
                  case measure => simp [Go.RowKit.intOf]; omega
              · obtain rfl : j = (keysF fs).length := by omega
                rw [List.take_length, ← HKS5.out] at HOW
                obtain ⟨A7, c7, hv7⟩ := HOW.out.form
                subst hv7
                have HW := HW7
                have hfs : FS.length ≤ 1000 := by rw [HFN.out]; omega
                have hfc : cntF FS ≤ 1000000 := by have := HCN5.out; omega
                clear HBL HK HZ
                obtain ⟨s0, s1⟩ := spec_blk (KS.out.below (through HB5.out (Nat.le_refl _) HW.out) hsz)
                have HFC := Lib.hid (fcheck_any g A _ c cx l p FS wr wr.heap.size (Nat.le_refl _) ((HO.out.below ((HB5.out.mono hbX0).trans (HW.out.mono (Nat.le_trans hbX0 HB5.out.size)))).more (Nat.le_trans (Nat.le_trans hbX0 HB5.out.size) HW.out.size)) (by omega) ((HX5.out.below HW.out).more HW.out.size) hfs hfc)
                rw [HCE5.out, HFN.out] at HFC
                go_wp2_with fail
                refine HFC.out.mono ?_
                rintro e z1 ⟨rfl, hb⟩
                have HOW := Lib.hid (HOW.out.below hb)
                have HW := Lib.hid (through HW.out (Nat.le_refl _) hb)
                clear hb HFC s0 s1
                have HCN := Lib.hid (cnt_any _ cx FS z1 z1.heap.size (Nat.le_refl _) ((HX5.out.below HW.out).more HW.out.size) (by omega))
                rw [HFN.out] at HCN
                go_wp2_with fail
                refine HCN.out.mono ?_
                rintro e z2 ⟨rfl, hb⟩
                have HOW := Lib.hid (HOW.out.below hb)
                have HW := Lib.hid (through HW.out (Nat.le_refl _) hb)
                clear hb HCN
                have HCN := Lib.hid (cnt_any _ cf fs z2 z2.heap.size (Nat.le_refl _) ((HF.out.below ((HB5.out.mono hbX0).trans (HW.out.mono (Nat.le_trans hbX0 HB5.out.size)))).more (Nat.le_trans (Nat.le_trans hbX0 HB5.out.size) HW.out.size)) (by omega))
                go_wp2_with fail
                refine HCN.out.mono ?_
                rintro e z3 ⟨rfl, hb⟩
                have HOW := Lib.hid (HOW.out.below hb)
                have HW := Lib.hid (through HW.out (Nat.le_refl _) hb)
                clear hb HCN
                have hwc : IntKind.i64.wrap ((cntF fs : Int) - 1) = (cntF FS : Int) := by have := HCN5.out; rw [IntKind.wrap_i64]; omega
                have tc : ((cntF FS : Int) == (cntF FS : Int)) = true := by simp
                have HKY := Lib.hid (keys_any _ cx FS z3 z3.heap.size (Nat.le_refl _) ((HX5.out.below HW.out).more HW.out.size) hfc)
                rw [HFN.out] at HKY
                go_wp2_with fail
                refine HKY.out.mono ?_
                rintro e z4 ⟨A8, c8, rfl, hown8, hb⟩
                have HSI := Lib.hid (sameInts_any A8 A7 c8 c7 _ _ _ _ z4 hown8.ints (HOW.out.below hb).ints)
                have HW := Lib.hid (through HW.out (Nat.le_refl _) hb)
                rw [sameB_yes rfl] at HSI
                clear hb HKY hown8 HOW
                go_wp2_with fail
                refine HSI.out.mono ?_
                rintro e z5 ⟨rfl, hb⟩
                have HW := Lib.hid (through HW.out (Nat.le_refl _) hb)
                clear hb HSI
                have HB := Lib.hid (through HB5.out (Nat.le_refl _) HW.out)
                go_wp2_with fail
                refine (works_any z5).mono ?_
                rintro e w9 ⟨rfl, hb⟩
                have HB := Lib.hid (through HB.out (Nat.le_refl _) hb)
                clear hb
                go_wp2_with fail
                go_returns
                exact ⟨rfl, HE.out _ HB.out⟩
      · have tf : (chkF l fs != 0) = true := by simpa using hfc
        clear hfc
        go_wp2_with fail
        refine HFC.out.mono ?_
        rintro e w3 ⟨rfl, hb3⟩
        have HB := Lib.hid (through HB.out (Nat.le_refl _) hb3)
        clear hb3 HFC s0 s1
        go_wp2_with fail
        refine (works_any w3).mono ?_
        rintro e w4 ⟨rfl, hb⟩
        have HB := Lib.hid (through HB.out (Nat.le_refl _) hb)
        clear hb
        go_wp2_with fail
        go_returns
        exact ⟨rfl, HE.out _ HB.out⟩
    · have ht : (chkE g l != 0) = true := by simpa using hc
      clear hc
      go_wp2_with fail
      refine HCK.out.mono ?_
      rintro e w2 ⟨rfl, hb2⟩
      have HB := Lib.hid (through HB.out (Nat.le_refl _) hb2)
      clear hb2 HCK s0 s1
      go_wp2_with fail
      refine (works_any w2).mono ?_
      rintro e w3 ⟨rfl, hb⟩
      have HB := Lib.hid (through HB.out (Nat.le_refl _) hb)
      clear hb
      go_wp2_with fail
      go_returns
      exact ⟨rfl, HE.out _ HB.out⟩
end Go.Proofs.Ytaodbjgcidkpkaa.Fd
