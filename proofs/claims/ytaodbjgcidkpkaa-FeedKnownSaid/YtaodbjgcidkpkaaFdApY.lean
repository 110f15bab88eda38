/- Where feeds are right, each key stands in just one partition; with a record of one of its keys put into another partition they are not. -/
import Derived.Test.YtaodbjgcidkpkaaFdXY
import Derived.Test.YtaodbjgcidkpkaaFdR2Y
import Derived.Test.YtaodbjgcidkpkaaFdQ6Y
import Derived.Test.YtaodbjgcidkpkaaZa

namespace Go.Proofs.Ytaodbjgcidkpkaa.Fd
open Go.ChangeShapes Go.WideShapes Go.ChangeAt Go.RowKit M Sp

set_option maxRecDepth 100000 in
set_option maxHeartbeats 8000000 in
theorem feedApart_any (g a1 a2 : Int) (h1i : In64 a1) (h2i : In64 a2) (A Af : Option Addr) (c cf : Nat) (l : List OpP) (p : Nat → Option Addr × Nat) (fs : List Fp) (w : World) (hl : l.length ≤ 9223372036854775807) (h : IsOps w w.heap.size A l p) (hf : IsFeeds w w.heap.size Af cf fs) :
    Calls Try.prog 7 #[.agg #[.int .i64 g, .slice A l.length c], .slice Af fs.length cf, .int .i64 a1, .int .i64 a2] w fun e w' => e = .returned (.bool true) ∧ Below w.heap.size w w' := by
  obtain ⟨X, hX⟩ : ∃ X, w.alloc (.cells #[.int .i64 g, .slice A l.length c] 24) = X := ⟨_, rfl⟩
  have hbX : Below w.heap.size w X := hX ▸ (Below.refl _ w).alloc (Nat.le_refl _) _
  have hsX : w.heap.size + 1 = X.heap.size := by rw [← hX]; simp
  have KS := Lib.hid (show Blk X w.heap.size 24 #[.int .i64 g, .slice A l.length c] by rw [← hX]; exact Blk.new _ _ _)
  have HO := Lib.hid (show IsOps X w.heap.size A l p by rw [← hX]; exact h.alloc (Nat.le_refl _) _)
  have HF := Lib.hid (hf.below hbX)
  have HE := Lib.hid (show ∀ w', Below X.heap.size X w' → Below w.heap.size w w' from fun w' hb => through hbX (Nat.le_refl _) (hb.mono (by omega)))
  have hbX0 : w.heap.size ≤ X.heap.size := by omega
  have hsz : w.heap.size < X.heap.size := by omega
  have HLG := Lib.hid (long_any Af cf fs X w.heap.size HF.out)
  have H1i := Lib.hid h1i
  have H2i := Lib.hid h2i
  clear h hf hbX h1i h2i
  go_enter Try.func7, Try.ntmps7
  go_upto_region 1 with (fail)
  (try rw [hX])
  clear hX hsX
  cases hlb : longB fs with
  | true =>
    rw [hlb] at HLG
    go_wp2_with fail
    refine HLG.out.mono ?_
    rintro e w1 ⟨rfl, hb⟩
    have HB := Lib.hid hb
    clear hb HLG
    go_wp2_with fail
    refine (works_any w1).mono ?_
    rintro e w2 ⟨rfl, hb⟩
    have HB := Lib.hid (through HB.out (Nat.le_refl _) hb)
    clear hb
    go_wp2_with fail
    go_returns
    exact ⟨rfl, HE.out _ HB.out⟩
  | false =>
    have HSH := Lib.hid (short_of hlb)
    have HSP := Lib.hid (short_parts hlb)
    obtain ⟨h20, h100, h600⟩ := longB_no hlb
    rw [hlb] at HLG
    clear hlb
    go_wp2_with fail
    refine HLG.out.mono ?_
    rintro e w1 ⟨rfl, hb1⟩
    have HB := Lib.hid hb1
    have HCK := Lib.hid (checkI_any g A c l p hl w1 w.heap.size (Nat.le_trans hbX0 hb1.size) (HO.out.below (hb1.mono hbX0)))
    obtain ⟨s0, s1⟩ := spec_blk (KS.out.below hb1 hsz)
    clear hb1 HLG
    by_cases hc : chkE g l = 0
    · have HCE := Lib.hid hc
      rw [hc] at HCK
      have hlen := (ok_of hc).len.2
      clear hc
      go_wp2_with fail
      refine HCK.out.mono ?_
      rintro e w2 ⟨rfl, hb2⟩
      have HB := Lib.hid (through HB.out (Nat.le_refl _) hb2)
      obtain ⟨s0, s1⟩ := spec_blk (KS.out.below HB.out hsz)
      have HFC := Lib.hid (fcheck_any g A Af c cf l p fs w2 w2.heap.size (Nat.le_refl _) ((HO.out.below (HB.out.mono hbX0)).more (Nat.le_trans hbX0 HB.out.size)) (by omega) ((HF.out.below (HB.out.mono hbX0)).more (Nat.le_trans hbX0 HB.out.size)) (by omega) (by omega))
      clear hb2 HCK
      by_cases hfc : chkF l fs = 0
      · have HFZ := Lib.hid hfc
        have HLN := Lib.hid (more_len hfc)
        rw [hfc] at HFC
        clear hfc
        go_wp2_with fail
        refine HFC.out.mono ?_
        rintro e w3 ⟨rfl, hb3⟩
        have HB := Lib.hid (through HB.out (Nat.le_refl _) hb3)
        clear hb3 HFC s0 s1
        obtain ⟨s0, s1⟩ := spec_blk (KS.out.below HB.out hsz)
        have HSC := Lib.hid (sources_any g A c l p w3 w.heap.size (Nat.le_trans hbX0 HB.out.size) (HO.out.below (HB.out.mono hbX0)) (by omega))
        go_wp2_with fail
        refine HSC.out.mono ?_
        rintro e w4 ⟨A4, c4, rfl, hown4, hb4⟩
        have HB := Lib.hid (through HB.out (Nat.le_refl _) hb4)
        clear hown4 hb4 HSC s0 s1
        rw [← HLN.out]
        have tl : ((fs.length : Int) != (fs.length : Int)) = false := by simp
        have HKY := Lib.hid (keys_any Af cf fs w4 w.heap.size (Nat.le_trans hbX0 HB.out.size) (HF.out.below (HB.out.mono hbX0)) (by omega))
        go_wp2_with fail
        refine HKY.out.mono ?_
        rintro e w5 ⟨A5, c5, rfl, hown5, hb5⟩
        have HK := Lib.hid hown5.ints
        have HB := Lib.hid (through HB.out (Nat.le_refl _) hb5)
        have hkl : (keysF fs).length ≤ 600 := Nat.le_trans (keysF_len fs) h600
        have hX5 : X.heap.size ≤ w5.heap.size := HB.out.size
        clear hown5 hb5 HKY tl
        go_wp2_with fail
        go_loopw [10] (fun u wr => ∃ k : Nat, k ≤ (keysF fs).length ∧ u = .int .i64 k ∧ Below w5.heap.size w5 wr) (fun u _ => (keysF fs).length - (Go.RowKit.intOf u).toNat)
        case atStart => exact ⟨0, by omega, rfl, Below.refl _ _⟩
        case round =>
          obtain ⟨k, hk, rfl, hbl⟩ := hrel
          have HBL := Lib.hid hbl
          clear hbl
          by_cases hlt : k < (keysF fs).length
          · obtain ⟨b7, o7, y, rfl, hb7, HV, h64, c7⟩ := Sp.ints_at HK.out hlt
            have HONE := Lib.hid (inF_one HFZ.out (key := y) (by rw [← HV.out, getD_el hlt]; exact List.getElem_mem hlt))
            have hkn : (k : Int) < ((keysF fs).length : Int) := by omega
            go_wp2_with fail
            go_loopw [11, 12] (fun n u wr => ∃ i : Nat, i ≤ fs.length ∧ u = .int .i64 i ∧ n = .int .i64 (inF (fs.take i) y : Nat) ∧ Below w5.heap.size w5 wr) (fun _ u _ => fs.length - (Go.RowKit.intOf u).toNat)
            case atStart => exact ⟨0, by omega, rfl, by simp [inF], HBL.out⟩
            case round =>
              clear HBL
              obtain ⟨i, hi, rfl, rfl, hbl⟩ := hrel
              have HBL := Lib.hid hbl
              clear hbl
              by_cases hlti : i < fs.length
              · obtain ⟨b, o, f, A', c', rfl, hb, HVf, -, -, f1, hli⟩ := feeds_at HF.out hlti
                have HLI := Lib.hid hli
                have hll := hli.len
                unfold LB at hll
                have HT := Lib.hid (inF_take (key := y) hlti HVf.out)
                have HN := Lib.hid (show inF (fs.take i) y + inL f.parts y ≤ 100 by
                  have h1 := HT.out
                  have h2 : inF (fs.take (i + 1)) y ≤ inF fs y := sum_le _ _ _
                  have h3 := inF_le fs y
                  omega)
                have HCF := Lib.hid (Nat.le_trans (cntF_mem (fs := fs) (f := f) (HVf.out ▸ feeds_mem hlti)) h600)
                generalize inF (fs.take i) y = K1 at *
                have hb0 : b < X.heap.size := by omega
                have HCX := Lib.hid (show ∀ Z, Below w5.heap.size w5 Z → Z.cell? ⟨b, o + i * 2 + 1, none⟩ = some (.slice A' f.parts.length c') from fun Z hZ => ((through HB.out (Nat.le_refl _) hZ).cell (p := ⟨b, o + i * 2 + 1, none⟩) hb0).trans f1)
                clear f1 hli
                have e1 := HCX.out _ HBL.out
                go_wp2_with fail
                go_loopw [11, 13] (fun n u wr => ∃ j : Nat, j ≤ f.parts.length ∧ u = .int .i64 j ∧ n = .int .i64 (K1 + inL (f.parts.take j) y : Nat) ∧ Below w5.heap.size w5 wr) (fun _ u _ => f.parts.length - (Go.RowKit.intOf u).toNat)
                case atStart => exact ⟨0, by omega, rfl, by simp [inL], HBL.out⟩
                case round =>
                  clear HBL e1
                  obtain ⟨j, hj, rfl, rfl, hbl⟩ := hrel
                  have HBL := Lib.hid hbl
                  clear hbl
                  have e1 := HCX.out _ HBL.out
                  by_cases hltj : j < f.parts.length
                  · obtain ⟨b2, o2, r, A3, c3, rfl, hb2, HV2, d0, hrr⟩ := lists_at HLI.out hltj
                    have HRR := Lib.hid hrr
                    have HT2 := Lib.hid (inL_take (key := y) hltj HV2.out)
                    have HN2 := Lib.hid (show K1 + inL (f.parts.take (j + 1)) y ≤ 100 by
                      have h1 : inL (f.parts.take (j + 1)) y ≤ inL f.parts y := sum_le _ _ _
                      have h2 := HN.out
                      omega)
                    have hrl : r.length ≤ 1000000 := by
                      have h1 := cntL_mem (ls := f.parts) (r := r) (HV2.out ▸ lists_mem hltj)
                      have h2 := HCF.out
                      omega
                    rw [HT2.out] at HN2
                    generalize inL (f.parts.take j) y = K2 at *
                    have hb20 : b2 < X.heap.size := by omega
                    have hjn : (j : Int) < (f.parts.length : Int) := by omega
                    have hin : (i : Int) < (fs.length : Int) := by omega
                    have HST := Lib.hid (show ∀ Z, Below w5.heap.size w5 Z → Z.cell? ⟨b, o + i * 2 + 1, none⟩ = some (.slice (some ⟨b2, o2, none⟩) f.parts.length c') ∧ Z.cell? ⟨b2, o2 + j, none⟩ = some (.slice A3 r.length c3) ∧ Z.cell? ⟨b7, o7 + k, none⟩ = some (.int .i64 y) from fun Z hZ => ⟨HCX.out _ hZ, ((through HB.out (Nat.le_refl _) hZ).cell (p := ⟨b2, o2 + j, none⟩) hb20).trans d0, (hZ.cell (p := ⟨b7, o7 + k, none⟩) hb7).trans c7⟩)
                    clear hrr d0
                    go_upto_region 16 with (fail)
                    clear e1
                    refine wp_region_held_drew (S := (fun (Z : World) => Z.cell? ⟨b, o + i * 2 + 1, none⟩ = some (.slice (some ⟨b2, o2, none⟩) f.parts.length c') ∧ Z.cell? ⟨b2, o2 + j, none⟩ = some (.slice A3 r.length c3) ∧ Z.cell? ⟨b7, o7 + k, none⟩ = some (.int .i64 y))) (by kernel_rfl) (HST.out _ HBL.out.drew) (fun hHeld => ?_)
                    have HBL := Lib.hid HBL.out.drew
                    obtain ⟨y0, hy0⟩ : ∃ Z, wr.drew = Z := ⟨_, rfl⟩
                    rw [hy0] at HBL hHeld ⊢
                    clear hy0
                    (refine held_take 0 (by kernel_rfl) (by kernel_rfl) (by kernel_rfl) (by assumption) ?_; simp only [List.getElem?_toArray, List.getElem?_cons_zero]; refine ⟨fun _ _ _ _ h => h, ?_, Or.inl ⟨by kernel_rfl, ?_⟩, ?_⟩; rotate_left; (focus (intro wS hSw; (try dsimp only at hSw); go_simp; try with_reducible rfl)); (try simp only [Act.put, List.setIfInBounds_toArray, List.set_cons_zero, List.set_cons_succ]))
                    (refine held_take 1 (by kernel_rfl) (by kernel_rfl) (by kernel_rfl) (by assumption) ?_; simp only [List.getElem?_toArray, List.getElem?_cons_succ, List.getElem?_cons_zero]; refine ⟨fun _ _ _ _ h => h, ?_, Or.inl ⟨by kernel_rfl, ?_⟩, ?_⟩; rotate_left; (focus (intro wS hSw; (try dsimp only at hSw); go_simp; try with_reducible rfl)); (try simp only [Act.put, List.setIfInBounds_toArray, List.set_cons_zero, List.set_cons_succ]))
                    (refine held_take 2 (by kernel_rfl) (by kernel_rfl) (by kernel_rfl) (by assumption) ?_; simp only [List.getElem?_toArray, List.getElem?_cons_succ, List.getElem?_cons_zero]; refine ⟨fun _ _ _ _ h => h, ?_, Or.inl ⟨by kernel_rfl, ?_⟩, ?_⟩; rotate_left; (focus (intro wS hSw; (try dsimp only at hSw); go_simp; try with_reducible rfl)); (try simp only [Act.put, List.setIfInBounds_toArray, List.set_cons_zero, List.set_cons_succ]))
                    (refine held_take 3 (by kernel_rfl) (by kernel_rfl) (by kernel_rfl) (by assumption) ?_; simp only [List.getElem?_toArray, List.getElem?_cons_succ, List.getElem?_cons_zero]; refine ⟨fun _ _ _ _ h => h, ?_, Or.inl ⟨by kernel_rfl, ?_⟩, ?_⟩; rotate_left; (focus (intro wS hSw; (try dsimp only at hSw); go_simp; try with_reducible rfl)); (try simp only [Act.put, List.setIfInBounds_toArray, List.set_cons_zero, List.set_cons_succ]))
                    (refine held_take 4 (by kernel_rfl) (by kernel_rfl) (by kernel_rfl) (by assumption) ?_; simp only [List.getElem?_toArray, List.getElem?_cons_succ, List.getElem?_cons_zero]; refine ⟨fun _ _ _ _ h => h, ?_, Or.inl ⟨by kernel_rfl, ?_⟩, ?_⟩; rotate_left; (focus (intro wS hSw; (try dsimp only at hSw); go_simp; try with_reducible rfl)); (try simp only [Act.put, List.setIfInBounds_toArray, List.set_cons_zero, List.set_cons_succ]))
                    (refine held_take 5 (by kernel_rfl) (by kernel_rfl) (by kernel_rfl) (by assumption) ?_; simp only [List.getElem?_toArray, List.getElem?_cons_succ, List.getElem?_cons_zero]; refine ⟨fun _ _ _ _ h => h, ?_, Or.inl ⟨by kernel_rfl, ?_⟩, ?_⟩; rotate_left; (focus (intro wS hSw; (try dsimp only at hSw); go_simp; try with_reducible rfl)); (try simp only [Act.put, List.setIfInBounds_toArray, List.set_cons_zero, List.set_cons_succ]))
                    (refine held_take 6 (by kernel_rfl) (by kernel_rfl) (by kernel_rfl) (by assumption) ?_; simp only [List.getElem?_toArray, List.getElem?_cons_succ, List.getElem?_cons_zero]; refine ⟨fun _ _ _ _ h => h, ?_, Or.inl ⟨by kernel_rfl, ?_⟩, ?_⟩; rotate_left; (focus (intro wS hSw; (try dsimp only at hSw); go_simp; try with_reducible rfl)); (try simp only [Act.put, List.setIfInBounds_toArray, List.set_cons_zero, List.set_cons_succ]))
                    (refine held_take 7 (by kernel_rfl) (by kernel_rfl) (by kernel_rfl) (by assumption) ?_; simp only [List.getElem?_toArray, List.getElem?_cons_succ, List.getElem?_cons_zero]; refine ⟨fun _ _ _ _ h => h, ?_, Or.inl ⟨by kernel_rfl, ?_⟩, ?_⟩; rotate_left; (focus (intro wS hSw; (try dsimp only at hSw); go_simp; try with_reducible rfl)); (try simp only [Act.put, List.setIfInBounds_toArray, List.set_cons_zero, List.set_cons_succ]))
                    (refine held_take 8 (by kernel_rfl) (by kernel_rfl) (by kernel_rfl) (by assumption) ?_; simp only [List.getElem?_toArray, List.getElem?_cons_succ, List.getElem?_cons_zero]; refine ⟨fun _ _ _ _ h => h, ?_, Or.inl ⟨by kernel_rfl, ?_⟩, ?_⟩; rotate_left; (focus (intro wS hSw; (try dsimp only at hSw); go_simp; try with_reducible rfl)); (try simp only [Act.put, List.setIfInBounds_toArray, List.set_cons_zero, List.set_cons_succ]))
                    (refine held_take 9 (by kernel_rfl) (by kernel_rfl) (by kernel_rfl) (by assumption) ?_; simp only [List.getElem?_toArray, List.getElem?_cons_succ, List.getElem?_cons_zero]; refine ⟨fun _ _ _ _ h => h, ?_, Or.inl ⟨by kernel_rfl, ?_⟩, ?_⟩; rotate_left; (focus (intro wS hSw; (try dsimp only at hSw); go_simp; try with_reducible rfl)); (try simp only [Act.put, List.setIfInBounds_toArray, List.set_cons_zero, List.set_cons_succ]))
                    (refine held_take 10 (by kernel_rfl) (by kernel_rfl) (by kernel_rfl) (by assumption) ?_; simp only [List.getElem?_toArray, List.getElem?_cons_succ, List.getElem?_cons_zero]; refine ⟨fun _ _ _ _ h => h, ?_, Or.inl ⟨by kernel_rfl, ?_⟩, ?_⟩; rotate_left; (focus (intro wS hSw; (try dsimp only at hSw); go_simp; try with_reducible rfl)); (try simp only [Act.put, List.setIfInBounds_toArray, List.set_cons_zero, List.set_cons_succ]))
                    (refine held_take 11 (by kernel_rfl) (by kernel_rfl) (by kernel_rfl) (by assumption) ?_; simp only [List.getElem?_toArray, List.getElem?_cons_succ, List.getElem?_cons_zero]; refine ⟨fun _ _ _ _ h => h, ?_, Or.inl ⟨by kernel_rfl, ?_⟩, ?_⟩; rotate_left; (focus (intro wS hSw; (try dsimp only at hSw); go_simp; try with_reducible rfl)); (try simp only [Act.put, List.setIfInBounds_toArray, List.set_cons_zero, List.set_cons_succ]))
                    have HOF := Lib.hid (of_any A3 c3 r y y0 y0.heap.size (Nat.le_refl _) ((HRR.out.below ((HB.out.mono hbX0).trans (HBL.out.mono (Nat.le_trans hbX0 HB.out.size)))).more (Nat.le_trans (Nat.le_trans hbX0 HB.out.size) HBL.out.size)) hrl)
                    (refine held_one 12 (by kernel_rfl) ?_; simp only [List.getElem?_toArray, List.getElem?_cons_succ, List.getElem?_cons_zero]; intro K hK; go_simp)
                    clear hHeld
                    refine HOF.out.mono ?_
                    rintro e y1 ⟨A8, c8, rfl, hown, hb⟩
                    clear hown
                    (go_wp2_with fail; refine hK.out _ _ ?_ (fun hHeld => ?_); (focus (exact HST.out _ (through HBL.out (Nat.le_refl _) hb))); clear hK K; (try simp only [Act.put, List.setIfInBounds_toArray, List.set_cons_zero, List.set_cons_succ]))
                    have HBL := Lib.hid (through HBL.out (Nat.le_refl _) hb)
                    clear hb HOF
                    by_cases hin2 : y ∈ keysR r
                    · have hp := ofF_pos.2 hin2
                      have td : decide ((0 : Int) < ((ofF r y).length : Int)) = true := decide_eq_true (by omega)
                      have td2 : decide (0 < (ofF r y).length) = true := decide_eq_true hp
                      have HT3 := Lib.hid (show inL (f.parts.take (j + 1)) y = K2 + 1 by rw [HT2.out, if_pos hin2])
                      have HN3 := Lib.hid (show K1 + K2 + 1 ≤ 100 by have := HN2.out; rw [if_pos hin2] at this; omega)
                      have hs1 : (K1 : Int) + (K2 : Int) + 1 ≤ 9223372036854775807 := by have := HN3.out; omega
                      clear hin2
                      (refine held_take 13 (by kernel_rfl) (by kernel_rfl) (by kernel_rfl) (by assumption) ?_; simp only [List.getElem?_toArray, List.getElem?_cons_succ, List.getElem?_cons_zero]; refine ⟨fun _ _ _ _ h => h, ?_, Or.inl ⟨by kernel_rfl, ?_⟩, ?_⟩; rotate_left; (focus (intro wS hSw; (try dsimp only at hSw); go_simp; try with_reducible rfl)); (try simp only [Act.put, List.setIfInBounds_toArray, List.set_cons_zero, List.set_cons_succ]))
                      (refine held_take 14 (by kernel_rfl) (by kernel_rfl) (by kernel_rfl) (by assumption) ?_; simp only [List.getElem?_toArray, List.getElem?_cons_succ, List.getElem?_cons_zero]; refine ⟨fun _ _ _ _ h => h, ?_, Or.inl ⟨by kernel_rfl, ?_⟩, ?_⟩; rotate_left; (focus (intro wS hSw; (try dsimp only at hSw); go_simp; try with_reducible rfl)); (try simp only [Act.put, List.setIfInBounds_toArray, List.set_cons_zero, List.set_cons_succ]))
                      (refine wpAnyH_done (by kernel_rfl) ?_ _)
                      clear hHeld
                      go_wp2_with fail
                      go_roundw
                      case rel => exact ⟨j + 1, by omega, by go_num, by rw [HT3.out]; first | rfl | (push_cast; rfl) | (congr 1; push_cast; omega), HBL.out⟩
                      case measure => simp [Go.RowKit.intOf]; omega
                    · have hp : ¬ 0 < (ofF r y).length := fun h => hin2 (ofF_pos.1 h)
                      have td : decide ((0 : Int) < ((ofF r y).length : Int)) = false := decide_eq_false (by omega)
                      have td2 : decide (0 < (ofF r y).length) = false := decide_eq_false hp
                      have HT3 := Lib.hid (show inL (f.parts.take (j + 1)) y = K2 by rw [HT2.out, if_neg hin2]; rfl)
                      clear hin2
                      (refine held_take 13 (by kernel_rfl) (by kernel_rfl) (by kernel_rfl) (by assumption) ?_; simp only [List.getElem?_toArray, List.getElem?_cons_succ, List.getElem?_cons_zero]; refine ⟨fun _ _ _ _ h => h, ?_, Or.inl ⟨by kernel_rfl, ?_⟩, ?_⟩; rotate_left; (focus (intro wS hSw; (try dsimp only at hSw); go_simp; try with_reducible rfl)); (try simp only [Act.put, List.setIfInBounds_toArray, List.set_cons_zero, List.set_cons_succ]))
                      (refine held_take 14 (by kernel_rfl) (by kernel_rfl) (by kernel_rfl) (by assumption) ?_; simp only [List.getElem?_toArray, List.getElem?_cons_succ, List.getElem?_cons_zero]; refine ⟨fun _ _ _ _ h => h, ?_, Or.inl ⟨by kernel_rfl, ?_⟩, ?_⟩; rotate_left; (focus (intro wS hSw; (try dsimp only at hSw); go_simp; try with_reducible rfl)); (try simp only [Act.put, List.setIfInBounds_toArray, List.set_cons_zero, List.set_cons_succ]))
                      (refine wpAnyH_done (by kernel_rfl) ?_ _)
                      clear hHeld
                      go_wp2_with fail
                      go_roundw
                      case rel => exact ⟨j + 1, by omega, by go_num, by rw [HT3.out]; first | rfl | (push_cast; rfl) | (congr 1; push_cast; omega), HBL.out⟩
                      case measure => simp [Go.RowKit.intOf]; omega
                  · obtain rfl : j = f.parts.length := by omega
                    rw [List.take_length]
                    go_wp2_with fail
                    go_roundw
                    case rel => exact ⟨i + 1, by omega, by go_num, by rw [HT.out], HBL.out⟩
                    case measure => simp [Go.RowKit.intOf]; omega
              · obtain rfl : i = fs.length := by omega
                rw [List.take_length, HONE.out]
                have t1 : (((1 : Nat) : Int) != 1) = false := by simp
                go_wp2_with fail
                go_roundw
                case rel => exact ⟨k + 1, by omega, by go_num, HBL.out⟩
                case measure => simp [Go.RowKit.intOf]; omega
          · obtain rfl : k = (keysF fs).length := by omega
            have HB6 := Lib.hid (through HB.out (Nat.le_refl _) HBL.out)
            have HKW := Lib.hid (show IsInts wr w5.heap.size ⟨A5, c5, keysF fs⟩ from HK.out.below HBL.out)
            have HB := HB6
            clear HB6 HBL HK
            have hXr : X.heap.size ≤ wr.heap.size := HB.out.size
            by_cases hk0 : (keysF fs).length = 0
            · have tk : (((keysF fs).length : Int) == 0) = true := by rw [hk0]; rfl
              have tk2 : ((keysF fs).length == 0) = true := by rw [hk0]; rfl
              clear hk0
              go_wp2_with fail
              refine (works_any wr).mono ?_
              rintro e w9 ⟨rfl, hb⟩
              have HB := Lib.hid (through HB.out (Nat.le_refl _) hb)
              clear hb
              go_wp2_with fail
              go_returns
              exact ⟨rfl, HE.out _ HB.out⟩
            · have tk : (((keysF fs).length : Int) == 0) = false := by rw [beq_eq_false_iff_ne]; omega
              have hkp : 0 < (keysF fs).length := by omega
              clear hk0
              obtain ⟨kk, hpk, hkk⟩ := pick_nat (k := a1) hkp
              have HP1 := Lib.hid (pick_any a1 ((keysF fs).length : Int) wr (by unfold In64; omega) H1i.out)
              rw [hpk] at HP1
              clear hpk
              obtain ⟨b7, o7, key, rfl, hb7, HV, h64, c7⟩ := Sp.ints_at HKW.out hkk
              have HKEY := Lib.hid (show key ∈ keysF fs by rw [← HV.out, getD_el hkk]; exact List.getElem_mem hkk)
              have HK64 := Lib.hid h64
              have hkn : (kk : Int) < ((keysF fs).length : Int) := by omega
              have hfp : 0 < fs.length := by
                have h1 := keysF_mem.1 HKEY.out
                rw [keysA_iff] at h1
                obtain ⟨i, k, hx⟩ := h1
                have := (partAt_in hx).1
                omega
              clear h64
              go_wp2_with fail
              refine HP1.out.mono ?_
              rintro e w6 ⟨rfl, rfl⟩
              have HCP := Lib.hid (copyFeeds_any Af cf fs wr w.heap.size (Nat.le_trans hbX0 HB.out.size) (HF.out.below (HB.out.mono hbX0)) (by omega) HSP.out)
              clear HP1
              go_wp2_with fail
              refine HCP.out.mono ?_
              rintro e w4 ⟨Ax, cx, qx, px, rfl, hown, hb4⟩
              have HOW := Lib.hid hown
              have HX03 := Lib.hid hXr
              have HB := Lib.hid (through HB.out (Nat.le_refl _) hb4)
              clear hown hb4 HCP tk c7
              obtain ⟨i, hpi, hi⟩ := pick_nat (k := a2) hfp
              have HP1 := Lib.hid (pick_any a2 (fs.length : Int) w4 (by unfold In64; omega) H2i.out)
              rw [hpi] at HP1
              clear hpi
              go_wp2_with fail
              refine HP1.out.mono ?_
              rintro e w5 ⟨rfl, rfl⟩
              clear HP1
              obtain ⟨bx, rfl, hbx0, hbx1, x0, x1⟩ := HOW.out.at_ hi
              have HOL := Lib.hid (HOW.out.2.1 i hi).2
              have hpp : 0 < (fs.getD i default).parts.length := parts_pos HCE.out HFZ.out hi
              have hp100 : (fs.getD i default).parts.length ≤ 100 := Nat.le_trans (prtF_mem (feeds_mem hi)) h100
              obtain ⟨m, hm⟩ : ∃ m, (fs.getD i default).parts.length = m := ⟨_, rfl⟩
              have HM := Lib.hid hm
              rw [hm] at x1 hpp hp100
              clear hm
              have hin : (i : Int) < (fs.length : Int) := by omega
              have h7 := in64_div H2i.out
              have hw7 : IntKind.i64.wrap (a2.tdiv 7) = a2.tdiv 7 := by unfold In64 at h7; rw [IntKind.wrap_i64]; omega
              obtain ⟨k, hpk, hk⟩ := pick_nat (k := a2.tdiv 7) hpp
              have HP2 := Lib.hid (pick_any (a2.tdiv 7) (m : Int) w4 (by unfold In64; omega) h7)
              rw [hpk] at HP2
              clear hpk h7
              go_wp2_with fail
              refine HP2.out.mono ?_
              rintro e w6 ⟨rfl, rfl⟩
              clear HP2
              have hkm : k < (fs.getD i default).parts.length := by rw [HM.out]; exact hk
              obtain ⟨bq, hbq, hbq0, hbq1, y0⟩ := HOL.out.at_ hkm
              have HOR := Lib.hid (HOL.out.2.1 k hkm)
              have HR := Lib.hid (show (fs.getD i default).parts.getD k [] = partAt fs i k from rfl)
              rw [HR.out] at HOR y0
              have hr600 : (partAt fs i k).length ≤ 600 := Nat.le_trans (Nat.le_trans (cntL_mem (lists_mem hkm)) (cntF_mem (feeds_mem hi))) h600
              have HQ := Lib.hid hbq
              rw [hbq] at x1
              have hkn2 : (k : Int) < (m : Int) := by omega
              clear hbq
              have HOF := Lib.hid (of_any (px i k).1 (px i k).2 (partAt fs i k) key w4 w4.heap.size (Nat.le_refl _) ⟨HOR.out.pairs, by unfold LB; omega⟩ (by omega))
              go_wp2_with fail
              refine HOF.out.mono ?_
              rintro e w8 ⟨A8, c8, rfl, hown8, hb8⟩
              clear hown8
              have HB := Lib.hid (through HB.out (Nat.le_refl _) hb8)
              have HOW := Lib.hid (HOW.out.below hb8)
              have HOL := Lib.hid (HOL.out.below hb8)
              have HOR := Lib.hid (HOR.out.below hb8)
              have x1 := (hb8.cell (p := ⟨bx, i * 2 + 1, none⟩) hbx1).trans x1
              have y0 := (hb8.cell (p := ⟨bq, k, none⟩) hbq1).trans y0
              have hbx1 : bx < w8.heap.size := Nat.lt_of_lt_of_le hbx1 hb8.size
              have hbq1 : bq < w8.heap.size := Nat.lt_of_lt_of_le hbq1 hb8.size
              clear hb8 HOF x0
              obtain ⟨th, hth⟩ : ∃ th, decide (0 < (ofF (partAt fs i k) key).length) = th := ⟨_, rfl⟩
              have hth2 : decide ((0 : Int) < ((ofF (partAt fs i k) key).length : Int)) = th := by rw [← hth]; exact decide_eq_decide.2 (by omega)
              have HTH := Lib.hid (show th = decide (key ∈ keysR (partAt fs i k)) by rw [← hth]; exact decide_eq_decide.2 ofF_pos)
              go_upto_region 27 with (fail)
              (try rw [hth])
              (try rw [hth2])
              clear hth hth2
              have hbxq : bx ≠ bq := fun e => by
                have h1 := rows_ne tFL HOW.out.1 HOL.out.1
                rw [ownBlock_slice, show blk (qx i) = some bq from by unfold blk; rw [HQ.out]; rfl] at h1
                rcases h1 with h1 | h1
                · cases h1
                · exact h1 (by subst e; rfl)
              obtain ⟨cq, hcq⟩ : ∃ z, (qx i).2 = z := ⟨_, rfl⟩
              obtain ⟨pa, cr, hpx⟩ : ∃ pa cr, px i k = (pa, cr) := ⟨_, _, rfl⟩
              rw [hcq] at x1
              rw [hpx] at HOR y0
              have hrow : blk (px i k) = (Value.slice pa (partAt fs i k).length cr).ownBlock := by rw [hpx]; exact (ownBlock_slice (pa, cr) _).symm
              have HROW := Lib.hid hrow
              simp only at HOR y0
              have HST := Lib.hid (show ∀ Z, Below w8.heap.size w8 Z → Z.cell? ⟨bx, i * 2 + 1, none⟩ = some (.slice (some ⟨bq, 0, none⟩) m cq) from fun Z hZ => (hZ.cell (p := ⟨bx, i * 2 + 1, none⟩) hbx1).trans x1)
              have HSTq := Lib.hid (show ∀ Z, Below w8.heap.size w8 Z → Z.cell? ⟨bq, k, none⟩ = some (.slice pa (partAt fs i k).length cr) from fun Z hZ => (hZ.cell (p := ⟨bq, k, none⟩) hbq1).trans y0)
              clear x1 y0 hrow hcq hpx
              refine wp_region_held_drew (S := (fun (Z : World) => Z.cell? ⟨bx, i * 2 + 1, none⟩ = some (.slice (some ⟨bq, 0, none⟩) m cq))) (by kernel_rfl) (HST.out _ (Below.refl _ _).drew) (fun hHeld => ?_)
              have HW := Lib.hid (show Below w8.heap.size w8 w8.drew from (Below.refl _ _).drew)
              obtain ⟨y0, hy0⟩ : ∃ Z, w8.drew = Z := ⟨_, rfl⟩
              rw [hy0] at HW hHeld ⊢
              clear hy0
              (refine held_take 0 (by kernel_rfl) (by kernel_rfl) (by kernel_rfl) (by assumption) ?_; simp only [List.getElem?_toArray, List.getElem?_cons_zero]; refine ⟨fun _ _ _ _ h => h, ?_, Or.inl ⟨by kernel_rfl, ?_⟩, ?_⟩; rotate_left; (focus (intro wS hSw; (try dsimp only at hSw); go_simp; try with_reducible rfl)); (try simp only [Act.put, List.setIfInBounds_toArray, List.set_cons_zero, List.set_cons_succ]))
              (refine held_take 1 (by kernel_rfl) (by kernel_rfl) (by kernel_rfl) (by assumption) ?_; simp only [List.getElem?_toArray, List.getElem?_cons_succ, List.getElem?_cons_zero]; refine ⟨fun _ _ _ _ h => h, ?_, Or.inl ⟨by kernel_rfl, ?_⟩, ?_⟩; rotate_left; (focus (intro wS hSw; (try dsimp only at hSw); go_simp; try with_reducible rfl)); (try simp only [Act.put, List.setIfInBounds_toArray, List.set_cons_zero, List.set_cons_succ]))
              (refine held_take 2 (by kernel_rfl) (by kernel_rfl) (by kernel_rfl) (by assumption) ?_; simp only [List.getElem?_toArray, List.getElem?_cons_succ, List.getElem?_cons_zero]; refine ⟨fun _ _ _ _ h => h, ?_, Or.inl ⟨by kernel_rfl, ?_⟩, ?_⟩; rotate_left; (focus (intro wS hSw; (try dsimp only at hSw); go_simp; try with_reducible rfl)); (try simp only [Act.put, List.setIfInBounds_toArray, List.set_cons_zero, List.set_cons_succ]))
              (refine held_take 3 (by kernel_rfl) (by kernel_rfl) (by kernel_rfl) (by assumption) ?_; simp only [List.getElem?_toArray, List.getElem?_cons_succ, List.getElem?_cons_zero]; refine ⟨fun _ _ _ _ h => h, ?_, Or.inl ⟨by kernel_rfl, ?_⟩, ?_⟩; rotate_left; (focus (intro wS hSw; (try dsimp only at hSw); go_simp; try with_reducible rfl)); (try simp only [Act.put, List.setIfInBounds_toArray, List.set_cons_zero, List.set_cons_succ]))
              (refine held_take 4 (by kernel_rfl) (by kernel_rfl) (by kernel_rfl) (by assumption) ?_; simp only [List.getElem?_toArray, List.getElem?_cons_succ, List.getElem?_cons_zero]; refine ⟨fun _ _ _ _ h => h, ?_, Or.inl ⟨by kernel_rfl, ?_⟩, ?_⟩; rotate_left; (focus (intro wS hSw; (try dsimp only at hSw); go_simp; try with_reducible rfl)); (try simp only [Act.put, List.setIfInBounds_toArray, List.set_cons_zero, List.set_cons_succ]))
              (refine held_take 5 (by kernel_rfl) (by kernel_rfl) (by kernel_rfl) (by assumption) ?_; simp only [List.getElem?_toArray, List.getElem?_cons_succ, List.getElem?_cons_zero]; refine ⟨fun _ _ _ _ h => h, ?_, Or.inl ⟨by kernel_rfl, ?_⟩, ?_⟩; rotate_left; (focus (intro wS hSw; (try dsimp only at hSw); go_simp; try with_reducible rfl)); (try simp only [Act.put, List.setIfInBounds_toArray, List.set_cons_zero, List.set_cons_succ]))
              (refine held_take 6 (by kernel_rfl) (by kernel_rfl) (by kernel_rfl) (by assumption) ?_; simp only [List.getElem?_toArray, List.getElem?_cons_succ, List.getElem?_cons_zero]; refine ⟨fun _ _ _ _ h => h, ?_, Or.inl ⟨by kernel_rfl, ?_⟩, ?_⟩; rotate_left; (focus (intro wS hSw; (try dsimp only at hSw); go_simp; try with_reducible rfl)); (try simp only [Act.put, List.setIfInBounds_toArray, List.set_cons_zero, List.set_cons_succ]))
              (refine held_take 7 (by kernel_rfl) (by kernel_rfl) (by kernel_rfl) (by assumption) ?_; simp only [List.getElem?_toArray, List.getElem?_cons_succ, List.getElem?_cons_zero]; refine ⟨fun _ _ _ _ h => h, ?_, Or.inl ⟨by kernel_rfl, ?_⟩, ?_⟩; rotate_left; (focus (intro wS hSw; (try dsimp only at hSw); go_simp; try with_reducible rfl)); (try simp only [Act.put, List.setIfInBounds_toArray, List.set_cons_zero, List.set_cons_succ]))
              (refine held_take 8 (by kernel_rfl) (by kernel_rfl) (by kernel_rfl) (by assumption) ?_; simp only [List.getElem?_toArray, List.getElem?_cons_succ, List.getElem?_cons_zero]; refine ⟨fun _ _ _ _ h => h, ?_, Or.inl ⟨by kernel_rfl, ?_⟩, ?_⟩; rotate_left; (focus (intro wS hSw; (try dsimp only at hSw); go_simp; try with_reducible rfl)); (try simp only [Act.put, List.setIfInBounds_toArray, List.set_cons_zero, List.set_cons_succ]))
              (refine held_take 9 (by kernel_rfl) (by kernel_rfl) (by kernel_rfl) (by assumption) ?_; simp only [List.getElem?_toArray, List.getElem?_cons_succ, List.getElem?_cons_zero]; refine ⟨fun _ _ _ _ h => h, ?_, Or.inl ⟨by kernel_rfl, ?_⟩, ?_⟩; rotate_left; (focus (intro wS hSw; (try dsimp only at hSw); go_simp; try with_reducible rfl)); (try simp only [Act.put, List.setIfInBounds_toArray, List.set_cons_zero, List.set_cons_succ]))
              (refine held_take 10 (by kernel_rfl) (by kernel_rfl) (by kernel_rfl) (by assumption) ?_; simp only [List.getElem?_toArray, List.getElem?_cons_succ, List.getElem?_cons_zero]; refine ⟨fun _ _ _ _ h => h, ?_, Or.inl ⟨by kernel_rfl, ?_⟩, ?_⟩; rotate_left; (focus (intro wS hSw; (try dsimp only at hSw); go_simp; try with_reducible rfl)); (try simp only [Act.put, List.setIfInBounds_toArray, List.set_cons_zero, List.set_cons_succ]))
              (refine held_take 11 (by kernel_rfl) (by kernel_rfl) (by kernel_rfl) (by assumption) ?_; simp only [List.getElem?_toArray, List.getElem?_cons_succ, List.getElem?_cons_zero]; refine ⟨fun _ _ _ _ h => h, ?_, Or.inl ⟨by kernel_rfl, ?_⟩, ?_⟩; rotate_left; (focus (intro wS hSw; (try dsimp only at hSw); go_simp; try with_reducible rfl)); (try simp only [Act.put, List.setIfInBounds_toArray, List.set_cons_zero, List.set_cons_succ]))
              (refine held_take 12 (by kernel_rfl) (by kernel_rfl) (by kernel_rfl) (by assumption) ?_; simp only [List.getElem?_toArray, List.getElem?_cons_succ, List.getElem?_cons_zero]; refine ⟨fun _ _ _ _ h => h, ?_, Or.inl ⟨by kernel_rfl, ?_⟩, ?_⟩; rotate_left; (focus (intro wS hSw; (try dsimp only at hSw); go_simp; try with_reducible rfl)); (try simp only [Act.put, List.setIfInBounds_toArray, List.set_cons_zero, List.set_cons_succ]))
              (refine held_take 14 (by kernel_rfl) (by kernel_rfl) (by kernel_rfl) (by assumption) ?_; simp only [List.getElem?_toArray, List.getElem?_cons_succ, List.getElem?_cons_zero]; refine ⟨fun _ _ _ _ h => h, ?_, Or.inl ⟨by kernel_rfl, ?_⟩, ?_⟩; rotate_left; (focus (intro wS hSw; (try dsimp only at hSw); go_simp; try with_reducible rfl)); (try simp only [Act.put, List.setIfInBounds_toArray, List.set_cons_zero, List.set_cons_succ]))
              (refine held_take 15 (by kernel_rfl) (by kernel_rfl) (by kernel_rfl) (by assumption) ?_; simp only [List.getElem?_toArray, List.getElem?_cons_succ, List.getElem?_cons_zero]; refine ⟨fun _ _ _ _ h => h, ?_, Or.inl ⟨by kernel_rfl, ?_⟩, ?_⟩; rotate_left; (focus (intro wS hSw; (try dsimp only at hSw); go_simp; try with_reducible rfl)); (try simp only [Act.put, List.setIfInBounds_toArray, List.set_cons_zero, List.set_cons_succ]))
              have HH0 := Lib.hid hHeld
              clear hHeld
              apply held_join2 (#[true, true, true, true, true, true, true, true, true, true, true, true, true, true, true, true, true, false, false, false]) (fun (bA d : Nat) (Y : World) => Below w8.heap.size w8 Y ∧ Blk Y bA 57 #[.int .i64 key, .int .i64 0])
              case main =>
                intro J
                obtain ⟨d0, hd0⟩ : ∃ d : Nat, d = 0 := ⟨0, rfl⟩
                have hHeld := HH0.out
                refine held_two 13 16 (by kernel_rfl) ?_ ?_
                · have hcl := HSTq.out _ HW.out
                  (simp only [List.getElem?_toArray, List.getElem?_cons_succ, List.getElem?_cons_zero]; intro K hK; go_simp)
                  clear hHeld
                  (go_wp2_with fail; refine hK.out _ _ ?_ (fun hHeld => ?_); (focus (exact HST.out _ HW.out)); clear hK K; (try simp only [Act.put, List.setIfInBounds_toArray, List.set_cons_zero, List.set_cons_succ]))
                  clear hcl
                  (refine held_one 16 (by kernel_rfl) ?_; simp only [List.getElem?_toArray, List.getElem?_cons_succ, List.getElem?_cons_zero]; intro K hK; go_simp)
                  clear hHeld
                  have hb : Below y0.heap.size y0 (y0.alloc (.cells #[.int .i64 key, .int .i64 0] 57)) := (Below.refl _ _).alloc (Nat.le_refl _) _
                  have KB := Lib.hid (Blk.new y0 57 #[.int .i64 key, .int .i64 0])
                  (go_wp2_with fail; refine hK.out _ _ ?_ (fun hHeld => ?_); (focus (exact HST.out _ (through HW.out (Nat.le_refl _) hb))); clear hK K; (try simp only [Act.put, List.setIfInBounds_toArray, List.set_cons_zero, List.set_cons_succ]))
                  obtain ⟨bA, hbk⟩ : ∃ z, y0.heap.size = z := ⟨_, rfl⟩
                  obtain ⟨y1, hY⟩ : ∃ Y, y0.alloc (.cells #[.int .i64 key, .int .i64 0] 57) = Y := ⟨_, rfl⟩
                  rw [hY] at hb KB
                  rw [hbk] at KB
                  (try rw [hY] at hHeld)
                  (try rw [hY])
                  (try rw [hbk])
                  have HW := Lib.hid (through HW.out (Nat.le_refl _) hb)
                  clear hb hY hbk
                  refine held_listed (listed' := #[true, true, true, true, true, true, true, true, true, true, true, true, true, true, true, true, true, false, false, false]) (by kernel_rfl) ?_
                  exact J bA d0 y1 ⟨HW.out, KB.out⟩ hHeld
                · (simp only [List.getElem?_toArray, List.getElem?_cons_succ, List.getElem?_cons_zero]; intro K hK; go_simp)
                  clear hHeld
                  have hb : Below y0.heap.size y0 (y0.alloc (.cells #[.int .i64 key, .int .i64 0] 57)) := (Below.refl _ _).alloc (Nat.le_refl _) _
                  have KB := Lib.hid (Blk.new y0 57 #[.int .i64 key, .int .i64 0])
                  (go_wp2_with fail; refine hK.out _ _ ?_ (fun hHeld => ?_); (focus (exact HST.out _ (through HW.out (Nat.le_refl _) hb))); clear hK K; (try simp only [Act.put, List.setIfInBounds_toArray, List.set_cons_zero, List.set_cons_succ]))
                  obtain ⟨bA, hbk⟩ : ∃ z, y0.heap.size = z := ⟨_, rfl⟩
                  obtain ⟨y1, hY⟩ : ∃ Y, y0.alloc (.cells #[.int .i64 key, .int .i64 0] 57) = Y := ⟨_, rfl⟩
                  rw [hY] at hb KB
                  rw [hbk] at KB
                  (try rw [hY] at hHeld)
                  (try rw [hY])
                  (try rw [hbk])
                  have HW := Lib.hid (through HW.out (Nat.le_refl _) hb)
                  clear hb hY hbk
                  have hcl := HSTq.out _ HW.out
                  (refine held_one 13 (by kernel_rfl) ?_; simp only [List.getElem?_toArray, List.getElem?_cons_succ, List.getElem?_cons_zero]; intro K hK; go_simp)
                  clear hHeld
                  (go_wp2_with fail; refine hK.out _ _ ?_ (fun hHeld => ?_); (focus (exact HST.out _ HW.out)); clear hK K; (try simp only [Act.put, List.setIfInBounds_toArray, List.set_cons_zero, List.set_cons_succ]))
                  clear hcl
                  refine held_listed (listed' := #[true, true, true, true, true, true, true, true, true, true, true, true, true, true, true, true, true, false, false, false]) (by kernel_rfl) ?_
                  exact J bA d0 y1 ⟨HW.out, KB.out⟩ hHeld
              case rest =>
                intro bA d y1 hR hHeld
                have HW := Lib.hid hR.1
                have KB := Lib.hid hR.2
                clear hR HH0
                have HOR1 := Lib.hid (HOR.out.below HW.out)
                have HZ1 := Lib.hid HW.out.size
                (refine held_one 17 (by kernel_rfl) ?_; simp only [List.getElem?_toArray, List.getElem?_cons_succ, List.getElem?_cons_zero]; intro K hK)
                clear hHeld
                refine wp_pair (v := .slice pa (partAt fs i k).length cr) (u := (key, 0)) isPT _ _ rfl wr.heap.size rfl HOR1.out ⟨HK64.out, by unfold In64; omega⟩ ⟨bA, 0, none⟩ rfl (KB.out.cell 0) (KB.out.cell 1) (by omega) (by have h1 := HB.out.size; have h2 := HZ1.out; omega) ?_
                intro A3 c3 y2 hown3 hg3
                have hRL : (partAt fs i k).length + 1 = (partAt fs i k ++ [(key, 0)]).length := by simp
                rw [hRL] at hown3 ⊢
                clear hRL
                have HO3 := Lib.hid hown3
                have HB2 := Lib.hid (show Below X.heap.size X y2 from (through HB.out (Nat.le_refl _) HW.out).grown hg3 (Nat.le_trans HB.out.size HW.out.size) (fun g hg => Nat.le_trans HX03.out (HOR1.out.blk g hg).1))
                have HOW1 := Lib.hid (HOW.out.below HW.out)
                have hg4 := hg3
                rw [← HROW.out] at hg4
                have OTH := Lib.hid (grown_others HOW1.out hi hkm hg4)
                have hS2 : y2.cell? ⟨bx, i * 2 + 1, none⟩ = some (.slice (some ⟨bq, 0, none⟩) m cq) := by
                  rw [hg3.cell_far ⟨bx, i * 2 + 1, none⟩ (Nat.lt_of_lt_of_le hbx1 HW.out.size) (fun e => by
                    have h1 := rows_ne tFR.symm HOR1.out.1 HOW1.out.1
                    rcases h1 with h1 | h1
                    · cases h1
                    · exact h1 e)]
                  exact HST.out _ HW.out
                have hrow := (OTH.out.2.1 i hi).2
                have hcell := hrow.cells (g := bq) (by rw [ownBlock_slice]; unfold blk; rw [HQ.out]; rfl) k _ (lisC_get hkm)
                rw [Go.WideShapes.add_plain, Nat.zero_add] at hcell
                rw [HQ.out] at hrow
                obtain ⟨cur, kq⟩ := row_blk hrow
                have hfz := kq.frozen k
                refine hK.out _ _ hS2 (fun hHeld => ?_)
                clear hK K hown3 hg3 hg4 hrow kq
                (try simp only [Act.put, List.setIfInBounds_toArray, List.set_cons_zero, List.set_cons_succ])
                (refine held_take 18 (by kernel_rfl) (by kernel_rfl) (by kernel_rfl) (by assumption) ?_; simp only [List.getElem?_toArray, List.getElem?_cons_succ, List.getElem?_cons_zero]; refine ⟨fun _ _ _ _ h => h, ?_, Or.inl ⟨by kernel_rfl, ?_⟩, ?_⟩; rotate_left; (focus (intro wS hSw; (try dsimp only at hSw); go_simp; try with_reducible rfl)); (try simp only [Act.put, List.setIfInBounds_toArray, List.set_cons_zero, List.set_cons_succ]))
                clear hS2
                have hS2 := hHeld
                (refine held_one 19 (by kernel_rfl) ?_; simp only [List.getElem?_toArray, List.getElem?_cons_succ, List.getElem?_cons_zero]; intro K hK; go_simp)
                have hS5 : (y2.setCell ⟨bq, k, none⟩ (.slice A3 (partAt fs i k ++ [(key, 0)]).length c3)).cell? ⟨bx, i * 2 + 1, none⟩ = some (.slice (some ⟨bq, 0, none⟩) m cq) := by
                  rw [World.cell?_setCell_other y2 _ _ _ (by intro e; injection e with e1; exact hbxq e1.symm)]
                  exact hS2
                have hRL : (partAt fs i k ++ [(key, 0)]).length = (partAt fs i k).length + 1 := by simp
                have HX5 := Lib.hid (set_feeds (z := (A3, c3)) OTH.out.1 OTH.out.2.1 OTH.out.2.2 HOW1.out.2.2.1 hi hkm HQ.out HO3.out (short_set HSH.out hi hkm (by unfold LB; omega)))
                have HB5 := Lib.hid (show Below X.heap.size X (y2.setCell ⟨bq, k, none⟩ (.slice A3 (partAt fs i k ++ [(key, 0)]).length c3)) from HB2.out.setCell (by show X.heap.size ≤ bq; exact Nat.le_trans HX03.out hbq0) _)
                have HE5 := Lib.hid (more_chk HFZ.out hi hkm HKEY.out)
                have HCF : Hid (cntF [(setP fs i k (partAt fs i k ++ [(key, 0)])).getD i default] = cntL (fs.getD i default).parts + 1) := by
                  show _ = _
                  have h1 := cntL_setP (r := partAt fs i k ++ [(key, 0)]) hi hkm
                  rw [cntF_one]; omega
                have HFN : Hid ((setP fs i k (partAt fs i k ++ [(key, 0)])).length = fs.length) := setP_len
                have HFC2 : Hid (cntF (setP fs i k (partAt fs i k ++ [(key, 0)])) ≤ 1000) := by
                  show _ ≤ _
                  have h1 := cntF_setP (r := partAt fs i k ++ [(key, 0)]) hi hkm
                  omega
                have HCUT := Lib.hid (feeds_cut HX5.out (i := i) (by rw [HFN.out]; exact hi))
                have hcx : fs.length ≤ cx := by
                  obtain ⟨q, h1, h2, -⟩ := HX5.out
                  rw [HFN.out] at h2; exact h2
                rw [hRL] at HX5 HB5 HCUT hS5
                generalize (setP fs i k (partAt fs i k ++ [(key, 0)])).getD i default = FF at *
                generalize setP fs i k (partAt fs i k ++ [(key, 0)]) = FS at *
                generalize partAt fs i k ++ [(key, 0)] = L at *
                refine hK.out _ _ hS5 (fun hHeld => ?_)
                clear hK K hS5 hS2 hHeld
                (try simp only [List.setIfInBounds_toArray, List.set_cons_zero, List.set_cons_succ])
                (refine wpAnyH_done (by kernel_rfl) ?_ _)
                obtain ⟨W5, hW5⟩ : ∃ W, y2.setCell ⟨bq, k, none⟩ (.slice A3 ((partAt fs i k).length + 1) c3) = W := ⟨_, rfl⟩
                rw [hW5] at HX5 HB5 HCUT ⊢
                obtain ⟨s0, s1⟩ := spec_blk (KS.out.below HB5.out hsz)
                have HFC := Lib.hid (fcheck_any g A _ c cx l p FS W5 W5.heap.size (Nat.le_refl _) ((HO.out.below (HB5.out.mono hbX0)).more (Nat.le_trans hbX0 HB5.out.size)) (by omega) HX5.out (by rw [HFN.out]; omega) (by have := HFC2.out; omega))
                rw [HFN.out] at HFC
                have hci : ¬ cx = i := by omega
                have hi1c : (i : Int) + 1 ≤ (cx : Int) := by omega
                have hi0 : (0 : Int) ≤ (i : Int) := by omega
                have hi01 : (0 : Int) ≤ (i : Int) + 1 := by omega
                have hii : (i : Int) ≤ (i : Int) + 1 := by omega
                have hwi : IntKind.i64.wrap ((i : Int) + 1) = (i : Int) + 1 := by rw [IntKind.wrap_i64]; omega
                have hci1 : i + 1 - i = 1 := by omega
                clear hW5 hcell hfz HOW HOW1 HOL HOR HOR1 OTH HO3 HB2 HST HSTq HW KB HX03
                have hcn7 : cntL (fs.getD i default).parts + 1 ≤ 700 := by
                  have := cntF_mem (feeds_mem hi)
                  omega
                by_cases h200 : cntL (fs.getD i default).parts + 1 ≤ 200
                · have HE6 := HE5.out
                  rw [if_pos h200] at HE6
                  generalize cntL (fs.getD i default).parts + 1 = CN at *
                  have tc : decide ((200 : Int) < (CN : Int)) = false := decide_eq_false (by omega)
                  have tc2 : decide (200 < CN) = false := decide_eq_false (by omega)
                  by_cases hin2 : key ∈ keysR (partAt fs i k)
                  · rw [if_pos hin2] at HE6
                    rw [HE6] at HFC
                    obtain rfl : th = true := by rw [HTH.out]; exact decide_eq_true hin2
                    clear HE6 hin2 HE5 h200
                    go_wp2_with fail
                    refine HFC.out.mono ?_
                    rintro e z1 ⟨rfl, hb⟩
                    have HW := Lib.hid hb
                    have HCN := Lib.hid (cnt_any (some ⟨bx, i * 2, none⟩) (cx - i) [FF] z1 W5.heap.size hb.size (HCUT.out.below hb) (by have := HCF.out; omega))
                    rw [show [FF].length = 1 from rfl, HCF.out] at HCN
                    clear hb HFC s0 s1
                    go_wp2_with fail
                    refine HCN.out.mono ?_
                    rintro e z2 ⟨rfl, hb⟩
                    have HB := Lib.hid (through HB5.out (Nat.le_refl _) (through HW.out (Nat.le_refl _) hb))
                    clear hb HCN HW
                    go_wp2_with fail
                    refine (works_any z2).mono ?_
                    rintro e w9 ⟨rfl, hb⟩
                    have HB := Lib.hid (through HB.out (Nat.le_refl _) hb)
                    clear hb
                    go_wp2_with fail
                    go_returns
                    exact ⟨rfl, HE.out _ HB.out⟩
                  · rw [if_neg hin2] at HE6
                    rw [HE6] at HFC
                    obtain rfl : th = false := by rw [HTH.out]; exact decide_eq_false hin2
                    clear HE6 hin2 HE5 h200
                    go_wp2_with fail
                    refine HFC.out.mono ?_
                    rintro e z1 ⟨rfl, hb⟩
                    have HW := Lib.hid hb
                    have HCN := Lib.hid (cnt_any (some ⟨bx, i * 2, none⟩) (cx - i) [FF] z1 W5.heap.size hb.size (HCUT.out.below hb) (by have := HCF.out; omega))
                    rw [show [FF].length = 1 from rfl, HCF.out] at HCN
                    clear hb HFC s0 s1
                    go_wp2_with fail
                    refine HCN.out.mono ?_
                    rintro e z2 ⟨rfl, hb⟩
                    have HB := Lib.hid (through HB5.out (Nat.le_refl _) (through HW.out (Nat.le_refl _) hb))
                    clear hb HCN HW
                    go_wp2_with fail
                    refine (works_any z2).mono ?_
                    rintro e w9 ⟨rfl, hb⟩
                    have HB := Lib.hid (through HB.out (Nat.le_refl _) hb)
                    clear hb
                    go_wp2_with fail
                    go_returns
                    exact ⟨rfl, HE.out _ HB.out⟩
                · have HE6 := HE5.out
                  rw [if_neg h200] at HE6
                  generalize cntL (fs.getD i default).parts + 1 = CN at *
                  have tc : decide ((200 : Int) < (CN : Int)) = true := decide_eq_true (by omega)
                  have tc2 : decide (200 < CN) = true := decide_eq_true (by omega)
                  rw [HE6] at HFC
                  clear HE6 HE5 h200
                  go_wp2_with fail
                  refine HFC.out.mono ?_
                  rintro e z1 ⟨rfl, hb⟩
                  have HW := Lib.hid hb
                  have HCN := Lib.hid (cnt_any (some ⟨bx, i * 2, none⟩) (cx - i) [FF] z1 W5.heap.size hb.size (HCUT.out.below hb) (by have := HCF.out; omega))
                  rw [show [FF].length = 1 from rfl, HCF.out] at HCN
                  clear hb HFC s0 s1
                  go_wp2_with fail
                  refine HCN.out.mono ?_
                  rintro e z2 ⟨rfl, hb⟩
                  have HB := Lib.hid (through HB5.out (Nat.le_refl _) (through HW.out (Nat.le_refl _) hb))
                  clear hb HCN HW
                  go_wp2_with fail
                  refine (works_any z2).mono ?_
                  rintro e w9 ⟨rfl, hb⟩
                  have HB := Lib.hid (through HB.out (Nat.le_refl _) hb)
                  clear hb
                  go_wp2_with fail
                  go_returns
                  exact ⟨rfl, HE.out _ HB.out⟩
      · have tf : (chkF l fs != 0) = true := by simpa using hfc
        clear hfc
        go_wp2_with fail
        refine HFC.out.mono ?_
        rintro e w3 ⟨rfl, hb3⟩
        have HB := Lib.hid (through HB.out (Nat.le_refl _) hb3)
        clear hb3 HFC s0 s1
        go_wp2_with fail
        refine (works_any w3).mono ?_
        rintro e w4 ⟨rfl, hb⟩
        have HB := Lib.hid (through HB.out (Nat.le_refl _) hb)
        clear hb
        go_wp2_with fail
        go_returns
        exact ⟨rfl, HE.out _ HB.out⟩
    · have ht : (chkE g l != 0) = true := by simpa using hc
      clear hc
      go_wp2_with fail
      refine HCK.out.mono ?_
      rintro e w2 ⟨rfl, hb2⟩
      have HB := Lib.hid (through HB.out (Nat.le_refl _) hb2)
      clear hb2 HCK s0 s1
      go_wp2_with fail
      refine (works_any w2).mono ?_
      rintro e w3 ⟨rfl, hb⟩
      have HB := Lib.hid (through HB.out (Nat.le_refl _) hb)
      clear hb
      go_wp2_with fail
      go_returns
      exact ⟨rfl, HE.out _ HB.out⟩
end Go.Proofs.Ytaodbjgcidkpkaa.Fd
