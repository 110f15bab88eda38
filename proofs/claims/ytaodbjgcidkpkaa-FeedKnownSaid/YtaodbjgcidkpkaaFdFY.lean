/- The chapter's examples, as many records as may be and one more, wrong Ops, are as the document says. -/
import Derived.Test.YtaodbjgcidkpkaaFdTY
import Derived.Test.YtaodbjgcidkpkaaFdTuY
import Derived.Test.YtaodbjgcidkpkaaFdApY
import Derived.Test.YtaodbjgcidkpkaaFdGY

namespace Go.Proofs.Ytaodbjgcidkpkaa.Fd
open Go.ChangeShapes Go.WideShapes Go.ChangeAt Go.RowKit M Sp

section
variable {Y : World} {g q n : Nat} {A : Option Addr} {c : Nat} {fs : List Fp}
abbrev Yes (Y : World) (e : Ending) (w' : World) : Prop := e = .returned (.bool true) ∧ Below Y.heap.size Y w'
theorem tells_one (ho : IsOps Y Y.heap.size (some ⟨g, 0, none⟩) oneF (twoP q)) (hf : IsFeeds Y Y.heap.size A c fs) : Calls Try.prog 6 #[.agg #[.int .i64 4, .slice (some ⟨g, 0, none⟩) 2 2], .slice A fs.length c] Y (Yes Y) :=
  feedTells_any 4 (some ⟨g, 0, none⟩) A 2 c oneF (twoP q) fs Y (by decide) ho hf
theorem tells_two (ho : IsOps Y Y.heap.size (some ⟨g, 0, none⟩) dblF (dblP n)) (hf : IsFeeds Y Y.heap.size A c fs) : Calls Try.prog 6 #[.agg #[.int .i64 4, .slice (some ⟨g, 0, none⟩) 4 4], .slice A fs.length c] Y (Yes Y) :=
  feedTells_any 4 (some ⟨g, 0, none⟩) A 4 c dblF (dblP n) fs Y (by decide) ho hf
theorem turns_two (ho : IsOps Y Y.heap.size (some ⟨g, 0, none⟩) dblF (dblP n)) (hf : IsFeeds Y Y.heap.size A c fs) : Calls Try.prog 8 #[.agg #[.int .i64 4, .slice (some ⟨g, 0, none⟩) 4 4], .slice A fs.length c] Y (Yes Y) :=
  feedTurns_any 4 (some ⟨g, 0, none⟩) A 4 c dblF (dblP n) fs Y (by decide) ho hf
theorem apart_two {a b : Int} (ha : In64 a) (hb : In64 b) (ho : IsOps Y Y.heap.size (some ⟨g, 0, none⟩) dblF (dblP n)) (hf : IsFeeds Y Y.heap.size A c fs) : Calls Try.prog 7 #[.agg #[.int .i64 4, .slice (some ⟨g, 0, none⟩) 4 4], .slice A fs.length c, .int .i64 a, .int .i64 b] Y (Yes Y) :=
  feedApart_any 4 a b ha hb (some ⟨g, 0, none⟩) A 4 c dblF (dblP n) fs Y (by decide) ho hf
theorem apart_one {a b : Int} (ha : In64 a) (hb : In64 b) (ho : IsOps Y Y.heap.size (some ⟨g, 0, none⟩) oneF (twoP q)) (hf : IsFeeds Y Y.heap.size A c fs) : Calls Try.prog 7 #[.agg #[.int .i64 4, .slice (some ⟨g, 0, none⟩) 2 2], .slice A fs.length c, .int .i64 a, .int .i64 b] Y (Yes Y) :=
  feedApart_any 4 a b ha hb (some ⟨g, 0, none⟩) A 2 c oneF (twoP q) fs Y (by decide) ho hf
end

set_option maxRecDepth 100000 in
set_option maxHeartbeats 8000000 in
theorem feedKnown_any (w : World) : Calls Try.prog 10 #[] w fun e w' => e = .returned (.bool true) ∧ Below w.heap.size w w' := by
  go_enter Try.func10, Try.ntmps10
  go_wp2_with fail
  go_loopw [1, 2] (fun v u wr => ∃ k : Nat, k ≤ 200 ∧ u = .int .i64 k ∧ OwnR wr w.heap.size v ((List.range k).map mkR) ∧ Below w.heap.size w wr) (fun _ u _ => 200 - (Go.RowKit.intOf u).toNat)
  case atStart => exact ⟨0, by omega, rfl, OwnP.nil _ _ _, Below.refl _ _⟩
  case round =>
    obtain ⟨k, hk, rfl, hown, hbl⟩ := hrel
    have HB := Lib.hid hbl
    have HOW := Lib.hid hown
    clear hown hbl
    by_cases hlt : k < 200
    · have hrem : (k : Int).tmod 7 = ((k % 7 : Nat) : Int) := by rw [Int.tmod_eq_emod_of_nonneg (by omega)]; omega
      have hw7 : IntKind.i64.wrap ((k % 7 : Nat) : Int) = ((k % 7 : Nat) : Int) := by rw [IntKind.wrap_i64]; omega
      have HT := Lib.hid (show (List.range (k + 1)).map mkR = (List.range k).map mkR ++ [(((k % 7 : Nat) : Int), (k : Int))] by rw [List.range_succ, List.map_append]; rfl)
      have HL := Lib.hid (show ((List.range k).map mkR).length < 1000000000 by simp; omega)
      have HU := Lib.hid (show In2 (((k % 7 : Nat) : Int), (k : Int)) from ⟨by unfold In64; simp only; omega, by unfold In64; simp only; omega⟩)
      have HZ := Lib.hid HB.out.size
      generalize (List.range k).map mkR = K0 at *
      generalize ((k % 7 : Nat) : Int) = z7 at *
      have hk2 : (k : Int) < 200 := by omega
      go_wp2_with (at_builtin; refine app_pair (u := (z7, (k : Int))) isPT rfl _ _ rfl w.heap.size HOW.out rfl HU.out rfl HL.out HZ.out ?_)
      intro v' w2 hown2 hgr
      have HO2 := Lib.hid hown2
      have HB2 := Lib.hid (HB.out.trans hgr)
      clear hown2 hgr
      go_wp2
      go_roundw
      case rel => exact ⟨k + 1, by omega, by go_num, by rw [HT.out]; exact HO2.out, HB2.out⟩
      case measure => simp [Go.RowKit.intOf]; omega
    · obtain rfl : k = 200 := by omega
      rw [show ((200 : Nat) : Int) = 200 from rfl]
      obtain ⟨A0, c0, hv⟩ := HOW.out.form
      subst hv
      have HMR := Lib.hid (show IsRecs wr wr.heap.size A0 c0 manyR from ⟨HOW.out.pairs, by rw [manyR_len]; unfold LB; omega⟩)
      have hML : ((List.range 200).map mkR).length = 200 := manyR_len
      rw [hML]
      clear HOW hML
      obtain ⟨n0, hn0⟩ : ∃ z, wr.heap.size = z := ⟨_, rfl⟩
      rw [hn0] at HMR
      obtain ⟨W0, hW0⟩ : ∃ W, W = wr := ⟨_, rfl⟩
      subst hW0
      go_upto_region 7 with (fail)
      obtain ⟨W1, hW⟩ : ∃ W, ((W0.alloc (.cells #[.slice A0 200 c0, .slice none 0 0] 49)).alloc (.cells #[.int .i64 0, .slice (some ⟨n0, 0, none⟩) 2 2] 47)) = W := ⟨_, rfl⟩
      have HM := Lib.hid (mem6 hn0 hW HMR.out (Nat.le_refl _))
      (try rw [hn0])
      rw [hW]
      clear hW
      have HF0 := Lib.hid (HM.out.2.2.more (Nat.le_of_eq HM.out.2.1.symm))
      have HB := Lib.hid (through HB.out (Nat.le_refl _) (hn0 ▸ HM.out.1))
      have HMR := Lib.hid ((HMR.out.below HM.out.1).more (show n0 ≤ W1.heap.size by rw [HM.out.2.1]; omega))
      obtain ⟨n1, hn1⟩ : ∃ z, W1.heap.size = z := ⟨_, rfl⟩
      have Hn1e := Lib.hid (show n1 = n0 + 2 by rw [← hn1]; exact HM.out.2.1)
      clear HM
      go_upto_region 8 with (fail)
      obtain ⟨W2, hW⟩ : ∃ W, (((W1.alloc (.cells #[.int .i64 99, .int .i64 0] 57)).alloc (.cells #[.slice A0 200 c0, .slice (some ⟨n1, 0, none⟩) 1 1] 49)).alloc (.cells #[.int .i64 0, .slice (some ⟨n1 + 1, 0, none⟩) 2 2] 47)) = W := ⟨_, rfl⟩
      have HM := Lib.hid (mem7 hn1 hW (hn1 ▸ HMR.out) (Nat.le_refl _))
      (try rw [hn1])
      rw [hW]
      clear hW
      have HF1 := Lib.hid (HM.out.2.2.more (Nat.le_of_eq HM.out.2.1.symm))
      have HB12 := Lib.hid (show Below W1.heap.size W1 W2 from hn1.symm ▸ HM.out.1)
      have HF0 := Lib.hid ((HF0.out.below HB12.out).more HB12.out.size)
      have HB := Lib.hid (through HB.out (Nat.le_refl _) HB12.out)
      clear HB12 HMR
      obtain ⟨n2, hn2⟩ : ∃ z, W2.heap.size = z := ⟨_, rfl⟩
      have Hn2e := Lib.hid (show n2 = n1 + 3 by rw [← hn2]; exact HM.out.2.1)
      clear HM
      go_upto_region 9 with (fail)
      obtain ⟨W3, hW⟩ : ∃ W, ((((W2.alloc (.cells #[.int .i64 0, .int .i64 1] 3)).alloc (.cells #[.int .i64 2] 3)).alloc (.cells #[.int .i64 1, .slice none 0 0, .int .i64 0, .int .i64 0, .int .i64 0, .int .i64 1, .int .i64 1, .int .i64 1, .int .i64 1, .slice none 0 0, .int .i64 0, .int .i64 0, .int .i64 0, .int .i64 1, .int .i64 1, .int .i64 1, .int .i64 7, .slice (some ⟨n2, 0, none⟩) 2 2, .int .i64 0, .int .i64 0, .int .i64 0, .int .i64 0, .int .i64 0, .int .i64 1, .int .i64 8, .slice (some ⟨n2 + 1, 0, none⟩) 1 1, .int .i64 0, .int .i64 0, .int .i64 0, .int .i64 0, .int .i64 0, .int .i64 1] 40)).alloc (.cells #[.int .i64 4, .slice (some ⟨n2 + 1 + 1, 0, none⟩) 4 4] 24)) = W := ⟨_, rfl⟩
      have HM := Lib.hid (mem8 hn2 hW)
      (try rw [hn2])
      rw [hW]
      clear hW
      have HO2 := Lib.hid HM.out.2.2.1
      have HSP := Lib.hid HM.out.2.2.2
      have HB12 := Lib.hid (show Below W2.heap.size W2 W3 from hn2.symm ▸ HM.out.1)
      have HF0 := Lib.hid ((HF0.out.below HB12.out).more HB12.out.size)
      have HF1 := Lib.hid ((HF1.out.below HB12.out).more HB12.out.size)
      have HB := Lib.hid (through HB.out (Nat.le_refl _) HB12.out)
      clear HB12
      obtain ⟨n3, hn3⟩ : ∃ z, W3.heap.size = z := ⟨_, rfl⟩
      have Hn3e := Lib.hid (show n3 = n2 + 4 by rw [← hn3]; exact HM.out.2.1)
      clear HM
      go_upto_region 10 with (fail)
      obtain ⟨W4, hW⟩ : ∃ W, ((W3.alloc (.cells #[.int .i64 1, .int .i64 0] 57)).alloc (.cells #[.slice (some ⟨n3, 0, none⟩) 1 1] 49)) = W := ⟨_, rfl⟩
      have HM := Lib.hid (mem9 hn3 hW)
      (try rw [hn3])
      rw [hW]
      clear hW
      have HP := Lib.hid (HM.out.2.2.more (Nat.le_of_eq HM.out.2.1.symm))
      have HB12 := Lib.hid (show Below W3.heap.size W3 W4 from hn3.symm ▸ HM.out.1)
      have HF0 := Lib.hid ((HF0.out.below HB12.out).more HB12.out.size)
      have HF1 := Lib.hid ((HF1.out.below HB12.out).more HB12.out.size)
      have HO2 := Lib.hid ((HO2.out.below HB12.out).more HB12.out.size)
      have HSP := Lib.hid (HSP.out.below HB12.out HSP.out.lt)
      have HB := Lib.hid (through HB.out (Nat.le_refl _) HB12.out)
      clear HB12
      obtain ⟨n4, hn4⟩ : ∃ z, W4.heap.size = z := ⟨_, rfl⟩
      have Hn4e := Lib.hid (show n4 = n3 + 2 by rw [← hn4]; exact HM.out.2.1)
      clear HM
      go_upto_region 11 with (fail)
      obtain ⟨W5, hW⟩ : ∃ W, ((W4.alloc (.cells #[.int .i64 2, .int .i64 0, .int .i64 (-9223372036854775808), .int .i64 0] 57)).alloc (.cells #[.slice (some ⟨n4, 0, none⟩) 2 2] 49)) = W := ⟨_, rfl⟩
      have HM := Lib.hid (mem10 hn4 hW)
      (try rw [hn4])
      rw [hW]
      clear hW
      have HQ := Lib.hid (HM.out.2.2.more (Nat.le_of_eq HM.out.2.1.symm))
      have HB12 := Lib.hid (show Below W4.heap.size W4 W5 from hn4.symm ▸ HM.out.1)
      have HF0 := Lib.hid ((HF0.out.below HB12.out).more HB12.out.size)
      have HF1 := Lib.hid ((HF1.out.below HB12.out).more HB12.out.size)
      have HP := Lib.hid ((HP.out.below HB12.out).more HB12.out.size)
      have HO2 := Lib.hid ((HO2.out.below HB12.out).more HB12.out.size)
      have HSP := Lib.hid (HSP.out.below HB12.out HSP.out.lt)
      have HB := Lib.hid (through HB.out (Nat.le_refl _) HB12.out)
      clear HB12
      obtain ⟨n5, hn5⟩ : ∃ z, W5.heap.size = z := ⟨_, rfl⟩
      have Hn5e := Lib.hid (show n5 = n4 + 2 by rw [← hn5]; exact HM.out.2.1)
      clear HM
      go_upto_region 12 with (fail)
      obtain ⟨W6, hW⟩ : ∃ W, ((((((((W5.alloc (.cells #[.int .i64 0, .slice (some ⟨n3 + 1, 0, none⟩) 1 1, .int .i64 1, .slice (some ⟨n4 + 1, 0, none⟩) 1 1] 47)).alloc (.cells #[.int .i64 1, .slice (some ⟨n3 + 1, 0, none⟩) 1 1, .int .i64 0, .slice (some ⟨n4 + 1, 0, none⟩) 1 1] 47)).alloc (.cells #[.int .i64 0, .slice (some ⟨n3 + 1, 0, none⟩) 1 1, .int .i64 1, .slice (some ⟨n3 + 1, 0, none⟩) 1 1] 47)).alloc (.cells #[.int .i64 0, .slice (some ⟨n3 + 1, 0, none⟩) 1 1] 47)).alloc (.cells #[.int .i64 0, .slice (some ⟨n3 + 1, 0, none⟩) 1 1, .int .i64 0, .slice (some ⟨n4 + 1, 0, none⟩) 1 1] 47)).alloc (.cells #[.int .i64 (-1), .slice none 0 0, .int .i64 99, .slice none 0 0] 47)).alloc (.cells #[.int .i64 0, .slice none 0 0, .int .i64 1, .slice none 0 0] 47)).alloc (.cells #[.slice (some ⟨n0 + 1, 0, none⟩) 1 1, .slice (some ⟨n1 + 1 + 1, 0, none⟩) 1 1, .slice (some ⟨n5, 0, none⟩) 2 2, .slice (some ⟨n5 + 1, 0, none⟩) 2 2, .slice (some ⟨n5 + 1 + 1, 0, none⟩) 2 2, .slice (some ⟨n5 + 1 + 1 + 1, 0, none⟩) 1 1, .slice (some ⟨n5 + 1 + 1 + 1 + 1, 0, none⟩) 2 2, .slice (some ⟨n5 + 1 + 1 + 1 + 1 + 1, 0, none⟩) 2 2, .slice (some ⟨n5 + 1 + 1 + 1 + 1 + 1 + 1, 0, none⟩) 2 2] 42)) = W := ⟨_, rfl⟩
      have HM := Lib.hid (mem11 (bp := n3 + 1) (bq := n4 + 1) (f0 := n0 + 1) (f1 := n1 + 1 + 1) hn5 hW (hn5 ▸ HP.out) (hn5 ▸ HQ.out) (hn5 ▸ HF0.out) (hn5 ▸ HF1.out))
      (try rw [hn5])
      rw [hW]
      clear hW
      have HALL := Lib.hid HM.out.2.2
      have HB12 := Lib.hid (show Below W5.heap.size W5 W6 from hn5.symm ▸ HM.out.1)
      have HF0 := Lib.hid ((HF0.out.below HB12.out).more HB12.out.size)
      have HF1 := Lib.hid ((HF1.out.below HB12.out).more HB12.out.size)
      have HO2 := Lib.hid ((HO2.out.below HB12.out).more HB12.out.size)
      have HSP := Lib.hid (HSP.out.below HB12.out HSP.out.lt)
      have HB := Lib.hid (through HB.out (Nat.le_refl _) HB12.out)
      clear HB12 HP HQ
      obtain ⟨n6, hn6⟩ : ∃ z, W6.heap.size = z := ⟨_, rfl⟩
      have Hn6e := Lib.hid (show n6 = n5 + 8 by rw [← hn6]; exact HM.out.2.1)
      clear HM
      obtain ⟨bl, hbl⟩ : ∃ z, n5 + 1 + 1 + 1 + 1 + 1 + 1 + 1 = z := ⟨_, rfl⟩
      obtain ⟨bsp, hbsp⟩ : ∃ z, n2 + 1 + 1 + 1 = z := ⟨_, rfl⟩
      obtain ⟨bop, hbop⟩ : ∃ z, n2 + 1 + 1 = z := ⟨_, rfl⟩
      obtain ⟨bf0, hbf0⟩ : ∃ z, n0 + 1 = z := ⟨_, rfl⟩
      obtain ⟨bf1, hbf1⟩ : ∃ z, n1 + 1 + 1 = z := ⟨_, rfl⟩
      rw [hbl] at HALL ⊢
      rw [hbsp] at HSP ⊢
      rw [hbop] at HSP HO2
      rw [hbf0] at HF0 ⊢
      rw [hbf1] at HF1 ⊢
      clear hbl hbsp hbop hbf0 hbf1 Hn1e Hn2e Hn3e Hn4e Hn5e Hn6e hn0 hn1 hn2 hn3 hn4 hn5 hn6
      go_wp2_with fail
      go_loopw [9] (fun u wr => ∃ i : Nat, i ≤ 9 ∧ u = .int .i64 i ∧ Below W6.heap.size W6 wr) (fun u _ => 9 - (Go.RowKit.intOf u).toNat)
      case atStart => exact ⟨0, by omega, rfl, Below.refl _ _⟩
      case round =>
        obtain ⟨i, hi, rfl, hblw⟩ := hrel
        have HW := Lib.hid hblw
        clear hblw
        by_cases hlt : i < 9
        · obtain ⟨Ai, ci, fs, hci, hfi⟩ := HALL.out i hlt
          have HFI := Lib.hid hfi
          have hbl6 : bl < W6.heap.size := World.block_lt_of_cell? W6 _ hci
          obtain ⟨s0, s1⟩ := spec_blk HSP.out
          have hbs6 : bsp < W6.heap.size := HSP.out.lt
          have hi9 : (i : Int) < 9 := by omega
          have hw3 : IntKind.i64.wrap (3 * (i : Int)) = 3 * (i : Int) := by rw [IntKind.wrap_i64]; omega
          have h64i : In64 (i : Int) := by unfold In64; omega
          have h643 : In64 (3 * (i : Int)) := by unfold In64; omega
          have HST := Lib.hid (show ∀ Z, Below W6.heap.size W6 Z → Z.cell? ⟨bl, i, none⟩ = some (.slice Ai fs.length ci) ∧ Z.cell? ⟨bsp, 0, none⟩ = some (.int .i64 4) ∧ Z.cell? ⟨bsp, 1, none⟩ = some (.slice (some ⟨bop, 0, none⟩) 4 4) from fun Z hZ => ⟨(hZ.cell (p := ⟨bl, i, none⟩) hbl6).trans hci, (hZ.cell (p := ⟨bsp, 0, none⟩) hbs6).trans s0, (hZ.cell (p := ⟨bsp, 1, none⟩) hbs6).trans s1⟩)
          clear hci hfi s0 s1
          go_upto_region 15 with (fail)
          refine wp_region_held_drew (S := (fun (Z : World) => Z.cell? ⟨bl, i, none⟩ = some (.slice Ai fs.length ci) ∧ Z.cell? ⟨bsp, 0, none⟩ = some (.int .i64 4) ∧ Z.cell? ⟨bsp, 1, none⟩ = some (.slice (some ⟨bop, 0, none⟩) 4 4))) (by kernel_rfl) (HST.out _ HW.out.drew) (fun hHeld => ?_)
          have HW := Lib.hid HW.out.drew
          obtain ⟨z0, hz0⟩ : ∃ Z, wr.drew = Z := ⟨_, rfl⟩
          rw [hz0] at HW hHeld ⊢
          clear hz0
          (refine held_take 1 (by kernel_rfl) (by kernel_rfl) (by kernel_rfl) (by assumption) ?_; simp only [List.getElem?_toArray, List.getElem?_cons_succ, List.getElem?_cons_zero]; refine ⟨fun _ _ _ _ h => h, ?_, Or.inl ⟨by kernel_rfl, ?_⟩, ?_⟩; rotate_left; (focus (intro wS hSw; (try dsimp only at hSw); go_simp; try with_reducible rfl)); (try simp only [Act.put, List.setIfInBounds_toArray, List.set_cons_zero, List.set_cons_succ]))
          (refine held_take 2 (by kernel_rfl) (by kernel_rfl) (by kernel_rfl) (by assumption) ?_; simp only [List.getElem?_toArray, List.getElem?_cons_succ, List.getElem?_cons_zero]; refine ⟨fun _ _ _ _ h => h, ?_, Or.inl ⟨by kernel_rfl, ?_⟩, ?_⟩; rotate_left; (focus (intro wS hSw; (try dsimp only at hSw); go_simp; try with_reducible rfl)); (try simp only [Act.put, List.setIfInBounds_toArray, List.set_cons_zero, List.set_cons_succ]))
          (refine held_take 3 (by kernel_rfl) (by kernel_rfl) (by kernel_rfl) (by assumption) ?_; simp only [List.getElem?_toArray, List.getElem?_cons_succ, List.getElem?_cons_zero]; refine ⟨fun _ _ _ _ h => h, ?_, Or.inl ⟨by kernel_rfl, ?_⟩, ?_⟩; rotate_left; (focus (intro wS hSw; (try dsimp only at hSw); go_simp; try with_reducible rfl)); (try simp only [Act.put, List.setIfInBounds_toArray, List.set_cons_zero, List.set_cons_succ]))
          (refine held_take 4 (by kernel_rfl) (by kernel_rfl) (by kernel_rfl) (by assumption) ?_; simp only [List.getElem?_toArray, List.getElem?_cons_succ, List.getElem?_cons_zero]; refine ⟨fun _ _ _ _ h => h, ?_, Or.inl ⟨by kernel_rfl, ?_⟩, ?_⟩; rotate_left; (focus (intro wS hSw; (try dsimp only at hSw); go_simp; try with_reducible rfl)); (try simp only [Act.put, List.setIfInBounds_toArray, List.set_cons_zero, List.set_cons_succ]))
          have HC := Lib.hid (one_any z0)
          (refine held_one 0 (by kernel_rfl) ?_; simp only [List.getElem?_toArray, List.getElem?_cons_zero]; intro K hK; go_simp)
          clear hHeld
          refine HC.out.mono ?_
          rintro e z1 ⟨g1, qg1, rfl, hio, hb⟩
          have HOg := Lib.hid hio
          clear hio
          (go_wp2_with fail; refine hK.out _ _ ?_ (fun hHeld => ?_); (focus (exact HST.out _ (through HW.out (Nat.le_refl _) hb))); clear hK K; (try simp only [Act.put, List.setIfInBounds_toArray, List.set_cons_zero, List.set_cons_succ]))
          have HW := Lib.hid (through HW.out (Nat.le_refl _) hb)
          clear hb HC
          have HC := Lib.hid (tells_one HOg.out ((HFI.out.below HW.out).more HW.out.size))
          (refine held_one 5 (by kernel_rfl) ?_; simp only [List.getElem?_toArray, List.getElem?_cons_succ, List.getElem?_cons_zero]; intro K hK; go_simp)
          clear hHeld
          refine HC.out.mono ?_
          rintro e z2 ⟨rfl, hb⟩
          (go_wp2_with fail; refine hK.out _ _ ?_ (fun hHeld => ?_); (focus (exact HST.out _ (through HW.out (Nat.le_refl _) hb))); clear hK K; (try simp only [Act.put, List.setIfInBounds_toArray, List.set_cons_zero, List.set_cons_succ]))
          have HW := Lib.hid (through HW.out (Nat.le_refl _) hb)
          clear hb HC
          clear HOg
          (refine held_take 6 (by kernel_rfl) (by kernel_rfl) (by kernel_rfl) (by assumption) ?_; simp only [List.getElem?_toArray, List.getElem?_cons_succ, List.getElem?_cons_zero]; refine ⟨fun _ _ _ _ h => h, ?_, Or.inl ⟨by kernel_rfl, ?_⟩, ?_⟩; rotate_left; (focus (intro wS hSw; (try dsimp only at hSw); go_simp; try with_reducible rfl)); (try simp only [Act.put, List.setIfInBounds_toArray, List.set_cons_zero, List.set_cons_succ]))
          (refine held_take 7 (by kernel_rfl) (by kernel_rfl) (by kernel_rfl) (by assumption) ?_; simp only [List.getElem?_toArray, List.getElem?_cons_succ, List.getElem?_cons_zero]; refine ⟨fun _ _ _ _ h => h, ?_, Or.inl ⟨by kernel_rfl, ?_⟩, ?_⟩; rotate_left; (focus (intro wS hSw; (try dsimp only at hSw); go_simp; try with_reducible rfl)); (try simp only [Act.put, List.setIfInBounds_toArray, List.set_cons_zero, List.set_cons_succ]))
          (refine held_take 8 (by kernel_rfl) (by kernel_rfl) (by kernel_rfl) (by assumption) ?_; simp only [List.getElem?_toArray, List.getElem?_cons_succ, List.getElem?_cons_zero]; refine ⟨fun _ _ _ _ h => h, ?_, Or.inl ⟨by kernel_rfl, ?_⟩, ?_⟩; rotate_left; (focus (intro wS hSw; (try dsimp only at hSw); go_simp; try with_reducible rfl)); (try simp only [Act.put, List.setIfInBounds_toArray, List.set_cons_zero, List.set_cons_succ]))
          (refine held_take 9 (by kernel_rfl) (by kernel_rfl) (by kernel_rfl) (by assumption) ?_; simp only [List.getElem?_toArray, List.getElem?_cons_succ, List.getElem?_cons_zero]; refine ⟨fun _ _ _ _ h => h, ?_, Or.inl ⟨by kernel_rfl, ?_⟩, ?_⟩; rotate_left; (focus (intro wS hSw; (try dsimp only at hSw); go_simp; try with_reducible rfl)); (try simp only [Act.put, List.setIfInBounds_toArray, List.set_cons_zero, List.set_cons_succ]))
          (refine held_take 10 (by kernel_rfl) (by kernel_rfl) (by kernel_rfl) (by assumption) ?_; simp only [List.getElem?_toArray, List.getElem?_cons_succ, List.getElem?_cons_zero]; refine ⟨fun _ _ _ _ h => h, ?_, Or.inl ⟨by kernel_rfl, ?_⟩, ?_⟩; rotate_left; (focus (intro wS hSw; (try dsimp only at hSw); go_simp; try with_reducible rfl)); (try simp only [Act.put, List.setIfInBounds_toArray, List.set_cons_zero, List.set_cons_succ]))
          (refine held_take 11 (by kernel_rfl) (by kernel_rfl) (by kernel_rfl) (by assumption) ?_; simp only [List.getElem?_toArray, List.getElem?_cons_succ, List.getElem?_cons_zero]; refine ⟨fun _ _ _ _ h => h, ?_, Or.inl ⟨by kernel_rfl, ?_⟩, ?_⟩; rotate_left; (focus (intro wS hSw; (try dsimp only at hSw); go_simp; try with_reducible rfl)); (try simp only [Act.put, List.setIfInBounds_toArray, List.set_cons_zero, List.set_cons_succ]))
          (refine held_take 12 (by kernel_rfl) (by kernel_rfl) (by kernel_rfl) (by assumption) ?_; simp only [List.getElem?_toArray, List.getElem?_cons_succ, List.getElem?_cons_zero]; refine ⟨fun _ _ _ _ h => h, ?_, Or.inl ⟨by kernel_rfl, ?_⟩, ?_⟩; rotate_left; (focus (intro wS hSw; (try dsimp only at hSw); go_simp; try with_reducible rfl)); (try simp only [Act.put, List.setIfInBounds_toArray, List.set_cons_zero, List.set_cons_succ]))
          have HC := Lib.hid (tells_two ((HO2.out.below HW.out).more HW.out.size) ((HFI.out.below HW.out).more HW.out.size))
          (refine held_one 13 (by kernel_rfl) ?_; simp only [List.getElem?_toArray, List.getElem?_cons_succ, List.getElem?_cons_zero]; intro K hK; go_simp)
          clear hHeld
          refine HC.out.mono ?_
          rintro e z3 ⟨rfl, hb⟩
          (go_wp2_with fail; refine hK.out _ _ ?_ (fun hHeld => ?_); (focus (exact HST.out _ (through HW.out (Nat.le_refl _) hb))); clear hK K; (try simp only [Act.put, List.setIfInBounds_toArray, List.set_cons_zero, List.set_cons_succ]))
          have HW := Lib.hid (through HW.out (Nat.le_refl _) hb)
          clear hb HC
          (refine held_take 14 (by kernel_rfl) (by kernel_rfl) (by kernel_rfl) (by assumption) ?_; simp only [List.getElem?_toArray, List.getElem?_cons_succ, List.getElem?_cons_zero]; refine ⟨fun _ _ _ _ h => h, ?_, Or.inl ⟨by kernel_rfl, ?_⟩, ?_⟩; rotate_left; (focus (intro wS hSw; (try dsimp only at hSw); go_simp; try with_reducible rfl)); (try simp only [Act.put, List.setIfInBounds_toArray, List.set_cons_zero, List.set_cons_succ]))
          (refine held_take 15 (by kernel_rfl) (by kernel_rfl) (by kernel_rfl) (by assumption) ?_; simp only [List.getElem?_toArray, List.getElem?_cons_succ, List.getElem?_cons_zero]; refine ⟨fun _ _ _ _ h => h, ?_, Or.inl ⟨by kernel_rfl, ?_⟩, ?_⟩; rotate_left; (focus (intro wS hSw; (try dsimp only at hSw); go_simp; try with_reducible rfl)); (try simp only [Act.put, List.setIfInBounds_toArray, List.set_cons_zero, List.set_cons_succ]))
          (refine held_take 16 (by kernel_rfl) (by kernel_rfl) (by kernel_rfl) (by assumption) ?_; simp only [List.getElem?_toArray, List.getElem?_cons_succ, List.getElem?_cons_zero]; refine ⟨fun _ _ _ _ h => h, ?_, Or.inl ⟨by kernel_rfl, ?_⟩, ?_⟩; rotate_left; (focus (intro wS hSw; (try dsimp only at hSw); go_simp; try with_reducible rfl)); (try simp only [Act.put, List.setIfInBounds_toArray, List.set_cons_zero, List.set_cons_succ]))
          (refine held_take 17 (by kernel_rfl) (by kernel_rfl) (by kernel_rfl) (by assumption) ?_; simp only [List.getElem?_toArray, List.getElem?_cons_succ, List.getElem?_cons_zero]; refine ⟨fun _ _ _ _ h => h, ?_, Or.inl ⟨by kernel_rfl, ?_⟩, ?_⟩; rotate_left; (focus (intro wS hSw; (try dsimp only at hSw); go_simp; try with_reducible rfl)); (try simp only [Act.put, List.setIfInBounds_toArray, List.set_cons_zero, List.set_cons_succ]))
          (refine held_take 18 (by kernel_rfl) (by kernel_rfl) (by kernel_rfl) (by assumption) ?_; simp only [List.getElem?_toArray, List.getElem?_cons_succ, List.getElem?_cons_zero]; refine ⟨fun _ _ _ _ h => h, ?_, Or.inl ⟨by kernel_rfl, ?_⟩, ?_⟩; rotate_left; (focus (intro wS hSw; (try dsimp only at hSw); go_simp; try with_reducible rfl)); (try simp only [Act.put, List.setIfInBounds_toArray, List.set_cons_zero, List.set_cons_succ]))
          (refine held_take 19 (by kernel_rfl) (by kernel_rfl) (by kernel_rfl) (by assumption) ?_; simp only [List.getElem?_toArray, List.getElem?_cons_succ, List.getElem?_cons_zero]; refine ⟨fun _ _ _ _ h => h, ?_, Or.inl ⟨by kernel_rfl, ?_⟩, ?_⟩; rotate_left; (focus (intro wS hSw; (try dsimp only at hSw); go_simp; try with_reducible rfl)); (try simp only [Act.put, List.setIfInBounds_toArray, List.set_cons_zero, List.set_cons_succ]))
          (refine held_take 20 (by kernel_rfl) (by kernel_rfl) (by kernel_rfl) (by assumption) ?_; simp only [List.getElem?_toArray, List.getElem?_cons_succ, List.getElem?_cons_zero]; refine ⟨fun _ _ _ _ h => h, ?_, Or.inl ⟨by kernel_rfl, ?_⟩, ?_⟩; rotate_left; (focus (intro wS hSw; (try dsimp only at hSw); go_simp; try with_reducible rfl)); (try simp only [Act.put, List.setIfInBounds_toArray, List.set_cons_zero, List.set_cons_succ]))
          (refine held_take 21 (by kernel_rfl) (by kernel_rfl) (by kernel_rfl) (by assumption) ?_; simp only [List.getElem?_toArray, List.getElem?_cons_succ, List.getElem?_cons_zero]; refine ⟨fun _ _ _ _ h => h, ?_, Or.inl ⟨by kernel_rfl, ?_⟩, ?_⟩; rotate_left; (focus (intro wS hSw; (try dsimp only at hSw); go_simp; try with_reducible rfl)); (try simp only [Act.put, List.setIfInBounds_toArray, List.set_cons_zero, List.set_cons_succ]))
          (refine held_take 22 (by kernel_rfl) (by kernel_rfl) (by kernel_rfl) (by assumption) ?_; simp only [List.getElem?_toArray, List.getElem?_cons_succ, List.getElem?_cons_zero]; refine ⟨fun _ _ _ _ h => h, ?_, Or.inl ⟨by kernel_rfl, ?_⟩, ?_⟩; rotate_left; (focus (intro wS hSw; (try dsimp only at hSw); go_simp; try with_reducible rfl)); (try simp only [Act.put, List.setIfInBounds_toArray, List.set_cons_zero, List.set_cons_succ]))
          (refine held_take 23 (by kernel_rfl) (by kernel_rfl) (by kernel_rfl) (by assumption) ?_; simp only [List.getElem?_toArray, List.getElem?_cons_succ, List.getElem?_cons_zero]; refine ⟨fun _ _ _ _ h => h, ?_, Or.inl ⟨by kernel_rfl, ?_⟩, ?_⟩; rotate_left; (focus (intro wS hSw; (try dsimp only at hSw); go_simp; try with_reducible rfl)); (try simp only [Act.put, List.setIfInBounds_toArray, List.set_cons_zero, List.set_cons_succ]))
          (refine held_take 24 (by kernel_rfl) (by kernel_rfl) (by kernel_rfl) (by assumption) ?_; simp only [List.getElem?_toArray, List.getElem?_cons_succ, List.getElem?_cons_zero]; refine ⟨fun _ _ _ _ h => h, ?_, Or.inl ⟨by kernel_rfl, ?_⟩, ?_⟩; rotate_left; (focus (intro wS hSw; (try dsimp only at hSw); go_simp; try with_reducible rfl)); (try simp only [Act.put, List.setIfInBounds_toArray, List.set_cons_zero, List.set_cons_succ]))
          have HC := Lib.hid (apart_two h64i h643 ((HO2.out.below HW.out).more HW.out.size) ((HFI.out.below HW.out).more HW.out.size))
          (refine held_one 25 (by kernel_rfl) ?_; simp only [List.getElem?_toArray, List.getElem?_cons_succ, List.getElem?_cons_zero]; intro K hK; go_simp)
          clear hHeld
          refine HC.out.mono ?_
          rintro e z4 ⟨rfl, hb⟩
          (go_wp2_with fail; refine hK.out _ _ ?_ (fun hHeld => ?_); (focus (exact HST.out _ (through HW.out (Nat.le_refl _) hb))); clear hK K; (try simp only [Act.put, List.setIfInBounds_toArray, List.set_cons_zero, List.set_cons_succ]))
          have HW := Lib.hid (through HW.out (Nat.le_refl _) hb)
          clear hb HC
          (refine held_take 26 (by kernel_rfl) (by kernel_rfl) (by kernel_rfl) (by assumption) ?_; simp only [List.getElem?_toArray, List.getElem?_cons_succ, List.getElem?_cons_zero]; refine ⟨fun _ _ _ _ h => h, ?_, Or.inl ⟨by kernel_rfl, ?_⟩, ?_⟩; rotate_left; (focus (intro wS hSw; (try dsimp only at hSw); go_simp; try with_reducible rfl)); (try simp only [Act.put, List.setIfInBounds_toArray, List.set_cons_zero, List.set_cons_succ]))
          (refine held_take 27 (by kernel_rfl) (by kernel_rfl) (by kernel_rfl) (by assumption) ?_; simp only [List.getElem?_toArray, List.getElem?_cons_succ, List.getElem?_cons_zero]; refine ⟨fun _ _ _ _ h => h, ?_, Or.inl ⟨by kernel_rfl, ?_⟩, ?_⟩; rotate_left; (focus (intro wS hSw; (try dsimp only at hSw); go_simp; try with_reducible rfl)); (try simp only [Act.put, List.setIfInBounds_toArray, List.set_cons_zero, List.set_cons_succ]))
          (refine held_take 28 (by kernel_rfl) (by kernel_rfl) (by kernel_rfl) (by assumption) ?_; simp only [List.getElem?_toArray, List.getElem?_cons_succ, List.getElem?_cons_zero]; refine ⟨fun _ _ _ _ h => h, ?_, Or.inl ⟨by kernel_rfl, ?_⟩, ?_⟩; rotate_left; (focus (intro wS hSw; (try dsimp only at hSw); go_simp; try with_reducible rfl)); (try simp only [Act.put, List.setIfInBounds_toArray, List.set_cons_zero, List.set_cons_succ]))
          (refine held_take 30 (by kernel_rfl) (by kernel_rfl) (by kernel_rfl) (by assumption) ?_; simp only [List.getElem?_toArray, List.getElem?_cons_succ, List.getElem?_cons_zero]; refine ⟨fun _ _ _ _ h => h, ?_, Or.inl ⟨by kernel_rfl, ?_⟩, ?_⟩; rotate_left; (focus (intro wS hSw; (try dsimp only at hSw); go_simp; try with_reducible rfl)); (try simp only [Act.put, List.setIfInBounds_toArray, List.set_cons_zero, List.set_cons_succ]))
          (refine held_take 31 (by kernel_rfl) (by kernel_rfl) (by kernel_rfl) (by assumption) ?_; simp only [List.getElem?_toArray, List.getElem?_cons_succ, List.getElem?_cons_zero]; refine ⟨fun _ _ _ _ h => h, ?_, Or.inl ⟨by kernel_rfl, ?_⟩, ?_⟩; rotate_left; (focus (intro wS hSw; (try dsimp only at hSw); go_simp; try with_reducible rfl)); (try simp only [Act.put, List.setIfInBounds_toArray, List.set_cons_zero, List.set_cons_succ]))
          (refine held_take 32 (by kernel_rfl) (by kernel_rfl) (by kernel_rfl) (by assumption) ?_; simp only [List.getElem?_toArray, List.getElem?_cons_succ, List.getElem?_cons_zero]; refine ⟨fun _ _ _ _ h => h, ?_, Or.inl ⟨by kernel_rfl, ?_⟩, ?_⟩; rotate_left; (focus (intro wS hSw; (try dsimp only at hSw); go_simp; try with_reducible rfl)); (try simp only [Act.put, List.setIfInBounds_toArray, List.set_cons_zero, List.set_cons_succ]))
          (refine held_take 33 (by kernel_rfl) (by kernel_rfl) (by kernel_rfl) (by assumption) ?_; simp only [List.getElem?_toArray, List.getElem?_cons_succ, List.getElem?_cons_zero]; refine ⟨fun _ _ _ _ h => h, ?_, Or.inl ⟨by kernel_rfl, ?_⟩, ?_⟩; rotate_left; (focus (intro wS hSw; (try dsimp only at hSw); go_simp; try with_reducible rfl)); (try simp only [Act.put, List.setIfInBounds_toArray, List.set_cons_zero, List.set_cons_succ]))
          (refine held_take 34 (by kernel_rfl) (by kernel_rfl) (by kernel_rfl) (by assumption) ?_; simp only [List.getElem?_toArray, List.getElem?_cons_succ, List.getElem?_cons_zero]; refine ⟨fun _ _ _ _ h => h, ?_, Or.inl ⟨by kernel_rfl, ?_⟩, ?_⟩; rotate_left; (focus (intro wS hSw; (try dsimp only at hSw); go_simp; try with_reducible rfl)); (try simp only [Act.put, List.setIfInBounds_toArray, List.set_cons_zero, List.set_cons_succ]))
          (refine held_take 35 (by kernel_rfl) (by kernel_rfl) (by kernel_rfl) (by assumption) ?_; simp only [List.getElem?_toArray, List.getElem?_cons_succ, List.getElem?_cons_zero]; refine ⟨fun _ _ _ _ h => h, ?_, Or.inl ⟨by kernel_rfl, ?_⟩, ?_⟩; rotate_left; (focus (intro wS hSw; (try dsimp only at hSw); go_simp; try with_reducible rfl)); (try simp only [Act.put, List.setIfInBounds_toArray, List.set_cons_zero, List.set_cons_succ]))
          have HC := Lib.hid (one_any z4)
          (refine held_one 29 (by kernel_rfl) ?_; simp only [List.getElem?_toArray, List.getElem?_cons_succ, List.getElem?_cons_zero]; intro K hK; go_simp)
          clear hHeld
          refine HC.out.mono ?_
          rintro e z5 ⟨g1, qg1, rfl, hio, hb⟩
          have HOg := Lib.hid hio
          clear hio
          (go_wp2_with fail; refine hK.out _ _ ?_ (fun hHeld => ?_); (focus (exact HST.out _ (through HW.out (Nat.le_refl _) hb))); clear hK K; (try simp only [Act.put, List.setIfInBounds_toArray, List.set_cons_zero, List.set_cons_succ]))
          have HW := Lib.hid (through HW.out (Nat.le_refl _) hb)
          clear hb HC
          have HC := Lib.hid (apart_one h64i h64i HOg.out ((HFI.out.below HW.out).more HW.out.size))
          (refine held_one 36 (by kernel_rfl) ?_; simp only [List.getElem?_toArray, List.getElem?_cons_succ, List.getElem?_cons_zero]; intro K hK; go_simp)
          clear hHeld
          refine HC.out.mono ?_
          rintro e z6 ⟨rfl, hb⟩
          (go_wp2_with fail; refine hK.out _ _ ?_ (fun hHeld => ?_); (focus (exact HST.out _ (through HW.out (Nat.le_refl _) hb))); clear hK K; (try simp only [Act.put, List.setIfInBounds_toArray, List.set_cons_zero, List.set_cons_succ]))
          have HW := Lib.hid (through HW.out (Nat.le_refl _) hb)
          clear hb HC
          clear HOg
          (refine held_take 37 (by kernel_rfl) (by kernel_rfl) (by kernel_rfl) (by assumption) ?_; simp only [List.getElem?_toArray, List.getElem?_cons_succ, List.getElem?_cons_zero]; refine ⟨fun _ _ _ _ h => h, ?_, Or.inl ⟨by kernel_rfl, ?_⟩, ?_⟩; rotate_left; (focus (intro wS hSw; (try dsimp only at hSw); go_simp; try with_reducible rfl)); (try simp only [Act.put, List.setIfInBounds_toArray, List.set_cons_zero, List.set_cons_succ]))
          (refine held_take 38 (by kernel_rfl) (by kernel_rfl) (by kernel_rfl) (by assumption) ?_; simp only [List.getElem?_toArray, List.getElem?_cons_succ, List.getElem?_cons_zero]; refine ⟨fun _ _ _ _ h => h, ?_, Or.inl ⟨by kernel_rfl, ?_⟩, ?_⟩; rotate_left; (focus (intro wS hSw; (try dsimp only at hSw); go_simp; try with_reducible rfl)); (try simp only [Act.put, List.setIfInBounds_toArray, List.set_cons_zero, List.set_cons_succ]))
          (refine held_take 39 (by kernel_rfl) (by kernel_rfl) (by kernel_rfl) (by assumption) ?_; simp only [List.getElem?_toArray, List.getElem?_cons_succ, List.getElem?_cons_zero]; refine ⟨fun _ _ _ _ h => h, ?_, Or.inl ⟨by kernel_rfl, ?_⟩, ?_⟩; rotate_left; (focus (intro wS hSw; (try dsimp only at hSw); go_simp; try with_reducible rfl)); (try simp only [Act.put, List.setIfInBounds_toArray, List.set_cons_zero, List.set_cons_succ]))
          (refine held_take 40 (by kernel_rfl) (by kernel_rfl) (by kernel_rfl) (by assumption) ?_; simp only [List.getElem?_toArray, List.getElem?_cons_succ, List.getElem?_cons_zero]; refine ⟨fun _ _ _ _ h => h, ?_, Or.inl ⟨by kernel_rfl, ?_⟩, ?_⟩; rotate_left; (focus (intro wS hSw; (try dsimp only at hSw); go_simp; try with_reducible rfl)); (try simp only [Act.put, List.setIfInBounds_toArray, List.set_cons_zero, List.set_cons_succ]))
          (refine held_take 41 (by kernel_rfl) (by kernel_rfl) (by kernel_rfl) (by assumption) ?_; simp only [List.getElem?_toArray, List.getElem?_cons_succ, List.getElem?_cons_zero]; refine ⟨fun _ _ _ _ h => h, ?_, Or.inl ⟨by kernel_rfl, ?_⟩, ?_⟩; rotate_left; (focus (intro wS hSw; (try dsimp only at hSw); go_simp; try with_reducible rfl)); (try simp only [Act.put, List.setIfInBounds_toArray, List.set_cons_zero, List.set_cons_succ]))
          (refine held_take 42 (by kernel_rfl) (by kernel_rfl) (by kernel_rfl) (by assumption) ?_; simp only [List.getElem?_toArray, List.getElem?_cons_succ, List.getElem?_cons_zero]; refine ⟨fun _ _ _ _ h => h, ?_, Or.inl ⟨by kernel_rfl, ?_⟩, ?_⟩; rotate_left; (focus (intro wS hSw; (try dsimp only at hSw); go_simp; try with_reducible rfl)); (try simp only [Act.put, List.setIfInBounds_toArray, List.set_cons_zero, List.set_cons_succ]))
          (refine held_take 43 (by kernel_rfl) (by kernel_rfl) (by kernel_rfl) (by assumption) ?_; simp only [List.getElem?_toArray, List.getElem?_cons_succ, List.getElem?_cons_zero]; refine ⟨fun _ _ _ _ h => h, ?_, Or.inl ⟨by kernel_rfl, ?_⟩, ?_⟩; rotate_left; (focus (intro wS hSw; (try dsimp only at hSw); go_simp; try with_reducible rfl)); (try simp only [Act.put, List.setIfInBounds_toArray, List.set_cons_zero, List.set_cons_succ]))
          (refine held_take 44 (by kernel_rfl) (by kernel_rfl) (by kernel_rfl) (by assumption) ?_; simp only [List.getElem?_toArray, List.getElem?_cons_succ, List.getElem?_cons_zero]; refine ⟨fun _ _ _ _ h => h, ?_, Or.inl ⟨by kernel_rfl, ?_⟩, ?_⟩; rotate_left; (focus (intro wS hSw; (try dsimp only at hSw); go_simp; try with_reducible rfl)); (try simp only [Act.put, List.setIfInBounds_toArray, List.set_cons_zero, List.set_cons_succ]))
          have HC := Lib.hid (turns_two ((HO2.out.below HW.out).more HW.out.size) ((HFI.out.below HW.out).more HW.out.size))
          (refine held_one 45 (by kernel_rfl) ?_; simp only [List.getElem?_toArray, List.getElem?_cons_succ, List.getElem?_cons_zero]; intro K hK; go_simp)
          clear hHeld
          refine HC.out.mono ?_
          rintro e z7 ⟨rfl, hb⟩
          (go_wp2_with fail; refine hK.out _ _ ?_ (fun hHeld => ?_); (focus (exact HST.out _ (through HW.out (Nat.le_refl _) hb))); clear hK K; (try simp only [Act.put, List.setIfInBounds_toArray, List.set_cons_zero, List.set_cons_succ]))
          have HW := Lib.hid (through HW.out (Nat.le_refl _) hb)
          clear hb HC
          (refine held_take 46 (by kernel_rfl) (by kernel_rfl) (by kernel_rfl) (by assumption) ?_; simp only [List.getElem?_toArray, List.getElem?_cons_succ, List.getElem?_cons_zero]; refine ⟨fun _ _ _ _ h => h, ?_, Or.inl ⟨by kernel_rfl, ?_⟩, ?_⟩; rotate_left; (focus (intro wS hSw; (try dsimp only at hSw); go_simp; try with_reducible rfl)); (try simp only [Act.put, List.setIfInBounds_toArray, List.set_cons_zero, List.set_cons_succ]))
          (refine held_take 47 (by kernel_rfl) (by kernel_rfl) (by kernel_rfl) (by assumption) ?_; simp only [List.getElem?_toArray, List.getElem?_cons_succ, List.getElem?_cons_zero]; refine ⟨fun _ _ _ _ h => h, ?_, Or.inl ⟨by kernel_rfl, ?_⟩, ?_⟩; rotate_left; (focus (intro wS hSw; (try dsimp only at hSw); go_simp; try with_reducible rfl)); (try simp only [Act.put, List.setIfInBounds_toArray, List.set_cons_zero, List.set_cons_succ]))
          (refine held_take 48 (by kernel_rfl) (by kernel_rfl) (by kernel_rfl) (by assumption) ?_; simp only [List.getElem?_toArray, List.getElem?_cons_succ, List.getElem?_cons_zero]; refine ⟨fun _ _ _ _ h => h, ?_, Or.inl ⟨by kernel_rfl, ?_⟩, ?_⟩; rotate_left; (focus (intro wS hSw; (try dsimp only at hSw); go_simp; try with_reducible rfl)); (try simp only [Act.put, List.setIfInBounds_toArray, List.set_cons_zero, List.set_cons_succ]))
          (refine held_take 49 (by kernel_rfl) (by kernel_rfl) (by kernel_rfl) (by assumption) ?_; simp only [List.getElem?_toArray, List.getElem?_cons_succ, List.getElem?_cons_zero]; refine ⟨fun _ _ _ _ h => h, ?_, Or.inl ⟨by kernel_rfl, ?_⟩, ?_⟩; rotate_left; (focus (intro wS hSw; (try dsimp only at hSw); go_simp; try with_reducible rfl)); (try simp only [Act.put, List.setIfInBounds_toArray, List.set_cons_zero, List.set_cons_succ]))
          (refine held_take 50 (by kernel_rfl) (by kernel_rfl) (by kernel_rfl) (by assumption) ?_; simp only [List.getElem?_toArray, List.getElem?_cons_succ, List.getElem?_cons_zero]; refine ⟨fun _ _ _ _ h => h, ?_, Or.inl ⟨by kernel_rfl, ?_⟩, ?_⟩; rotate_left; (focus (intro wS hSw; (try dsimp only at hSw); go_simp; try with_reducible rfl)); (try simp only [Act.put, List.setIfInBounds_toArray, List.set_cons_zero, List.set_cons_succ]))
          (refine held_take 51 (by kernel_rfl) (by kernel_rfl) (by kernel_rfl) (by assumption) ?_; simp only [List.getElem?_toArray, List.getElem?_cons_succ, List.getElem?_cons_zero]; refine ⟨fun _ _ _ _ h => h, ?_, Or.inl ⟨by kernel_rfl, ?_⟩, ?_⟩; rotate_left; (focus (intro wS hSw; (try dsimp only at hSw); go_simp; try with_reducible rfl)); (try simp only [Act.put, List.setIfInBounds_toArray, List.set_cons_zero, List.set_cons_succ]))
          (refine held_take 52 (by kernel_rfl) (by kernel_rfl) (by kernel_rfl) (by assumption) ?_; simp only [List.getElem?_toArray, List.getElem?_cons_succ, List.getElem?_cons_zero]; refine ⟨fun _ _ _ _ h => h, ?_, Or.inl ⟨by kernel_rfl, ?_⟩, ?_⟩; rotate_left; (focus (intro wS hSw; (try dsimp only at hSw); go_simp; try with_reducible rfl)); (try simp only [Act.put, List.setIfInBounds_toArray, List.set_cons_zero, List.set_cons_succ]))
          have HC := Lib.hid (feedKeys_any Ai ci fs z7 ((HFI.out.below HW.out).more HW.out.size))
          (refine held_one 53 (by kernel_rfl) ?_; simp only [List.getElem?_toArray, List.getElem?_cons_succ, List.getElem?_cons_zero]; intro K hK; go_simp)
          clear hHeld
          refine HC.out.mono ?_
          rintro e z8 ⟨rfl, hb⟩
          (go_wp2_with fail; refine hK.out _ _ ?_ (fun hHeld => ?_); (focus (exact HST.out _ (through HW.out (Nat.le_refl _) hb))); clear hK K; (try simp only [Act.put, List.setIfInBounds_toArray, List.set_cons_zero, List.set_cons_succ]))
          have HW := Lib.hid (through HW.out (Nat.le_refl _) hb)
          clear hb HC
          (refine held_take 54 (by kernel_rfl) (by kernel_rfl) (by kernel_rfl) (by assumption) ?_; simp only [List.getElem?_toArray, List.getElem?_cons_succ, List.getElem?_cons_zero]; refine ⟨fun _ _ _ _ h => h, ?_, Or.inl ⟨by kernel_rfl, ?_⟩, ?_⟩; rotate_left; (focus (intro wS hSw; (try dsimp only at hSw); go_simp; try with_reducible rfl)); (try simp only [Act.put, List.setIfInBounds_toArray, List.set_cons_zero, List.set_cons_succ]))
          (refine held_take 55 (by kernel_rfl) (by kernel_rfl) (by kernel_rfl) (by assumption) ?_; simp only [List.getElem?_toArray, List.getElem?_cons_succ, List.getElem?_cons_zero]; refine ⟨fun _ _ _ _ h => h, ?_, Or.inl ⟨by kernel_rfl, ?_⟩, ?_⟩; rotate_left; (focus (intro wS hSw; (try dsimp only at hSw); go_simp; try with_reducible rfl)); (try simp only [Act.put, List.setIfInBounds_toArray, List.set_cons_zero, List.set_cons_succ]))
          (refine wpAnyH_done (by kernel_rfl) ?_ _)
          clear hHeld
          go_wp2_with fail
          go_roundw
          case rel => exact ⟨i + 1, by omega, by go_num, HW.out⟩
          case measure => simp [Go.RowKit.intOf]; omega
        · obtain rfl : i = 9 := by omega
          go_wp2_with fail
          refine (one_any wr).mono ?_
          rintro e z1 ⟨g1, qg1, rfl, hio, hb⟩
          have HW := Lib.hid (through HW.out (Nat.le_refl _) hb)
          have HC := Lib.hid (chk_call hio (A := (some ⟨bf0, 0, none⟩)) (c := 1) (k := 1) ((HF0.out.below HW.out).more HW.out.size) rfl (by decide) (by rw [cnt_full]; omega) chk_full)
          clear hio hb
          go_wp2_with fail
          refine HC.out.mono ?_
          rintro e z2 ⟨rfl, hb⟩
          have HW := Lib.hid (through HW.out (Nat.le_refl _) hb)
          clear hb HC
          go_wp2_with fail
          refine (one_any z2).mono ?_
          rintro e z3 ⟨g2, qg2, rfl, hio, hb⟩
          have HW := Lib.hid (through HW.out (Nat.le_refl _) hb)
          have HC := Lib.hid (chk_call hio (A := (some ⟨bf1, 0, none⟩)) (c := 1) (k := 1) ((HF1.out.below HW.out).more HW.out.size) rfl (by decide) (by rw [cnt_more]; omega) chk_more)
          clear hio hb
          go_wp2_with fail
          refine HC.out.mono ?_
          rintro e z4 ⟨rfl, hb⟩
          have HW := Lib.hid (through HW.out (Nat.le_refl _) hb)
          clear hb HC
          go_wp2_with fail
          refine (works_any z4).mono ?_
          rintro e z5 ⟨rfl, hb⟩
          have HB := Lib.hid (through HB.out (Nat.le_refl _) (through HW.out (Nat.le_refl _) hb))
          clear hb
          go_wp2_with fail
          go_returns
          exact ⟨rfl, HB.out⟩
end Go.Proofs.Ytaodbjgcidkpkaa.Fd
