/- feed.Check: what is wrong with feeds. -/
import Derived.Test.YtaodbjgcidkpkaaFdCY
import Derived.Test.YtaodbjgcidkpkaaFd1Y
import Derived.Test.YtaodbjgcidkpkaaFd2Y
import Derived.Test.YtaodbjgcidkpkaaFdMpY
import Derived.Test.YtaodbjgcidkpkaaFdNY
import Derived.Test.YtaodbjgcidkpkaaZg
import Derived.Test.YtaodbjgcidkpkaaZa
import Derived.WalkKit
import Derived.Handy
import Derived.Lib.Hide

namespace Go.Proofs.Ytaodbjgcidkpkaa.Fd
open Go.ChangeShapes Go.WideShapes Go.ChangeAt Go.RowKit Go.Maps M Sp

theorem cntF_one (f : Fp) : cntF [f] = cntL f.parts := by simp [cntF]
theorem manyB_iff {l : List OpP} {f : Fp} {n : Nat} (h : f.op = (n : Int)) : manyB l f = (decide ((f.parts.length : Int) = (opOf l n).parts) && decide (cntL f.parts ≤ 200)) := by
  unfold manyB
  rw [h]; rfl

set_option maxRecDepth 100000 in
set_option maxHeartbeats 8000000 in
theorem fcheck_any (g : Int) (A Af : Option Addr) (c cf : Nat) (l : List OpP) (p : Nat → Option Addr × Nat) (fs : List Fp) (w : World) (B : Nat) (hB : B ≤ w.heap.size) (h : IsOps w B A l p) (hl : l.length ≤ 1000000) (hf : IsFeeds w B Af cf fs) (hn : fs.length ≤ 1000) (hm : cntF fs ≤ 1000000) :
    Calls Try.prog 38 #[.agg #[.int .i64 g, .slice A l.length c], .slice Af fs.length cf] w fun e w' => e = .returned (.int .i64 (chkF l fs)) ∧ Below w.heap.size w w' := by
  have HM := Lib.hid hm
  have hmm := @run_makeMap Try.prog
  obtain ⟨X, hX⟩ : ∃ X, w.alloc (.cells #[.int .i64 g, .slice A l.length c] 24) = X := ⟨_, rfl⟩
  have hbX : Below w.heap.size w X := hX ▸ (Below.refl _ w).alloc (Nat.le_refl _) _
  have hsX : w.heap.size + 1 = X.heap.size := by rw [← hX]; simp
  have KS := Lib.hid (show Blk X w.heap.size 24 #[.int .i64 g, .slice A l.length c] by rw [← hX]; exact Blk.new _ _ _)
  have HO := Lib.hid (show IsOps X B A l p by rw [← hX]; exact h.alloc hB _)
  have HF := Lib.hid (hf.below (hbX.mono hB))
  have HE := Lib.hid (show ∀ w', Below X.heap.size X w' → Below w.heap.size w w' from fun w' hb => through hbX (Nat.le_refl _) (hb.mono (by omega)))
  have hbX0 : B ≤ X.heap.size := by omega
  clear h hf hbX
  go_enter Try.func38, Try.ntmps38
  go_upto_region 1 with (fail)
  (try rw [hX])
  have hsz : w.heap.size < X.heap.size := by omega
  clear hX hsX
  go_wp2_with fail
  go_loopw [5, 21] (fun v u wr => ∃ k : Nat, k ≤ fs.length ∧ u = .int .i64 k ∧ OwnI wr X.heap.size v ((fs.take k).map (·.op)) ∧ Below X.heap.size X wr) (fun _ u _ => fs.length - (intOf u).toNat)
  case atStart => exact ⟨0, by omega, rfl, OwnI.nil _ _, Below.refl _ _⟩
  case round =>
    obtain ⟨k, hk, rfl, hown, hbl⟩ := hrel
    have HB := Lib.hid hbl
    have HOW := Lib.hid hown
    clear hown hbl
    by_cases hlt : k < fs.length
    · obtain ⟨b, o, f, A', c', rfl, hb, HV, hop, c0, c1, hli⟩ := feeds_at HF.out hlt
      have e0 := (HB.out.cell (p := ⟨b, o + k * 2, none⟩) (by show b < _; omega)).trans c0
      have e1 := (HB.out.cell (p := ⟨b, o + k * 2 + 1, none⟩) (by show b < _; omega)).trans c1
      have HT := Lib.hid (show (fs.take (k + 1)).map (·.op) = (fs.take k).map (·.op) ++ [f.op] by rw [take_snocG hlt HV.out]; simp)
      have HL := Lib.hid (show ((fs.take k).map (·.op)).length < 1000000000 by rw [List.length_map, List.length_take]; omega)
      have HU := Lib.hid hop
      generalize (fs.take k).map (·.op) = K0 at *
      obtain ⟨Y, hY⟩ : ∃ Y, wr.alloc (.cells #[.int .i64 f.op, .slice A' f.parts.length c'] 47) = Y := ⟨_, rfl⟩
      have HBX := Lib.hid (show Below X.heap.size X Y from hY ▸ HB.out.alloc HB.out.size _)
      have HOX := Lib.hid (show OwnI Y X.heap.size u5 K0 from hY ▸ HOW.out.alloc _)
      obtain ⟨g9, hg⟩ : ∃ x, wr.heap.size = x := ⟨_, rfl⟩
      have KB := Lib.hid (show Blk Y g9 47 #[.int .i64 f.op, .slice A' f.parts.length c'] from hY ▸ hg ▸ Blk.new _ _ _)
      clear c0 c1 hli hop
      go_upto_region 5 with (fail)
      (try rw [hY])
      (try rw [hg])
      clear e0 e1 hY hg HOW HB
      have b0 := KB.out.cell 0
      go_wp2_with (at_builtin; refine app_new rfl _ _ rfl X.heap.size HOX.out rfl HU.out rfl HL.out HBX.out.size ?_)
      intro v' w3 hown2 hbl2
      have HO2 := Lib.hid hown2
      have HB2 := Lib.hid (HBX.out.trans hbl2)
      clear hown2 hbl2 b0 HBX HOX KB
      go_wp2_with fail
      go_roundw
      case rel => exact ⟨k + 1, by omega, by go_num, by rw [HT.out]; exact HO2.out, HB2.out⟩
      case measure => simp [intOf]; omega
    · obtain rfl : k = fs.length := by omega
      rw [List.take_length] at HOW
      obtain ⟨A1, c1, hv⟩ := HOW.out.form
      subst hv
      have HS := Lib.hid (sources_any g A c l p wr B (Nat.le_trans hbX0 HB.out.size) (HO.out.below (HB.out.mono hbX0)) hl)
      have ks0 := (KS.out.below HB.out hsz).cell 0
      have ks1 := (KS.out.below HB.out hsz).cell 1
      go_wp2_with fail
      refine HS.out.mono ?_
      rintro e w2 ⟨A2, c2, rfl, hown, hb2⟩
      have HEQ := Lib.hid (equal_any A1 A2 c1 c2 _ _ _ _ w2 (HOW.out.below hb2).ints hown.ints)
      have HB2 := Lib.hid (HB.out.trans (hb2.mono HB.out.size))
      rw [List.length_map] at HEQ
      clear HB HOW HS hown hb2 ks0 ks1
      go_wp2_with fail
      refine HEQ.out.mono ?_
      rintro e w3 ⟨rfl, hb3⟩
      have HB := Lib.hid (HB2.out.trans (hb3.mono HB2.out.size))
      clear HB2 hb3 HEQ
      by_cases heq : fs.map (·.op) = kindF l 1
      · rw [decide_eq_true heq]
        have HEQ := Lib.hid heq
        clear heq
        go_wp2_with fail
        go_loopw [38] (fun u wr => ∃ k : Nat, k ≤ fs.length ∧ u = .int .i64 k ∧ (∀ j, j < k → manyB l (fs.getD j default) = true) ∧ Below X.heap.size X wr) (fun u _ => fs.length - (intOf u).toNat)
        case atStart => exact ⟨0, by omega, rfl, fun j hj => absurd hj (by omega), HB.out⟩
        case round =>
          clear HB
          obtain ⟨k, hk, rfl, hall, hbl⟩ := hrel
          have HB := Lib.hid hbl
          have HALL := Lib.hid hall
          clear hall hbl
          by_cases hlt : k < fs.length
          · obtain ⟨b, o, f, A', c', rfl, hb, HV, hop, c0, c1, hli⟩ := feeds_at HF.out hlt
            obtain ⟨n, hfn, hnl, -⟩ := kind_mem.1 (show f.op ∈ kindF l 1 by rw [← HEQ.out]; exact List.mem_map.2 ⟨f, HV.out ▸ feeds_mem hlt, rfl⟩)
            obtain ⟨b2, o2, rfl, hb2, -, -, -, -, -, d5, -⟩ := HO.out.at_ hnl
            have e0 := (HB.out.cell (p := ⟨b, o + k * 2, none⟩) (by show b < _; omega)).trans c0
            have e1 := (HB.out.cell (p := ⟨b, o + k * 2 + 1, none⟩) (by show b < _; omega)).trans c1
            have hll := hli.len
            unfold LB at hll
            have HMB := Lib.hid (manyB_iff (l := l) hfn)
            have HCF := Lib.hid (Nat.le_trans (cntF_mem (fs := fs) (f := f) (HV.out ▸ feeds_mem hlt)) HM.out)
            obtain ⟨Y, hY⟩ : ∃ Y, wr.alloc (.cells #[.int .i64 f.op, .slice A' f.parts.length c'] 47) = Y := ⟨_, rfl⟩
            have HBX := Lib.hid (show Below X.heap.size X Y from hY ▸ HB.out.alloc HB.out.size _)
            obtain ⟨g9, hg⟩ : ∃ x, wr.heap.size = x := ⟨_, rfl⟩
            have KB := Lib.hid (show Blk Y g9 47 #[.int .i64 f.op, .slice A' f.parts.length c'] from hY ▸ hg ▸ Blk.new _ _ _)
            have HLI := Lib.hid (hli.below (HBX.out.mono hbX0))
            have k0 : Y.cell? ⟨g9, 0, none⟩ = some (.int .i64 f.op) := KB.out.cell 0
            have k1 : Y.cell? ⟨g9, 1, none⟩ = some (.slice A' f.parts.length c') := KB.out.cell 1
            have s1 : Y.cell? ⟨w.heap.size, 1, none⟩ = some (.slice (some ⟨b2, o2, none⟩) l.length c) := (KS.out.below HBX.out hsz).cell 1
            have d := (HBX.out.cell (p := ⟨b2, o2 + n * 8 + 5, none⟩) (by show b2 < _; omega)).trans d5
            have HOP := Lib.hid hop
            have HNL := Lib.hid hnl
            have hg9 : g9 < Y.heap.size := KB.out.lt
            have hb2Y : b2 < Y.heap.size := by have := HBX.out.size; omega
            have hsY : w.heap.size < Y.heap.size := by have := HBX.out.size; omega
            have HFN := Lib.hid hfn
            clear c0 c1 hli d5 hop hfn
            go_upto_region 12 with (fail)
            (try rw [hY])
            (try rw [hg])
            clear e0 e1 hY hg HB
            rw [HFN.out] at k0
            generalize (opOf l n).parts = P at *
            have HST : Hid (∀ Z, Below Y.heap.size Y Z → (fun Z => Z.cell? ⟨g9, 0, none⟩ = some (.int .i64 (n : Int)) ∧ Z.cell? ⟨g9, 1, none⟩ = some (.slice A' f.parts.length c') ∧ Z.cell? ⟨w.heap.size, 1, none⟩ = some (.slice (some ⟨b2, o2, none⟩) l.length c) ∧ Z.cell? ⟨b2, o2 + n * 8 + 5, none⟩ = some (.int .i64 P)) Z) := fun Z hZ => by
              have h0 : ∀ {g o : Nat} {v : Value}, g < Y.heap.size → Y.cell? ⟨g, o, none⟩ = some v → Z.cell? ⟨g, o, none⟩ = some v := fun hg hv => (hZ.cell hg).trans hv
              exact ⟨h0 hg9 k0, h0 hg9 k1, h0 hsY s1, h0 hb2Y d⟩
            have hn0 : (n : Int) < (l.length : Int) := by omega
            clear k0 k1 s1 d
            by_cases hp : (f.parts.length : Int) = P
            · refine wp_region_held_drew (S := (fun Z => Z.cell? ⟨g9, 0, none⟩ = some (.int .i64 (n : Int)) ∧ Z.cell? ⟨g9, 1, none⟩ = some (.slice A' f.parts.length c') ∧ Z.cell? ⟨w.heap.size, 1, none⟩ = some (.slice (some ⟨b2, o2, none⟩) l.length c) ∧ Z.cell? ⟨b2, o2 + n * 8 + 5, none⟩ = some (.int .i64 P))) (by kernel_rfl) (HST.out _ (Below.refl _ _).drew) (fun hHeld => ?_)
              have HBD := Lib.hid (show Below Y.heap.size Y Y.drew from (Below.refl _ _).drew)
              obtain ⟨y0, hy0⟩ : ∃ Z, Y.drew = Z := ⟨_, rfl⟩
              rw [hy0] at HBD hHeld ⊢
              clear hy0
              have hz : decide ((f.parts.length : Int) = P) = true := decide_eq_true hp
              (refine held_take 0 (by kernel_rfl) (by kernel_rfl) (by kernel_rfl) (by assumption) ?_; simp only [List.getElem?_toArray, List.getElem?_cons_zero]; refine ⟨fun _ _ _ _ h => h, ?_, Or.inl ⟨by kernel_rfl, ?_⟩, ?_⟩; rotate_left; (focus (intro wS hSw; (try dsimp only at hSw); go_simp; try with_reducible rfl)); (try simp only [Act.put, List.setIfInBounds_toArray, List.set_cons_zero, List.set_cons_succ]))
              (refine held_take 1 (by kernel_rfl) (by kernel_rfl) (by kernel_rfl) (by assumption) ?_; simp only [List.getElem?_toArray, List.getElem?_cons_succ, List.getElem?_cons_zero]; refine ⟨fun _ _ _ _ h => h, ?_, Or.inl ⟨by kernel_rfl, ?_⟩, ?_⟩; rotate_left; (focus (intro wS hSw; (try dsimp only at hSw); go_simp; try with_reducible rfl)); (try simp only [Act.put, List.setIfInBounds_toArray, List.set_cons_zero, List.set_cons_succ]))
              (refine held_take 2 (by kernel_rfl) (by kernel_rfl) (by kernel_rfl) (by assumption) ?_; simp only [List.getElem?_toArray, List.getElem?_cons_succ, List.getElem?_cons_zero]; refine ⟨fun _ _ _ _ h => h, ?_, Or.inl ⟨by kernel_rfl, ?_⟩, ?_⟩; rotate_left; (focus (intro wS hSw; (try dsimp only at hSw); go_simp; try with_reducible rfl)); (try simp only [Act.put, List.setIfInBounds_toArray, List.set_cons_zero, List.set_cons_succ]))
              (refine held_take 3 (by kernel_rfl) (by kernel_rfl) (by kernel_rfl) (by assumption) ?_; simp only [List.getElem?_toArray, List.getElem?_cons_succ, List.getElem?_cons_zero]; refine ⟨fun _ _ _ _ h => h, ?_, Or.inl ⟨by kernel_rfl, ?_⟩, ?_⟩; rotate_left; (focus (intro wS hSw; (try dsimp only at hSw); go_simp; try with_reducible rfl)); (try simp only [Act.put, List.setIfInBounds_toArray, List.set_cons_zero, List.set_cons_succ]))
              (refine held_take 4 (by kernel_rfl) (by kernel_rfl) (by kernel_rfl) (by assumption) ?_; simp only [List.getElem?_toArray, List.getElem?_cons_succ, List.getElem?_cons_zero]; refine ⟨fun _ _ _ _ h => h, ?_, Or.inl ⟨by kernel_rfl, ?_⟩, ?_⟩; rotate_left; (focus (intro wS hSw; (try dsimp only at hSw); go_simp; try with_reducible rfl)); (try simp only [Act.put, List.setIfInBounds_toArray, List.set_cons_zero, List.set_cons_succ]))
              (refine held_take 5 (by kernel_rfl) (by kernel_rfl) (by kernel_rfl) (by assumption) ?_; simp only [List.getElem?_toArray, List.getElem?_cons_succ, List.getElem?_cons_zero]; refine ⟨fun _ _ _ _ h => h, ?_, Or.inl ⟨by kernel_rfl, ?_⟩, ?_⟩; rotate_left; (focus (intro wS hSw; (try dsimp only at hSw); go_simp; try with_reducible rfl)); (try simp only [Act.put, List.setIfInBounds_toArray, List.set_cons_zero, List.set_cons_succ]))
              (refine held_take 6 (by kernel_rfl) (by kernel_rfl) (by kernel_rfl) (by assumption) ?_; simp only [List.getElem?_toArray, List.getElem?_cons_succ, List.getElem?_cons_zero]; refine ⟨fun _ _ _ _ h => h, ?_, Or.inl ⟨by kernel_rfl, ?_⟩, ?_⟩; rotate_left; (focus (intro wS hSw; (try dsimp only at hSw); go_simp; try with_reducible rfl)); (try simp only [Act.put, List.setIfInBounds_toArray, List.set_cons_zero, List.set_cons_succ]))
              (refine held_take 7 (by kernel_rfl) (by kernel_rfl) (by kernel_rfl) (by assumption) ?_; simp only [List.getElem?_toArray, List.getElem?_cons_succ, List.getElem?_cons_zero]; refine ⟨fun _ _ _ _ h => h, ?_, Or.inl ⟨by kernel_rfl, ?_⟩, ?_⟩; rotate_left; (focus (intro wS hSw; (try dsimp only at hSw); go_simp; try with_reducible rfl)); (try simp only [Act.put, List.setIfInBounds_toArray, List.set_cons_zero, List.set_cons_succ]))
              (refine held_take 8 (by kernel_rfl) (by kernel_rfl) (by kernel_rfl) (by assumption) ?_; simp only [List.getElem?_toArray, List.getElem?_cons_succ, List.getElem?_cons_zero]; refine ⟨fun _ _ _ _ h => h, ?_, Or.inl ⟨by kernel_rfl, ?_⟩, ?_⟩; rotate_left; (focus (intro wS hSw; (try dsimp only at hSw); go_simp; try with_reducible rfl)); (try simp only [Act.put, List.setIfInBounds_toArray, List.set_cons_zero, List.set_cons_succ]))
              (refine held_take 9 (by kernel_rfl) (by kernel_rfl) (by kernel_rfl) (by assumption) ?_; simp only [List.getElem?_toArray, List.getElem?_cons_succ, List.getElem?_cons_zero]; refine ⟨fun _ _ _ _ h => h, ?_, Or.inl ⟨by kernel_rfl, ?_⟩, ?_⟩; rotate_left; (focus (intro wS hSw; (try dsimp only at hSw); go_simp; try with_reducible rfl)); (try simp only [Act.put, List.setIfInBounds_toArray, List.set_cons_zero, List.set_cons_succ]))
              (refine held_take 10 (by kernel_rfl) (by kernel_rfl) (by kernel_rfl) (by assumption) ?_; simp only [List.getElem?_toArray, List.getElem?_cons_succ, List.getElem?_cons_zero]; refine ⟨fun _ _ _ _ h => h, ?_, Or.inl ⟨by kernel_rfl, ?_⟩, ?_⟩; rotate_left; (focus (intro wS hSw; (try dsimp only at hSw); go_simp; try with_reducible rfl)); (try simp only [Act.put, List.setIfInBounds_toArray, List.set_cons_zero, List.set_cons_succ]))
              (refine held_take 11 (by kernel_rfl) (by kernel_rfl) (by kernel_rfl) (by assumption) ?_; simp only [List.getElem?_toArray, List.getElem?_cons_succ, List.getElem?_cons_zero]; refine ⟨fun _ _ _ _ h => h, ?_, Or.inl ⟨by kernel_rfl, ?_⟩, ?_⟩; rotate_left; (focus (intro wS hSw; (try dsimp only at hSw); go_simp; try with_reducible rfl)); (try simp only [Act.put, List.setIfInBounds_toArray, List.set_cons_zero, List.set_cons_succ]))
              (refine held_take 12 (by kernel_rfl) (by kernel_rfl) (by kernel_rfl) (by assumption) ?_; simp only [List.getElem?_toArray, List.getElem?_cons_succ, List.getElem?_cons_zero]; refine ⟨fun _ _ _ _ h => h, ?_, Or.inl ⟨by kernel_rfl, ?_⟩, ?_⟩; rotate_left; (focus (intro wS hSw; (try dsimp only at hSw); go_simp; try with_reducible rfl)); (try simp only [Act.put, List.setIfInBounds_toArray, List.set_cons_zero, List.set_cons_succ]))
              (refine held_one 13 (by kernel_rfl) ?_; simp only [List.getElem?_toArray, List.getElem?_cons_succ, List.getElem?_cons_zero]; intro K hK; go_simp)
              clear hHeld
              have hb : Below y0.heap.size y0 (y0.alloc (.cells #[.int .i64 (n : Int), .slice A' f.parts.length c'] 47)) := (Below.refl _ _).alloc (Nat.le_refl _) _
              have KN := Lib.hid (Blk.new y0 47 #[.int .i64 (n : Int), .slice A' f.parts.length c'])
              (go_wp2_with fail; refine hK.out _ _ ?_ (fun hHeld => ?_); (focus (exact HST.out _ (through HBD.out (Nat.le_refl _) hb))); clear hK K; (try simp only [Act.put, List.setIfInBounds_toArray, List.set_cons_zero, List.set_cons_succ]))
              obtain ⟨bA, hbk⟩ : ∃ z, y0.heap.size = z := ⟨_, rfl⟩
              obtain ⟨y1, hY⟩ : ∃ Z, y0.alloc (.cells #[.int .i64 (n : Int), .slice A' f.parts.length c'] 47) = Z := ⟨_, rfl⟩
              rw [hY] at hb KN
              rw [hbk] at KN
              (try rw [hY] at hHeld)
              (try rw [hY])
              (try rw [hbk])
              have HBE := Lib.hid (through HBD.out (Nat.le_refl _) hb)
              have hBA : B ≤ bA := by have h1 := HBD.out.size; have h2 := HBX.out.size; omega
              have HONE := Lib.hid (feeds_one (f := f) (B := B) (show Blk y1 bA 47 #[.int .i64 f.op, .slice A' f.parts.length c'] by rw [HFN.out]; exact KN.out) HOP.out (HLI.out.below (HBE.out.mono (by have h2 := HBX.out.size; omega))) (by omega))
              have HCNT := Lib.hid (cnt_any (some ⟨bA, 0, none⟩) 1 [f] y1 (bA + 1) KN.out.lt HONE.out (by have := HCF.out; rw [cntF_one]; omega))
              rw [cntF_one] at HCNT
              clear hb hY hbk
              (refine held_one 14 (by kernel_rfl) ?_; simp only [List.getElem?_toArray, List.getElem?_cons_succ, List.getElem?_cons_zero]; intro K hK; go_simp)
              clear hHeld
              refine HCNT.out.mono ?_
              rintro e y2 ⟨rfl, hb⟩
              (go_wp2_with fail; refine hK.out _ _ ?_ (fun hHeld => ?_); (focus (exact HST.out _ (through HBE.out (Nat.le_refl _) hb))); clear hK K; (try simp only [Act.put, List.setIfInBounds_toArray, List.set_cons_zero, List.set_cons_succ]))
              have HBF := Lib.hid (through HBX.out (Nat.le_refl _) (through HBE.out (Nat.le_refl _) hb))
              clear hb
              by_cases hq : cntL f.parts ≤ 200
              · have hq1 : (cntL f.parts : Int) ≤ 200 := by omega
                have HY := Lib.hid (show manyB l f = true by rw [HMB.out, hz, decide_eq_true hq]; rfl)
                (refine held_take 15 (by kernel_rfl) (by kernel_rfl) (by kernel_rfl) (by assumption) ?_; simp only [List.getElem?_toArray, List.getElem?_cons_succ, List.getElem?_cons_zero]; refine ⟨fun _ _ _ _ h => h, ?_, Or.inl ⟨by kernel_rfl, ?_⟩, ?_⟩; rotate_left; (focus (intro wS hSw; (try dsimp only at hSw); go_simp; try with_reducible rfl)); (try simp only [Act.put, List.setIfInBounds_toArray, List.set_cons_zero, List.set_cons_succ]))
                (refine held_take 16 (by kernel_rfl) (by kernel_rfl) (by kernel_rfl) (by assumption) ?_; simp only [List.getElem?_toArray, List.getElem?_cons_succ, List.getElem?_cons_zero]; refine ⟨fun _ _ _ _ h => h, ?_, Or.inl ⟨by kernel_rfl, ?_⟩, ?_⟩; rotate_left; (focus (intro wS hSw; (try dsimp only at hSw); go_simp; try with_reducible rfl)); (try simp only [Act.put, List.setIfInBounds_toArray, List.set_cons_zero, List.set_cons_succ]))
                (refine wpAnyH_done (by kernel_rfl) ?_ _)
                clear hHeld
                go_wp2_with fail
                go_roundw
                case rel => exact ⟨k + 1, by omega, by go_num, fun j hj => by
                  rcases (show j < k ∨ j = k by omega) with h1 | rfl
                  · exact HALL.out j h1
                  · rw [HV.out]; exact HY.out, HBF.out⟩
                case measure => simp [intOf]; omega
              · have hq1 : ¬ (cntL f.parts : Int) ≤ 200 := by omega
                have HY := Lib.hid (show manyB l f = false by rw [HMB.out, hz, decide_eq_false hq]; rfl)
                have HI := Lib.hid (chkF_many HEQ.out hlt HV.out HY.out)
                (refine held_take 15 (by kernel_rfl) (by kernel_rfl) (by kernel_rfl) (by assumption) ?_; simp only [List.getElem?_toArray, List.getElem?_cons_succ, List.getElem?_cons_zero]; refine ⟨fun _ _ _ _ h => h, ?_, Or.inl ⟨by kernel_rfl, ?_⟩, ?_⟩; rotate_left; (focus (intro wS hSw; (try dsimp only at hSw); go_simp; try with_reducible rfl)); (try simp only [Act.put, List.setIfInBounds_toArray, List.set_cons_zero, List.set_cons_succ]))
                (refine held_take 16 (by kernel_rfl) (by kernel_rfl) (by kernel_rfl) (by assumption) ?_; simp only [List.getElem?_toArray, List.getElem?_cons_succ, List.getElem?_cons_zero]; refine ⟨fun _ _ _ _ h => h, ?_, Or.inl ⟨by kernel_rfl, ?_⟩, ?_⟩; rotate_left; (focus (intro wS hSw; (try dsimp only at hSw); go_simp; try with_reducible rfl)); (try simp only [Act.put, List.setIfInBounds_toArray, List.set_cons_zero, List.set_cons_succ]))
                (refine wpAnyH_done (by kernel_rfl) ?_ _)
                clear hHeld
                go_wp2_with fail
                go_returns
                exact ⟨Sp.ret_int HI.out.symm, HE.out _ HBF.out⟩
            · refine wp_region_held_drew (S := (fun Z => Z.cell? ⟨g9, 0, none⟩ = some (.int .i64 (n : Int)) ∧ Z.cell? ⟨g9, 1, none⟩ = some (.slice A' f.parts.length c') ∧ Z.cell? ⟨w.heap.size, 1, none⟩ = some (.slice (some ⟨b2, o2, none⟩) l.length c) ∧ Z.cell? ⟨b2, o2 + n * 8 + 5, none⟩ = some (.int .i64 P))) (by kernel_rfl) (HST.out _ (Below.refl _ _).drew) (fun hHeld => ?_)
              have HBD := Lib.hid (show Below Y.heap.size Y Y.drew from (Below.refl _ _).drew)
              obtain ⟨y0, hy0⟩ : ∃ Z, Y.drew = Z := ⟨_, rfl⟩
              rw [hy0] at HBD hHeld ⊢
              clear hy0
              have hz : decide ((f.parts.length : Int) = P) = false := decide_eq_false hp
              have hz2 : ((f.parts.length : Int) != P) = true := by simpa using hp
              have HY := Lib.hid (show manyB l f = false by rw [HMB.out, hz]; rfl)
              have HI := Lib.hid (chkF_many HEQ.out hlt HV.out HY.out)
              (refine held_take 0 (by kernel_rfl) (by kernel_rfl) (by kernel_rfl) (by assumption) ?_; simp only [List.getElem?_toArray, List.getElem?_cons_zero]; refine ⟨fun _ _ _ _ h => h, ?_, Or.inl ⟨by kernel_rfl, ?_⟩, ?_⟩; rotate_left; (focus (intro wS hSw; (try dsimp only at hSw); go_simp; try with_reducible rfl)); (try simp only [Act.put, List.setIfInBounds_toArray, List.set_cons_zero, List.set_cons_succ]))
              (refine held_take 1 (by kernel_rfl) (by kernel_rfl) (by kernel_rfl) (by assumption) ?_; simp only [List.getElem?_toArray, List.getElem?_cons_succ, List.getElem?_cons_zero]; refine ⟨fun _ _ _ _ h => h, ?_, Or.inl ⟨by kernel_rfl, ?_⟩, ?_⟩; rotate_left; (focus (intro wS hSw; (try dsimp only at hSw); go_simp; try with_reducible rfl)); (try simp only [Act.put, List.setIfInBounds_toArray, List.set_cons_zero, List.set_cons_succ]))
              (refine held_take 2 (by kernel_rfl) (by kernel_rfl) (by kernel_rfl) (by assumption) ?_; simp only [List.getElem?_toArray, List.getElem?_cons_succ, List.getElem?_cons_zero]; refine ⟨fun _ _ _ _ h => h, ?_, Or.inl ⟨by kernel_rfl, ?_⟩, ?_⟩; rotate_left; (focus (intro wS hSw; (try dsimp only at hSw); go_simp; try with_reducible rfl)); (try simp only [Act.put, List.setIfInBounds_toArray, List.set_cons_zero, List.set_cons_succ]))
              (refine held_take 3 (by kernel_rfl) (by kernel_rfl) (by kernel_rfl) (by assumption) ?_; simp only [List.getElem?_toArray, List.getElem?_cons_succ, List.getElem?_cons_zero]; refine ⟨fun _ _ _ _ h => h, ?_, Or.inl ⟨by kernel_rfl, ?_⟩, ?_⟩; rotate_left; (focus (intro wS hSw; (try dsimp only at hSw); go_simp; try with_reducible rfl)); (try simp only [Act.put, List.setIfInBounds_toArray, List.set_cons_zero, List.set_cons_succ]))
              (refine held_take 4 (by kernel_rfl) (by kernel_rfl) (by kernel_rfl) (by assumption) ?_; simp only [List.getElem?_toArray, List.getElem?_cons_succ, List.getElem?_cons_zero]; refine ⟨fun _ _ _ _ h => h, ?_, Or.inl ⟨by kernel_rfl, ?_⟩, ?_⟩; rotate_left; (focus (intro wS hSw; (try dsimp only at hSw); go_simp; try with_reducible rfl)); (try simp only [Act.put, List.setIfInBounds_toArray, List.set_cons_zero, List.set_cons_succ]))
              (refine held_take 5 (by kernel_rfl) (by kernel_rfl) (by kernel_rfl) (by assumption) ?_; simp only [List.getElem?_toArray, List.getElem?_cons_succ, List.getElem?_cons_zero]; refine ⟨fun _ _ _ _ h => h, ?_, Or.inl ⟨by kernel_rfl, ?_⟩, ?_⟩; rotate_left; (focus (intro wS hSw; (try dsimp only at hSw); go_simp; try with_reducible rfl)); (try simp only [Act.put, List.setIfInBounds_toArray, List.set_cons_zero, List.set_cons_succ]))
              (refine held_take 6 (by kernel_rfl) (by kernel_rfl) (by kernel_rfl) (by assumption) ?_; simp only [List.getElem?_toArray, List.getElem?_cons_succ, List.getElem?_cons_zero]; refine ⟨fun _ _ _ _ h => h, ?_, Or.inl ⟨by kernel_rfl, ?_⟩, ?_⟩; rotate_left; (focus (intro wS hSw; (try dsimp only at hSw); go_simp; try with_reducible rfl)); (try simp only [Act.put, List.setIfInBounds_toArray, List.set_cons_zero, List.set_cons_succ]))
              (refine held_take 7 (by kernel_rfl) (by kernel_rfl) (by kernel_rfl) (by assumption) ?_; simp only [List.getElem?_toArray, List.getElem?_cons_succ, List.getElem?_cons_zero]; refine ⟨fun _ _ _ _ h => h, ?_, Or.inl ⟨by kernel_rfl, ?_⟩, ?_⟩; rotate_left; (focus (intro wS hSw; (try dsimp only at hSw); go_simp; try with_reducible rfl)); (try simp only [Act.put, List.setIfInBounds_toArray, List.set_cons_zero, List.set_cons_succ]))
              (refine held_take 8 (by kernel_rfl) (by kernel_rfl) (by kernel_rfl) (by assumption) ?_; simp only [List.getElem?_toArray, List.getElem?_cons_succ, List.getElem?_cons_zero]; refine ⟨fun _ _ _ _ h => h, ?_, Or.inl ⟨by kernel_rfl, ?_⟩, ?_⟩; rotate_left; (focus (intro wS hSw; (try dsimp only at hSw); go_simp; try with_reducible rfl)); (try simp only [Act.put, List.setIfInBounds_toArray, List.set_cons_zero, List.set_cons_succ]))
              (refine held_take 9 (by kernel_rfl) (by kernel_rfl) (by kernel_rfl) (by assumption) ?_; simp only [List.getElem?_toArray, List.getElem?_cons_succ, List.getElem?_cons_zero]; refine ⟨fun _ _ _ _ h => h, ?_, Or.inl ⟨by kernel_rfl, ?_⟩, ?_⟩; rotate_left; (focus (intro wS hSw; (try dsimp only at hSw); go_simp; try with_reducible rfl)); (try simp only [Act.put, List.setIfInBounds_toArray, List.set_cons_zero, List.set_cons_succ]))
              (refine held_take 10 (by kernel_rfl) (by kernel_rfl) (by kernel_rfl) (by assumption) ?_; simp only [List.getElem?_toArray, List.getElem?_cons_succ, List.getElem?_cons_zero]; refine ⟨fun _ _ _ _ h => h, ?_, Or.inl ⟨by kernel_rfl, ?_⟩, ?_⟩; rotate_left; (focus (intro wS hSw; (try dsimp only at hSw); go_simp; try with_reducible rfl)); (try simp only [Act.put, List.setIfInBounds_toArray, List.set_cons_zero, List.set_cons_succ]))
              (refine held_take 11 (by kernel_rfl) (by kernel_rfl) (by kernel_rfl) (by assumption) ?_; simp only [List.getElem?_toArray, List.getElem?_cons_succ, List.getElem?_cons_zero]; refine ⟨fun _ _ _ _ h => h, ?_, Or.inl ⟨by kernel_rfl, ?_⟩, ?_⟩; rotate_left; (focus (intro wS hSw; (try dsimp only at hSw); go_simp; try with_reducible rfl)); (try simp only [Act.put, List.setIfInBounds_toArray, List.set_cons_zero, List.set_cons_succ]))
              (refine held_take 12 (by kernel_rfl) (by kernel_rfl) (by kernel_rfl) (by assumption) ?_; simp only [List.getElem?_toArray, List.getElem?_cons_succ, List.getElem?_cons_zero]; refine ⟨fun _ _ _ _ h => h, undef, Or.inr ⟨by kernel_rfl, rfl⟩, ?_⟩; (try simp only [Act.put, List.setIfInBounds_toArray, List.set_cons_zero, List.set_cons_succ]))
              (refine held_take 13 (by kernel_rfl) (by kernel_rfl) (by kernel_rfl) (by assumption) ?_; simp only [List.getElem?_toArray, List.getElem?_cons_succ, List.getElem?_cons_zero]; refine ⟨fun _ _ _ _ h => h, undef, Or.inr ⟨by kernel_rfl, rfl⟩, ?_⟩; (try simp only [Act.put, List.setIfInBounds_toArray, List.set_cons_zero, List.set_cons_succ]))
              (refine held_take 14 (by kernel_rfl) (by kernel_rfl) (by kernel_rfl) (by assumption) ?_; simp only [List.getElem?_toArray, List.getElem?_cons_succ, List.getElem?_cons_zero]; refine ⟨fun _ _ _ _ h => h, undef, Or.inr ⟨by kernel_rfl, rfl⟩, ?_⟩; (try simp only [Act.put, List.setIfInBounds_toArray, List.set_cons_zero, List.set_cons_succ]))
              (refine held_take 15 (by kernel_rfl) (by kernel_rfl) (by kernel_rfl) (by assumption) ?_; simp only [List.getElem?_toArray, List.getElem?_cons_succ, List.getElem?_cons_zero]; refine ⟨fun _ _ _ _ h => h, undef, Or.inr ⟨by kernel_rfl, rfl⟩, ?_⟩; (try simp only [Act.put, List.setIfInBounds_toArray, List.set_cons_zero, List.set_cons_succ]))
              (refine held_take 16 (by kernel_rfl) (by kernel_rfl) (by kernel_rfl) (by assumption) ?_; simp only [List.getElem?_toArray, List.getElem?_cons_succ, List.getElem?_cons_zero]; refine ⟨fun _ _ _ _ h => h, ?_, Or.inl ⟨by kernel_rfl, ?_⟩, ?_⟩; rotate_left; (focus (intro wS hSw; (try dsimp only at hSw); go_simp; try with_reducible rfl)); (try simp only [Act.put, List.setIfInBounds_toArray, List.set_cons_zero, List.set_cons_succ]))
              (refine wpAnyH_done (by kernel_rfl) ?_ _)
              clear hHeld
              go_wp2_with fail
              go_returns
              exact ⟨Sp.ret_int HI.out.symm, HE.out _ (through HBX.out (Nat.le_refl _) HBD.out)⟩
          · obtain rfl : k = fs.length := by omega
            have HALL2 := Lib.hid (chkF_keys HEQ.out HALL.out)
            clear HALL
            have HALL := HALL2
            clear HALL2
            have HBM := Lib.hid (show Below X.heap.size X (wr.alloc (.map #[] 0)) from HB.out.alloc HB.out.size _)
            have HMPM := Lib.hid (MapAt.made wr)
            have hb9 : X.heap.size ≤ wr.heap.size := HB.out.size
            clear HB
            go_wp2_with fail
            generalize wr.heap.size = b9 at *
            go_loopw [63] (fun u wr => ∃ i n : Nat, ∃ F, i ≤ fs.length ∧ u = .int .i64 i ∧ n ≤ cntF (fs.take i) ∧ MapAt wr b9 n F ∧ Met fs i 0 0 F ∧ Below X.heap.size X wr) (fun u _ => fs.length - (intOf u).toNat)
            case atStart => exact ⟨0, 0, _, by omega, rfl, Nat.zero_le _, HMPM.out, Met.nil fs, HBM.out⟩
            case round =>
              clear HBM HMPM
              obtain ⟨i, n, F, hi, rfl, hnc, hmp, hmet, hbl⟩ := hrel
              have HB := Lib.hid hbl
              have HMP := Lib.hid hmp
              have HMET := Lib.hid hmet
              clear hmp hmet hbl
              by_cases hlt : i < fs.length
              · obtain ⟨b, o, f, A', c', rfl, hb, HV, -, c0, c1, hli⟩ := feeds_at HF.out hlt
                have e0 := (HB.out.cell (p := ⟨b, o + i * 2, none⟩) (by show b < _; omega)).trans c0
                have e1 := (HB.out.cell (p := ⟨b, o + i * 2 + 1, none⟩) (by show b < _; omega)).trans c1
                have HLI := Lib.hid hli
                have hll := hli.len
                unfold LB at hll
                have HT := Lib.hid (cntF_take hlt HV.out)
                have HN1 := Lib.hid (show n + cntL f.parts ≤ 1000000 by
                  have h1 := HT.out
                  have h2 := cntF_le fs (i + 1)
                  have h3 := HM.out
                  omega)
                obtain ⟨Y, hY⟩ : ∃ Y, wr.alloc (.cells #[.int .i64 f.op, .slice A' f.parts.length c'] 47) = Y := ⟨_, rfl⟩
                have HBX := Lib.hid (show Below X.heap.size X Y from hY ▸ HB.out.alloc HB.out.size _)
                have HMPX := Lib.hid (show MapAt Y b9 n F from hY ▸ HMP.out.alloc _)
                obtain ⟨g9, hg⟩ : ∃ x, wr.heap.size = x := ⟨_, rfl⟩
                have KB := Lib.hid (show Blk Y g9 47 #[.int .i64 f.op, .slice A' f.parts.length c'] from hY ▸ hg ▸ Blk.new _ _ _)
                clear c0 c1 hli
                go_upto_region 19 with (fail)
                (try rw [hY])
                (try rw [hg])
                clear e0 e1 hY hg HB HMP
                have b1 : Y.cell? ⟨g9, 1, none⟩ = some (.slice A' f.parts.length c') := KB.out.cell 1
                go_wp2_with fail
                go_loopw [71] (fun u wr => ∃ kk n2 : Nat, ∃ F, kk ≤ f.parts.length ∧ u = .int .i64 kk ∧ n2 ≤ n + cntL (f.parts.take kk) ∧ MapAt wr b9 n2 F ∧ Met fs i kk 0 F ∧ Below X.heap.size X wr) (fun u _ => f.parts.length - (intOf u).toNat)
                case atStart => exact ⟨0, n, F, by omega, rfl, by omega, HMPX.out, HMET.out, HBX.out⟩
                case round =>
                  clear HBX HMPX HMET b1
                  obtain ⟨kk, n2, F2, hkk, rfl, hn2, hmp, hmet, hbl⟩ := hrel
                  have HB := Lib.hid hbl
                  have HMP := Lib.hid hmp
                  have HMET := Lib.hid hmet
                  clear hmp hmet hbl
                  by_cases hltj : kk < f.parts.length
                  · obtain ⟨b2, o2, r, A2, c2, rfl, hb2, HV2, d0, hrr⟩ := lists_at HLI.out hltj
                    have e0 := (HB.out.cell (p := ⟨b2, o2 + kk, none⟩) (by show b2 < _; omega)).trans d0
                    have HRR := Lib.hid hrr
                    have hrl := hrr.2
                    unfold LB at hrl
                    have HP := Lib.hid (show partAt fs i kk = r by unfold partAt; rw [HV.out, HV2.out])
                    have HT2 := Lib.hid (cntL_take hltj HV2.out)
                    have HN2 := Lib.hid (show n2 + r.length ≤ 1000000 by
                      have h1 := HT2.out
                      have h2 := cntL_le f.parts (kk + 1)
                      have h3 := HN1.out
                      omega)
                    clear d0 hrr
                    go_wp2_with fail
                    go_loopw [78] (fun u wr => ∃ t n3 : Nat, ∃ F, t ≤ r.length ∧ u = .int .i64 t ∧ n3 ≤ n2 + t ∧ MapAt wr b9 n3 F ∧ Met fs i kk t F ∧ Below X.heap.size X wr) (fun u _ => r.length - (intOf u).toNat)
                    case atStart => exact ⟨0, n2, F2, by omega, rfl, by omega, HMP.out, HMET.out, HB.out⟩
                    case round =>
                      clear HB HMP HMET e0
                      obtain ⟨t, n3, F3, ht, rfl, hn3, hmp, hmet, hbl⟩ := hrel
                      have HB := Lib.hid hbl
                      have HMP := Lib.hid hmp
                      have HMET := Lib.hid hmet
                      clear hmp hmet hbl
                      by_cases hlti : t < r.length
                      · obtain ⟨b3, o3, x, rfl, hb3, HV3, hin, g0, g1⟩ := pairs_at HRR.out.1 hlti
                        have e0 := (HB.out.cell (p := ⟨b3, o3 + t * 2, none⟩) (by show b3 < _; omega)).trans g0
                        have e1 := (HB.out.cell (p := ⟨b3, o3 + t * 2 + 1, none⟩) (by show b3 < _; omega)).trans g1
                        obtain ⟨x, y⟩ := x
                        have HIN := Lib.hid hin.1
                        have HK3 := Lib.hid (show n3 ≤ 1000000 by have := HN2.out; omega)
                        obtain ⟨g16, hg⟩ : ∃ x, wr.heap.size = x := ⟨_, rfl⟩
                        obtain ⟨Y2, hY⟩ : ∃ Y, wr.alloc (.cells #[.int .i64 x, .int .i64 y] 57) = Y := ⟨_, rfl⟩
                        have HMP2 := Lib.hid (show MapAt Y2 b9 n3 F3 from hY ▸ HMP.out.alloc _)
                        have HBY := Lib.hid (show Below X.heap.size X Y2 from hY ▸ HB.out.alloc HB.out.size _)
                        have KR := Lib.hid (show Blk Y2 g16 57 #[.int .i64 x, .int .i64 y] from hY ▸ hg ▸ Blk.new _ _ _)
                        clear g0 g1 hin
                        go_upto_region 25 with (fail)
                        (try rw [hY])
                        (try rw [hg])
                        clear hY hg HMP HB
                        have r1 : Y2.cell? ⟨g16, 0, none⟩ = some (.int .i64 x) := KR.out.cell 0
                        cases hfx : F3 x with
                        | none =>
                          have HFX := Lib.hid hfx
                          clear hfx
                          have HMT := Lib.hid (HMET.out.put (x := (x, y)) HP.out hlti HV3.out (fun p hp => by rw [HFX.out] at hp; cases hp))
                          have HTMP : Hid (∀ q1 q2 : Int, ∃ Y3 g17, Y2.alloc (.cells #[.int .i64 q1, .int .i64 q2] 83) = Y3 ∧ Y2.heap.size = g17 ∧ MapAt Y3 b9 n3 F3 ∧ Below X.heap.size X Y3 ∧ Y3.cell? ⟨g16, 0, none⟩ = some (.int .i64 x)) := fun q1 q2 => ⟨_, _, rfl, rfl, HMP2.out.alloc _, HBY.out.alloc HBY.out.size _, (KR.out.alloc _).cell 0⟩
                          clear e0 e1
                          go_upto_region 26 with (at_lookup; refine look_none rfl _ _ rfl rfl HMP2.out rfl HIN.out HFX.out ?_; intro q1 q2)
                          obtain ⟨Y3, g17, hY, hg, hmp3, hby3, r0⟩ := HTMP.out q1 q2
                          have HMP3 := Lib.hid hmp3
                          have HBY3 := Lib.hid hby3
                          clear hmp3 hby3 r1
                          (try rw [hY])
                          (try rw [hg])
                          clear hY hg HTMP
                          go_wp2_with (at_mapUpdate; refine store_at rfl _ _ _ rfl rfl HMP3.out (by have := HK3.out; unfold maxLen; omega) rfl HIN.out ((i : Int), (kk : Int)) rfl ?_; intro w1 hown1 hgrow1)
                          have HN := Lib.hid hown1
                          have HB1 := Lib.hid (HBY3.out.grown hgrow1 HBY3.out.size (fun j hj => by cases hj; exact hb9))
                          clear hown1 hgrow1 r0 HMP3 HBY3
                          go_wp2_with fail
                          go_roundw
                          case rel => exact ⟨t + 1, n3 + 1, _, by omega, by go_num, by omega, HN.out, HMT.out, HB1.out⟩
                          case measure => simp [intOf]; omega
                        | some q =>
                          have HFX := Lib.hid hfx
                          clear hfx
                          by_cases he : q = ((i : Int), (kk : Int))
                          · subst he
                            have HMT := Lib.hid (HMET.out.put (x := (x, y)) HP.out hlti HV3.out (fun p hp => by rw [HFX.out] at hp; injection hp with hp; exact hp.symm))
                            obtain ⟨g17, hg⟩ : ∃ x, Y2.heap.size = x := ⟨_, rfl⟩
                            obtain ⟨Y3, hY⟩ : ∃ Y, Y2.alloc (.cells #[.int .i64 (i : Int), .int .i64 (kk : Int)] 83) = Y := ⟨_, rfl⟩
                            have HMP3 := Lib.hid (show MapAt Y3 b9 n3 F3 from hY ▸ HMP2.out.alloc _)
                            have HBY3 := Lib.hid (show Below X.heap.size X Y3 from hY ▸ HBY.out.alloc HBY.out.size _)
                            have r0 : Y3.cell? ⟨g16, 0, none⟩ = some (.int .i64 x) := by rw [← hY]; exact (KR.out.alloc _).cell 0
                            have KP : Blk Y3 g17 83 #[.int .i64 (i : Int), .int .i64 (kk : Int)] := hY ▸ hg ▸ Blk.new _ _ _
                            have p0 : Y3.cell? ⟨g17, 0, none⟩ = some (.int .i64 (i : Int)) := KP.cell 0
                            have p1 : Y3.cell? ⟨g17, 1, none⟩ = some (.int .i64 (kk : Int)) := KP.cell 1
                            clear e0 e1 KP
                            go_upto_region 26 with (at_lookup; refine look_some rfl _ _ rfl rfl HMP2.out rfl HIN.out HFX.out ?_)
                            (try rw [hY])
                            (try rw [hg])
                            clear hY hg
                            go_wp2_with (at_mapUpdate; refine store_at rfl _ _ _ rfl rfl HMP3.out (by have := HK3.out; unfold maxLen; omega) rfl HIN.out ((i : Int), (kk : Int)) rfl ?_; intro w1 hown1 hgrow1)
                            have HN := Lib.hid hown1
                            have HB1 := Lib.hid (HBY3.out.grown hgrow1 HBY3.out.size (fun j hj => by cases hj; exact hb9))
                            clear hown1 hgrow1 r0 p0 p1 HMP3 HBY3
                            go_wp2_with fail
                            go_roundw
                            case rel => exact ⟨t + 1, n3 + 1, _, by omega, by go_num, by omega, HN.out, HMT.out, HB1.out⟩
                            case measure => simp [intOf]; omega
                          · have HC := Lib.hid (HMET.out.clash (x := x) (by rw [HP.out]; exact List.mem_map.2 ⟨(x, y), HV3.out ▸ pairs_mem hlti, rfl⟩) HFX.out he)
                            obtain ⟨q1, q2⟩ := q
                            by_cases hq1 : q1 = (i : Int)
                            · have hq2 : ¬ q2 = (kk : Int) := fun h2 => he (by rw [hq1, h2])
                              subst hq1
                              obtain ⟨g17, hg⟩ : ∃ x, Y2.heap.size = x := ⟨_, rfl⟩
                              obtain ⟨Y3, hY⟩ : ∃ Y, Y2.alloc (.cells #[.int .i64 (i : Int), .int .i64 q2] 83) = Y := ⟨_, rfl⟩
                              have HMP3 := Lib.hid (show MapAt Y3 b9 n3 F3 from hY ▸ HMP2.out.alloc _)
                              have HBY3 := Lib.hid (show Below X.heap.size X Y3 from hY ▸ HBY.out.alloc HBY.out.size _)
                              have r0 : Y3.cell? ⟨g16, 0, none⟩ = some (.int .i64 x) := by rw [← hY]; exact (KR.out.alloc _).cell 0
                              have KP : Blk Y3 g17 83 #[.int .i64 (i : Int), .int .i64 q2] := hY ▸ hg ▸ Blk.new _ _ _
                              have p0 : Y3.cell? ⟨g17, 0, none⟩ = some (.int .i64 (i : Int)) := KP.cell 0
                              have p1 : Y3.cell? ⟨g17, 1, none⟩ = some (.int .i64 q2) := KP.cell 1
                              clear e0 e1 KP
                              go_upto_region 26 with (at_lookup; refine look_some rfl _ _ rfl rfl HMP2.out rfl HIN.out HFX.out ?_)
                              (try rw [hY])
                              (try rw [hg])
                              clear hY hg
                              go_wp2_with fail
                              go_returns
                              exact ⟨Sp.ret_int (HALL.out.trans HC.out).symm, HE.out _ HBY3.out⟩
                            · obtain ⟨g17, hg⟩ : ∃ x, Y2.heap.size = x := ⟨_, rfl⟩
                              obtain ⟨Y3, hY⟩ : ∃ Y, Y2.alloc (.cells #[.int .i64 q1, .int .i64 q2] 83) = Y := ⟨_, rfl⟩
                              have HMP3 := Lib.hid (show MapAt Y3 b9 n3 F3 from hY ▸ HMP2.out.alloc _)
                              have HBY3 := Lib.hid (show Below X.heap.size X Y3 from hY ▸ HBY.out.alloc HBY.out.size _)
                              have r0 : Y3.cell? ⟨g16, 0, none⟩ = some (.int .i64 x) := by rw [← hY]; exact (KR.out.alloc _).cell 0
                              have KP : Blk Y3 g17 83 #[.int .i64 q1, .int .i64 q2] := hY ▸ hg ▸ Blk.new _ _ _
                              have p0 : Y3.cell? ⟨g17, 0, none⟩ = some (.int .i64 q1) := KP.cell 0
                              have p1 : Y3.cell? ⟨g17, 1, none⟩ = some (.int .i64 q2) := KP.cell 1
                              clear e0 e1 KP
                              go_upto_region 26 with (at_lookup; refine look_some rfl _ _ rfl rfl HMP2.out rfl HIN.out HFX.out ?_)
                              (try rw [hY])
                              (try rw [hg])
                              clear hY hg
                              go_wp2_with fail
                              go_returns
                              exact ⟨Sp.ret_int (HALL.out.trans HC.out).symm, HE.out _ HBY3.out⟩
                      · obtain rfl : t = r.length := by omega
                        have HMT := Lib.hid (HMET.out.part (by rw [HP.out]))
                        go_wp2_with fail
                        go_roundw
                        case rel => exact ⟨kk + 1, n3, F3, by omega, by go_num, by have := HT2.out; omega, HMP.out, HMT.out, HB.out⟩
                        case measure => simp [intOf]; omega
                  · obtain rfl : kk = f.parts.length := by omega
                    rw [List.take_length] at hn2
                    have HMT := Lib.hid (HMET.out.feed (by rw [HV.out]))
                    go_wp2_with fail
                    go_roundw
                    case rel => exact ⟨i + 1, n2, F2, by omega, by go_num, by have := HT.out; omega, HMP.out, HMT.out, HB.out⟩
                    case measure => simp [intOf]; omega
              · obtain rfl : i = fs.length := by omega
                have HEND := Lib.hid (HALL.out.trans (HMET.out.end_ rfl))
                go_wp2_with fail
                go_returns
                exact ⟨Sp.ret_int HEND.out.symm, HE.out _ HB.out⟩
      · rw [decide_eq_false heq]
        have HI := Lib.hid (chkF_input heq)
        go_wp2_with fail
        go_returns
        exact ⟨Sp.ret_int HI.out.symm, HE.out _ HB.out⟩
end Go.Proofs.Ytaodbjgcidkpkaa.Fd
