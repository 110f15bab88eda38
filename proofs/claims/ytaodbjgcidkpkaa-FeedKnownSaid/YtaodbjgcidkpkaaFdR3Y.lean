/- Feeds that are the same are told to be. -/
import Derived.Test.YtaodbjgcidkpkaaFdMY
import Derived.Test.YtaodbjgcidkpkaaZi
import Derived.Test.YtaodbjgcidkpkaaZa
import Derived.BigQuiet
import Derived.WalkKit
import Derived.Handy

namespace Go.Proofs.Ytaodbjgcidkpkaa.Fd
open Go.ChangeShapes Go.WideShapes Go.ChangeAt Go.RowKit M

set_option maxHeartbeats 1000000 in
theorem sameRecs_yes (A D : Option Addr) (c d : Nat) (r : List Rc) (w : World) (B : Nat) (h : IsRecs w B A c r) (k : IsRecs w B D d r) :
    Calls Try.prog 84 #[.slice A r.length c, .slice D r.length d] w fun e w' => e = .returned (.bool true) ∧ Below w.heap.size w w' := by
  have HX := Lib.hid h.1
  have HY := Lib.hid k.1
  have hrl := h.2
  unfold LB at hrl
  clear h k
  go_enter Try.func84, Try.ntmps84
  go_wp2_with fail
  go_loopw [5] (fun u wr => ∃ k : Nat, k ≤ r.length ∧ u = .int .i64 k ∧ Below w.heap.size w wr ∧ IsPairs wr B A c r ∧ IsPairs wr B D d r) (fun u _ => r.length - (intOf u).toNat)
  case atStart => exact ⟨0, by omega, rfl, Below.refl _ _, HX.out, HY.out⟩
  case round =>
    clear HX HY
    obtain ⟨k, hk, rfl, hbl, hx, hy⟩ := hrel
    have HB := Lib.hid hbl
    have HX := Lib.hid hx
    have HY := Lib.hid hy
    clear hbl hx hy
    by_cases hlt : k < r.length
    · obtain ⟨b, o, x, rfl, hb, HV, h64, c0, c1⟩ := pairs_at HX.out hlt
      obtain ⟨b2, o2, x2, rfl, hb2, HV2, h64', d0, d1⟩ := pairs_at HY.out hlt
      obtain rfl : x = x2 := by rw [← HV.out, ← HV2.out]
      have hkn : (k : Int) < (r.length : Int) := by omega
      clear h64 h64'
      go_upto_region 6 with (fail)
      go_quiet (fail)
      go_wp2_with fail
      go_roundw
      case rel => exact ⟨k + 1, by omega, by go_num, below_drewN HB.out _, HX.out, HY.out⟩
      case measure => simp [intOf]; omega
    · obtain rfl : k = r.length := by omega
      go_wp2_with fail
      go_returns
      exact ⟨rfl, HB.out⟩

set_option maxRecDepth 100000 in
set_option maxHeartbeats 2000000 in
theorem sameLists_yes (A D : Option Addr) (c d : Nat) (ls : List (List Rc)) (w : World) (B : Nat) (hB : B ≤ w.heap.size) (h : IsLists w B A c ls) (k : IsLists w B D d ls) :
    Calls Try.prog 71 #[.slice A ls.length c, .slice D ls.length d] w fun e w' => e = .returned (.bool true) ∧ Below w.heap.size w w' := by
  have HX := Lib.hid h
  have HY := Lib.hid k
  have hrl := h.len
  unfold LB at hrl
  clear h k
  go_enter Try.func71, Try.ntmps71
  go_wp2_with fail
  go_loopw [5] (fun u wr => ∃ k : Nat, k ≤ ls.length ∧ u = .int .i64 k ∧ Below w.heap.size w wr) (fun u _ => ls.length - (intOf u).toNat)
  case atStart => exact ⟨0, by omega, rfl, Below.refl _ _⟩
  case round =>
    obtain ⟨k, hk, rfl, hbl⟩ := hrel
    have HB := Lib.hid hbl
    clear hbl
    by_cases hlt : k < ls.length
    · obtain ⟨b, o, r, A1, c1, rfl, hb, HV, c0, hr1⟩ := lists_at HX.out hlt
      obtain ⟨b2, o2, r2, A2, c2, rfl, hb2, HV2, d0, hr2⟩ := lists_at HY.out hlt
      obtain rfl : r = r2 := by rw [← HV.out, ← HV2.out]
      have HR1 := Lib.hid hr1
      have HR2 := Lib.hid hr2
      have hkn : (k : Int) < (ls.length : Int) := by omega
      have hb0 : b < w.heap.size := by omega
      have hb20 : b2 < w.heap.size := by omega
      have HS := Lib.hid (show ∀ Z, Below w.heap.size w Z → Z.cell? ⟨b, o + k, none⟩ = some (.slice A1 r.length c1) ∧ Z.cell? ⟨b2, o2 + k, none⟩ = some (.slice A2 r.length c2) from fun Z hZ => ⟨(hZ.cell (p := ⟨b, o + k, none⟩) hb0).trans c0, (hZ.cell (p := ⟨b2, o2 + k, none⟩) hb20).trans d0⟩)
      clear hr1 hr2 c0 d0
      go_upto_region 6 with (fail)
      refine wp_region_held_drew (S := (fun (Z : World) => Z.cell? ⟨b, o + k, none⟩ = some (.slice A1 r.length c1) ∧ Z.cell? ⟨b2, o2 + k, none⟩ = some (.slice A2 r.length c2))) (by kernel_rfl) (HS.out _ HB.out.drew) (fun hHeld => ?_)
      have HB := Lib.hid HB.out.drew
      obtain ⟨y0, hy0⟩ : ∃ Z, wr.drew = Z := ⟨_, rfl⟩
      rw [hy0] at HB hHeld ⊢
      clear hy0
      (refine held_take 0 (by kernel_rfl) (by kernel_rfl) (by kernel_rfl) (by assumption) ?_; simp only [List.getElem?_toArray, List.getElem?_cons_zero]; refine ⟨fun _ _ _ _ h => h, ?_, Or.inl ⟨by kernel_rfl, ?_⟩, ?_⟩; rotate_left; (focus (intro wS hSw; (try dsimp only at hSw); go_simp; try with_reducible rfl)); (try simp only [Act.put, List.setIfInBounds_toArray, List.set_cons_zero, List.set_cons_succ]))
      (refine held_take 1 (by kernel_rfl) (by kernel_rfl) (by kernel_rfl) (by assumption) ?_; simp only [List.getElem?_toArray, List.getElem?_cons_succ, List.getElem?_cons_zero]; refine ⟨fun _ _ _ _ h => h, ?_, Or.inl ⟨by kernel_rfl, ?_⟩, ?_⟩; rotate_left; (focus (intro wS hSw; (try dsimp only at hSw); go_simp; try with_reducible rfl)); (try simp only [Act.put, List.setIfInBounds_toArray, List.set_cons_zero, List.set_cons_succ]))
      (refine held_take 2 (by kernel_rfl) (by kernel_rfl) (by kernel_rfl) (by assumption) ?_; simp only [List.getElem?_toArray, List.getElem?_cons_succ, List.getElem?_cons_zero]; refine ⟨fun _ _ _ _ h => h, ?_, Or.inl ⟨by kernel_rfl, ?_⟩, ?_⟩; rotate_left; (focus (intro wS hSw; (try dsimp only at hSw); go_simp; try with_reducible rfl)); (try simp only [Act.put, List.setIfInBounds_toArray, List.set_cons_zero, List.set_cons_succ]))
      (refine held_take 3 (by kernel_rfl) (by kernel_rfl) (by kernel_rfl) (by assumption) ?_; simp only [List.getElem?_toArray, List.getElem?_cons_succ, List.getElem?_cons_zero]; refine ⟨fun _ _ _ _ h => h, ?_, Or.inl ⟨by kernel_rfl, ?_⟩, ?_⟩; rotate_left; (focus (intro wS hSw; (try dsimp only at hSw); go_simp; try with_reducible rfl)); (try simp only [Act.put, List.setIfInBounds_toArray, List.set_cons_zero, List.set_cons_succ]))
      (refine held_take 4 (by kernel_rfl) (by kernel_rfl) (by kernel_rfl) (by assumption) ?_; simp only [List.getElem?_toArray, List.getElem?_cons_succ, List.getElem?_cons_zero]; refine ⟨fun _ _ _ _ h => h, ?_, Or.inl ⟨by kernel_rfl, ?_⟩, ?_⟩; rotate_left; (focus (intro wS hSw; (try dsimp only at hSw); go_simp; try with_reducible rfl)); (try simp only [Act.put, List.setIfInBounds_toArray, List.set_cons_zero, List.set_cons_succ]))
      (refine held_take 5 (by kernel_rfl) (by kernel_rfl) (by kernel_rfl) (by assumption) ?_; simp only [List.getElem?_toArray, List.getElem?_cons_succ, List.getElem?_cons_zero]; refine ⟨fun _ _ _ _ h => h, ?_, Or.inl ⟨by kernel_rfl, ?_⟩, ?_⟩; rotate_left; (focus (intro wS hSw; (try dsimp only at hSw); go_simp; try with_reducible rfl)); (try simp only [Act.put, List.setIfInBounds_toArray, List.set_cons_zero, List.set_cons_succ]))
      (refine held_take 6 (by kernel_rfl) (by kernel_rfl) (by kernel_rfl) (by assumption) ?_; simp only [List.getElem?_toArray, List.getElem?_cons_succ, List.getElem?_cons_zero]; refine ⟨fun _ _ _ _ h => h, ?_, Or.inl ⟨by kernel_rfl, ?_⟩, ?_⟩; rotate_left; (focus (intro wS hSw; (try dsimp only at hSw); go_simp; try with_reducible rfl)); (try simp only [Act.put, List.setIfInBounds_toArray, List.set_cons_zero, List.set_cons_succ]))
      (refine held_take 7 (by kernel_rfl) (by kernel_rfl) (by kernel_rfl) (by assumption) ?_; simp only [List.getElem?_toArray, List.getElem?_cons_succ, List.getElem?_cons_zero]; refine ⟨fun _ _ _ _ h => h, ?_, Or.inl ⟨by kernel_rfl, ?_⟩, ?_⟩; rotate_left; (focus (intro wS hSw; (try dsimp only at hSw); go_simp; try with_reducible rfl)); (try simp only [Act.put, List.setIfInBounds_toArray, List.set_cons_zero, List.set_cons_succ]))
      have HC := Lib.hid (sameRecs_yes A1 A2 c1 c2 r y0 B (HR1.out.below (HB.out.mono hB)) (HR2.out.below (HB.out.mono hB)))
      (refine held_one 8 (by kernel_rfl) ?_; simp only [List.getElem?_toArray, List.getElem?_cons_succ, List.getElem?_cons_zero]; intro K hK; go_simp)
      clear hHeld
      refine HC.out.mono ?_
      rintro e y1 ⟨rfl, hb⟩
      (go_wp2_with fail; refine hK.out _ _ ?_ (fun hHeld => ?_); (focus (exact HS.out _ (through HB.out (Nat.le_refl _) hb))); clear hK K; (try simp only [Act.put, List.setIfInBounds_toArray, List.set_cons_zero, List.set_cons_succ]))
      have HB1 := Lib.hid (through HB.out (Nat.le_refl _) hb)
      clear hb HC HB
      (refine held_take 9 (by kernel_rfl) (by kernel_rfl) (by kernel_rfl) (by assumption) ?_; simp only [List.getElem?_toArray, List.getElem?_cons_succ, List.getElem?_cons_zero]; refine ⟨fun _ _ _ _ h => h, ?_, Or.inl ⟨by kernel_rfl, ?_⟩, ?_⟩; rotate_left; (focus (intro wS hSw; (try dsimp only at hSw); go_simp; try with_reducible rfl)); (try simp only [Act.put, List.setIfInBounds_toArray, List.set_cons_zero, List.set_cons_succ]))
      (refine wpAnyH_done (by kernel_rfl) ?_ _)
      clear hHeld
      go_wp2_with fail
      go_roundw
      case rel => exact ⟨k + 1, by omega, by go_num, HB1.out⟩
      case measure => simp [intOf]; omega
    · obtain rfl : k = ls.length := by omega
      go_wp2_with fail
      go_returns
      exact ⟨rfl, HB.out⟩

set_option maxRecDepth 100000 in
set_option maxHeartbeats 4000000 in
theorem sameFeeds_yes (A D : Option Addr) (c d : Nat) (fs : List Fp) (w : World) (B : Nat) (hB : B ≤ w.heap.size) (h : IsFeeds w B A c fs) (k : IsFeeds w B D d fs) :
    Calls Try.prog 42 #[.slice A fs.length c, .slice D fs.length d] w fun e w' => e = .returned (.bool true) ∧ Below w.heap.size w w' := by
  have HX := Lib.hid h
  have HY := Lib.hid k
  have hrl := h.len
  unfold LB at hrl
  clear h k
  go_enter Try.func42, Try.ntmps42
  go_wp2_with fail
  go_loopw [5] (fun u wr => ∃ k : Nat, k ≤ fs.length ∧ u = .int .i64 k ∧ Below w.heap.size w wr) (fun u _ => fs.length - (intOf u).toNat)
  case atStart => exact ⟨0, by omega, rfl, Below.refl _ _⟩
  case round =>
    obtain ⟨k, hk, rfl, hbl⟩ := hrel
    have HB := Lib.hid hbl
    clear hbl
    by_cases hlt : k < fs.length
    · obtain ⟨b, o, f, A1, c1, rfl, hb, HV, -, c0, c1', hr1⟩ := feeds_at HX.out hlt
      obtain ⟨b2, o2, f2, A2, c2, rfl, hb2, HV2, -, d0, d1', hr2⟩ := feeds_at HY.out hlt
      obtain rfl : f = f2 := by rw [← HV.out, ← HV2.out]
      have HR1 := Lib.hid hr1
      have HR2 := Lib.hid hr2
      have hkn : (k : Int) < (fs.length : Int) := by omega
      have hb0 : b < w.heap.size := by omega
      have hb20 : b2 < w.heap.size := by omega
      have HS := Lib.hid (show ∀ Z, Below w.heap.size w Z → Z.cell? ⟨b, o + k * 2, none⟩ = some (.int .i64 f.op) ∧ Z.cell? ⟨b, o + k * 2 + 1, none⟩ = some (.slice A1 f.parts.length c1) ∧ Z.cell? ⟨b2, o2 + k * 2, none⟩ = some (.int .i64 f.op) ∧ Z.cell? ⟨b2, o2 + k * 2 + 1, none⟩ = some (.slice A2 f.parts.length c2) from fun Z hZ => ⟨(hZ.cell (p := ⟨b, o + k * 2, none⟩) hb0).trans c0, (hZ.cell (p := ⟨b, o + k * 2 + 1, none⟩) hb0).trans c1', (hZ.cell (p := ⟨b2, o2 + k * 2, none⟩) hb20).trans d0, (hZ.cell (p := ⟨b2, o2 + k * 2 + 1, none⟩) hb20).trans d1'⟩)
      clear hr1 hr2 c0 d0 c1' d1'
      go_upto_region 6 with (fail)
      refine wp_region_held_drew (S := (fun (Z : World) => Z.cell? ⟨b, o + k * 2, none⟩ = some (.int .i64 f.op) ∧ Z.cell? ⟨b, o + k * 2 + 1, none⟩ = some (.slice A1 f.parts.length c1) ∧ Z.cell? ⟨b2, o2 + k * 2, none⟩ = some (.int .i64 f.op) ∧ Z.cell? ⟨b2, o2 + k * 2 + 1, none⟩ = some (.slice A2 f.parts.length c2))) (by kernel_rfl) (HS.out _ HB.out.drew) (fun hHeld => ?_)
      have HB := Lib.hid HB.out.drew
      obtain ⟨y0, hy0⟩ : ∃ Z, wr.drew = Z := ⟨_, rfl⟩
      rw [hy0] at HB hHeld ⊢
      clear hy0
      (refine held_take 0 (by kernel_rfl) (by kernel_rfl) (by kernel_rfl) (by assumption) ?_; simp only [List.getElem?_toArray, List.getElem?_cons_zero]; refine ⟨fun _ _ _ _ h => h, ?_, Or.inl ⟨by kernel_rfl, ?_⟩, ?_⟩; rotate_left; (focus (intro wS hSw; (try dsimp only at hSw); go_simp; try with_reducible rfl)); (try simp only [Act.put, List.setIfInBounds_toArray, List.set_cons_zero, List.set_cons_succ]))
      (refine held_take 1 (by kernel_rfl) (by kernel_rfl) (by kernel_rfl) (by assumption) ?_; simp only [List.getElem?_toArray, List.getElem?_cons_succ, List.getElem?_cons_zero]; refine ⟨fun _ _ _ _ h => h, ?_, Or.inl ⟨by kernel_rfl, ?_⟩, ?_⟩; rotate_left; (focus (intro wS hSw; (try dsimp only at hSw); go_simp; try with_reducible rfl)); (try simp only [Act.put, List.setIfInBounds_toArray, List.set_cons_zero, List.set_cons_succ]))
      (refine held_take 2 (by kernel_rfl) (by kernel_rfl) (by kernel_rfl) (by assumption) ?_; simp only [List.getElem?_toArray, List.getElem?_cons_succ, List.getElem?_cons_zero]; refine ⟨fun _ _ _ _ h => h, ?_, Or.inl ⟨by kernel_rfl, ?_⟩, ?_⟩; rotate_left; (focus (intro wS hSw; (try dsimp only at hSw); go_simp; try with_reducible rfl)); (try simp only [Act.put, List.setIfInBounds_toArray, List.set_cons_zero, List.set_cons_succ]))
      (refine held_take 3 (by kernel_rfl) (by kernel_rfl) (by kernel_rfl) (by assumption) ?_; simp only [List.getElem?_toArray, List.getElem?_cons_succ, List.getElem?_cons_zero]; refine ⟨fun _ _ _ _ h => h, ?_, Or.inl ⟨by kernel_rfl, ?_⟩, ?_⟩; rotate_left; (focus (intro wS hSw; (try dsimp only at hSw); go_simp; try with_reducible rfl)); (try simp only [Act.put, List.setIfInBounds_toArray, List.set_cons_zero, List.set_cons_succ]))
      (refine held_take 4 (by kernel_rfl) (by kernel_rfl) (by kernel_rfl) (by assumption) ?_; simp only [List.getElem?_toArray, List.getElem?_cons_succ, List.getElem?_cons_zero]; refine ⟨fun _ _ _ _ h => h, ?_, Or.inl ⟨by kernel_rfl, ?_⟩, ?_⟩; rotate_left; (focus (intro wS hSw; (try dsimp only at hSw); go_simp; try with_reducible rfl)); (try simp only [Act.put, List.setIfInBounds_toArray, List.set_cons_zero, List.set_cons_succ]))
      (refine held_take 5 (by kernel_rfl) (by kernel_rfl) (by kernel_rfl) (by assumption) ?_; simp only [List.getElem?_toArray, List.getElem?_cons_succ, List.getElem?_cons_zero]; refine ⟨fun _ _ _ _ h => h, ?_, Or.inl ⟨by kernel_rfl, ?_⟩, ?_⟩; rotate_left; (focus (intro wS hSw; (try dsimp only at hSw); go_simp; try with_reducible rfl)); (try simp only [Act.put, List.setIfInBounds_toArray, List.set_cons_zero, List.set_cons_succ]))
      (refine held_take 6 (by kernel_rfl) (by kernel_rfl) (by kernel_rfl) (by assumption) ?_; simp only [List.getElem?_toArray, List.getElem?_cons_succ, List.getElem?_cons_zero]; refine ⟨fun _ _ _ _ h => h, ?_, Or.inl ⟨by kernel_rfl, ?_⟩, ?_⟩; rotate_left; (focus (intro wS hSw; (try dsimp only at hSw); go_simp; try with_reducible rfl)); (try simp only [Act.put, List.setIfInBounds_toArray, List.set_cons_zero, List.set_cons_succ]))
      (refine held_take 7 (by kernel_rfl) (by kernel_rfl) (by kernel_rfl) (by assumption) ?_; simp only [List.getElem?_toArray, List.getElem?_cons_succ, List.getElem?_cons_zero]; refine ⟨fun _ _ _ _ h => h, ?_, Or.inl ⟨by kernel_rfl, ?_⟩, ?_⟩; rotate_left; (focus (intro wS hSw; (try dsimp only at hSw); go_simp; try with_reducible rfl)); (try simp only [Act.put, List.setIfInBounds_toArray, List.set_cons_zero, List.set_cons_succ]))
      (refine held_take 8 (by kernel_rfl) (by kernel_rfl) (by kernel_rfl) (by assumption) ?_; simp only [List.getElem?_toArray, List.getElem?_cons_succ, List.getElem?_cons_zero]; refine ⟨fun _ _ _ _ h => h, ?_, Or.inl ⟨by kernel_rfl, ?_⟩, ?_⟩; rotate_left; (focus (intro wS hSw; (try dsimp only at hSw); go_simp; try with_reducible rfl)); (try simp only [Act.put, List.setIfInBounds_toArray, List.set_cons_zero, List.set_cons_succ]))
      (refine held_take 9 (by kernel_rfl) (by kernel_rfl) (by kernel_rfl) (by assumption) ?_; simp only [List.getElem?_toArray, List.getElem?_cons_succ, List.getElem?_cons_zero]; refine ⟨fun _ _ _ _ h => h, ?_, Or.inl ⟨by kernel_rfl, ?_⟩, ?_⟩; rotate_left; (focus (intro wS hSw; (try dsimp only at hSw); go_simp; try with_reducible rfl)); (try simp only [Act.put, List.setIfInBounds_toArray, List.set_cons_zero, List.set_cons_succ]))
      (refine held_take 10 (by kernel_rfl) (by kernel_rfl) (by kernel_rfl) (by assumption) ?_; simp only [List.getElem?_toArray, List.getElem?_cons_succ, List.getElem?_cons_zero]; refine ⟨fun _ _ _ _ h => h, ?_, Or.inl ⟨by kernel_rfl, ?_⟩, ?_⟩; rotate_left; (focus (intro wS hSw; (try dsimp only at hSw); go_simp; try with_reducible rfl)); (try simp only [Act.put, List.setIfInBounds_toArray, List.set_cons_zero, List.set_cons_succ]))
      (refine held_take 11 (by kernel_rfl) (by kernel_rfl) (by kernel_rfl) (by assumption) ?_; simp only [List.getElem?_toArray, List.getElem?_cons_succ, List.getElem?_cons_zero]; refine ⟨fun _ _ _ _ h => h, ?_, Or.inl ⟨by kernel_rfl, ?_⟩, ?_⟩; rotate_left; (focus (intro wS hSw; (try dsimp only at hSw); go_simp; try with_reducible rfl)); (try simp only [Act.put, List.setIfInBounds_toArray, List.set_cons_zero, List.set_cons_succ]))
      (refine held_take 12 (by kernel_rfl) (by kernel_rfl) (by kernel_rfl) (by assumption) ?_; simp only [List.getElem?_toArray, List.getElem?_cons_succ, List.getElem?_cons_zero]; refine ⟨fun _ _ _ _ h => h, ?_, Or.inl ⟨by kernel_rfl, ?_⟩, ?_⟩; rotate_left; (focus (intro wS hSw; (try dsimp only at hSw); go_simp; try with_reducible rfl)); (try simp only [Act.put, List.setIfInBounds_toArray, List.set_cons_zero, List.set_cons_succ]))
      (refine held_take 13 (by kernel_rfl) (by kernel_rfl) (by kernel_rfl) (by assumption) ?_; simp only [List.getElem?_toArray, List.getElem?_cons_succ, List.getElem?_cons_zero]; refine ⟨fun _ _ _ _ h => h, ?_, Or.inl ⟨by kernel_rfl, ?_⟩, ?_⟩; rotate_left; (focus (intro wS hSw; (try dsimp only at hSw); go_simp; try with_reducible rfl)); (try simp only [Act.put, List.setIfInBounds_toArray, List.set_cons_zero, List.set_cons_succ]))
      (refine held_take 14 (by kernel_rfl) (by kernel_rfl) (by kernel_rfl) (by assumption) ?_; simp only [List.getElem?_toArray, List.getElem?_cons_succ, List.getElem?_cons_zero]; refine ⟨fun _ _ _ _ h => h, ?_, Or.inl ⟨by kernel_rfl, ?_⟩, ?_⟩; rotate_left; (focus (intro wS hSw; (try dsimp only at hSw); go_simp; try with_reducible rfl)); (try simp only [Act.put, List.setIfInBounds_toArray, List.set_cons_zero, List.set_cons_succ]))
      (refine held_take 15 (by kernel_rfl) (by kernel_rfl) (by kernel_rfl) (by assumption) ?_; simp only [List.getElem?_toArray, List.getElem?_cons_succ, List.getElem?_cons_zero]; refine ⟨fun _ _ _ _ h => h, ?_, Or.inl ⟨by kernel_rfl, ?_⟩, ?_⟩; rotate_left; (focus (intro wS hSw; (try dsimp only at hSw); go_simp; try with_reducible rfl)); (try simp only [Act.put, List.setIfInBounds_toArray, List.set_cons_zero, List.set_cons_succ]))
      (refine held_take 16 (by kernel_rfl) (by kernel_rfl) (by kernel_rfl) (by assumption) ?_; simp only [List.getElem?_toArray, List.getElem?_cons_succ, List.getElem?_cons_zero]; refine ⟨fun _ _ _ _ h => h, ?_, Or.inl ⟨by kernel_rfl, ?_⟩, ?_⟩; rotate_left; (focus (intro wS hSw; (try dsimp only at hSw); go_simp; try with_reducible rfl)); (try simp only [Act.put, List.setIfInBounds_toArray, List.set_cons_zero, List.set_cons_succ]))
      (refine held_take 17 (by kernel_rfl) (by kernel_rfl) (by kernel_rfl) (by assumption) ?_; simp only [List.getElem?_toArray, List.getElem?_cons_succ, List.getElem?_cons_zero]; refine ⟨fun _ _ _ _ h => h, ?_, Or.inl ⟨by kernel_rfl, ?_⟩, ?_⟩; rotate_left; (focus (intro wS hSw; (try dsimp only at hSw); go_simp; try with_reducible rfl)); (try simp only [Act.put, List.setIfInBounds_toArray, List.set_cons_zero, List.set_cons_succ]))
      (refine held_take 18 (by kernel_rfl) (by kernel_rfl) (by kernel_rfl) (by assumption) ?_; simp only [List.getElem?_toArray, List.getElem?_cons_succ, List.getElem?_cons_zero]; refine ⟨fun _ _ _ _ h => h, ?_, Or.inl ⟨by kernel_rfl, ?_⟩, ?_⟩; rotate_left; (focus (intro wS hSw; (try dsimp only at hSw); go_simp; try with_reducible rfl)); (try simp only [Act.put, List.setIfInBounds_toArray, List.set_cons_zero, List.set_cons_succ]))
      (refine held_take 19 (by kernel_rfl) (by kernel_rfl) (by kernel_rfl) (by assumption) ?_; simp only [List.getElem?_toArray, List.getElem?_cons_succ, List.getElem?_cons_zero]; refine ⟨fun _ _ _ _ h => h, ?_, Or.inl ⟨by kernel_rfl, ?_⟩, ?_⟩; rotate_left; (focus (intro wS hSw; (try dsimp only at hSw); go_simp; try with_reducible rfl)); (try simp only [Act.put, List.setIfInBounds_toArray, List.set_cons_zero, List.set_cons_succ]))
      (refine held_take 20 (by kernel_rfl) (by kernel_rfl) (by kernel_rfl) (by assumption) ?_; simp only [List.getElem?_toArray, List.getElem?_cons_succ, List.getElem?_cons_zero]; refine ⟨fun _ _ _ _ h => h, ?_, Or.inl ⟨by kernel_rfl, ?_⟩, ?_⟩; rotate_left; (focus (intro wS hSw; (try dsimp only at hSw); go_simp; try with_reducible rfl)); (try simp only [Act.put, List.setIfInBounds_toArray, List.set_cons_zero, List.set_cons_succ]))
      (refine held_take 21 (by kernel_rfl) (by kernel_rfl) (by kernel_rfl) (by assumption) ?_; simp only [List.getElem?_toArray, List.getElem?_cons_succ, List.getElem?_cons_zero]; refine ⟨fun _ _ _ _ h => h, ?_, Or.inl ⟨by kernel_rfl, ?_⟩, ?_⟩; rotate_left; (focus (intro wS hSw; (try dsimp only at hSw); go_simp; try with_reducible rfl)); (try simp only [Act.put, List.setIfInBounds_toArray, List.set_cons_zero, List.set_cons_succ]))
      have HC := Lib.hid (sameLists_yes A1 A2 c1 c2 f.parts y0 B (Nat.le_trans hB HB.out.size) (HR1.out.below (HB.out.mono hB)) (HR2.out.below (HB.out.mono hB)))
      (refine held_one 22 (by kernel_rfl) ?_; simp only [List.getElem?_toArray, List.getElem?_cons_succ, List.getElem?_cons_zero]; intro K hK; go_simp)
      clear hHeld
      refine HC.out.mono ?_
      rintro e y1 ⟨rfl, hb⟩
      (go_wp2_with fail; refine hK.out _ _ ?_ (fun hHeld => ?_); (focus (exact HS.out _ (through HB.out (Nat.le_refl _) hb))); clear hK K; (try simp only [Act.put, List.setIfInBounds_toArray, List.set_cons_zero, List.set_cons_succ]))
      have HB1 := Lib.hid (through HB.out (Nat.le_refl _) hb)
      clear hb HC HB
      (refine held_take 23 (by kernel_rfl) (by kernel_rfl) (by kernel_rfl) (by assumption) ?_; simp only [List.getElem?_toArray, List.getElem?_cons_succ, List.getElem?_cons_zero]; refine ⟨fun _ _ _ _ h => h, ?_, Or.inl ⟨by kernel_rfl, ?_⟩, ?_⟩; rotate_left; (focus (intro wS hSw; (try dsimp only at hSw); go_simp; try with_reducible rfl)); (try simp only [Act.put, List.setIfInBounds_toArray, List.set_cons_zero, List.set_cons_succ]))
      (refine held_take 24 (by kernel_rfl) (by kernel_rfl) (by kernel_rfl) (by assumption) ?_; simp only [List.getElem?_toArray, List.getElem?_cons_succ, List.getElem?_cons_zero]; refine ⟨fun _ _ _ _ h => h, ?_, Or.inl ⟨by kernel_rfl, ?_⟩, ?_⟩; rotate_left; (focus (intro wS hSw; (try dsimp only at hSw); go_simp; try with_reducible rfl)); (try simp only [Act.put, List.setIfInBounds_toArray, List.set_cons_zero, List.set_cons_succ]))
      (refine wpAnyH_done (by kernel_rfl) ?_ _)
      clear hHeld
      go_wp2_with fail
      go_roundw
      case rel => exact ⟨k + 1, by omega, by go_num, HB1.out⟩
      case measure => simp [intOf]; omega
    · obtain rfl : k = fs.length := by omega
      go_wp2_with fail
      go_returns
      exact ⟨rfl, HB.out⟩
end Go.Proofs.Ytaodbjgcidkpkaa.Fd
