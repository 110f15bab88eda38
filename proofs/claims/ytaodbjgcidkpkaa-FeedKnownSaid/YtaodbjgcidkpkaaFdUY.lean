/- The chapter's feeds: what each statement of this law asks. -/
import Derived.Test.YtaodbjgcidkpkaaFdVY

namespace Go.Proofs.Ytaodbjgcidkpkaa.Fd
open Go.ChangeShapes Go.WideShapes Go.ChangeAt Go.RowKit M Sp

set_option maxRecDepth 100000 in
set_option maxHeartbeats 8000000 in
theorem works_any (w : World) : Calls Try.prog 33 #[] w fun e w' => e = .returned (.bool true) ∧ Below w.heap.size w w' := by
  obtain ⟨n, hn⟩ : ∃ n, w.heap.size = n := ⟨_, rfl⟩
  go_enter Try.func33, Try.ntmps33
  go_upto_region 2 with (fail)
  obtain ⟨W1, hW1⟩ : ∃ W, (((w.alloc (.cells #[.int .i64 1, .int .i64 5, .int .i64 1, .int .i64 6] 57)).alloc (.cells #[.int .i64 2, .int .i64 5] 57)).alloc (.cells #[.slice (some ⟨n, 0, none⟩) 2 2, .slice (some ⟨n + 1, 0, none⟩) 1 1] 49)).alloc (.cells #[.int .i64 0, .slice (some ⟨n + 1 + 1, 0, none⟩) 2 2] 47) = W := ⟨_, rfl⟩
  have HA := Lib.hid (mem_a hn hW1)
  (try rw [hn])
  rw [hW1]
  clear hW1
  obtain ⟨m, hm⟩ : ∃ m, W1.heap.size = m := ⟨_, rfl⟩
  go_upto_region 3 with (fail)
  obtain ⟨W, hW⟩ : ∃ W, (((W1.alloc (.cells #[.int .i64 1, .int .i64 5] 57)).alloc (.cells #[.int .i64 1, .int .i64 6] 57)).alloc (.cells #[.slice (some ⟨m, 0, none⟩) 1 1, .slice (some ⟨m + 1, 0, none⟩) 1 1] 49)).alloc (.cells #[.int .i64 0, .slice (some ⟨m + 1 + 1, 0, none⟩) 2 2] 47) = W := ⟨_, rfl⟩
  have HBm := Lib.hid (mem_b hm hW)
  (try rw [hm])
  rw [hW]
  clear hW
  have hmn : m = n + 4 := hm ▸ HA.out.2.1
  have hWs : W.heap.size = m + 4 := HBm.out.2.1
  have HFA := Lib.hid (show IsFeeds W W.heap.size (some ⟨n + 1 + 1 + 1, 0, none⟩) 1 aF from (HA.out.2.2.below (HBm.out.1.mono (by omega))).more (by omega))
  have HFB := Lib.hid (show IsFeeds W W.heap.size (some ⟨m + 1 + 1 + 1, 0, none⟩) 1 bF from HBm.out.2.2.more (by omega))
  have HWW := Lib.hid (show Below n w W from through HA.out.1 (by omega) (by rw [hm]; exact HBm.out.1))
  clear HA HBm hmn hWs
  have hmk := make_l
  refine wp_region_held_drew (S := (fun (Y : World) => Below W.heap.size W Y)) (by kernel_rfl) ((Below.refl _ _).drew) (fun hHeld => ?_)
  obtain ⟨y0, hy0⟩ : ∃ Y, W.drew = Y := ⟨_, rfl⟩
  have HB := Lib.hid (show Below W.heap.size W W.drew from (Below.refl _ _).drew)
  rw [hy0] at HB hHeld ⊢
  clear hy0
  (refine held_take 1 (by kernel_rfl) (by kernel_rfl) (by kernel_rfl) (by assumption) ?_; simp only [List.getElem?_toArray, List.getElem?_cons_succ, List.getElem?_cons_zero]; refine ⟨fun _ _ _ _ h => h, ?_, Or.inl ⟨by kernel_rfl, ?_⟩, ?_⟩; rotate_left; (focus (intro wS hSw; (try dsimp only at hSw); go_simp; try with_reducible rfl)); (try simp only [Act.put, List.setIfInBounds_toArray, List.set_cons_zero, List.set_cons_succ]))
  (refine held_one 0 (by kernel_rfl) ?_; simp only [List.getElem?_toArray, List.getElem?_cons_zero]; intro K hK; go_simp)
  clear hHeld
  refine (one_any y0).mono ?_
  rintro e y1 ⟨g1, qg1, rfl, hio, hb⟩
  have HOg1 := Lib.hid hio
  clear hio
  (go_wp2_with fail; refine hK.out _ _ ?_ (fun hHeld => ?_); (focus (exact through HB.out (Nat.le_refl _) hb)); clear hK K; (try simp only [Act.put, List.setIfInBounds_toArray, List.set_cons_zero, List.set_cons_succ]))
  have HB := Lib.hid (through HB.out (Nat.le_refl _) hb)
  clear hb
  have HC := Lib.hid (chk_call HOg1.out (A := (some ⟨n + 1 + 1 + 1, 0, none⟩)) (c := 1) (k := 1) ((HFA.out.below (HB.out)).more HB.out.size) rfl (by decide) (by rw [cnt_a]; omega) chk_a)
  (refine held_one 2 (by kernel_rfl) ?_; simp only [List.getElem?_toArray, List.getElem?_cons_succ, List.getElem?_cons_zero]; intro K hK; go_simp)
  clear hHeld
  refine HC.out.mono ?_
  rintro e y2 ⟨rfl, hb⟩
  (go_wp2_with fail; refine hK.out _ _ ?_ (fun hHeld => ?_); (focus (exact through HB.out (Nat.le_refl _) hb)); clear hK K; (try simp only [Act.put, List.setIfInBounds_toArray, List.set_cons_zero, List.set_cons_succ]))
  have HB := Lib.hid (through HB.out (Nat.le_refl _) hb)
  clear hb HC
  (refine held_take 3 (by kernel_rfl) (by kernel_rfl) (by kernel_rfl) (by assumption) ?_; simp only [List.getElem?_toArray, List.getElem?_cons_succ, List.getElem?_cons_zero]; refine ⟨fun _ _ _ _ h => h, ?_, Or.inl ⟨by kernel_rfl, ?_⟩, ?_⟩; rotate_left; (focus (intro wS hSw; (try dsimp only at hSw); go_simp; try with_reducible rfl)); (try simp only [Act.put, List.setIfInBounds_toArray, List.set_cons_zero, List.set_cons_succ]))
  (refine held_take 4 (by kernel_rfl) (by kernel_rfl) (by kernel_rfl) (by assumption) ?_; simp only [List.getElem?_toArray, List.getElem?_cons_succ, List.getElem?_cons_zero]; refine ⟨fun _ _ _ _ h => h, ?_, Or.inl ⟨by kernel_rfl, ?_⟩, ?_⟩; rotate_left; (focus (intro wS hSw; (try dsimp only at hSw); go_simp; try with_reducible rfl)); (try simp only [Act.put, List.setIfInBounds_toArray, List.set_cons_zero, List.set_cons_succ]))
  (refine held_take 5 (by kernel_rfl) (by kernel_rfl) (by kernel_rfl) (by assumption) ?_; simp only [List.getElem?_toArray, List.getElem?_cons_succ, List.getElem?_cons_zero]; refine ⟨fun _ _ _ _ h => h, ?_, Or.inl ⟨by kernel_rfl, ?_⟩, ?_⟩; rotate_left; (focus (intro wS hSw; (try dsimp only at hSw); go_simp; try with_reducible rfl)); (try simp only [Act.put, List.setIfInBounds_toArray, List.set_cons_zero, List.set_cons_succ]))
  have HH0 := Lib.hid hHeld
  clear hHeld
  apply held_join3 (#[true, true, true, true, true, true, true, true, false, false, false, false, false, false, false, false, false, false, false, false, false, false, false, false, false, false, false, false, false, false, false, false, false, false, false]) (fun (A1 : Option Addr) (c1 bB : Nat) (Y : World) => Below W.heap.size W Y ∧ IsInts Y Y.heap.size ⟨A1, c1, [1, 2]⟩ ∧ Blk Y bB 3 #[.int .i64 1, .int .i64 2])
  case main =>
    intro J
    have hHeld := HH0.out
    refine held_two 6 7 (by kernel_rfl) ?_ ?_
    · have HC := Lib.hid (keys_a_call (A := (some ⟨n + 1 + 1 + 1, 0, none⟩)) (c := 1) ((HFA.out.below (HB.out)).more HB.out.size))
      (simp only [List.getElem?_toArray, List.getElem?_cons_succ, List.getElem?_cons_zero]; intro K hK; go_simp)
      clear hHeld
      refine HC.out.mono ?_
      rintro e y3 ⟨A1, c1, rfl, hio, hb⟩
      have KI := Lib.hid hio
      clear hio
      (go_wp2_with fail; refine hK.out _ _ ?_ (fun hHeld => ?_); (focus (exact through HB.out (Nat.le_refl _) hb)); clear hK K; (try simp only [Act.put, List.setIfInBounds_toArray, List.set_cons_zero, List.set_cons_succ]))
      have HB := Lib.hid (through HB.out (Nat.le_refl _) hb)
      clear hb HC
      (refine held_one 7 (by kernel_rfl) ?_; simp only [List.getElem?_toArray, List.getElem?_cons_succ, List.getElem?_cons_zero]; intro K hK; go_simp)
      clear hHeld
      have hb : Below y3.heap.size y3 (y3.alloc (.cells #[.int .i64 1, .int .i64 2] 3)) := (Below.refl _ _).alloc (Nat.le_refl _) _
      have KB := Lib.hid (Blk.new y3 3 #[.int .i64 1, .int .i64 2])
      (go_wp2_with fail; refine hK.out _ _ ?_ (fun hHeld => ?_); (focus (exact through HB.out (Nat.le_refl _) hb)); clear hK K; (try simp only [Act.put, List.setIfInBounds_toArray, List.set_cons_zero, List.set_cons_succ]))
      obtain ⟨bB, hbk⟩ : ∃ z, y3.heap.size = z := ⟨_, rfl⟩
      obtain ⟨y4, hY⟩ : ∃ Y, y3.alloc (.cells #[.int .i64 1, .int .i64 2] 3) = Y := ⟨_, rfl⟩
      rw [hY] at hb KB
      rw [hbk] at KB
      (try rw [hY] at hHeld)
      (try rw [hY])
      (try rw [hbk])
      have HB := Lib.hid (through HB.out (Nat.le_refl _) hb)
      have HKI := Lib.hid hb
      clear hb hY hbk
      refine held_listed (listed' := #[true, true, true, true, true, true, true, true, false, false, false, false, false, false, false, false, false, false, false, false, false, false, false, false, false, false, false, false, false, false, false, false, false, false, false]) (by kernel_rfl) ?_
      exact J A1 c1 bB y4 ⟨HB.out, (KI.out.below (Below.mono (show Below y3.heap.size y3 y4 from HKI.out) (Nat.le_refl _))).more HKI.out.size, KB.out⟩ hHeld
    · (simp only [List.getElem?_toArray, List.getElem?_cons_succ, List.getElem?_cons_zero]; intro K hK; go_simp)
      clear hHeld
      have hb : Below y2.heap.size y2 (y2.alloc (.cells #[.int .i64 1, .int .i64 2] 3)) := (Below.refl _ _).alloc (Nat.le_refl _) _
      have KB := Lib.hid (Blk.new y2 3 #[.int .i64 1, .int .i64 2])
      (go_wp2_with fail; refine hK.out _ _ ?_ (fun hHeld => ?_); (focus (exact through HB.out (Nat.le_refl _) hb)); clear hK K; (try simp only [Act.put, List.setIfInBounds_toArray, List.set_cons_zero, List.set_cons_succ]))
      obtain ⟨bB, hbk⟩ : ∃ z, y2.heap.size = z := ⟨_, rfl⟩
      obtain ⟨y5, hY⟩ : ∃ Y, y2.alloc (.cells #[.int .i64 1, .int .i64 2] 3) = Y := ⟨_, rfl⟩
      rw [hY] at hb KB
      rw [hbk] at KB
      (try rw [hY] at hHeld)
      (try rw [hY])
      (try rw [hbk])
      have HB := Lib.hid (through HB.out (Nat.le_refl _) hb)
      clear hb hY hbk
      have HC := Lib.hid (keys_a_call (A := (some ⟨n + 1 + 1 + 1, 0, none⟩)) (c := 1) ((HFA.out.below (HB.out)).more HB.out.size))
      (refine held_one 6 (by kernel_rfl) ?_; simp only [List.getElem?_toArray, List.getElem?_cons_succ, List.getElem?_cons_zero]; intro K hK; go_simp)
      clear hHeld
      refine HC.out.mono ?_
      rintro e y6 ⟨A1, c1, rfl, hio, hb⟩
      have KI := Lib.hid hio
      clear hio
      (go_wp2_with fail; refine hK.out _ _ ?_ (fun hHeld => ?_); (focus (exact through HB.out (Nat.le_refl _) hb)); clear hK K; (try simp only [Act.put, List.setIfInBounds_toArray, List.set_cons_zero, List.set_cons_succ]))
      have KB := Lib.hid (KB.out.below hb KB.out.lt)
      have HB := Lib.hid (through HB.out (Nat.le_refl _) hb)
      clear hb HC
      refine held_listed (listed' := #[true, true, true, true, true, true, true, true, false, false, false, false, false, false, false, false, false, false, false, false, false, false, false, false, false, false, false, false, false, false, false, false, false, false, false]) (by kernel_rfl) ?_
      exact J A1 c1 bB y6 ⟨HB.out, KI.out, KB.out⟩ hHeld
  case rest =>
    intro A1 c1 bB y7 hR hHeld
    obtain ⟨hb0, hk0, hk1⟩ := hR
    have HB := Lib.hid hb0
    have KI := Lib.hid hk0
    have KB := Lib.hid hk1
    clear hb0 hk0 hk1 HH0
    have HC := Lib.hid (same_a_call KI.out KB.out)
    (refine held_one 8 (by kernel_rfl) ?_; simp only [List.getElem?_toArray, List.getElem?_cons_succ, List.getElem?_cons_zero]; intro K hK; go_simp)
    clear hHeld
    refine HC.out.mono ?_
    rintro e y8 ⟨rfl, hb⟩
    (go_wp2_with fail; refine hK.out _ _ ?_ (fun hHeld => ?_); (focus (exact through HB.out (Nat.le_refl _) hb)); clear hK K; (try simp only [List.setIfInBounds_toArray, List.set_cons_zero, List.set_cons_succ]))
    have HB := Lib.hid (through HB.out (Nat.le_refl _) hb)
    clear hb HC KI KB
    (refine held_take 9 (by kernel_rfl) (by kernel_rfl) (by kernel_rfl) (by assumption) ?_; simp only [List.getElem?_toArray, List.getElem?_cons_succ, List.getElem?_cons_zero]; refine ⟨fun _ _ _ _ h => h, ?_, Or.inl ⟨by kernel_rfl, ?_⟩, ?_⟩; rotate_left; (focus (intro wS hSw; (try dsimp only at hSw); go_simp; try with_reducible rfl)); (try simp only [Act.put, List.setIfInBounds_toArray, List.set_cons_zero, List.set_cons_succ]))
    (refine held_take 10 (by kernel_rfl) (by kernel_rfl) (by kernel_rfl) (by assumption) ?_; simp only [List.getElem?_toArray, List.getElem?_cons_succ, List.getElem?_cons_zero]; refine ⟨fun _ _ _ _ h => h, ?_, Or.inl ⟨by kernel_rfl, ?_⟩, ?_⟩; rotate_left; (focus (intro wS hSw; (try dsimp only at hSw); go_simp; try with_reducible rfl)); (try simp only [Act.put, List.setIfInBounds_toArray, List.set_cons_zero, List.set_cons_succ]))
    (refine held_take 11 (by kernel_rfl) (by kernel_rfl) (by kernel_rfl) (by assumption) ?_; simp only [List.getElem?_toArray, List.getElem?_cons_succ, List.getElem?_cons_zero]; refine ⟨fun _ _ _ _ h => h, ?_, Or.inl ⟨by kernel_rfl, ?_⟩, ?_⟩; rotate_left; (focus (intro wS hSw; (try dsimp only at hSw); go_simp; try with_reducible rfl)); (try simp only [Act.put, List.setIfInBounds_toArray, List.set_cons_zero, List.set_cons_succ]))
    have HC := Lib.hid (cnt_a_call (A := (some ⟨n + 1 + 1 + 1, 0, none⟩)) (c := 1) ((HFA.out.below (HB.out)).more HB.out.size))
    (refine held_one 12 (by kernel_rfl) ?_; simp only [List.getElem?_toArray, List.getElem?_cons_succ, List.getElem?_cons_zero]; intro K hK; go_simp)
    clear hHeld
    refine HC.out.mono ?_
    rintro e y9 ⟨rfl, hb⟩
    (go_wp2_with fail; refine hK.out _ _ ?_ (fun hHeld => ?_); (focus (exact through HB.out (Nat.le_refl _) hb)); clear hK K; (try simp only [List.setIfInBounds_toArray, List.set_cons_zero, List.set_cons_succ]))
    have HB := Lib.hid (through HB.out (Nat.le_refl _) hb)
    clear hb HC
    (refine held_take 13 (by kernel_rfl) (by kernel_rfl) (by kernel_rfl) (by assumption) ?_; simp only [List.getElem?_toArray, List.getElem?_cons_succ, List.getElem?_cons_zero]; refine ⟨fun _ _ _ _ h => h, ?_, Or.inl ⟨by kernel_rfl, ?_⟩, ?_⟩; rotate_left; (focus (intro wS hSw; (try dsimp only at hSw); go_simp; try with_reducible rfl)); (try simp only [Act.put, List.setIfInBounds_toArray, List.set_cons_zero, List.set_cons_succ]))
    (refine held_take 14 (by kernel_rfl) (by kernel_rfl) (by kernel_rfl) (by assumption) ?_; simp only [List.getElem?_toArray, List.getElem?_cons_succ, List.getElem?_cons_zero]; refine ⟨fun _ _ _ _ h => h, ?_, Or.inl ⟨by kernel_rfl, ?_⟩, ?_⟩; rotate_left; (focus (intro wS hSw; (try dsimp only at hSw); go_simp; try with_reducible rfl)); (try simp only [Act.put, List.setIfInBounds_toArray, List.set_cons_zero, List.set_cons_succ]))
    (refine held_take 15 (by kernel_rfl) (by kernel_rfl) (by kernel_rfl) (by assumption) ?_; simp only [List.getElem?_toArray, List.getElem?_cons_succ, List.getElem?_cons_zero]; refine ⟨fun _ _ _ _ h => h, ?_, Or.inl ⟨by kernel_rfl, ?_⟩, ?_⟩; rotate_left; (focus (intro wS hSw; (try dsimp only at hSw); go_simp; try with_reducible rfl)); (try simp only [Act.put, List.setIfInBounds_toArray, List.set_cons_zero, List.set_cons_succ]))
    (refine held_take 17 (by kernel_rfl) (by kernel_rfl) (by kernel_rfl) (by assumption) ?_; simp only [List.getElem?_toArray, List.getElem?_cons_succ, List.getElem?_cons_zero]; refine ⟨fun _ _ _ _ h => h, ?_, Or.inl ⟨by kernel_rfl, ?_⟩, ?_⟩; rotate_left; (focus (intro wS hSw; (try dsimp only at hSw); go_simp; try with_reducible rfl)); (try simp only [Act.put, List.setIfInBounds_toArray, List.set_cons_zero, List.set_cons_succ]))
    (refine held_one 16 (by kernel_rfl) ?_; simp only [List.getElem?_toArray, List.getElem?_cons_succ, List.getElem?_cons_zero]; intro K hK; go_simp)
    clear hHeld
    refine (one_any y9).mono ?_
    rintro e y10 ⟨g2, qg2, rfl, hio, hb⟩
    have HOg2 := Lib.hid hio
    clear hio
    (go_wp2_with fail; refine hK.out _ _ ?_ (fun hHeld => ?_); (focus (exact through HB.out (Nat.le_refl _) hb)); clear hK K; (try simp only [List.setIfInBounds_toArray, List.set_cons_zero, List.set_cons_succ]))
    have HB := Lib.hid (through HB.out (Nat.le_refl _) hb)
    clear hb
    have HC := Lib.hid (chk_call HOg2.out (A := (some ⟨m + 1 + 1 + 1, 0, none⟩)) (c := 1) (k := 1) ((HFB.out.below (HB.out)).more HB.out.size) rfl (by decide) (by rw [cnt_b]; omega) chk_b)
    (refine held_one 18 (by kernel_rfl) ?_; simp only [List.getElem?_toArray, List.getElem?_cons_succ, List.getElem?_cons_zero]; intro K hK; go_simp)
    clear hHeld
    refine HC.out.mono ?_
    rintro e y11 ⟨rfl, hb⟩
    (go_wp2_with fail; refine hK.out _ _ ?_ (fun hHeld => ?_); (focus (exact through HB.out (Nat.le_refl _) hb)); clear hK K; (try simp only [List.setIfInBounds_toArray, List.set_cons_zero, List.set_cons_succ]))
    have HB := Lib.hid (through HB.out (Nat.le_refl _) hb)
    clear hb HC
    (refine held_take 19 (by kernel_rfl) (by kernel_rfl) (by kernel_rfl) (by assumption) ?_; simp only [List.getElem?_toArray, List.getElem?_cons_succ, List.getElem?_cons_zero]; refine ⟨fun _ _ _ _ h => h, ?_, Or.inl ⟨by kernel_rfl, ?_⟩, ?_⟩; rotate_left; (focus (intro wS hSw; (try dsimp only at hSw); go_simp; try with_reducible rfl)); (try simp only [Act.put, List.setIfInBounds_toArray, List.set_cons_zero, List.set_cons_succ]))
    (refine held_take 20 (by kernel_rfl) (by kernel_rfl) (by kernel_rfl) (by assumption) ?_; simp only [List.getElem?_toArray, List.getElem?_cons_succ, List.getElem?_cons_zero]; refine ⟨fun _ _ _ _ h => h, ?_, Or.inl ⟨by kernel_rfl, ?_⟩, ?_⟩; rotate_left; (focus (intro wS hSw; (try dsimp only at hSw); go_simp; try with_reducible rfl)); (try simp only [Act.put, List.setIfInBounds_toArray, List.set_cons_zero, List.set_cons_succ]))
    (refine held_take 21 (by kernel_rfl) (by kernel_rfl) (by kernel_rfl) (by assumption) ?_; simp only [List.getElem?_toArray, List.getElem?_cons_succ, List.getElem?_cons_zero]; refine ⟨fun _ _ _ _ h => h, ?_, Or.inl ⟨by kernel_rfl, ?_⟩, ?_⟩; rotate_left; (focus (intro wS hSw; (try dsimp only at hSw); go_simp; try with_reducible rfl)); (try simp only [Act.put, List.setIfInBounds_toArray, List.set_cons_zero, List.set_cons_succ]))
    (refine held_one 22 (by kernel_rfl) ?_; simp only [List.getElem?_toArray, List.getElem?_cons_succ, List.getElem?_cons_zero]; intro K hK; go_simp)
    clear hHeld
    refine (one_any y11).mono ?_
    rintro e y12 ⟨g3, qg3, rfl, hio, hb⟩
    have HOg3 := Lib.hid hio
    clear hio
    (go_wp2_with fail; refine hK.out _ _ ?_ (fun hHeld => ?_); (focus (exact through HB.out (Nat.le_refl _) hb)); clear hK K; (try simp only [List.setIfInBounds_toArray, List.set_cons_zero, List.set_cons_succ]))
    have HB := Lib.hid (through HB.out (Nat.le_refl _) hb)
    clear hb
    have HC := Lib.hid (chk_call HOg3.out (A := none) (c := 0) (k := 0) (feeds_nil _ _) rfl (by decide) (by decide) chk_n)
    (refine held_one 23 (by kernel_rfl) ?_; simp only [List.getElem?_toArray, List.getElem?_cons_succ, List.getElem?_cons_zero]; intro K hK; go_simp)
    clear hHeld
    refine HC.out.mono ?_
    rintro e y13 ⟨rfl, hb⟩
    (go_wp2_with fail; refine hK.out _ _ ?_ (fun hHeld => ?_); (focus (exact through HB.out (Nat.le_refl _) hb)); clear hK K; (try simp only [List.setIfInBounds_toArray, List.set_cons_zero, List.set_cons_succ]))
    have HB := Lib.hid (through HB.out (Nat.le_refl _) hb)
    clear hb HC
    (refine held_take 24 (by kernel_rfl) (by kernel_rfl) (by kernel_rfl) (by assumption) ?_; simp only [List.getElem?_toArray, List.getElem?_cons_succ, List.getElem?_cons_zero]; refine ⟨fun _ _ _ _ h => h, ?_, Or.inl ⟨by kernel_rfl, ?_⟩, ?_⟩; rotate_left; (focus (intro wS hSw; (try dsimp only at hSw); go_simp; try with_reducible rfl)); (try simp only [Act.put, List.setIfInBounds_toArray, List.set_cons_zero, List.set_cons_succ]))
    (refine held_take 25 (by kernel_rfl) (by kernel_rfl) (by kernel_rfl) (by assumption) ?_; simp only [List.getElem?_toArray, List.getElem?_cons_succ, List.getElem?_cons_zero]; refine ⟨fun _ _ _ _ h => h, ?_, Or.inl ⟨by kernel_rfl, ?_⟩, ?_⟩; rotate_left; (focus (intro wS hSw; (try dsimp only at hSw); go_simp; try with_reducible rfl)); (try simp only [Act.put, List.setIfInBounds_toArray, List.set_cons_zero, List.set_cons_succ]))
    (refine held_take 26 (by kernel_rfl) (by kernel_rfl) (by kernel_rfl) (by assumption) ?_; simp only [List.getElem?_toArray, List.getElem?_cons_succ, List.getElem?_cons_zero]; refine ⟨fun _ _ _ _ h => h, ?_, Or.inl ⟨by kernel_rfl, ?_⟩, ?_⟩; rotate_left; (focus (intro wS hSw; (try dsimp only at hSw); go_simp; try with_reducible rfl)); (try simp only [Act.put, List.setIfInBounds_toArray, List.set_cons_zero, List.set_cons_succ]))
    have HH0 := Lib.hid hHeld
    clear hHeld
    apply held_join3 (#[true, true, true, true, true, true, true, true, true, true, true, true, true, true, true, true, true, true, true, true, true, true, true, true, true, true, true, true, true, true, true, false, false, false, false]) (fun (g4 bL bZ : Nat) (Y : World) => Below W.heap.size W Y ∧ (∃ q, IsOps Y Y.heap.size (some ⟨g4, 0, none⟩) oneF (twoP q)) ∧ IsFeeds Y Y.heap.size (some ⟨bZ, 0, none⟩) 1 zF)
    case main =>
      intro J
      have hHeld := HH0.out
      refine held_two 27 28 (by kernel_rfl) ?_ ?_
      · (simp only [List.getElem?_toArray, List.getElem?_cons_succ, List.getElem?_cons_zero]; intro K hK; go_simp)
        clear hHeld
        refine (one_any y13).mono ?_
        rintro e y14 ⟨g4, qg4, rfl, hio, hb⟩
        have HOg4 := Lib.hid hio
        clear hio
        (go_wp2_with fail; refine hK.out _ _ ?_ (fun hHeld => ?_); (focus (exact through HB.out (Nat.le_refl _) hb)); clear hK K; (try simp only [List.setIfInBounds_toArray, List.set_cons_zero, List.set_cons_succ]))
        have HB := Lib.hid (through HB.out (Nat.le_refl _) hb)
        clear hb
        (refine held_one 28 (by kernel_rfl) ?_; simp only [List.getElem?_toArray, List.getElem?_cons_succ, List.getElem?_cons_zero]; intro K hK; go_simp)
        clear hHeld
        have hb : Below y14.heap.size y14 (y14.alloc (.cells #[.slice none 0 0] 49)) := (Below.refl _ _).alloc (Nat.le_refl _) _
        have KL := Lib.hid (Blk.new y14 49 #[.slice none 0 0])
        (go_wp2_with fail; refine hK.out _ _ ?_ (fun hHeld => ?_); (focus (exact through HB.out (Nat.le_refl _) hb)); clear hK K; (try simp only [List.setIfInBounds_toArray, List.set_cons_zero, List.set_cons_succ]))
        obtain ⟨bL, hbk⟩ : ∃ z, y14.heap.size = z := ⟨_, rfl⟩
        obtain ⟨y15, hY⟩ : ∃ Y, y14.alloc (.cells #[.slice none 0 0] 49) = Y := ⟨_, rfl⟩
        rw [hY] at hb KL
        rw [hbk] at KL
        (try rw [hY] at hHeld)
        (try rw [hY])
        (try rw [hbk])
        have HOg4 := Lib.hid ((HOg4.out.below hb).more hb.size)
        have HB := Lib.hid (through HB.out (Nat.le_refl _) hb)
        clear hb hY hbk
        (refine held_take 29 (by kernel_rfl) (by kernel_rfl) (by kernel_rfl) (by assumption) ?_; simp only [List.getElem?_toArray, List.getElem?_cons_succ, List.getElem?_cons_zero]; refine ⟨fun _ _ _ _ h => h, ?_, Or.inl ⟨by kernel_rfl, ?_⟩, ?_⟩; rotate_left; (focus (intro wS hSw; (try dsimp only at hSw); go_simp; try with_reducible rfl)); (try simp only [Act.put, List.setIfInBounds_toArray, List.set_cons_zero, List.set_cons_succ]))
        (refine held_one 30 (by kernel_rfl) ?_; simp only [List.getElem?_toArray, List.getElem?_cons_succ, List.getElem?_cons_zero]; intro K hK; go_simp)
        clear hHeld
        have hb : Below y15.heap.size y15 (y15.alloc (.cells #[.int .i64 0, .slice (some ⟨bL, 0, none⟩) 1 1] 47)) := (Below.refl _ _).alloc (Nat.le_refl _) _
        have KZ := Lib.hid (Blk.new y15 47 #[.int .i64 0, .slice (some ⟨bL, 0, none⟩) 1 1])
        (go_wp2_with fail; refine hK.out _ _ ?_ (fun hHeld => ?_); (focus (exact through HB.out (Nat.le_refl _) hb)); clear hK K; (try simp only [List.setIfInBounds_toArray, List.set_cons_zero, List.set_cons_succ]))
        obtain ⟨bZ, hbk⟩ : ∃ z, y15.heap.size = z := ⟨_, rfl⟩
        obtain ⟨y16, hY⟩ : ∃ Y, y15.alloc (.cells #[.int .i64 0, .slice (some ⟨bL, 0, none⟩) 1 1] 47) = Y := ⟨_, rfl⟩
        rw [hY] at hb KZ
        rw [hbk] at KZ
        (try rw [hY] at hHeld)
        (try rw [hY])
        (try rw [hbk])
        have hle : bL ≤ bZ := by have := KL.out.lt; omega
        have KL := Lib.hid (KL.out.below hb KL.out.lt)
        have HOg4 := Lib.hid ((HOg4.out.below hb).more hb.size)
        have HB := Lib.hid (through HB.out (Nat.le_refl _) hb)
        clear hb hY hbk
        refine held_listed (listed' := #[true, true, true, true, true, true, true, true, true, true, true, true, true, true, true, true, true, true, true, true, true, true, true, true, true, true, true, true, true, true, true, false, false, false, false]) (by kernel_rfl) ?_
        exact J g4 bL bZ y16 ⟨HB.out, ⟨_, HOg4.out⟩, mem_z KL.out KZ.out hle⟩ hHeld
      · (simp only [List.getElem?_toArray, List.getElem?_cons_succ, List.getElem?_cons_zero]; intro K hK; go_simp)
        clear hHeld
        have hb : Below y13.heap.size y13 (y13.alloc (.cells #[.slice none 0 0] 49)) := (Below.refl _ _).alloc (Nat.le_refl _) _
        have KL := Lib.hid (Blk.new y13 49 #[.slice none 0 0])
        (go_wp2_with fail; refine hK.out _ _ ?_ (fun hHeld => ?_); (focus (exact through HB.out (Nat.le_refl _) hb)); clear hK K; (try simp only [List.setIfInBounds_toArray, List.set_cons_zero, List.set_cons_succ]))
        obtain ⟨bL, hbk⟩ : ∃ z, y13.heap.size = z := ⟨_, rfl⟩
        obtain ⟨y17, hY⟩ : ∃ Y, y13.alloc (.cells #[.slice none 0 0] 49) = Y := ⟨_, rfl⟩
        rw [hY] at hb KL
        rw [hbk] at KL
        (try rw [hY] at hHeld)
        (try rw [hY])
        (try rw [hbk])
        have HB := Lib.hid (through HB.out (Nat.le_refl _) hb)
        clear hb hY hbk
        (refine held_take 29 (by kernel_rfl) (by kernel_rfl) (by kernel_rfl) (by assumption) ?_; simp only [List.getElem?_toArray, List.getElem?_cons_succ, List.getElem?_cons_zero]; refine ⟨fun _ _ _ _ h => h, ?_, Or.inl ⟨by kernel_rfl, ?_⟩, ?_⟩; rotate_left; (focus (intro wS hSw; (try dsimp only at hSw); go_simp; try with_reducible rfl)); (try simp only [Act.put, List.setIfInBounds_toArray, List.set_cons_zero, List.set_cons_succ]))
        refine held_two 27 30 (by kernel_rfl) ?_ ?_
        · (simp only [List.getElem?_toArray, List.getElem?_cons_succ, List.getElem?_cons_zero]; intro K hK; go_simp)
          clear hHeld
          refine (one_any y17).mono ?_
          rintro e y18 ⟨g4, qg4, rfl, hio, hb⟩
          have HOg4 := Lib.hid hio
          clear hio
          (go_wp2_with fail; refine hK.out _ _ ?_ (fun hHeld => ?_); (focus (exact through HB.out (Nat.le_refl _) hb)); clear hK K; (try simp only [List.setIfInBounds_toArray, List.set_cons_zero, List.set_cons_succ]))
          have KL := Lib.hid (KL.out.below hb KL.out.lt)
          have HB := Lib.hid (through HB.out (Nat.le_refl _) hb)
          clear hb
          (refine held_one 30 (by kernel_rfl) ?_; simp only [List.getElem?_toArray, List.getElem?_cons_succ, List.getElem?_cons_zero]; intro K hK; go_simp)
          clear hHeld
          have hb : Below y18.heap.size y18 (y18.alloc (.cells #[.int .i64 0, .slice (some ⟨bL, 0, none⟩) 1 1] 47)) := (Below.refl _ _).alloc (Nat.le_refl _) _
          have KZ := Lib.hid (Blk.new y18 47 #[.int .i64 0, .slice (some ⟨bL, 0, none⟩) 1 1])
          (go_wp2_with fail; refine hK.out _ _ ?_ (fun hHeld => ?_); (focus (exact through HB.out (Nat.le_refl _) hb)); clear hK K; (try simp only [List.setIfInBounds_toArray, List.set_cons_zero, List.set_cons_succ]))
          obtain ⟨bZ, hbk⟩ : ∃ z, y18.heap.size = z := ⟨_, rfl⟩
          obtain ⟨y19, hY⟩ : ∃ Y, y18.alloc (.cells #[.int .i64 0, .slice (some ⟨bL, 0, none⟩) 1 1] 47) = Y := ⟨_, rfl⟩
          rw [hY] at hb KZ
          rw [hbk] at KZ
          (try rw [hY] at hHeld)
          (try rw [hY])
          (try rw [hbk])
          have hle : bL ≤ bZ := by have := KL.out.lt; omega
          have KL := Lib.hid (KL.out.below hb KL.out.lt)
          have HOg4 := Lib.hid ((HOg4.out.below hb).more hb.size)
          have HB := Lib.hid (through HB.out (Nat.le_refl _) hb)
          clear hb hY hbk
          refine held_listed (listed' := #[true, true, true, true, true, true, true, true, true, true, true, true, true, true, true, true, true, true, true, true, true, true, true, true, true, true, true, true, true, true, true, false, false, false, false]) (by kernel_rfl) ?_
          exact J g4 bL bZ y19 ⟨HB.out, ⟨_, HOg4.out⟩, mem_z KL.out KZ.out hle⟩ hHeld
        · (simp only [List.getElem?_toArray, List.getElem?_cons_succ, List.getElem?_cons_zero]; intro K hK; go_simp)
          clear hHeld
          have hb : Below y17.heap.size y17 (y17.alloc (.cells #[.int .i64 0, .slice (some ⟨bL, 0, none⟩) 1 1] 47)) := (Below.refl _ _).alloc (Nat.le_refl _) _
          have KZ := Lib.hid (Blk.new y17 47 #[.int .i64 0, .slice (some ⟨bL, 0, none⟩) 1 1])
          (go_wp2_with fail; refine hK.out _ _ ?_ (fun hHeld => ?_); (focus (exact through HB.out (Nat.le_refl _) hb)); clear hK K; (try simp only [List.setIfInBounds_toArray, List.set_cons_zero, List.set_cons_succ]))
          obtain ⟨bZ, hbk⟩ : ∃ z, y17.heap.size = z := ⟨_, rfl⟩
          obtain ⟨y20, hY⟩ : ∃ Y, y17.alloc (.cells #[.int .i64 0, .slice (some ⟨bL, 0, none⟩) 1 1] 47) = Y := ⟨_, rfl⟩
          rw [hY] at hb KZ
          rw [hbk] at KZ
          (try rw [hY] at hHeld)
          (try rw [hY])
          (try rw [hbk])
          have hle : bL ≤ bZ := by have := KL.out.lt; omega
          have KL := Lib.hid (KL.out.below hb KL.out.lt)
          have HB := Lib.hid (through HB.out (Nat.le_refl _) hb)
          clear hb hY hbk
          (refine held_one 27 (by kernel_rfl) ?_; simp only [List.getElem?_toArray, List.getElem?_cons_succ, List.getElem?_cons_zero]; intro K hK; go_simp)
          clear hHeld
          refine (one_any y20).mono ?_
          rintro e y21 ⟨g4, qg4, rfl, hio, hb⟩
          have HOg4 := Lib.hid hio
          clear hio
          (go_wp2_with fail; refine hK.out _ _ ?_ (fun hHeld => ?_); (focus (exact through HB.out (Nat.le_refl _) hb)); clear hK K; (try simp only [List.setIfInBounds_toArray, List.set_cons_zero, List.set_cons_succ]))
          have KL := Lib.hid (KL.out.below hb KL.out.lt)
          have KZ := Lib.hid (KZ.out.below hb KZ.out.lt)
          have HB := Lib.hid (through HB.out (Nat.le_refl _) hb)
          clear hb
          refine held_listed (listed' := #[true, true, true, true, true, true, true, true, true, true, true, true, true, true, true, true, true, true, true, true, true, true, true, true, true, true, true, true, true, true, true, false, false, false, false]) (by kernel_rfl) ?_
          exact J g4 bL bZ y21 ⟨HB.out, ⟨_, HOg4.out⟩, mem_z KL.out KZ.out hle⟩ hHeld
    case rest =>
      intro g4 bL bZ y22 hR hHeld
      obtain ⟨hb0, ⟨q4, ho4⟩, hf4⟩ := hR
      have HB := Lib.hid hb0
      have HC := Lib.hid (chk_call ho4 (A := some ⟨bZ, 0, none⟩) (c := 1) (k := 1) hf4 rfl (by decide) (by rw [cnt_z]; omega) chk_z)
      clear hb0 ho4 hf4 HH0
      (refine held_one 31 (by kernel_rfl) ?_; simp only [List.getElem?_toArray, List.getElem?_cons_succ, List.getElem?_cons_zero]; intro K hK; go_simp)
      clear hHeld
      refine HC.out.mono ?_
      rintro e y23 ⟨rfl, hb⟩
      (go_wp2_with fail; refine hK.out _ _ ?_ (fun hHeld => ?_); (focus (exact through HB.out (Nat.le_refl _) hb)); clear hK K; (try simp only [List.setIfInBounds_toArray, List.set_cons_zero, List.set_cons_succ]))
      have HB := Lib.hid (through HB.out (Nat.le_refl _) hb)
      clear hb HC
      (refine held_take 32 (by kernel_rfl) (by kernel_rfl) (by kernel_rfl) (by assumption) ?_; simp only [List.getElem?_toArray, List.getElem?_cons_succ, List.getElem?_cons_zero]; refine ⟨fun _ _ _ _ h => h, ?_, Or.inl ⟨by kernel_rfl, ?_⟩, ?_⟩; rotate_left; (focus (intro wS hSw; (try dsimp only at hSw); go_simp; try with_reducible rfl)); (try simp only [Act.put, List.setIfInBounds_toArray, List.set_cons_zero, List.set_cons_succ]))
      (refine held_take 33 (by kernel_rfl) (by kernel_rfl) (by kernel_rfl) (by assumption) ?_; simp only [List.getElem?_toArray, List.getElem?_cons_succ, List.getElem?_cons_zero]; refine ⟨fun _ _ _ _ h => h, ?_, Or.inl ⟨by kernel_rfl, ?_⟩, ?_⟩; rotate_left; (focus (intro wS hSw; (try dsimp only at hSw); go_simp; try with_reducible rfl)); (try simp only [Act.put, List.setIfInBounds_toArray, List.set_cons_zero, List.set_cons_succ]))
      (refine held_take 34 (by kernel_rfl) (by kernel_rfl) (by kernel_rfl) (by assumption) ?_; simp only [List.getElem?_toArray, List.getElem?_cons_succ, List.getElem?_cons_zero]; refine ⟨fun _ _ _ _ h => h, ?_, Or.inl ⟨by kernel_rfl, ?_⟩, ?_⟩; rotate_left; (focus (intro wS hSw; (try dsimp only at hSw); go_simp; try with_reducible rfl)); (try simp only [Act.put, List.setIfInBounds_toArray, List.set_cons_zero, List.set_cons_succ]))
      (refine wpAnyH_done (by kernel_rfl) ?_ _)
      clear hHeld
      go_wp2_with fail
      go_returns
      exact ⟨rfl, by rw [hn]; exact through HWW.out (by omega) HB.out⟩
end Go.Proofs.Ytaodbjgcidkpkaa.Fd
