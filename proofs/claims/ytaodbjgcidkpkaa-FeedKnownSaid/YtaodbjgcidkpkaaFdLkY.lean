/- The law FeedKeys: keys rise, and are those of the records. -/
import Derived.Test.YtaodbjgcidkpkaaFdPkY
import Derived.Test.YtaodbjgcidkpkaaFdUY
import Derived.Test.YtaodbjgcidkpkaaFdOY

namespace Go.Proofs.Ytaodbjgcidkpkaa.Fd
open Go.ChangeShapes Go.WideShapes Go.ChangeAt Go.RowKit M Sp

theorem longB_no {fs : List Fp} (h : longB fs = false) : fs.length ≤ 20 ∧ prtF fs ≤ 100 ∧ cntF fs ≤ 600 := by
  unfold longB at h
  simp at h
  omega
set_option maxRecDepth 100000 in
set_option maxHeartbeats 8000000 in
theorem feedKeys_any (A : Option Addr) (c : Nat) (fs : List Fp) (w : World) (h : IsFeeds w w.heap.size A c fs) : Calls Try.prog 5 #[.slice A fs.length c] w fun e w' => e = .returned (.bool true) ∧ Below w.heap.size w w' := by
  have HH := Lib.hid h
  have HLG := Lib.hid (long_any A c fs w w.heap.size h)
  clear h
  cases hb : longB fs with
  | true =>
    rw [hb] at HLG
    go_enter Try.func5, Try.ntmps5
    go_wp2_with fail
    refine HLG.out.mono ?_
    rintro e w1 ⟨rfl, hb1⟩
    have HB1 := Lib.hid hb1
    clear hb1
    go_wp2_with fail
    refine (works_any w1).mono ?_
    rintro e w2 ⟨rfl, hb2⟩
    have HB2 := Lib.hid (through HB1.out (Nat.le_refl _) hb2)
    clear hb2
    go_wp2_with fail
    go_returns
    exact ⟨rfl, HB2.out⟩
  | false =>
    rw [hb] at HLG
    obtain ⟨h20, h100, h600⟩ := longB_no hb
    clear hb
    go_enter Try.func5, Try.ntmps5
    go_wp2_with fail
    refine HLG.out.mono ?_
    rintro e w1 ⟨rfl, hb1⟩
    have HB1 := Lib.hid hb1
    have HK := Lib.hid (keys_any A c fs w1 w.heap.size hb1.size (HH.out.below hb1) (by omega))
    clear hb1
    go_wp2_with fail
    refine HK.out.mono ?_
    rintro e w2 ⟨A2, c2, rfl, hown, hb2⟩
    have HI := Lib.hid hown.ints
    have HB2 := Lib.hid (through HB1.out (Nat.le_refl _) hb2)
    have HF := Lib.hid (HH.out.below HB2.out)
    have hw2 : w.heap.size ≤ w2.heap.size := HB2.out.size
    have hkl : (keysF fs).length ≤ 600 := Nat.le_trans (keysF_len fs) h600
    clear hown hb2 HK HLG HB1
    go_wp2_with fail
    go_loopw [4, 5] (fun n u wr => ∃ k : Nat, k ≤ (keysF fs).length ∧ u = .int .i64 k ∧ n = .int .i64 (kS fs ((keysF fs).take k) : Nat) ∧ Below w2.heap.size w2 wr) (fun _ u _ => (keysF fs).length - (intOf u).toNat)
    case atStart => exact ⟨0, by omega, rfl, by simp [kS], Below.refl _ _⟩
    case round =>
      obtain ⟨k, hk, rfl, rfl, hbl⟩ := hrel
      have HB := Lib.hid hbl
      clear hbl
      by_cases hlt : k < (keysF fs).length
      · obtain ⟨b4, o4, y, rfl, hb4, hy, -, k0⟩ := Sp.ints_at HI.out hlt
        have e0 := (HB.out.cell (p := ⟨b4, o4 + k, none⟩) (by show b4 < _; omega)).trans k0
        have HT1 := Lib.hid (kS_take (fs := fs) hlt hy.out)
        have HPOS := Lib.hid (kF_pos (fs := fs) (y := y) (hy.out ▸ Sp.getD_mem hlt))
        have HN1 := Lib.hid (show kS fs ((keysF fs).take k) + kF fs y ≤ 600 by
          have h1 := HT1.out
          have h2 := kS_le fs (keysF fs) (k + 1)
          have h3 := kS_all fs
          omega)
        generalize kS fs ((keysF fs).take k) = K0 at *
        by_cases hk0 : k = 0
        · have hkd : decide ((0 : Int) < (k : Int)) = false := decide_eq_false (by omega)
          have hkd2 : decide (0 < k) = false := decide_eq_false (by omega)
          have HK0 := Lib.hid hk0
          clear hk0
          go_upto_region 8 with (fail)
          go_quiet (fail)
          obtain ⟨wq, hwq⟩ : ∃ Z, wr.drewN nq = Z := ⟨_, rfl⟩
          have HB := Lib.hid (show Below w2.heap.size w2 wq from hwq ▸ below_drewN HB.out nq)
          rw [hwq]
          clear hwq
          go_upto_region 11 with (fail)
          clear e0
          go_wp2_with fail
          go_loopw [4, 7] (fun n u wr => ∃ i : Nat, i ≤ fs.length ∧ u = .int .i64 i ∧ n = .int .i64 (K0 + kF (fs.take i) y : Nat) ∧ Below w2.heap.size w2 wr) (fun _ u _ => fs.length - (intOf u).toNat)
          case atStart => exact ⟨0, by omega, rfl, by simp [kF], HB.out⟩
          case round =>
            clear HB
            obtain ⟨i, hi, rfl, rfl, hbl⟩ := hrel
            have HB := Lib.hid hbl
            clear hbl
            by_cases hlt : i < fs.length
            · obtain ⟨b, o, f, A', c', rfl, hb, HV, -, -, c1, hli⟩ := feeds_at HF.out hlt
              have e1 := (HB.out.cell (p := ⟨b, o + i * 2 + 1, none⟩) (by show b < _; omega)).trans c1
              have hll := hli.len
              unfold LB at hll
              have HT2 := Lib.hid (kF_take (y := y) hlt HV.out)
              have HN2 := Lib.hid (show K0 + kF (fs.take i) y + kL f.parts y ≤ 600 by
                have h1 := HT2.out
                have h2 := kF_le fs y (i + 1)
                have h3 := HN1.out
                omega)
              have HCF := Lib.hid (Nat.le_trans (cntF_mem (fs := fs) (f := f) (HV.out ▸ feeds_mem hlt)) h600)
              go_wp2_with fail
              go_loopw [4, 8] (fun n u wr => ∃ j : Nat, j ≤ f.parts.length ∧ u = .int .i64 j ∧ n = .int .i64 (K0 + kF (fs.take i) y + kL (f.parts.take j) y : Nat) ∧ Below w2.heap.size w2 wr) (fun _ u _ => f.parts.length - (intOf u).toNat)
              case atStart => exact ⟨0, by omega, rfl, by simp [kL], HB.out⟩
              case round =>
                clear HB e1
                obtain ⟨j, hj, rfl, rfl, hbl⟩ := hrel
                have HB := Lib.hid hbl
                clear hbl
                by_cases hltj : j < f.parts.length
                · obtain ⟨b2, o2, r, A3, c3, rfl, hb2, HV2, d0, hrr⟩ := lists_at (hli.below (HB.out.mono hw2)) hltj
                  have e1 := (HB.out.cell (p := ⟨b, o + i * 2 + 1, none⟩) (by show b < _; omega)).trans c1
                  have e4 := (HB.out.cell (p := ⟨b4, o4 + k, none⟩) (by show b4 < _; omega)).trans k0
                  have HRR := Lib.hid hrr
                  have HT3 := Lib.hid (kL_take (y := y) hltj HV2.out)
                  have hof := ofF_len r y
                  have HN3 := Lib.hid (show K0 + kF (fs.take i) y + kL (f.parts.take j) y + (ofF r y).length ≤ 600 by
                    have h1 := HT3.out
                    have h2 := kL_le f.parts y (j + 1)
                    have h3 := HN2.out
                    omega)
                  have hrl : r.length ≤ 1000000 := by
                    have h1 := cntL_mem (ls := f.parts) (r := r) (HV2.out ▸ lists_mem hltj)
                    have h2 := HCF.out
                    omega
                  generalize kL (f.parts.take j) y = K2 at *
                  generalize kF (fs.take i) y = K1 at *
                  have hbw : b < wr.heap.size := by have := HB.out.size; omega
                  have hbw2 : b2 < wr.heap.size := by have := HB.out.size; omega
                  have hbw4 : b4 < wr.heap.size := by have := HB.out.size; omega
                  have hjn : (j : Int) < (f.parts.length : Int) := by omega
                  have HST : Hid (∀ Z, Below wr.heap.size wr Z → (fun (Z : World) => Z.cell? ⟨b, o + i * 2 + 1, none⟩ = some (.slice (some ⟨b2, o2, none⟩) f.parts.length c') ∧ Z.cell? ⟨b2, o2 + j, none⟩ = some (.slice A3 r.length c3) ∧ Z.cell? ⟨b4, o4 + k, none⟩ = some (.int .i64 y)) Z) := fun Z hZ => by
                    have h0 : ∀ {g o : Nat} {v : Value}, g < wr.heap.size → wr.cell? ⟨g, o, none⟩ = some v → Z.cell? ⟨g, o, none⟩ = some v := fun hg hv => (hZ.cell hg).trans hv
                    exact ⟨h0 hbw e1, h0 hbw2 d0, h0 hbw4 e4⟩
                  clear hrr
                  go_upto_region 17 with (fail)
                  clear e1 d0 e4
                  refine wp_region_held_drew (S := (fun (Z : World) => Z.cell? ⟨b, o + i * 2 + 1, none⟩ = some (.slice (some ⟨b2, o2, none⟩) f.parts.length c') ∧ Z.cell? ⟨b2, o2 + j, none⟩ = some (.slice A3 r.length c3) ∧ Z.cell? ⟨b4, o4 + k, none⟩ = some (.int .i64 y))) (by kernel_rfl) (HST.out _ (Below.refl _ _).drew) (fun hHeld => ?_)
                  have HBD := Lib.hid (show Below wr.heap.size wr wr.drew from (Below.refl _ _).drew)
                  obtain ⟨y0, hy0⟩ : ∃ Z, wr.drew = Z := ⟨_, rfl⟩
                  rw [hy0] at HBD hHeld ⊢
                  clear hy0
                  (refine held_take 0 (by kernel_rfl) (by kernel_rfl) (by kernel_rfl) (by assumption) ?_; simp only [List.getElem?_toArray, List.getElem?_cons_zero]; refine ⟨fun _ _ _ _ h => h, ?_, Or.inl ⟨by kernel_rfl, ?_⟩, ?_⟩; rotate_left; (focus (intro wS hSw; (try dsimp only at hSw); go_simp; try with_reducible rfl)); (try simp only [Act.put, List.setIfInBounds_toArray, List.set_cons_zero, List.set_cons_succ]))
                  (refine held_take 1 (by kernel_rfl) (by kernel_rfl) (by kernel_rfl) (by assumption) ?_; simp only [List.getElem?_toArray, List.getElem?_cons_succ, List.getElem?_cons_zero]; refine ⟨fun _ _ _ _ h => h, ?_, Or.inl ⟨by kernel_rfl, ?_⟩, ?_⟩; rotate_left; (focus (intro wS hSw; (try dsimp only at hSw); go_simp; try with_reducible rfl)); (try simp only [Act.put, List.setIfInBounds_toArray, List.set_cons_zero, List.set_cons_succ]))
                  (refine held_take 2 (by kernel_rfl) (by kernel_rfl) (by kernel_rfl) (by assumption) ?_; simp only [List.getElem?_toArray, List.getElem?_cons_succ, List.getElem?_cons_zero]; refine ⟨fun _ _ _ _ h => h, ?_, Or.inl ⟨by kernel_rfl, ?_⟩, ?_⟩; rotate_left; (focus (intro wS hSw; (try dsimp only at hSw); go_simp; try with_reducible rfl)); (try simp only [Act.put, List.setIfInBounds_toArray, List.set_cons_zero, List.set_cons_succ]))
                  (refine held_take 3 (by kernel_rfl) (by kernel_rfl) (by kernel_rfl) (by assumption) ?_; simp only [List.getElem?_toArray, List.getElem?_cons_succ, List.getElem?_cons_zero]; refine ⟨fun _ _ _ _ h => h, ?_, Or.inl ⟨by kernel_rfl, ?_⟩, ?_⟩; rotate_left; (focus (intro wS hSw; (try dsimp only at hSw); go_simp; try with_reducible rfl)); (try simp only [Act.put, List.setIfInBounds_toArray, List.set_cons_zero, List.set_cons_succ]))
                  (refine held_take 4 (by kernel_rfl) (by kernel_rfl) (by kernel_rfl) (by assumption) ?_; simp only [List.getElem?_toArray, List.getElem?_cons_succ, List.getElem?_cons_zero]; refine ⟨fun _ _ _ _ h => h, ?_, Or.inl ⟨by kernel_rfl, ?_⟩, ?_⟩; rotate_left; (focus (intro wS hSw; (try dsimp only at hSw); go_simp; try with_reducible rfl)); (try simp only [Act.put, List.setIfInBounds_toArray, List.set_cons_zero, List.set_cons_succ]))
                  (refine held_take 5 (by kernel_rfl) (by kernel_rfl) (by kernel_rfl) (by assumption) ?_; simp only [List.getElem?_toArray, List.getElem?_cons_succ, List.getElem?_cons_zero]; refine ⟨fun _ _ _ _ h => h, ?_, Or.inl ⟨by kernel_rfl, ?_⟩, ?_⟩; rotate_left; (focus (intro wS hSw; (try dsimp only at hSw); go_simp; try with_reducible rfl)); (try simp only [Act.put, List.setIfInBounds_toArray, List.set_cons_zero, List.set_cons_succ]))
                  (refine held_take 6 (by kernel_rfl) (by kernel_rfl) (by kernel_rfl) (by assumption) ?_; simp only [List.getElem?_toArray, List.getElem?_cons_succ, List.getElem?_cons_zero]; refine ⟨fun _ _ _ _ h => h, ?_, Or.inl ⟨by kernel_rfl, ?_⟩, ?_⟩; rotate_left; (focus (intro wS hSw; (try dsimp only at hSw); go_simp; try with_reducible rfl)); (try simp only [Act.put, List.setIfInBounds_toArray, List.set_cons_zero, List.set_cons_succ]))
                  (refine held_take 7 (by kernel_rfl) (by kernel_rfl) (by kernel_rfl) (by assumption) ?_; simp only [List.getElem?_toArray, List.getElem?_cons_succ, List.getElem?_cons_zero]; refine ⟨fun _ _ _ _ h => h, ?_, Or.inl ⟨by kernel_rfl, ?_⟩, ?_⟩; rotate_left; (focus (intro wS hSw; (try dsimp only at hSw); go_simp; try with_reducible rfl)); (try simp only [Act.put, List.setIfInBounds_toArray, List.set_cons_zero, List.set_cons_succ]))
                  (refine held_take 8 (by kernel_rfl) (by kernel_rfl) (by kernel_rfl) (by assumption) ?_; simp only [List.getElem?_toArray, List.getElem?_cons_succ, List.getElem?_cons_zero]; refine ⟨fun _ _ _ _ h => h, ?_, Or.inl ⟨by kernel_rfl, ?_⟩, ?_⟩; rotate_left; (focus (intro wS hSw; (try dsimp only at hSw); go_simp; try with_reducible rfl)); (try simp only [Act.put, List.setIfInBounds_toArray, List.set_cons_zero, List.set_cons_succ]))
                  (refine held_take 9 (by kernel_rfl) (by kernel_rfl) (by kernel_rfl) (by assumption) ?_; simp only [List.getElem?_toArray, List.getElem?_cons_succ, List.getElem?_cons_zero]; refine ⟨fun _ _ _ _ h => h, ?_, Or.inl ⟨by kernel_rfl, ?_⟩, ?_⟩; rotate_left; (focus (intro wS hSw; (try dsimp only at hSw); go_simp; try with_reducible rfl)); (try simp only [Act.put, List.setIfInBounds_toArray, List.set_cons_zero, List.set_cons_succ]))
                  (refine held_take 10 (by kernel_rfl) (by kernel_rfl) (by kernel_rfl) (by assumption) ?_; simp only [List.getElem?_toArray, List.getElem?_cons_succ, List.getElem?_cons_zero]; refine ⟨fun _ _ _ _ h => h, ?_, Or.inl ⟨by kernel_rfl, ?_⟩, ?_⟩; rotate_left; (focus (intro wS hSw; (try dsimp only at hSw); go_simp; try with_reducible rfl)); (try simp only [Act.put, List.setIfInBounds_toArray, List.set_cons_zero, List.set_cons_succ]))
                  (refine held_take 11 (by kernel_rfl) (by kernel_rfl) (by kernel_rfl) (by assumption) ?_; simp only [List.getElem?_toArray, List.getElem?_cons_succ, List.getElem?_cons_zero]; refine ⟨fun _ _ _ _ h => h, ?_, Or.inl ⟨by kernel_rfl, ?_⟩, ?_⟩; rotate_left; (focus (intro wS hSw; (try dsimp only at hSw); go_simp; try with_reducible rfl)); (try simp only [Act.put, List.setIfInBounds_toArray, List.set_cons_zero, List.set_cons_succ]))
                  (refine held_take 12 (by kernel_rfl) (by kernel_rfl) (by kernel_rfl) (by assumption) ?_; simp only [List.getElem?_toArray, List.getElem?_cons_succ, List.getElem?_cons_zero]; refine ⟨fun _ _ _ _ h => h, ?_, Or.inl ⟨by kernel_rfl, ?_⟩, ?_⟩; rotate_left; (focus (intro wS hSw; (try dsimp only at hSw); go_simp; try with_reducible rfl)); (try simp only [Act.put, List.setIfInBounds_toArray, List.set_cons_zero, List.set_cons_succ]))
                  have HOF := Lib.hid (of_any A3 c3 r y y0 w.heap.size (by have h1 := HB.out.size; have h2 := HBD.out.size; omega) (HRR.out.below (HBD.out.mono (by have h1 := HB.out.size; omega))) hrl)
                  (refine held_one 13 (by kernel_rfl) ?_; simp only [List.getElem?_toArray, List.getElem?_cons_succ, List.getElem?_cons_zero]; intro K hK; go_simp)
                  clear hHeld
                  refine HOF.out.mono ?_
                  rintro e y1 ⟨A5, c5, rfl, hown, hb⟩
                  clear hown
                  (go_wp2_with fail; refine hK.out _ _ ?_ (fun hHeld => ?_); (focus (exact HST.out _ (through HBD.out (Nat.le_refl _) hb))); clear hK K; (try simp only [Act.put, List.setIfInBounds_toArray, List.set_cons_zero, List.set_cons_succ]))
                  have HB1 := Lib.hid (through HB.out (Nat.le_refl _) (through HBD.out (Nat.le_refl _) hb))
                  clear hb HOF
                  have hs1 : (K0 : Int) + (K1 : Int) + (K2 : Int) + ((ofF r y).length : Int) ≤ 9223372036854775807 := by have := HN3.out; omega
                  have hw9 : IntKind.i64.wrap ((K0 : Int) + (K1 : Int) + (K2 : Int) + ((ofF r y).length : Int)) = (K0 : Int) + (K1 : Int) + (K2 : Int) + ((ofF r y).length : Int) := by rw [IntKind.wrap_i64]; omega
                  (refine held_take 14 (by kernel_rfl) (by kernel_rfl) (by kernel_rfl) (by assumption) ?_; simp only [List.getElem?_toArray, List.getElem?_cons_succ, List.getElem?_cons_zero]; refine ⟨fun _ _ _ _ h => h, ?_, Or.inl ⟨by kernel_rfl, ?_⟩, ?_⟩; rotate_left; (focus (intro wS hSw; (try dsimp only at hSw); go_simp; try with_reducible rfl)); (try simp only [Act.put, List.setIfInBounds_toArray, List.set_cons_zero, List.set_cons_succ]))
                  (refine held_take 15 (by kernel_rfl) (by kernel_rfl) (by kernel_rfl) (by assumption) ?_; simp only [List.getElem?_toArray, List.getElem?_cons_succ, List.getElem?_cons_zero]; refine ⟨fun _ _ _ _ h => h, ?_, Or.inl ⟨by kernel_rfl, ?_⟩, ?_⟩; rotate_left; (focus (intro wS hSw; (try dsimp only at hSw); go_simp; try with_reducible rfl)); (try simp only [Act.put, List.setIfInBounds_toArray, List.set_cons_zero, List.set_cons_succ]))
                  (refine held_take 16 (by kernel_rfl) (by kernel_rfl) (by kernel_rfl) (by assumption) ?_; simp only [List.getElem?_toArray, List.getElem?_cons_succ, List.getElem?_cons_zero]; refine ⟨fun _ _ _ _ h => h, ?_, Or.inl ⟨by kernel_rfl, ?_⟩, ?_⟩; rotate_left; (focus (intro wS hSw; (try dsimp only at hSw); go_simp; try with_reducible rfl)); (try simp only [Act.put, List.setIfInBounds_toArray, List.set_cons_zero, List.set_cons_succ]))
                  (refine wpAnyH_done (by kernel_rfl) ?_ _)
                  clear hHeld HB
                  go_wp2_with fail
                  go_roundw
                  case rel => exact ⟨j + 1, by omega, by go_num, by rw [HT3.out, ← Nat.add_assoc]; first | rfl | (push_cast; rfl) | go_num, HB1.out⟩
                  case measure => simp [intOf]; omega
                · obtain rfl : j = f.parts.length := by omega
                  have e1 := (HB.out.cell (p := ⟨b, o + i * 2 + 1, none⟩) (by show b < _; omega)).trans c1
                  rw [List.take_length]
                  go_wp2_with fail
                  go_roundw
                  case rel => exact ⟨i + 1, by omega, by go_num, by rw [HT2.out, ← Nat.add_assoc], HB.out⟩
                  case measure => simp [intOf]; omega
            · obtain rfl : i = fs.length := by omega
              rw [List.take_length]
              have hne : ¬ ((K0 + kF fs y : Nat) : Int) = (K0 : Int) := by have := HPOS.out; omega
              have hne2 : ((K0 : Int) + (kF fs y : Int) = (K0 : Int)) = False := by simp; have := HPOS.out; omega
              go_wp2_with fail
              go_roundw
              case rel => exact ⟨k + 1, by omega, by go_num, by rw [HT1.out], HB.out⟩
              case measure => simp [intOf]; omega
        · obtain ⟨z, hz⟩ : ∃ z : Nat, k - 1 = z := ⟨_, rfl⟩
          obtain ⟨b5, o5, y5, he5, hb5, hy5, -, k5⟩ := Sp.ints_at HI.out (k := z) (by omega)
          simp only [Option.some.injEq, Addr.mk.injEq, and_true] at he5
          obtain ⟨rfl, rfl⟩ := he5
          have e5 := (HB.out.cell (p := ⟨b4, o4 + z, none⟩) (by show b4 < _; omega)).trans k5
          have hlt5 : ¬ y ≤ y5 := by
            have := rise_at (keysF_rise fs) (j := z) (k := k) (by omega) hlt
            rw [hy.out, hy5.out] at this
            omega
          have hw5 : IntKind.i64.wrap ((k : Int) - 1) = (z : Int) := by rw [IntKind.wrap_i64]; omega
          have hz1 : (z : Int) < ((keysF fs).length : Int) := by omega
          have hz0 : (0 : Int) ≤ (z : Int) := by omega
          have hkn : (k : Int) < ((keysF fs).length : Int) := by omega
          have hle5 : decide (y ≤ y5) = false := decide_eq_false hlt5
          have hkd : decide ((0 : Int) < (k : Int)) = true := decide_eq_true (by omega)
          have hk2 : 0 < k := by omega
          have hkd2 : decide (0 < k) = true := decide_eq_true (by omega)
          have hk1 : (0 : Int) < (k : Int) := by omega
          go_upto_region 8 with (fail)
          refine wp_region_held_drew (S := (fun (Z : World) => Z.cell? ⟨b4, o4 + k, none⟩ = some (.int .i64 y) ∧ Z.cell? ⟨b4, o4 + z, none⟩ = some (.int .i64 y5))) (by kernel_rfl) ⟨e0, e5⟩ (fun hHeld => ?_)
          have HB := Lib.hid HB.out.drew
          obtain ⟨y0, hy0⟩ : ∃ Z, wr.drew = Z := ⟨_, rfl⟩
          rw [hy0] at HB hHeld ⊢
          clear hy0
          (refine held_take 0 (by kernel_rfl) (by kernel_rfl) (by kernel_rfl) (by assumption) ?_; simp only [List.getElem?_toArray, List.getElem?_cons_zero]; refine ⟨fun _ _ _ _ h => h, ?_, Or.inl ⟨by kernel_rfl, ?_⟩, ?_⟩; rotate_left; (focus (intro wS hSw; (try dsimp only at hSw); go_simp; try with_reducible rfl)); (try simp only [Act.put, List.setIfInBounds_toArray, List.set_cons_zero, List.set_cons_succ]))
          (refine held_take 1 (by kernel_rfl) (by kernel_rfl) (by kernel_rfl) (by assumption) ?_; simp only [List.getElem?_toArray, List.getElem?_cons_succ, List.getElem?_cons_zero]; refine ⟨fun _ _ _ _ h => h, ?_, Or.inl ⟨by kernel_rfl, ?_⟩, ?_⟩; rotate_left; (focus (intro wS hSw; (try dsimp only at hSw); go_simp; try with_reducible rfl)); (try simp only [Act.put, List.setIfInBounds_toArray, List.set_cons_zero, List.set_cons_succ]))
          (refine held_take 2 (by kernel_rfl) (by kernel_rfl) (by kernel_rfl) (by assumption) ?_; simp only [List.getElem?_toArray, List.getElem?_cons_succ, List.getElem?_cons_zero]; refine ⟨fun _ _ _ _ h => h, ?_, Or.inl ⟨by kernel_rfl, ?_⟩, ?_⟩; rotate_left; (focus (intro wS hSw; (try dsimp only at hSw); go_simp; try with_reducible rfl)); (try simp only [Act.put, List.setIfInBounds_toArray, List.set_cons_zero, List.set_cons_succ]))
          (refine held_take 3 (by kernel_rfl) (by kernel_rfl) (by kernel_rfl) (by assumption) ?_; simp only [List.getElem?_toArray, List.getElem?_cons_succ, List.getElem?_cons_zero]; refine ⟨fun _ _ _ _ h => h, ?_, Or.inl ⟨by kernel_rfl, ?_⟩, ?_⟩; rotate_left; (focus (intro wS hSw; (try dsimp only at hSw); go_simp; try with_reducible rfl)); (try simp only [Act.put, List.setIfInBounds_toArray, List.set_cons_zero, List.set_cons_succ]))
          (refine held_take 4 (by kernel_rfl) (by kernel_rfl) (by kernel_rfl) (by assumption) ?_; simp only [List.getElem?_toArray, List.getElem?_cons_succ, List.getElem?_cons_zero]; refine ⟨fun _ _ _ _ h => h, ?_, Or.inl ⟨by kernel_rfl, ?_⟩, ?_⟩; rotate_left; (focus (intro wS hSw; (try dsimp only at hSw); go_simp; try with_reducible rfl)); (try simp only [Act.put, List.setIfInBounds_toArray, List.set_cons_zero, List.set_cons_succ]))
          (refine held_take 5 (by kernel_rfl) (by kernel_rfl) (by kernel_rfl) (by assumption) ?_; simp only [List.getElem?_toArray, List.getElem?_cons_succ, List.getElem?_cons_zero]; refine ⟨fun _ _ _ _ h => h, ?_, Or.inl ⟨by kernel_rfl, ?_⟩, ?_⟩; rotate_left; (focus (intro wS hSw; (try dsimp only at hSw); go_simp; try with_reducible rfl)); (try simp only [Act.put, List.setIfInBounds_toArray, List.set_cons_zero, List.set_cons_succ]))
          (refine held_take 6 (by kernel_rfl) (by kernel_rfl) (by kernel_rfl) (by assumption) ?_; simp only [List.getElem?_toArray, List.getElem?_cons_succ, List.getElem?_cons_zero]; refine ⟨fun _ _ _ _ h => h, ?_, Or.inl ⟨by kernel_rfl, ?_⟩, ?_⟩; rotate_left; (focus (intro wS hSw; (try dsimp only at hSw); go_simp; try with_reducible rfl)); (try simp only [Act.put, List.setIfInBounds_toArray, List.set_cons_zero, List.set_cons_succ]))
          (refine held_take 7 (by kernel_rfl) (by kernel_rfl) (by kernel_rfl) (by assumption) ?_; simp only [List.getElem?_toArray, List.getElem?_cons_succ, List.getElem?_cons_zero]; refine ⟨fun _ _ _ _ h => h, ?_, Or.inl ⟨by kernel_rfl, ?_⟩, ?_⟩; rotate_left; (focus (intro wS hSw; (try dsimp only at hSw); go_simp; try with_reducible rfl)); (try simp only [Act.put, List.setIfInBounds_toArray, List.set_cons_zero, List.set_cons_succ]))
          (refine held_take 8 (by kernel_rfl) (by kernel_rfl) (by kernel_rfl) (by assumption) ?_; simp only [List.getElem?_toArray, List.getElem?_cons_succ, List.getElem?_cons_zero]; refine ⟨fun _ _ _ _ h => h, ?_, Or.inl ⟨by kernel_rfl, ?_⟩, ?_⟩; rotate_left; (focus (intro wS hSw; (try dsimp only at hSw); go_simp; try with_reducible rfl)); (try simp only [Act.put, List.setIfInBounds_toArray, List.set_cons_zero, List.set_cons_succ]))
          (refine held_take 9 (by kernel_rfl) (by kernel_rfl) (by kernel_rfl) (by assumption) ?_; simp only [List.getElem?_toArray, List.getElem?_cons_succ, List.getElem?_cons_zero]; refine ⟨fun _ _ _ _ h => h, ?_, Or.inl ⟨by kernel_rfl, ?_⟩, ?_⟩; rotate_left; (focus (intro wS hSw; (try dsimp only at hSw); go_simp; try with_reducible rfl)); (try simp only [Act.put, List.setIfInBounds_toArray, List.set_cons_zero, List.set_cons_succ]))
          (refine held_take 10 (by kernel_rfl) (by kernel_rfl) (by kernel_rfl) (by assumption) ?_; simp only [List.getElem?_toArray, List.getElem?_cons_succ, List.getElem?_cons_zero]; refine ⟨fun _ _ _ _ h => h, ?_, Or.inl ⟨by kernel_rfl, ?_⟩, ?_⟩; rotate_left; (focus (intro wS hSw; (try dsimp only at hSw); go_simp; try with_reducible rfl)); (try simp only [Act.put, List.setIfInBounds_toArray, List.set_cons_zero, List.set_cons_succ]))
          (refine held_take 11 (by kernel_rfl) (by kernel_rfl) (by kernel_rfl) (by assumption) ?_; simp only [List.getElem?_toArray, List.getElem?_cons_succ, List.getElem?_cons_zero]; refine ⟨fun _ _ _ _ h => h, ?_, Or.inl ⟨by kernel_rfl, ?_⟩, ?_⟩; rotate_left; (focus (intro wS hSw; (try dsimp only at hSw); go_simp; try with_reducible rfl)); (try simp only [Act.put, List.setIfInBounds_toArray, List.set_cons_zero, List.set_cons_succ]))
          (refine held_take 12 (by kernel_rfl) (by kernel_rfl) (by kernel_rfl) (by assumption) ?_; simp only [List.getElem?_toArray, List.getElem?_cons_succ, List.getElem?_cons_zero]; refine ⟨fun _ _ _ _ h => h, ?_, Or.inl ⟨by kernel_rfl, ?_⟩, ?_⟩; rotate_left; (focus (intro wS hSw; (try dsimp only at hSw); go_simp; try with_reducible rfl)); (try simp only [Act.put, List.setIfInBounds_toArray, List.set_cons_zero, List.set_cons_succ]))
          (refine held_take 13 (by kernel_rfl) (by kernel_rfl) (by kernel_rfl) (by assumption) ?_; simp only [List.getElem?_toArray, List.getElem?_cons_succ, List.getElem?_cons_zero]; refine ⟨fun _ _ _ _ h => h, ?_, Or.inl ⟨by kernel_rfl, ?_⟩, ?_⟩; rotate_left; (focus (intro wS hSw; (try dsimp only at hSw); go_simp; try with_reducible rfl)); (try simp only [Act.put, List.setIfInBounds_toArray, List.set_cons_zero, List.set_cons_succ]))
          (refine wpAnyH_done (by kernel_rfl) ?_ _)
          clear hHeld
          go_upto_region 11 with (fail)
          clear e0 e5
          go_wp2_with fail
          go_loopw [4, 7] (fun n u wr => ∃ i : Nat, i ≤ fs.length ∧ u = .int .i64 i ∧ n = .int .i64 (K0 + kF (fs.take i) y : Nat) ∧ Below w2.heap.size w2 wr) (fun _ u _ => fs.length - (intOf u).toNat)
          case atStart => exact ⟨0, by omega, rfl, by simp [kF], HB.out⟩
          case round =>
            clear HB
            obtain ⟨i, hi, rfl, rfl, hbl⟩ := hrel
            have HB := Lib.hid hbl
            clear hbl
            by_cases hlt : i < fs.length
            · obtain ⟨b, o, f, A', c', rfl, hb, HV, -, -, c1, hli⟩ := feeds_at HF.out hlt
              have e1 := (HB.out.cell (p := ⟨b, o + i * 2 + 1, none⟩) (by show b < _; omega)).trans c1
              have hll := hli.len
              unfold LB at hll
              have HT2 := Lib.hid (kF_take (y := y) hlt HV.out)
              have HN2 := Lib.hid (show K0 + kF (fs.take i) y + kL f.parts y ≤ 600 by
                have h1 := HT2.out
                have h2 := kF_le fs y (i + 1)
                have h3 := HN1.out
                omega)
              have HCF := Lib.hid (Nat.le_trans (cntF_mem (fs := fs) (f := f) (HV.out ▸ feeds_mem hlt)) h600)
              go_wp2_with fail
              go_loopw [4, 8] (fun n u wr => ∃ j : Nat, j ≤ f.parts.length ∧ u = .int .i64 j ∧ n = .int .i64 (K0 + kF (fs.take i) y + kL (f.parts.take j) y : Nat) ∧ Below w2.heap.size w2 wr) (fun _ u _ => f.parts.length - (intOf u).toNat)
              case atStart => exact ⟨0, by omega, rfl, by simp [kL], HB.out⟩
              case round =>
                clear HB e1
                obtain ⟨j, hj, rfl, rfl, hbl⟩ := hrel
                have HB := Lib.hid hbl
                clear hbl
                by_cases hltj : j < f.parts.length
                · obtain ⟨b2, o2, r, A3, c3, rfl, hb2, HV2, d0, hrr⟩ := lists_at (hli.below (HB.out.mono hw2)) hltj
                  have e1 := (HB.out.cell (p := ⟨b, o + i * 2 + 1, none⟩) (by show b < _; omega)).trans c1
                  have e4 := (HB.out.cell (p := ⟨b4, o4 + k, none⟩) (by show b4 < _; omega)).trans k0
                  have HRR := Lib.hid hrr
                  have HT3 := Lib.hid (kL_take (y := y) hltj HV2.out)
                  have hof := ofF_len r y
                  have HN3 := Lib.hid (show K0 + kF (fs.take i) y + kL (f.parts.take j) y + (ofF r y).length ≤ 600 by
                    have h1 := HT3.out
                    have h2 := kL_le f.parts y (j + 1)
                    have h3 := HN2.out
                    omega)
                  have hrl : r.length ≤ 1000000 := by
                    have h1 := cntL_mem (ls := f.parts) (r := r) (HV2.out ▸ lists_mem hltj)
                    have h2 := HCF.out
                    omega
                  generalize kL (f.parts.take j) y = K2 at *
                  generalize kF (fs.take i) y = K1 at *
                  have hbw : b < wr.heap.size := by have := HB.out.size; omega
                  have hbw2 : b2 < wr.heap.size := by have := HB.out.size; omega
                  have hbw4 : b4 < wr.heap.size := by have := HB.out.size; omega
                  have hjn : (j : Int) < (f.parts.length : Int) := by omega
                  have HST : Hid (∀ Z, Below wr.heap.size wr Z → (fun (Z : World) => Z.cell? ⟨b, o + i * 2 + 1, none⟩ = some (.slice (some ⟨b2, o2, none⟩) f.parts.length c') ∧ Z.cell? ⟨b2, o2 + j, none⟩ = some (.slice A3 r.length c3) ∧ Z.cell? ⟨b4, o4 + k, none⟩ = some (.int .i64 y)) Z) := fun Z hZ => by
                    have h0 : ∀ {g o : Nat} {v : Value}, g < wr.heap.size → wr.cell? ⟨g, o, none⟩ = some v → Z.cell? ⟨g, o, none⟩ = some v := fun hg hv => (hZ.cell hg).trans hv
                    exact ⟨h0 hbw e1, h0 hbw2 d0, h0 hbw4 e4⟩
                  clear hrr
                  go_upto_region 17 with (fail)
                  clear e1 d0 e4
                  refine wp_region_held_drew (S := (fun (Z : World) => Z.cell? ⟨b, o + i * 2 + 1, none⟩ = some (.slice (some ⟨b2, o2, none⟩) f.parts.length c') ∧ Z.cell? ⟨b2, o2 + j, none⟩ = some (.slice A3 r.length c3) ∧ Z.cell? ⟨b4, o4 + k, none⟩ = some (.int .i64 y))) (by kernel_rfl) (HST.out _ (Below.refl _ _).drew) (fun hHeld => ?_)
                  have HBD := Lib.hid (show Below wr.heap.size wr wr.drew from (Below.refl _ _).drew)
                  obtain ⟨y0, hy0⟩ : ∃ Z, wr.drew = Z := ⟨_, rfl⟩
                  rw [hy0] at HBD hHeld ⊢
                  clear hy0
                  (refine held_take 0 (by kernel_rfl) (by kernel_rfl) (by kernel_rfl) (by assumption) ?_; simp only [List.getElem?_toArray, List.getElem?_cons_zero]; refine ⟨fun _ _ _ _ h => h, ?_, Or.inl ⟨by kernel_rfl, ?_⟩, ?_⟩; rotate_left; (focus (intro wS hSw; (try dsimp only at hSw); go_simp; try with_reducible rfl)); (try simp only [Act.put, List.setIfInBounds_toArray, List.set_cons_zero, List.set_cons_succ]))
                  (refine held_take 1 (by kernel_rfl) (by kernel_rfl) (by kernel_rfl) (by assumption) ?_; simp only [List.getElem?_toArray, List.getElem?_cons_succ, List.getElem?_cons_zero]; refine ⟨fun _ _ _ _ h => h, ?_, Or.inl ⟨by kernel_rfl, ?_⟩, ?_⟩; rotate_left; (focus (intro wS hSw; (try dsimp only at hSw); go_simp; try with_reducible rfl)); (try simp only [Act.put, List.setIfInBounds_toArray, List.set_cons_zero, List.set_cons_succ]))
                  (refine held_take 2 (by kernel_rfl) (by kernel_rfl) (by kernel_rfl) (by assumption) ?_; simp only [List.getElem?_toArray, List.getElem?_cons_succ, List.getElem?_cons_zero]; refine ⟨fun _ _ _ _ h => h, ?_, Or.inl ⟨by kernel_rfl, ?_⟩, ?_⟩; rotate_left; (focus (intro wS hSw; (try dsimp only at hSw); go_simp; try with_reducible rfl)); (try simp only [Act.put, List.setIfInBounds_toArray, List.set_cons_zero, List.set_cons_succ]))
                  (refine held_take 3 (by kernel_rfl) (by kernel_rfl) (by kernel_rfl) (by assumption) ?_; simp only [List.getElem?_toArray, List.getElem?_cons_succ, List.getElem?_cons_zero]; refine ⟨fun _ _ _ _ h => h, ?_, Or.inl ⟨by kernel_rfl, ?_⟩, ?_⟩; rotate_left; (focus (intro wS hSw; (try dsimp only at hSw); go_simp; try with_reducible rfl)); (try simp only [Act.put, List.setIfInBounds_toArray, List.set_cons_zero, List.set_cons_succ]))
                  (refine held_take 4 (by kernel_rfl) (by kernel_rfl) (by kernel_rfl) (by assumption) ?_; simp only [List.getElem?_toArray, List.getElem?_cons_succ, List.getElem?_cons_zero]; refine ⟨fun _ _ _ _ h => h, ?_, Or.inl ⟨by kernel_rfl, ?_⟩, ?_⟩; rotate_left; (focus (intro wS hSw; (try dsimp only at hSw); go_simp; try with_reducible rfl)); (try simp only [Act.put, List.setIfInBounds_toArray, List.set_cons_zero, List.set_cons_succ]))
                  (refine held_take 5 (by kernel_rfl) (by kernel_rfl) (by kernel_rfl) (by assumption) ?_; simp only [List.getElem?_toArray, List.getElem?_cons_succ, List.getElem?_cons_zero]; refine ⟨fun _ _ _ _ h => h, ?_, Or.inl ⟨by kernel_rfl, ?_⟩, ?_⟩; rotate_left; (focus (intro wS hSw; (try dsimp only at hSw); go_simp; try with_reducible rfl)); (try simp only [Act.put, List.setIfInBounds_toArray, List.set_cons_zero, List.set_cons_succ]))
                  (refine held_take 6 (by kernel_rfl) (by kernel_rfl) (by kernel_rfl) (by assumption) ?_; simp only [List.getElem?_toArray, List.getElem?_cons_succ, List.getElem?_cons_zero]; refine ⟨fun _ _ _ _ h => h, ?_, Or.inl ⟨by kernel_rfl, ?_⟩, ?_⟩; rotate_left; (focus (intro wS hSw; (try dsimp only at hSw); go_simp; try with_reducible rfl)); (try simp only [Act.put, List.setIfInBounds_toArray, List.set_cons_zero, List.set_cons_succ]))
                  (refine held_take 7 (by kernel_rfl) (by kernel_rfl) (by kernel_rfl) (by assumption) ?_; simp only [List.getElem?_toArray, List.getElem?_cons_succ, List.getElem?_cons_zero]; refine ⟨fun _ _ _ _ h => h, ?_, Or.inl ⟨by kernel_rfl, ?_⟩, ?_⟩; rotate_left; (focus (intro wS hSw; (try dsimp only at hSw); go_simp; try with_reducible rfl)); (try simp only [Act.put, List.setIfInBounds_toArray, List.set_cons_zero, List.set_cons_succ]))
                  (refine held_take 8 (by kernel_rfl) (by kernel_rfl) (by kernel_rfl) (by assumption) ?_; simp only [List.getElem?_toArray, List.getElem?_cons_succ, List.getElem?_cons_zero]; refine ⟨fun _ _ _ _ h => h, ?_, Or.inl ⟨by kernel_rfl, ?_⟩, ?_⟩; rotate_left; (focus (intro wS hSw; (try dsimp only at hSw); go_simp; try with_reducible rfl)); (try simp only [Act.put, List.setIfInBounds_toArray, List.set_cons_zero, List.set_cons_succ]))
                  (refine held_take 9 (by kernel_rfl) (by kernel_rfl) (by kernel_rfl) (by assumption) ?_; simp only [List.getElem?_toArray, List.getElem?_cons_succ, List.getElem?_cons_zero]; refine ⟨fun _ _ _ _ h => h, ?_, Or.inl ⟨by kernel_rfl, ?_⟩, ?_⟩; rotate_left; (focus (intro wS hSw; (try dsimp only at hSw); go_simp; try with_reducible rfl)); (try simp only [Act.put, List.setIfInBounds_toArray, List.set_cons_zero, List.set_cons_succ]))
                  (refine held_take 10 (by kernel_rfl) (by kernel_rfl) (by kernel_rfl) (by assumption) ?_; simp only [List.getElem?_toArray, List.getElem?_cons_succ, List.getElem?_cons_zero]; refine ⟨fun _ _ _ _ h => h, ?_, Or.inl ⟨by kernel_rfl, ?_⟩, ?_⟩; rotate_left; (focus (intro wS hSw; (try dsimp only at hSw); go_simp; try with_reducible rfl)); (try simp only [Act.put, List.setIfInBounds_toArray, List.set_cons_zero, List.set_cons_succ]))
                  (refine held_take 11 (by kernel_rfl) (by kernel_rfl) (by kernel_rfl) (by assumption) ?_; simp only [List.getElem?_toArray, List.getElem?_cons_succ, List.getElem?_cons_zero]; refine ⟨fun _ _ _ _ h => h, ?_, Or.inl ⟨by kernel_rfl, ?_⟩, ?_⟩; rotate_left; (focus (intro wS hSw; (try dsimp only at hSw); go_simp; try with_reducible rfl)); (try simp only [Act.put, List.setIfInBounds_toArray, List.set_cons_zero, List.set_cons_succ]))
                  (refine held_take 12 (by kernel_rfl) (by kernel_rfl) (by kernel_rfl) (by assumption) ?_; simp only [List.getElem?_toArray, List.getElem?_cons_succ, List.getElem?_cons_zero]; refine ⟨fun _ _ _ _ h => h, ?_, Or.inl ⟨by kernel_rfl, ?_⟩, ?_⟩; rotate_left; (focus (intro wS hSw; (try dsimp only at hSw); go_simp; try with_reducible rfl)); (try simp only [Act.put, List.setIfInBounds_toArray, List.set_cons_zero, List.set_cons_succ]))
                  have HOF := Lib.hid (of_any A3 c3 r y y0 w.heap.size (by have h1 := HB.out.size; have h2 := HBD.out.size; omega) (HRR.out.below (HBD.out.mono (by have h1 := HB.out.size; omega))) hrl)
                  (refine held_one 13 (by kernel_rfl) ?_; simp only [List.getElem?_toArray, List.getElem?_cons_succ, List.getElem?_cons_zero]; intro K hK; go_simp)
                  clear hHeld
                  refine HOF.out.mono ?_
                  rintro e y1 ⟨A5, c5, rfl, hown, hb⟩
                  clear hown
                  (go_wp2_with fail; refine hK.out _ _ ?_ (fun hHeld => ?_); (focus (exact HST.out _ (through HBD.out (Nat.le_refl _) hb))); clear hK K; (try simp only [Act.put, List.setIfInBounds_toArray, List.set_cons_zero, List.set_cons_succ]))
                  have HB1 := Lib.hid (through HB.out (Nat.le_refl _) (through HBD.out (Nat.le_refl _) hb))
                  clear hb HOF
                  have hs1 : (K0 : Int) + (K1 : Int) + (K2 : Int) + ((ofF r y).length : Int) ≤ 9223372036854775807 := by have := HN3.out; omega
                  have hw9 : IntKind.i64.wrap ((K0 : Int) + (K1 : Int) + (K2 : Int) + ((ofF r y).length : Int)) = (K0 : Int) + (K1 : Int) + (K2 : Int) + ((ofF r y).length : Int) := by rw [IntKind.wrap_i64]; omega
                  (refine held_take 14 (by kernel_rfl) (by kernel_rfl) (by kernel_rfl) (by assumption) ?_; simp only [List.getElem?_toArray, List.getElem?_cons_succ, List.getElem?_cons_zero]; refine ⟨fun _ _ _ _ h => h, ?_, Or.inl ⟨by kernel_rfl, ?_⟩, ?_⟩; rotate_left; (focus (intro wS hSw; (try dsimp only at hSw); go_simp; try with_reducible rfl)); (try simp only [Act.put, List.setIfInBounds_toArray, List.set_cons_zero, List.set_cons_succ]))
                  (refine held_take 15 (by kernel_rfl) (by kernel_rfl) (by kernel_rfl) (by assumption) ?_; simp only [List.getElem?_toArray, List.getElem?_cons_succ, List.getElem?_cons_zero]; refine ⟨fun _ _ _ _ h => h, ?_, Or.inl ⟨by kernel_rfl, ?_⟩, ?_⟩; rotate_left; (focus (intro wS hSw; (try dsimp only at hSw); go_simp; try with_reducible rfl)); (try simp only [Act.put, List.setIfInBounds_toArray, List.set_cons_zero, List.set_cons_succ]))
                  (refine held_take 16 (by kernel_rfl) (by kernel_rfl) (by kernel_rfl) (by assumption) ?_; simp only [List.getElem?_toArray, List.getElem?_cons_succ, List.getElem?_cons_zero]; refine ⟨fun _ _ _ _ h => h, ?_, Or.inl ⟨by kernel_rfl, ?_⟩, ?_⟩; rotate_left; (focus (intro wS hSw; (try dsimp only at hSw); go_simp; try with_reducible rfl)); (try simp only [Act.put, List.setIfInBounds_toArray, List.set_cons_zero, List.set_cons_succ]))
                  (refine wpAnyH_done (by kernel_rfl) ?_ _)
                  clear hHeld HB
                  go_wp2_with fail
                  go_roundw
                  case rel => exact ⟨j + 1, by omega, by go_num, by rw [HT3.out, ← Nat.add_assoc]; first | rfl | (push_cast; rfl) | go_num, HB1.out⟩
                  case measure => simp [intOf]; omega
                · obtain rfl : j = f.parts.length := by omega
                  have e1 := (HB.out.cell (p := ⟨b, o + i * 2 + 1, none⟩) (by show b < _; omega)).trans c1
                  rw [List.take_length]
                  go_wp2_with fail
                  go_roundw
                  case rel => exact ⟨i + 1, by omega, by go_num, by rw [HT2.out, ← Nat.add_assoc], HB.out⟩
                  case measure => simp [intOf]; omega
            · obtain rfl : i = fs.length := by omega
              rw [List.take_length]
              have hne : ¬ ((K0 + kF fs y : Nat) : Int) = (K0 : Int) := by have := HPOS.out; omega
              have hne2 : ((K0 : Int) + (kF fs y : Int) = (K0 : Int)) = False := by simp; have := HPOS.out; omega
              go_wp2_with fail
              go_roundw
              case rel => exact ⟨k + 1, by omega, by go_num, by rw [HT1.out], HB.out⟩
              case measure => simp [intOf]; omega
      · obtain rfl : k = (keysF fs).length := by omega
        rw [List.take_length, kS_all]
        have HCN := Lib.hid (cnt_any A c fs wr w.heap.size (Nat.le_trans hw2 HB.out.size) (HF.out.below (HB.out.mono hw2)) (by omega))
        go_wp2_with fail
        refine HCN.out.mono ?_
        rintro e w3 ⟨rfl, hb3⟩
        have HB3 := Lib.hid (through HB2.out (Nat.le_refl _) (through HB.out (Nat.le_refl _) hb3))
        clear hb3
        go_wp2_with fail
        refine (works_any w3).mono ?_
        rintro e w4 ⟨rfl, hb4⟩
        have HB4 := Lib.hid (through HB3.out (Nat.le_refl _) hb4)
        clear hb4
        go_wp2_with fail
        go_returns
        exact ⟨rfl, HB4.out⟩
end Go.Proofs.Ytaodbjgcidkpkaa.Fd
