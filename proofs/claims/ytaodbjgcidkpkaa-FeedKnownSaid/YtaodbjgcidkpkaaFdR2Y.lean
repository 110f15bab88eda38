/- Feeds copied: into memory of their own. -/
import Derived.Test.YtaodbjgcidkpkaaFdQY
import Derived.Test.YtaodbjgcidkpkaaZi
import Derived.Test.YtaodbjgcidkpkaaZa
import Derived.WalkKit
import Derived.Handy

namespace Go.Proofs.Ytaodbjgcidkpkaa.Fd
open Go.ChangeShapes Go.WideShapes Go.ChangeAt Go.RowKit M

set_option maxHeartbeats 1000000 in
theorem copyRecs_any (A : Option Addr) (c : Nat) (r : List Rc) (w : World) (B : Nat) (hB : B ≤ w.heap.size) (h : IsRecs w B A c r) (hl : r.length ≤ 1000000) :
    Calls Try.prog 44 #[.slice A r.length c] w (RetPairs 57 w r) := by
  have HX := Lib.hid h.1
  clear h
  go_enter Try.func44, Try.ntmps44
  go_wp2_with fail
  go_loopw [3, 4] (fun v q wr => ∃ k : Nat, k ≤ r.length ∧ q = .int .i64 k ∧ OwnR wr w.heap.size v (r.take k) ∧ Below w.heap.size w wr) (fun _ q _ => r.length - (Go.RowKit.intOf q).toNat)
  case atStart => exact ⟨0, by omega, rfl, OwnP.nil _ _ _, Below.refl _ _⟩
  case round =>
    obtain ⟨k, hk, rfl, hown, hbl⟩ := hrel
    have HB := Lib.hid hbl
    have HOW := Lib.hid hown
    clear hown hbl
    by_cases hlt : k < r.length
    · obtain ⟨b, o, x, rfl, hb, HV, h64, c0, c1⟩ := pairs_at HX.out hlt
      have e0 := (HB.out.cell (p := ⟨b, o + k * 2, none⟩) (by show b < _; omega)).trans c0
      have e1 := (HB.out.cell (p := ⟨b, o + k * 2 + 1, none⟩) (by show b < _; omega)).trans c1
      have HL := Lib.hid (show (r.take k).length < 1000000000 by rw [List.length_take]; omega)
      have HZ := Lib.hid HB.out.size
      have ET := Lib.hid (take_snocG hlt HV.out)
      have HU := Lib.hid h64
      obtain ⟨x, y⟩ := x
      simp only at e0 e1
      clear c0 c1 h64
      go_wp2_with (at_builtin; refine app_pair (u := (x, y)) isPT rfl _ _ rfl w.heap.size HOW.out rfl HU.out rfl HL.out HZ.out ?_)
      intro v' w2 hown2 hgr
      have HO2 := Lib.hid hown2
      have HB2 := Lib.hid (HB.out.trans hgr)
      clear hown2 hgr
      go_wp2
      go_roundw
      case rel => exact ⟨k + 1, by omega, by go_num, by rw [ET.out]; exact HO2.out, HB2.out⟩
      case measure => simp [Go.RowKit.intOf]; omega
    · obtain rfl : k = r.length := by omega
      rw [List.take_length] at HOW
      go_wp2
      go_returns
      exact ret_pairs HOW.out HB.out

set_option maxHeartbeats 1000000 in
theorem copyLists_any (A : Option Addr) (c : Nat) (ls : List (List Rc)) (w : World) (B : Nat) (hB : B ≤ w.heap.size) (h : IsLists w B A c ls) (hl : ls.length ≤ 1000000) (hr : ∀ r ∈ ls, r.length ≤ 1000000) :
    Calls Try.prog 67 #[.slice A ls.length c] w (RetLists w ls) := by
  have HX := Lib.hid h
  have HR := Lib.hid hr
  clear h hr
  go_enter Try.func67, Try.ntmps67
  go_wp2_with fail
  go_loopw [3, 4] (fun v u wr => ∃ (k : Nat) (q : Nat → Sl), k ≤ ls.length ∧ u = .int .i64 k ∧ OwnL wr w.heap.size v (ls.take k) q ∧ Below w.heap.size w wr) (fun _ u _ => ls.length - (Go.RowKit.intOf u).toNat)
  case atStart => exact ⟨0, fun _ => (none, 0), by omega, rfl, OwnL.nil _ _ _, Below.refl _ _⟩
  case round =>
    obtain ⟨k, q, hk, rfl, hown, hbl⟩ := hrel
    have HB := Lib.hid hbl
    have HOW := Lib.hid hown
    clear hown hbl
    by_cases hlt : k < ls.length
    · obtain ⟨b, o, r, A', c', rfl, hb, HV, c0, hrr⟩ := lists_at HX.out hlt
      have e0 := (HB.out.cell (p := ⟨b, o + k, none⟩) (by show b < _; omega)).trans c0
      have HLN := Lib.hid (show (ls.take k).length = k by rw [List.length_take]; omega)
      have ET := Lib.hid (take_snocG hlt HV.out)
      have HC := Lib.hid (copyRecs_any A' c' r wr B (Nat.le_trans hB HB.out.size) (hrr.below (HB.out.mono hB)) (HR.out r (HV.out ▸ lists_mem hlt)))
      clear c0 hrr
      go_wp2_with fail
      refine HC.out.mono ?_
      rintro e w2 ⟨A2, c2, rfl, hown2, hb2⟩
      have HF := Lib.hid (show ∀ i, i < (ls.take k).length → Far (q i) (A2, c2) from fun i hi g hg hg2 => by
        have h1 := (HOW.out.ltQ hi hg).2
        have h2 := (hown2.blk g (by rw [ownBlock_slice (A2, c2)]; exact hg2)).1
        omega)
      have HRO := Lib.hid (hown2.mono HB.out.size)
      have HOW := Lib.hid (HOW.out.below hb2)
      have HB := Lib.hid (through HB.out (Nat.le_refl _) hb2)
      have HZ := Lib.hid HB.out.size
      have HL := Lib.hid (show (ls.take k).length < 1000000000 by rw [HLN.out]; omega)
      clear hown2 hb2 e0 HC
      go_wp2_with (at_builtin; refine app_lists (z := (A2, c2)) rfl _ _ rfl w.heap.size HOW.out rfl HRO.out HF.out rfl HL.out HZ.out ?_)
      intro v' w3 hown3 hb3
      have HO3 := Lib.hid hown3
      have HB3 := Lib.hid (HB.out.trans hb3)
      clear hown3 hb3
      go_wp2
      go_roundw
      case rel => exact ⟨k + 1, upQ q k (A2, c2), by omega, by go_num, by rw [ET.out]; exact HO3.out, HB3.out⟩
      case measure => simp [Go.RowKit.intOf]; omega
    · obtain rfl : k = ls.length := by omega
      rw [List.take_length] at HOW
      go_wp2
      go_returns
      exact ret_lists HOW.out HB.out

set_option maxRecDepth 100000 in
set_option maxHeartbeats 4000000 in
theorem copyFeeds_any (A : Option Addr) (c : Nat) (fs : List Fp) (w : World) (B : Nat) (hB : B ≤ w.heap.size) (h : IsFeeds w B A c fs) (hl : fs.length ≤ 1000000) (hr : ∀ f ∈ fs, f.parts.length ≤ 1000000 ∧ ∀ r ∈ f.parts, r.length ≤ 1000000) :
    Calls Try.prog 37 #[.slice A fs.length c] w (RetFeeds w fs) := by
  have HX := Lib.hid h
  have HR := Lib.hid hr
  clear h hr
  go_enter Try.func37, Try.ntmps37
  go_wp2_with fail
  go_loopw [3, 4] (fun v u wr => ∃ (k : Nat) (q : Nat → Sl) (p : Nat → Nat → Sl), k ≤ fs.length ∧ u = .int .i64 k ∧ OwnF wr w.heap.size v (fs.take k) q p ∧ Below w.heap.size w wr) (fun _ u _ => fs.length - (Go.RowKit.intOf u).toNat)
  case atStart => exact ⟨0, fun _ => (none, 0), fun _ _ => (none, 0), by omega, rfl, OwnF.nil _ _ _ _, Below.refl _ _⟩
  case round =>
    obtain ⟨k, q, p, hk, rfl, hown, hbl⟩ := hrel
    have HB := Lib.hid hbl
    have HOW := Lib.hid hown
    by_cases hlt : k < fs.length
    · obtain ⟨b, o, f, A', c', rfl, hb, HV, h64, c0, c1, hli⟩ := feeds_at HX.out hlt
      have e0 := (HB.out.cell (p := ⟨b, o + k * 2, none⟩) (by show b < _; omega)).trans c0
      have e1 := (HB.out.cell (p := ⟨b, o + k * 2 + 1, none⟩) (by show b < _; omega)).trans c1
      have HLN := Lib.hid (show (fs.take k).length = k by rw [List.length_take]; omega)
      have ET := Lib.hid (take_snocG hlt HV.out)
      have HFR := Lib.hid (HR.out f (HV.out ▸ feeds_mem hlt))
      have H64 := Lib.hid h64
      have HLI := Lib.hid hli
      have hb0 : b < w.heap.size := by omega
      obtain ⟨A0, c9, rfl⟩ := hown.form
      have hkn : (k : Int) < (fs.length : Int) := by omega
      rw [HLN.out]
      clear hli h64 hown hbl
      go_upto_region 5 with (fail)
      refine wp_region_held_drew (S := (fun (Z : World) => Z.cell? ⟨b, o + k * 2, none⟩ = some (.int .i64 f.op) ∧ Z.cell? ⟨b, o + k * 2 + 1, none⟩ = some (.slice A' f.parts.length c'))) (by kernel_rfl) ⟨e0, e1⟩ (fun hHeld => ?_)
      have HS := Lib.hid (show ∀ Z, Below w.heap.size w Z → Z.cell? ⟨b, o + k * 2, none⟩ = some (.int .i64 f.op) ∧ Z.cell? ⟨b, o + k * 2 + 1, none⟩ = some (.slice A' f.parts.length c') from fun Z hZ => ⟨(hZ.cell (p := ⟨b, o + k * 2, none⟩) hb0).trans c0, (hZ.cell (p := ⟨b, o + k * 2 + 1, none⟩) hb0).trans c1⟩)
      have HBD := Lib.hid (show Below wr.heap.size wr wr.drew from (Below.refl _ _).drew)
      clear e0 e1 c0 c1
      obtain ⟨y0, hy0⟩ : ∃ Z, wr.drew = Z := ⟨_, rfl⟩
      rw [hy0] at HBD hHeld ⊢
      clear hy0
      (refine held_take 0 (by kernel_rfl) (by kernel_rfl) (by kernel_rfl) (by assumption) ?_; simp only [List.getElem?_toArray, List.getElem?_cons_zero]; refine ⟨fun _ _ _ _ h => h, ?_, Or.inl ⟨by kernel_rfl, ?_⟩, ?_⟩; rotate_left; (focus (intro wS hSw; (try dsimp only at hSw); go_simp; try with_reducible rfl)); (try simp only [Act.put, List.setIfInBounds_toArray, List.set_cons_zero, List.set_cons_succ]))
      (refine held_take 1 (by kernel_rfl) (by kernel_rfl) (by kernel_rfl) (by assumption) ?_; simp only [List.getElem?_toArray, List.getElem?_cons_succ, List.getElem?_cons_zero]; refine ⟨fun _ _ _ _ h => h, ?_, Or.inl ⟨by kernel_rfl, ?_⟩, ?_⟩; rotate_left; (focus (intro wS hSw; (try dsimp only at hSw); go_simp; try with_reducible rfl)); (try simp only [Act.put, List.setIfInBounds_toArray, List.set_cons_zero, List.set_cons_succ]))
      (refine held_take 2 (by kernel_rfl) (by kernel_rfl) (by kernel_rfl) (by assumption) ?_; simp only [List.getElem?_toArray, List.getElem?_cons_succ, List.getElem?_cons_zero]; refine ⟨fun _ _ _ _ h => h, ?_, Or.inl ⟨by kernel_rfl, ?_⟩, ?_⟩; rotate_left; (focus (intro wS hSw; (try dsimp only at hSw); go_simp; try with_reducible rfl)); (try simp only [Act.put, List.setIfInBounds_toArray, List.set_cons_zero, List.set_cons_succ]))
      (refine held_take 3 (by kernel_rfl) (by kernel_rfl) (by kernel_rfl) (by assumption) ?_; simp only [List.getElem?_toArray, List.getElem?_cons_succ, List.getElem?_cons_zero]; refine ⟨fun _ _ _ _ h => h, ?_, Or.inl ⟨by kernel_rfl, ?_⟩, ?_⟩; rotate_left; (focus (intro wS hSw; (try dsimp only at hSw); go_simp; try with_reducible rfl)); (try simp only [Act.put, List.setIfInBounds_toArray, List.set_cons_zero, List.set_cons_succ]))
      (refine held_take 4 (by kernel_rfl) (by kernel_rfl) (by kernel_rfl) (by assumption) ?_; simp only [List.getElem?_toArray, List.getElem?_cons_succ, List.getElem?_cons_zero]; refine ⟨fun _ _ _ _ h => h, ?_, Or.inl ⟨by kernel_rfl, ?_⟩, ?_⟩; rotate_left; (focus (intro wS hSw; (try dsimp only at hSw); go_simp; try with_reducible rfl)); (try simp only [Act.put, List.setIfInBounds_toArray, List.set_cons_zero, List.set_cons_succ]))
      (refine held_take 5 (by kernel_rfl) (by kernel_rfl) (by kernel_rfl) (by assumption) ?_; simp only [List.getElem?_toArray, List.getElem?_cons_succ, List.getElem?_cons_zero]; refine ⟨fun _ _ _ _ h => h, ?_, Or.inl ⟨by kernel_rfl, ?_⟩, ?_⟩; rotate_left; (focus (intro wS hSw; (try dsimp only at hSw); go_simp; try with_reducible rfl)); (try simp only [Act.put, List.setIfInBounds_toArray, List.set_cons_zero, List.set_cons_succ]))
      (refine held_take 6 (by kernel_rfl) (by kernel_rfl) (by kernel_rfl) (by assumption) ?_; simp only [List.getElem?_toArray, List.getElem?_cons_succ, List.getElem?_cons_zero]; refine ⟨fun _ _ _ _ h => h, ?_, Or.inl ⟨by kernel_rfl, ?_⟩, ?_⟩; rotate_left; (focus (intro wS hSw; (try dsimp only at hSw); go_simp; try with_reducible rfl)); (try simp only [Act.put, List.setIfInBounds_toArray, List.set_cons_zero, List.set_cons_succ]))
      (refine held_take 7 (by kernel_rfl) (by kernel_rfl) (by kernel_rfl) (by assumption) ?_; simp only [List.getElem?_toArray, List.getElem?_cons_succ, List.getElem?_cons_zero]; refine ⟨fun _ _ _ _ h => h, ?_, Or.inl ⟨by kernel_rfl, ?_⟩, ?_⟩; rotate_left; (focus (intro wS hSw; (try dsimp only at hSw); go_simp; try with_reducible rfl)); (try simp only [Act.put, List.setIfInBounds_toArray, List.set_cons_zero, List.set_cons_succ]))
      (refine held_take 8 (by kernel_rfl) (by kernel_rfl) (by kernel_rfl) (by assumption) ?_; simp only [List.getElem?_toArray, List.getElem?_cons_succ, List.getElem?_cons_zero]; refine ⟨fun _ _ _ _ h => h, ?_, Or.inl ⟨by kernel_rfl, ?_⟩, ?_⟩; rotate_left; (focus (intro wS hSw; (try dsimp only at hSw); go_simp; try with_reducible rfl)); (try simp only [Act.put, List.setIfInBounds_toArray, List.set_cons_zero, List.set_cons_succ]))
      (refine held_take 9 (by kernel_rfl) (by kernel_rfl) (by kernel_rfl) (by assumption) ?_; simp only [List.getElem?_toArray, List.getElem?_cons_succ, List.getElem?_cons_zero]; refine ⟨fun _ _ _ _ h => h, ?_, Or.inl ⟨by kernel_rfl, ?_⟩, ?_⟩; rotate_left; (focus (intro wS hSw; (try dsimp only at hSw); go_simp; try with_reducible rfl)); (try simp only [Act.put, List.setIfInBounds_toArray, List.set_cons_zero, List.set_cons_succ]))
      (refine held_take 10 (by kernel_rfl) (by kernel_rfl) (by kernel_rfl) (by assumption) ?_; simp only [List.getElem?_toArray, List.getElem?_cons_succ, List.getElem?_cons_zero]; refine ⟨fun _ _ _ _ h => h, ?_, Or.inl ⟨by kernel_rfl, ?_⟩, ?_⟩; rotate_left; (focus (intro wS hSw; (try dsimp only at hSw); go_simp; try with_reducible rfl)); (try simp only [Act.put, List.setIfInBounds_toArray, List.set_cons_zero, List.set_cons_succ]))
      have HC := Lib.hid (copyLists_any A' c' f.parts y0 B (Nat.le_trans (Nat.le_trans hB HB.out.size) HBD.out.size) (HLI.out.below (through (HB.out.mono hB) hB HBD.out)) HFR.out.1 HFR.out.2)
      (refine held_one 11 (by kernel_rfl) ?_; simp only [List.getElem?_toArray, List.getElem?_cons_succ, List.getElem?_cons_zero]; intro K hK; go_simp)
      clear hHeld
      refine HC.out.mono ?_
      rintro e y1 ⟨A2, c2, px, rfl, hown2, hb⟩
      (go_wp2_with fail; refine hK.out _ _ ?_ (fun hHeld => ?_); (focus (exact HS.out _ (through HB.out (Nat.le_refl _) (through HBD.out (Nat.le_refl _) hb)))); clear hK K; (try simp only [Act.put, List.setIfInBounds_toArray, List.set_cons_zero, List.set_cons_succ]))
      have HB1 := Lib.hid (through HBD.out (Nat.le_refl _) hb)
      have HF := Lib.hid (show ∀ i, i < (fs.take k).length → Far (q i) (A2, c2) from fun i hi g hg hg2 => by
        have h1 := ((HOW.out.2.1 i hi).2.lt g (by rw [ownBlock_slice]; exact hg)).2
        have h2 := (hown2.lt g (by rw [ownBlock_slice (A2, c2)]; exact hg2)).1
        have h3 := HBD.out.size
        omega)
      have HF2 := Lib.hid (show ∀ i j m, i < (fs.take k).length → j < ((fs.take k).getD i default).parts.length → m < f.parts.length → Far (p i j) (px m) from fun i j m hi hj hm g hg hg2 => by
        have h1 := ((HOW.out.2.1 i hi).2.ltQ hj hg).2
        have h2 := (hown2.ltQ hm hg2).1
        have h3 := HBD.out.size
        omega)
      have HRO := Lib.hid (hown2.mono (Nat.le_trans HB.out.size HBD.out.size))
      have HOW := Lib.hid (HOW.out.below HB1.out)
      clear hown2 hb HC HBD
      (refine held_take 12 (by kernel_rfl) (by kernel_rfl) (by kernel_rfl) (by assumption) ?_; simp only [List.getElem?_toArray, List.getElem?_cons_succ, List.getElem?_cons_zero]; refine ⟨fun _ _ _ _ h => h, ?_, Or.inl ⟨by kernel_rfl, ?_⟩, ?_⟩; rotate_left; (focus (intro wS hSw; (try dsimp only at hSw); go_simp; try with_reducible rfl)); (try simp only [Act.put, List.setIfInBounds_toArray, List.set_cons_zero, List.set_cons_succ]))
      (refine held_one 13 (by kernel_rfl) ?_; simp only [List.getElem?_toArray, List.getElem?_cons_succ, List.getElem?_cons_zero]; intro K hK; go_simp)
      clear hHeld
      obtain ⟨g, hg⟩ : ∃ z, y1.heap.size = z := ⟨_, rfl⟩
      have KB := Lib.hid (Blk.new y1 47 #[.int .i64 f.op, .slice A2 f.parts.length c2])
      have hbA : Below y1.heap.size y1 (y1.alloc (.cells #[.int .i64 f.op, .slice A2 f.parts.length c2] 47)) := (Below.refl _ _).alloc (Nat.le_refl _) _
      (go_wp2_with fail; refine hK.out _ _ ?_ (fun hHeld => ?_); (focus (exact HS.out _ (through HB.out (Nat.le_refl _) (through HB1.out (Nat.le_refl _) hbA)))); clear hK K; (try simp only [Act.put, List.setIfInBounds_toArray, List.set_cons_zero, List.set_cons_succ]))
      obtain ⟨y2, hY⟩ : ∃ Y, y1.alloc (.cells #[.int .i64 f.op, .slice A2 f.parts.length c2] 47) = Y := ⟨_, rfl⟩
      rw [hY] at hbA KB
      rw [hg] at KB
      (try rw [hY] at hHeld)
      (try rw [hY])
      (try rw [hg])
      have HOW := Lib.hid (HOW.out.below hbA)
      have HRO := Lib.hid (HRO.out.below hbA)
      have HB2 := Lib.hid (through HB.out (Nat.le_refl _) (through HB1.out (Nat.le_refl _) hbA))
      have HZ := Lib.hid (show w.heap.size ≤ y2.heap.size from HB2.out.size)
      have HB1 := Lib.hid (through HB1.out (Nat.le_refl _) hbA)
      have HL := Lib.hid (show (fs.take k).length < 1000000000 by rw [HLN.out]; omega)
      clear hbA hY hg
      (refine held_one 14 (by kernel_rfl) ?_; simp only [List.getElem?_toArray, List.getElem?_cons_succ, List.getElem?_cons_zero]; intro K hK)
      refine wp_feed (z := (A2, c2)) _ _ rfl w.heap.size HOW.out (by rw [HLN.out]; rfl) H64.out HRO.out HF.out HF2.out rfl KB.out HL.out HZ.out ?_
      intro A4 c4 y3 hown4 hb4
      have HO4 := Lib.hid hown4
      have HB4 := Lib.hid (HB2.out.trans hb4)
      refine hK.out _ _ (HS.out _ HB4.out) (fun hHeld => ?_)
      clear hK K hown4 hb4
      (try simp only [Act.put, List.setIfInBounds_toArray, List.set_cons_zero, List.set_cons_succ])
      (refine held_take 15 (by kernel_rfl) (by kernel_rfl) (by kernel_rfl) (by assumption) ?_; simp only [List.getElem?_toArray, List.getElem?_cons_succ, List.getElem?_cons_zero]; refine ⟨fun _ _ _ _ h => h, ?_, Or.inl ⟨by kernel_rfl, ?_⟩, ?_⟩; rotate_left; (focus (intro wS hSw; (try dsimp only at hSw); go_simp; try with_reducible rfl)); (try simp only [Act.put, List.setIfInBounds_toArray, List.set_cons_zero, List.set_cons_succ]))
      (refine wpAnyH_done (by kernel_rfl) ?_ _)
      clear hHeld
      go_wp2_with fail
      go_roundw
      case rel => exact ⟨k + 1, upQ q k (A2, c2), upQ p k px, by omega, by go_num, by rw [ET.out]; have := HO4.out; rw [HLN.out] at this; exact this, HB4.out⟩
      case measure => simp [Go.RowKit.intOf]; omega
    · obtain rfl : k = fs.length := by omega
      rw [List.take_length] at HOW
      clear hown hbl
      go_wp2
      go_returns
      exact ret_feeds HOW.out HB.out
end Go.Proofs.Ytaodbjgcidkpkaa.Fd
