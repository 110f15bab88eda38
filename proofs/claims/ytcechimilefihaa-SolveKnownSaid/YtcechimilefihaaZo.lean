/- Measures and numbers, lent and kept. How many tasks are needed: the line; what each statement asks. How many tasks are needed: may a job be, with measures, numbers of tasks, and a limit? How many tasks the line's operators need, in plain Lean: by quotients. No program is named. -/
import Derived.Test.YtcechimilefihaaZi
import Derived.Test.YtcechimilefihaaZa
import Derived.Deep.RegionHeld3
import Derived.Test.YtcechimilefihaaZl
import Derived.Test.YtcechimilefihaaZj

namespace Go.Proofs.Ytcechimilefihaa.So
open Go.ChangeShapes Go.WideShapes Go.ChangeAt Go.RowKit M Sp

def marksL : List Int := [7001, 7014, 7027, 7040, 7053]
theorem marks_get {k : Nat} (hk : k < 5) : marksL.getD k 0 = 7001 + 13 * (k : Int) := by
  rcases (show k = 0 ∨ k = 1 ∨ k = 2 ∨ k = 3 ∨ k = 4 by omega) with rfl | rfl | rfl | rfl | rfl <;> rfl
theorem marks_take {k : Nat} (hk : k < 5) : marksL.take (k + 1) = marksL.take k ++ [7001 + 13 * (k : Int)] := take_snoc hk (marks_get hk)

set_option maxHeartbeats 1000000 in
theorem lentInts_any (A : Option Addr) (c : Nat) (xs : List Int) (B : Nat) (w : World) (hB : B ≤ w.heap.size) (h : IsInts w B ⟨A, c, xs⟩) (hl : xs.length ≤ 1000000) :
    Calls Try.prog 49 #[.slice A xs.length c] w (RetInts w (xs ++ marksL)) := by
  have HC := Lib.hid (copyInts_any A c xs B w hB h hl)
  clear h
  go_enter Try.func49, Try.ntmps49
  go_wp2_with fail
  refine HC.out.mono ?_
  rintro e w1 ⟨A1, c1, rfl, own1, hb1⟩
  have HO1 := Lib.hid own1
  have HB1 := Lib.hid hb1
  clear own1 hb1
  go_wp2_with fail
  go_loopw [3, 4] (fun v q wr => ∃ k : Nat, k ≤ 5 ∧ q = .int .i64 k ∧ OwnI wr w.heap.size v (xs ++ marksL.take k) ∧ Below w.heap.size w wr) (fun _ q _ => 5 - (intOf q).toNat)
  case atStart => exact ⟨0, by omega, rfl, by simpa using HO1.out, HB1.out⟩
  case round =>
    obtain ⟨k, hk, rfl, hown, hbl⟩ := hrel
    have HB := Lib.hid hbl
    have HOW := Lib.hid hown
    clear hown hbl
    by_cases hlt : k < 5
    · have HM := Lib.hid (mark_any (k : Int) wr (by omega) (by omega))
      have ET := Lib.hid (marks_take hlt)
      have HU := Lib.hid (show In64 (7001 + 13 * (k : Int)) by unfold In64; omega)
      have HL := Lib.hid (show (xs ++ marksL.take k).length < 1000000000 by rw [List.length_append, List.length_take]; omega)
      have HZ := Lib.hid HB.out.size
      go_wp2_with (first | (go_at_call 65; refine HM.out.mono ?_; rintro e w' ⟨rfl, rfl⟩) | (at_builtin; refine app_new rfl _ _ rfl w.heap.size HOW.out rfl HU.out rfl HL.out HZ.out ?_))
      intro v' w2 hown2 hgr
      have HO2 := Lib.hid hown2
      have HB2 := Lib.hid (HB.out.trans hgr)
      clear hown2 hgr
      go_wp2
      go_roundw
      case rel => exact ⟨k + 1, by omega, by go_num, by rw [ET.out]; exact HO2.out, HB2.out⟩
      case measure => simp [intOf]; omega
    · obtain rfl : k = 5 := by omega
      have HO2 : Hid (OwnI wr w.heap.size u3 (xs ++ marksL)) := HOW.out
      go_wp2_with fail
      go_returns
      exact ret_ints HO2.out HB.out

set_option maxHeartbeats 1000000 in
theorem keptInts_any (A D : Option Addr) (c d : Nat) (xs : List Int) (B B2 : Nat) (w : World) (hB : B ≤ w.heap.size) (h : IsInts w B ⟨A, c, xs ++ marksL⟩) (k : IsInts w B2 ⟨D, d, xs⟩) (hl : xs.length ≤ 1000000) :
    Calls Try.prog 53 #[.slice A (xs.length + 5) c, .slice D xs.length d] w fun e w' => e = .returned (.bool true) ∧ Below w.heap.size w w' := by
  have hc : xs.length + 5 ≤ c := by have := h.2.1; simpa [marksL] using this
  have hc2 : (c : Int) ≤ 9223372036854775807 := by have := h.2.2.1; unfold maxLen at this; simp only at *; omega
  have ht : IsInts w B ⟨A, c, xs⟩ := by
    have := ints_take h xs.length (by simp)
    rwa [List.take_left'  rfl] at this
  have HS := Lib.hid (sameInts_any A D c d xs xs B B2 w ht k)
  rw [sameB_yes rfl] at HS
  have HX := Lib.hid h
  have tl : (((xs.length + 5 : Nat) : Int) != (xs.length : Int) + 5) = false := by simp
  have tl2 : ((xs.length : Int) + 5 != (xs.length : Int) + 5) = false := by simp
  clear h k ht
  go_enter Try.func53, Try.ntmps53
  go_wp2_with fail
  refine HS.out.mono ?_
  rintro e w1 ⟨rfl, hb1⟩
  have HB1 := Lib.hid hb1
  clear hb1
  go_wp2_with fail
  go_loopw [5] (fun q wr => ∃ k : Nat, k ≤ 5 ∧ q = .int .i64 k ∧ Below w.heap.size w wr) (fun q _ => 5 - (intOf q).toNat)
  case atStart => exact ⟨0, by omega, rfl, HB1.out⟩
  case round =>
    obtain ⟨k, hk, rfl, hbl⟩ := hrel
    have HB := Lib.hid hbl
    clear hbl
    by_cases hlt : k < 5
    · have hkl : xs.length + k < (xs ++ marksL).length := by simp [marksL]; omega
      obtain ⟨b, o, v, rfl, hb, HV, -, c0⟩ := Sp.ints_at (HX.out.below (HB.out.mono hB)) hkl
      have c1 : wr.cell? ⟨b, o + (xs.length + k), none⟩ = some (.int .i64 (7001 + 13 * (k : Int))) := by
        rw [c0, ← HV.out, List.getD_eq_getElem?_getD, List.getElem?_append_right (by omega), show xs.length + k - xs.length = k by omega, ← List.getD_eq_getElem?_getD, marks_get hlt]
      have HM := Lib.hid (mark_any (k : Int) (wr.drewN 0) (by omega) (by omega))
      have hm : ∀ Y, Calls Try.prog 65 #[.int .i64 (k : Int)] Y fun e w' => e = .returned (.int .i64 (7001 + 13 * (k : Int))) ∧ Y = w' := fun Y => mark_any (k : Int) Y (by omega) (by omega)
      have HMK := Lib.hid hm
      have tv : (7001 + 13 * (k : Int) != 7001 + 13 * (k : Int)) = false := by simp
      have hkl2 : xs.length + k < xs.length + 5 := by omega
      clear c0 hm HM hkl
      go_wp2_with fail
      go_quiet ((go_at_call 65; exact Calls.quiet_of_same ((HMK.out _).mono (by rintro e w' ⟨rfl, h⟩; exact ⟨rfl, h.symm⟩))))
      go_wp2_with fail
      go_roundw
      case rel => exact ⟨k + 1, by omega, by go_num, below_drewN HB.out _⟩
      case measure => simp [intOf]; omega
    · obtain rfl : k = 5 := by omega
      go_wp2_with fail
      go_returns
      exact ⟨rfl, HB.out⟩

theorem qtMea : IsQT 55 56 := ⟨Try.underlying56, by kernel_rfl⟩
set_option maxHeartbeats 2000000 in
theorem sameMea_any (A D : Option Addr) (c d : Nat) (xs : List Q4) (B B2 : Nat) (w : World) (h : IsQuads w B A c xs) (k : IsQuads w B2 D d xs) :
    Calls Try.prog 97 #[.slice A xs.length c, .slice D xs.length d] w fun e w' => e = .returned (.bool true) ∧ Below w.heap.size w w' := by
  have hlen := h.len
  have HX := Lib.hid h
  have HY := Lib.hid k
  have ht : ((xs.length : Int) != (xs.length : Int)) = false := by simp
  clear h k
  go_enter Try.func97, Try.ntmps97
  go_wp2_with fail
  go_loopw [5] (fun q wr => ∃ k : Nat, k ≤ xs.length ∧ q = .int .i64 k ∧ Below w.heap.size w wr ∧ (∀ p : Addr, wr.cell? p = w.cell? p)) (fun q _ => xs.length - (intOf q).toNat)
  case atStart => exact ⟨0, by omega, rfl, Below.refl _ _, fun _ => rfl⟩
  case round =>
    obtain ⟨k, hk, rfl, hbl, hcl⟩ := hrel
    have HB := Lib.hid hbl
    have HC := Lib.hid hcl
    clear hbl hcl
    by_cases hlt : k < xs.length
    · obtain ⟨b, o, x, rfl, hb, HV, -, c0, c1, c2, c3⟩ := quads_at HX.out hlt
      obtain ⟨b2, o2, x2, rfl, hb2, HV2, -, d0, d1, d2, d3⟩ := quads_at HY.out hlt
      obtain rfl : x = x2 := HV.out.symm.trans HV2.out
      obtain ⟨x, y, z, u⟩ := x
      have e0 := (HC.out ⟨b, o + k * 4, none⟩).trans c0
      have e1 := (HC.out ⟨b, o + k * 4 + 1, none⟩).trans c1
      have e2 := (HC.out ⟨b, o + k * 4 + 2, none⟩).trans c2
      have e3 := (HC.out ⟨b, o + k * 4 + 3, none⟩).trans c3
      have f0 := (HC.out ⟨b2, o2 + k * 4, none⟩).trans d0
      have f1 := (HC.out ⟨b2, o2 + k * 4 + 1, none⟩).trans d1
      have f2 := (HC.out ⟨b2, o2 + k * 4 + 2, none⟩).trans d2
      have f3 := (HC.out ⟨b2, o2 + k * 4 + 3, none⟩).trans d3
      clear c0 c1 c2 c3 d0 d1 d2 d3
      go_wp2_with fail
      go_quiet (fail)
      go_wp2_with fail
      go_roundw
      case rel => exact ⟨k + 1, by omega, by go_num, below_drewN HB.out _, HC.out⟩
      case measure => simp [intOf]; omega
    · obtain rfl : k = xs.length := by omega
      go_wp2_with fail
      go_returns
      exact ⟨rfl, HB.out⟩

set_option maxHeartbeats 1000000 in
theorem copyMea_any (A : Option Addr) (c : Nat) (xs : List Q4) (B : Nat) (w : World) (hB : B ≤ w.heap.size) (h : IsQuads w B A c xs) (hl : xs.length ≤ 1000000) :
    Calls Try.prog 55 #[.slice A xs.length c] w (RetQuads 55 w xs) := by
  have HX := Lib.hid h
  clear h
  go_enter Try.func55, Try.ntmps55
  go_wp2_with fail
  go_loopw [3, 4] (fun v q wr => ∃ k : Nat, k ≤ xs.length ∧ q = .int .i64 k ∧ OwnQ 55 wr w.heap.size v (xs.take k) ∧ Below w.heap.size w wr) (fun _ q _ => xs.length - (intOf q).toNat)
  case atStart => exact ⟨0, by omega, rfl, OwnQ.nil _ _ _, Below.refl _ _⟩
  case round =>
    obtain ⟨k, hk, rfl, hown, hbl⟩ := hrel
    have HB := Lib.hid hbl
    have HOW := Lib.hid hown
    clear hown hbl
    by_cases hlt : k < xs.length
    · obtain ⟨b, o, x, rfl, hb, HV, h64, c0, c1, c2, c3⟩ := quads_at HX.out hlt
      have e0 := (HB.out.cell (p := ⟨b, o + k * 4, none⟩) (by show b < _; omega)).trans c0
      have e1 := (HB.out.cell (p := ⟨b, o + k * 4 + 1, none⟩) (by show b < _; omega)).trans c1
      have e2 := (HB.out.cell (p := ⟨b, o + k * 4 + 2, none⟩) (by show b < _; omega)).trans c2
      have e3 := (HB.out.cell (p := ⟨b, o + k * 4 + 3, none⟩) (by show b < _; omega)).trans c3
      have ET := Lib.hid (quads_take hlt HV.out)
      have HU := Lib.hid h64
      have HL := Lib.hid (show (xs.take k).length < 1000000000 by rw [List.length_take]; omega)
      have HZ := Lib.hid HB.out.size
      clear c0 c1 c2 c3 h64
      go_wp2_with (at_builtin; refine app_quad qtMea rfl _ _ rfl w.heap.size HOW.out rfl HU.out rfl HL.out HZ.out ?_)
      intro v' w2 hown2 hgr
      have HO2 := Lib.hid hown2
      have HB2 := Lib.hid (HB.out.trans hgr)
      clear hown2 hgr
      go_wp2
      go_roundw
      case rel => exact ⟨k + 1, by omega, by go_num, by rw [ET.out]; exact HO2.out, HB2.out⟩
      case measure => simp [intOf]; omega
    · obtain rfl : k = xs.length := by omega
      have HO2 : Hid (OwnQ 55 wr w.heap.size u3 xs) := by have := HOW.out; rw [List.take_length] at this; exact this
      go_wp2_with fail
      go_returns
      exact ret_quads HO2.out HB.out

theorem markMea_any (i : Int) (w : World) (h : 0 ≤ i) (h2 : i ≤ 1000000000) :
    Calls Try.prog 93 #[.int .i64 i] w fun e w' => e = .returned (.agg #[.int .i64 (99 + i), .int .i64 0, .int .i64 0, .int .i64 7]) ∧ Below w.heap.size w w' := by
  go_enter Try.func93, Try.ntmps93
  go_wp2
  go_returns
  exact ⟨by first | rfl | simp, by go_grown⟩
def marksM : List Q4 := [(99, 0, 0, 7), (100, 0, 0, 7), (101, 0, 0, 7), (102, 0, 0, 7), (103, 0, 0, 7)]
theorem marksM_get {k : Nat} (hk : k < 5) : marksM.getD k z4 = (99 + (k : Int), 0, 0, 7) := by
  rcases (show k = 0 ∨ k = 1 ∨ k = 2 ∨ k = 3 ∨ k = 4 by omega) with rfl | rfl | rfl | rfl | rfl <;> rfl
theorem marksM_take {k : Nat} (hk : k < 5) : marksM.take (k + 1) = marksM.take k ++ [(99 + (k : Int), 0, 0, 7)] := quads_take hk (marksM_get hk)
set_option maxHeartbeats 1000000 in
theorem lentMea_any (A : Option Addr) (c : Nat) (xs : List Q4) (B : Nat) (w : World) (hB : B ≤ w.heap.size) (h : IsQuads w B A c xs) (hl : xs.length ≤ 1000000) :
    Calls Try.prog 48 #[.slice A xs.length c] w (RetQuads 55 w (xs ++ marksM)) := by
  have HC := Lib.hid (copyMea_any A c xs B w hB h hl)
  clear h
  go_enter Try.func48, Try.ntmps48
  go_wp2_with fail
  refine HC.out.mono ?_
  rintro e w1 ⟨A1, c1, rfl, own1, hb1⟩
  have HO1 := Lib.hid own1
  have HB1 := Lib.hid hb1
  clear own1 hb1
  go_wp2_with fail
  go_loopw [3, 4] (fun v q wr => ∃ k : Nat, k ≤ 5 ∧ q = .int .i64 k ∧ OwnQ 55 wr w.heap.size v (xs ++ marksM.take k) ∧ Below w.heap.size w wr) (fun _ q _ => 5 - (intOf q).toNat)
  case atStart => exact ⟨0, by omega, rfl, by simpa using HO1.out, HB1.out⟩
  case round =>
    obtain ⟨k, hk, rfl, hown, hbl⟩ := hrel
    have HB := Lib.hid hbl
    have HOW := Lib.hid hown
    clear hown hbl
    by_cases hlt : k < 5
    · have HM := Lib.hid (markMea_any (k : Int) wr (by omega) (by omega))
      have ET := Lib.hid (marksM_take hlt)
      have HU := Lib.hid (show In4 (99 + (k : Int), 0, 0, 7) from ⟨by unfold In64; simp only; omega, by show In64 0; unfold In64; decide, by show In64 0; unfold In64; decide, by show In64 7; unfold In64; decide⟩)
      have HL := Lib.hid (show (xs ++ marksM.take k).length < 1000000000 by rw [List.length_append, List.length_take]; omega)
      go_wp2_with fail
      refine HM.out.mono ?_
      rintro e w2 ⟨rfl, hb2⟩
      have HZ := Lib.hid (through HB.out (Nat.le_refl _) hb2)
      have HOW2 := Lib.hid (HOW.out.below hb2)
      clear hb2
      go_wp2_with (at_builtin; refine app_quad qtMea (u := (99 + (k : Int), 0, 0, 7)) rfl _ _ rfl w.heap.size HOW2.out rfl HU.out rfl HL.out HZ.out.size ?_)
      intro v' w3 hown2 hgr
      have HO2 := Lib.hid hown2
      have HB2 := Lib.hid (HZ.out.trans hgr)
      clear hown2 hgr
      go_wp2
      go_roundw
      case rel => exact ⟨k + 1, by omega, by go_num, by rw [ET.out]; exact HO2.out, HB2.out⟩
      case measure => simp [intOf]; omega
    · obtain rfl : k = 5 := by omega
      have HO2 : Hid (OwnQ 55 wr w.heap.size u3 (xs ++ marksM)) := HOW.out
      go_wp2_with fail
      go_returns
      exact ret_quads HO2.out HB.out

theorem quads_head {w : World} {B : Nat} {A : Option Addr} {c : Nat} {xs ys : List Q4} (h : IsQuads w B A c (xs ++ ys)) : IsQuads w B A c xs := by
  obtain ⟨h1, h2, h3, h4⟩ := h
  refine ⟨?_, by rw [List.length_append] at h2; omega, h3, fun x hx => h4 x (List.mem_append_left _ hx)⟩
  exact (h1.less (by rw [List.length_append]; omega)).congr fun i hi j _ => by
    show cellQ ((xs ++ ys).getD i z4) j = cellQ (xs.getD i z4) j
    rw [List.getD_eq_getElem?_getD, List.getD_eq_getElem?_getD, List.getElem?_append_left hi]
theorem m4_keep {w Y : World} {b o : Nat} {a2 a3 a4 a5 : Value} (hb : b < w.heap.size)
    (h : w.cell? ⟨b, o, none⟩ = some a2 ∧ w.cell? ⟨b, o + 1, none⟩ = some a3 ∧ w.cell? ⟨b, o + 2, none⟩ = some a4 ∧ w.cell? ⟨b, o + 3, none⟩ = some a5) (hY : Below w.heap.size w Y) :
    Y.cell? ⟨b, o, none⟩ = some a2 ∧ Y.cell? ⟨b, o + 1, none⟩ = some a3 ∧ Y.cell? ⟨b, o + 2, none⟩ = some a4 ∧ Y.cell? ⟨b, o + 3, none⟩ = some a5 :=
  ⟨(hY.cell (p := ⟨b, o, none⟩) hb).trans h.1, (hY.cell (p := ⟨b, o + 1, none⟩) hb).trans h.2.1, (hY.cell (p := ⟨b, o + 2, none⟩) hb).trans h.2.2.1, (hY.cell (p := ⟨b, o + 3, none⟩) hb).trans h.2.2.2⟩
theorem kept_mark {w Y : World} (h : Below w.drew.heap.size w.drew Y) : Below w.heap.size w Y := through (Below.refl _ _).drew (Nat.le_refl _) h
set_option maxHeartbeats 2000000 in
theorem keptMea_any (A D : Option Addr) (c d : Nat) (xs : List Q4) (B B2 : Nat) (w : World) (hB : B ≤ w.heap.size) (h : IsQuads w B A c (xs ++ marksM)) (k : IsQuads w B2 D d xs) (hl : xs.length ≤ 1000000) :
    Calls Try.prog 52 #[.slice A (xs.length + 5) c, .slice D xs.length d] w fun e w' => e = .returned (.bool true) ∧ Below w.heap.size w w' := by
  have hc : xs.length + 5 ≤ c := by have := h.2.1; simpa [marksM] using this
  have hc2 : (c : Int) ≤ 9223372036854775807 := by have := h.2.2.1; unfold maxLen at this; omega
  have HS := Lib.hid (sameMea_any A D c d xs B B2 w (quads_head h) k)
  have HX := Lib.hid h
  have tl : (((xs.length + 5 : Nat) : Int) != (xs.length : Int) + 5) = false := by simp
  have tl2 : ((xs.length : Int) + 5 != (xs.length : Int) + 5) = false := by simp
  clear h k
  go_enter Try.func52, Try.ntmps52
  go_wp2_with fail
  refine HS.out.mono ?_
  rintro e w1 ⟨rfl, hb1⟩
  have HB1 := Lib.hid hb1
  clear hb1
  go_wp2_with fail
  go_loopw [5] (fun q wr => ∃ k : Nat, k ≤ 5 ∧ q = .int .i64 k ∧ Below w.heap.size w wr) (fun q _ => 5 - (intOf q).toNat)
  case atStart => exact ⟨0, by omega, rfl, HB1.out⟩
  case round =>
    obtain ⟨k, hk, rfl, hbl⟩ := hrel
    have HB := Lib.hid hbl
    clear hbl
    by_cases hlt : k < 5
    · have hkl : xs.length + k < (xs ++ marksM).length := by simp [marksM]; omega
      obtain ⟨b, o, v, rfl, hb, HV, -, c0, c1, c2, c3⟩ := quads_at (HX.out.below (HB.out.mono hB)) hkl
      have hv : v = (99 + (k : Int), 0, 0, 7) := by
        rw [← HV.out, List.getD_eq_getElem?_getD, List.getElem?_append_right (by omega), show xs.length + k - xs.length = k by omega, ← List.getD_eq_getElem?_getD, marksM_get hlt]
      subst hv
      simp only at c0 c1 c2 c3
      have hm : ∀ Y, Calls Try.prog 93 #[.int .i64 (k : Int)] Y fun e w' => e = .returned (.agg #[.int .i64 (99 + (k : Int)), .int .i64 0, .int .i64 0, .int .i64 7]) ∧ Below Y.heap.size Y w' := fun Y => markMea_any (k : Int) Y (by omega) (by omega)
      have HMK := Lib.hid hm
      have hkl2 : xs.length + k < xs.length + 5 := by omega
      have hbw : b < wr.heap.size := by have := HB.out.size; omega
      have hws : IntKind.i64.wrap ((xs.length : Int) + (k : Int)) = (xs.length : Int) + (k : Int) := by rw [IntKind.wrap_i64]; omega
      have h0s : (0 : Int) ≤ (xs.length : Int) + (k : Int) := by omega
      have h0t : ((xs.length : Int) + (k : Int)).toNat = xs.length + k := by omega
      have h0u : (xs.length : Int) + (k : Int) < (xs.length : Int) + 5 := by omega
      clear hm hkl HV
      go_upto_region 6 with (fail)
      go_region_held3 (fun w' => (w'.cell? ⟨b, o + (xs.length + k) * 4, none⟩ = some (.int .i64 (99 + (k : Int))) ∧ w'.cell? ⟨b, o + (xs.length + k) * 4 + 1, none⟩ = some (.int .i64 0) ∧ w'.cell? ⟨b, o + (xs.length + k) * 4 + 2, none⟩ = some (.int .i64 0) ∧ w'.cell? ⟨b, o + (xs.length + k) * 4 + 3, none⟩ = some (.int .i64 7)))
        (first | exact ⟨c0, c1, c2, c3⟩ | exact m4_keep hbw ⟨c0, c1, c2, c3⟩ (kept_mark hb1))
        ((first | (go_at_call 93; refine (HMK.out _).mono ?_; rintro e w1 ⟨rfl, hb1⟩)))
      clear hws h0s h0t h0u
      go_wp2_with fail
      go_roundw
      case rel => exact ⟨k + 1, by omega, by go_num, through HB.out (Nat.le_refl _) (kept_mark hb1)⟩
      case measure => simp [intOf]; omega
    · obtain rfl : k = 5 := by omega
      go_wp2_with fail
      go_returns
      exact ⟨rfl, HB.out⟩
end Go.Proofs.Ytcechimilefihaa.So

namespace Go.Proofs.Ytcechimilefihaa.So
open Go.ChangeShapes Go.WideShapes Go.ChangeAt Go.RowKit M Sp Fr

/-- a source of a rate, a Map, a sink -/
def lineL (rate : Int) : List OpP := [⟨1, [], 0, 0, 0, 8, rate, 1⟩, ⟨2, [0], 1, 0, 0, 0, 0, 1⟩, ⟨8, [1], 0, 0, 0, 0, 0, 1⟩]
def lineCells (rate : Int) (u v : Value) : Array Value := #[.int .i64 1, .slice none 0 0, .int .i64 0, .int .i64 0, .int .i64 0, .int .i64 8, .int .i64 rate, .int .i64 1, .int .i64 2, u, .int .i64 1, .int .i64 0, .int .i64 0, .int .i64 0, .int .i64 0, .int .i64 1, .int .i64 8, v, .int .i64 0, .int .i64 0, .int .i64 0, .int .i64 0, .int .i64 0, .int .i64 1]
def lineP (q r : Nat) (i : Nat) : Option Addr × Nat := if i = 1 then (some ⟨q, 0, none⟩, 1) else if i = 2 then (some ⟨r, 0, none⟩, 1) else (none, 0)
theorem line_ops {w : World} {q r g : Nat} {rate : Int} (hr : In64 rate) (h1 : Blk w q 3 #[.int .i64 0]) (h2 : Blk w r 3 #[.int .i64 1]) (h3 : Blk w g 40 (lineCells rate (.slice (some ⟨q, 0, none⟩) 1 1) (.slice (some ⟨r, 0, none⟩) 1 1))) :
    IsOps w w.heap.size (some ⟨g, 0, none⟩) (lineL rate) (lineP q r) := by
  refine ops_blk h3 (fun i hi j hj => ?_) (fun i hi => ?_)
  · have hi' : i < 3 := hi
    rcases (show i = 0 ∨ i = 1 ∨ i = 2 by omega) with rfl | rfl | rfl <;> rcases (show j = 0 ∨ j = 1 ∨ j = 2 ∨ j = 3 ∨ j = 4 ∨ j = 5 ∨ j = 6 ∨ j = 7 by omega) with rfl | rfl | rfl | rfl | rfl | rfl | rfl | rfl <;> rfl
  · have hi' : i < 3 := hi
    rcases (show i = 0 ∨ i = 1 ∨ i = 2 by omega) with rfl | rfl | rfl
    · exact ⟨⟨by show In64 1; unfold In64; decide, by show In64 0; unfold In64; decide, by show In64 0; unfold In64; decide, by show In64 0; unfold In64; decide, by show In64 8; unfold In64; decide, hr, by show In64 1; unfold In64; decide⟩, Sp.ints_nil _ _ (Nat.zero_le _)⟩
    · exact ⟨by show OpIn ⟨2, [0], 1, 0, 0, 0, 0, 1⟩; unfold OpIn In64; decide, ints_blk (xs := [0]) h1 (by decide) (by simp [In64])⟩
    · exact ⟨by show OpIn ⟨8, [1], 0, 0, 0, 0, 0, 1⟩; unfold OpIn In64; decide, ints_blk (xs := [1]) h2 (by decide) (by simp [In64])⟩

/-- a call returns the line -/
def RetLine (w : World) (rate : Int) (e : Ending) (w' : World) : Prop := ∃ A c p, e = .returned (.agg #[.int .i64 8, .slice A 3 c]) ∧ IsOps w' w'.heap.size A (lineL rate) p ∧ Below w.heap.size w w'
set_option maxHeartbeats 2000000 in
theorem line_any (rate : Int) (w : World) (hr : In64 rate) : Calls Try.prog 45 #[.int .i64 rate] w (RetLine w rate) := by
  go_enter Try.func45, Try.ntmps45
  go_wp2_with fail
  go_returns
  have T := (((((Bs.nil w w.heap.size).alloc (Nat.le_refl _) #[.int .i64 8, .slice (some ⟨w.heap.size + 1 + 1 + 1, 0, none⟩) 3 3] 24 rfl).alloc (Nat.le_refl _) #[.int .i64 0] 3 (g := w.heap.size + 1) (by simp)).alloc (Nat.le_refl _) #[.int .i64 1] 3 (g := w.heap.size + 1 + 1) (by simp)).alloc (Nat.le_refl _) (lineCells rate (.slice (some ⟨w.heap.size + 1, 0, none⟩) 1 1) (.slice (some ⟨w.heap.size + 1 + 1, 0, none⟩) 1 1)) 40 (g := w.heap.size + 1 + 1 + 1) (by simp))
  exact ⟨some ⟨w.heap.size + 1 + 1 + 1, 0, none⟩, 3, lineP (w.heap.size + 1) (w.heap.size + 1 + 1), by first | rfl | simp, line_ops hr T.g2 T.g1 T.g0, T.1⟩

theorem quads_blk {w : World} {g : Nat} {T : TypeId} {xs : List Q4} (h : Blk w g T (quadCells xs).toArray) (hl : xs.length ≤ 1000000) (h64 : ∀ x ∈ xs, In4 x) : IsQuads w w.heap.size (some ⟨g, 0, none⟩) xs.length xs := by
  refine ⟨(h.lies fun i hi j hj => ?_).more h.lt, Nat.le_refl _, by unfold maxLen; omega, h64⟩
  rw [List.getElem?_toArray]
  exact quadCells_get hi hj

theorem line_order (rate : Int) : orderF (lineL rate) = [0, 1, 2] := by first | rfl | kernel_rfl
theorem line_alone {rate : Int} (h0 : 1 ≤ rate) (h1 : rate ≤ 1048576) : ∀ j, j < (lineL rate).length → aloneE (lineL rate) j = 0 := by
  intro j hj
  have hj' : j < 3 := hj
  rcases (show j = 0 ∨ j = 1 ∨ j = 2 by omega) with rfl | rfl | rfl
  · have hp : partsB ⟨1, [], 0, 0, 0, 8, rate, 1⟩ = true := by unfold partsB btw; simp [h0, h1]
    show aloneO 3 0 ⟨1, [], 0, 0, 0, 8, rate, 1⟩ = 0
    unfold aloneO
    rw [hp]
    first | rfl | kernel_rfl
  · show aloneO 3 1 ⟨2, [0], 1, 0, 0, 0, 0, 1⟩ = 0
    decide +kernel
  · show aloneO 3 2 ⟨8, [1], 0, 0, 0, 0, 0, 1⟩ = 0
    decide +kernel
theorem line_chk {rate : Int} (h0 : 1 ≤ rate) (h1 : rate ≤ 1048576) : chkE 8 (lineL rate) = 0 := by
  refine chk_ok (btw_yes (by decide) (by decide)) (by show btw 3 1 12 = true; decide) (line_alone h0 h1) ?_ ?_ ?_
  · intro j hj
    have hj' : j < 3 := hj
    rcases (show j = 0 ∨ j = 1 ∨ j = 2 by omega) with rfl | rfl | rfl <;> first | rfl | kernel_rfl
  · rw [line_order]; exact Nat.le_refl _
  · intro j hj
    have hj' : j < 3 := hj
    rcases (show j = 0 ∨ j = 1 ∨ j = 2 by omega) with rfl | rfl | rfl <;> first | rfl | kernel_rfl
theorem line_ok {rate most : Int} {ms : List Mea} {cur : List Int} (h0 : 1 ≤ rate) (h1 : rate ≤ 1048576) (hm : 1 ≤ most) (hl : ms.length = 3) (hc : cur.length = 3) (hmo : ∀ x ∈ ms, MeaOk x) (hci : ∀ x ∈ cur, In64 x) : Ok 8 most (lineL rate) ms cur :=
  ⟨line_chk h0 h1, hl, hc, hm, fun i hi => by
    have hi' : i < ms.length := by rw [hl]; exact hi
    have : meaOf ms i ∈ ms := by unfold meaOf; rw [List.getD_eq_getElem?_getD, List.getElem?_eq_getElem hi']; exact List.getElem_mem hi'
    exact hmo _ this, fun x hx => hci x hx⟩
def wms1 : List Q4 := [(10, 10, 10, 0), (10, 20, 50, 0), (20, 0, 20, 0)]
def wms2 : List Q4 := [(10, 10, 10, 0), (10, 20, 0, 0), (20, 0, 20, 0)]
theorem wsol1 : (solF 8 8 (lineL 60) wms1 [4, 4, 4]).out = [1, 3, 2] ∧ (solF 8 8 (lineL 60) wms1 [4, 4, 4]).first = 0 := by decide +kernel
theorem wsol2 : (solF 8 8 (lineL 60) wms2 [1, 5, 6]).out = [1, 5, 6] ∧ (solF 8 8 (lineL 60) wms2 [1, 5, 6]).first = 14 := by decide +kernel
theorem wok1 : Ok 8 8 (lineL 60) wms1 [4, 4, 4] := line_ok (by decide) (by decide) (by decide) rfl rfl (by unfold MeaOk; decide) (by unfold In64; decide)
theorem wok2 : Ok 8 8 (lineL 60) wms2 [1, 5, 6] := line_ok (by decide) (by decide) (by decide) rfl rfl (by unfold MeaOk; decide) (by unfold In64; decide)

theorem RetSol.as {w w' : World} {st : St} {e : Ending} {out : List Int} {first : Int} (h : RetSol w st e w') (ho : st.out = out) (hf : st.first = first) :
    ∃ A c, e = .returned (.tuple #[.slice A out.length c, .int .i64 first]) ∧ OwnI w' w.heap.size (.slice A out.length c) out ∧ Below w.heap.size w w' := by
  subst ho; subst hf; exact h
theorem In64.lit {x : Int} (h0 : -100000 ≤ x) (h1 : x ≤ 2000000) : In64 x := by unfold In64; omega

set_option maxHeartbeats 4000000 in
theorem works_any (w : World) : Calls Try.prog 43 #[] w fun e w' => e = .returned (.bool true) ∧ Below w.heap.size w w' := by
  have HLN := Lib.hid (fun X => line_any 60 X (by unfold In64; decide))
  have T0 := (Bs.nil w w.heap.size).alloc (Nat.le_refl _) (quadCells wms1).toArray 55 rfl
  go_enter Try.func43, Try.ntmps43
  go_upto_region 2 with (fail)
  obtain ⟨X1, hX⟩ : ∃ X, w.alloc (.cells (quadCells wms1).toArray 55) = X := ⟨_, rfl⟩
  rw [hX] at T0
  have T := Lib.hid T0
  clear T0
  change Code.wp _ _ _ _ (w.alloc (.cells (quadCells wms1).toArray 55))
  rw [hX]
  clear hX
  go_wp2_with fail
  refine (HLN.out _).mono ?_
  rintro e w1 ⟨A1, c1, p1, rfl, hio, hb1⟩
  have T1 := Lib.hid (T.out.step (Nat.le_refl _) hb1)
  (clear T; have T := T1; clear T1)
  have HIO := Lib.hid hio
  clear hb1 hio
  -- the first call
  obtain ⟨bi, hg⟩ : ∃ k, w1.heap.size = k := ⟨_, rfl⟩
  obtain ⟨X2, hX⟩ : ∃ X, w1.alloc (.cells (intCells [4, 4, 4]) 3) = X := ⟨_, rfl⟩
  have T1 := Lib.hid (T.out.alloc (Nat.le_refl _) (intCells [4, 4, 4]) 3 hg)
  (clear T; have T := T1; clear T1)
  rw [hX] at T
  have HBX : Hid (Below w1.heap.size w1 X2) := hX ▸ (Below.refl _ _).alloc (Nat.le_refl _) _
  have HS := Lib.hid (solve_any 8 8 A1 (some ⟨w.heap.size, 0, none⟩) (some ⟨bi, 0, none⟩) c1 3 3 (lineL 60) p1 wms1 [4, 4, 4] X2 X2.heap.size (Nat.le_refl _) ((HIO.out.below HBX.out).more HBX.out.size) (quads_blk T.out.g1 (by decide) (by unfold In4 In64; decide)) (ints_blk T.out.g0 (by decide) (by unfold In64; decide)) wok1)
  have hX' : w1.alloc (.cells #[.int .i64 4, .int .i64 4, .int .i64 4] 3) = X2 := hX
  clear hX
  go_wp2_with fail
  (try rw [hX'])
  (try rw [hg])
  refine HS.out.mono ?_
  rintro e w2 hr
  obtain ⟨A2, c2, rfl, own2, hb2⟩ := hr.as wsol1.1 wsol1.2
  have HXM : Hid (w.heap.size < X2.heap.size) := T.out.g1.lt
  clear hr hX' hg HIO HBX HS
  have T1 := Lib.hid (T.out.step (Nat.le_refl _) hb2)
  (clear T; have T := T1; clear T1)
  have HO2 := Lib.hid own2
  have hM : w.heap.size < w2.heap.size := T.out.g1.lt
  have m6 : w2.cell? ⟨w.heap.size, 6, none⟩ = some (.int .i64 50) := T.out.g1.cell 6
  have f6 := T.out.g1.frozen 6
  have HW2 : Hid (Bs w w.heap.size [(w.heap.size, 55, (quadCells wms2).toArray)] (w2.setCell ⟨w.heap.size, 6, none⟩ (.int .i64 0))) :=
    ⟨T.out.1.setCell (Nat.le_refl _) _, fun z hz => by
      obtain rfl : z = (w.heap.size, 55, (quadCells wms2).toArray) := by simpa using hz
      exact T.out.g1.set_ 6 (.int .i64 0)⟩
  have HO3 := Lib.hid (HO2.out.far (a := ⟨w.heap.size, 6, none⟩) (fun e => by have := (HO2.out.blk _ e).1; have := HXM.out; simp only at *; omega) (.int .i64 0))
  clear own2 hb2 HO2 T
  have T := HW2
  clear HW2
  go_upto_region 4 with (fail)
  generalize w2.setCell ⟨w.heap.size, 6, none⟩ (.int .i64 0) = W4 at *
  clear m6 f6 hM
  go_wp2_with fail
  refine (HLN.out _).mono ?_
  rintro e w5 ⟨A5, c5, p5, rfl, hio, hb1⟩
  have T1 := Lib.hid (T.out.step (Nat.le_refl _) hb1)
  (clear T; have T := T1; clear T1)
  have HIO := Lib.hid hio
  have HO5 := Lib.hid (HO3.out.below hb1)
  clear hb1 hio HO3
  obtain ⟨bj, hg⟩ : ∃ k, w5.heap.size = k := ⟨_, rfl⟩
  obtain ⟨X6, hX⟩ : ∃ X, w5.alloc (.cells (intCells [1, 5, 6]) 3) = X := ⟨_, rfl⟩
  have T1 := Lib.hid (T.out.alloc (Nat.le_refl _) (intCells [1, 5, 6]) 3 hg)
  (clear T; have T := T1; clear T1)
  rw [hX] at T
  have HBX : Hid (Below w5.heap.size w5 X6) := hX ▸ (Below.refl _ _).alloc (Nat.le_refl _) _
  have HO6 := Lib.hid (HO5.out.below HBX.out)
  have HS := Lib.hid (solve_any 8 8 A5 (some ⟨w.heap.size, 0, none⟩) (some ⟨bj, 0, none⟩) c5 3 3 (lineL 60) p5 wms2 [1, 5, 6] X6 X6.heap.size (Nat.le_refl _) ((HIO.out.below HBX.out).more HBX.out.size) (quads_blk T.out.g1 (by decide) (by unfold In4 In64; decide)) (ints_blk T.out.g0 (by decide) (by unfold In64; decide)) wok2)
  have hX' : w5.alloc (.cells #[.int .i64 1, .int .i64 5, .int .i64 6] 3) = X6 := hX
  clear hX HO5
  go_wp2_with fail
  (try rw [hX'])
  (try rw [hg])
  refine HS.out.mono ?_
  rintro e w7 hr
  obtain ⟨A7, c7, rfl, own7, hb2⟩ := hr.as wsol2.1 wsol2.2
  clear hr hX' hg HIO HBX HS
  have T1 := Lib.hid (T.out.step (Nat.le_refl _) hb2)
  (clear T; have T := T1; clear T1)
  have HO7 := Lib.hid own7
  have HO8 := Lib.hid (HO6.out.below hb2)
  clear own7 hb2 HO6
  have HT1 := Lib.hid T.out.1
  clear T
  have HS1 := Lib.hid (sameInts_any A2 (some ⟨w7.heap.size, 0, none⟩) c2 3 [1, 3, 2] [1, 3, 2] _ _ (w7.alloc (.cells #[.int .i64 1, .int .i64 3, .int .i64 2] 3)) (HO8.out.alloc _).ints (ints_blk (Blk.new _ _ _) (by decide) (by simp [In64])))
  rw [sameB_yes rfl] at HS1
  go_wp2_with fail
  refine HS1.out.mono ?_
  rintro e w8 ⟨rfl, hb8⟩
  have HB8 := Lib.hid (throughAlloc HT1.out (Nat.le_refl _) hb8)
  have HO9 := Lib.hid ((HO7.out.alloc (.cells #[.int .i64 1, .int .i64 3, .int .i64 2] 3)).below hb8)
  clear hb8 HS1 HO7 HO8 HT1
  have HS2 := Lib.hid (sameInts_any A7 (some ⟨w8.heap.size, 0, none⟩) c7 3 [1, 5, 6] [1, 5, 6] _ _ (w8.alloc (.cells #[.int .i64 1, .int .i64 5, .int .i64 6] 3)) (HO9.out.alloc _).ints (ints_blk (Blk.new _ _ _) (by decide) (by simp [In64])))
  rw [sameB_yes rfl] at HS2
  go_wp2_with fail
  refine HS2.out.mono ?_
  rintro e w9 ⟨rfl, hb9⟩
  have HB9 := Lib.hid (throughAlloc HB8.out (Nat.le_refl _) hb9)
  clear hb9
  go_wp2_with fail
  go_returns
  exact ⟨rfl, HB9.out⟩
end Go.Proofs.Ytcechimilefihaa.So

namespace Go.Proofs.Ytcechimilefihaa.So
open Go.ChangeShapes Go.WideShapes Go.ChangeAt Go.RowKit M Sp Fr

theorem check_long (g : Int) (A : Option Addr) (c : Nat) (l : List OpP) (h : 12 < l.length) (hl : l.length ≤ 9223372036854775807) (w : World) :
    Calls Try.prog 28 #[.agg #[.int .i64 g, .slice A l.length c]] w fun e w' => e = .returned (.int .i64 (chkE g l)) ∧ Below w.heap.size w w' := by
  have e2 : btw (l.length : Int) 1 12 = false := btw_no (by omega)
  cases e1 : btw g 1 64 with
  | false =>
    have E := Lib.hid (chk_g (l := l) e1)
    go_enter Try.func28, Try.ntmps28
    go_wp2_with (go_at_call 61; refine (between_any _ _ _ _).mono ?_; rintro e w' ⟨rfl, rfl⟩)
    go_returns
    exact ⟨Sp.ret_int E.out.symm, by go_grown⟩
  | true =>
    have E := Lib.hid (chk_n e1 e2)
    go_enter Try.func28, Try.ntmps28
    go_wp2_with (go_at_call 61; refine (between_any _ _ _ _).mono ?_; rintro e w' ⟨rfl, rfl⟩)
    go_returns
    exact ⟨Sp.ret_int E.out.symm, by go_grown⟩
theorem checkI_any (g : Int) (A : Option Addr) (c : Nat) (l : List OpP) (p : Nat → Option Addr × Nat) (hl : l.length ≤ 9223372036854775807) (w : World) (B : Nat) (hB : B ≤ w.heap.size) (h : IsOps w B A l p) :
    Calls Try.prog 28 #[.agg #[.int .i64 g, .slice A l.length c]] w fun e w' => e = .returned (.int .i64 (chkE g l)) ∧ Below w.heap.size w w' := by
  by_cases h12 : l.length ≤ 12
  · exact check_any g A c l p (by omega) w B hB h
  · exact check_long g A c l (by omega) hl w


def posM (m : Q4) : Bool := decide (0 ≤ m.1) && decide (0 ≤ m.2.1) && decide (0 ≤ m.2.2.1)
def rightB (g most : Int) (l : List OpP) (ms : List Q4) (cur : List Int) : Bool :=
  decide (chkE g l = 0) && decide (ms.length = l.length) && decide (cur.length = l.length) && decide (1 ≤ most) && ms.all posM
theorem rightB_no {g most : Int} {l : List OpP} {ms : List Q4} {cur : List Int} (h : chkE g l ≠ 0 ∨ ms.length ≠ l.length ∨ cur.length ≠ l.length ∨ most < 1 ∨ ms.all posM = false) : rightB g most l ms cur = false := by
  cases hr : rightB g most l ms cur with
  | false => rfl
  | true =>
    unfold rightB at hr
    simp only [Bool.and_eq_true, decide_eq_true_eq] at hr
    obtain ⟨⟨⟨⟨h1, h2⟩, h3⟩, h4⟩, h5⟩ := hr
    rcases h with h | h | h | h | h
    · exact absurd h1 h
    · exact absurd h2 h
    · exact absurd h3 h
    · omega
    · rw [h5] at h; cases h
theorem rightB_ok {g most : Int} {l : List OpP} {ms : List Q4} {cur : List Int} (h : rightB g most l ms cur = true) (hm : ∀ x ∈ ms, In4 x) (hc : ∀ x ∈ cur, In64 x) : Ok g most l ms cur := by
  unfold rightB at h
  simp only [Bool.and_eq_true, decide_eq_true_eq] at h
  obtain ⟨⟨⟨⟨h1, h2⟩, h3⟩, h4⟩, h5⟩ := h
  rw [List.all_eq_true] at h5
  refine ⟨h1, h2, h3, h4, fun i hi => ?_, fun x hx => hc x hx⟩
  have hi' : i < ms.length := by rw [h2]; exact hi
  have hmem : meaOf ms i ∈ ms := by unfold meaOf; rw [List.getD_eq_getElem?_getD, List.getElem?_eq_getElem hi']; exact List.getElem_mem hi'
  have h6 := h5 _ hmem
  have h7 := hm _ hmem
  unfold posM at h6
  simp only [Bool.and_eq_true, decide_eq_true_eq] at h6
  obtain ⟨a, b, c, -⟩ := h7
  unfold In64 at a b c
  exact ⟨h6.1.1, a.2, h6.1.2, b.2, h6.2, c.2⟩
theorem posM_no {m : Q4} (h : m.1 < 0 ∨ m.2.1 < 0 ∨ m.2.2.1 < 0) : posM m = false := by
  cases hp : posM m with
  | false => rfl
  | true =>
    unfold posM at hp
    simp only [Bool.and_eq_true, decide_eq_true_eq] at hp
    omega
theorem posM_yes {m : Q4} (h0 : 0 ≤ m.1) (h1 : 0 ≤ m.2.1) (h2 : 0 ≤ m.2.2.1) : posM m = true := by
  unfold posM
  simp only [Bool.and_eq_true, decide_eq_true_eq]
  exact ⟨⟨h0, h1⟩, h2⟩
theorem all_no {ms : List Q4} {k : Nat} {m : Q4} (hk : k < ms.length) (he : ms.getD k z4 = m) (h : posM m = false) : ms.all posM = false := by
  cases ha : ms.all posM with
  | false => rfl
  | true =>
    rw [List.all_eq_true] at ha
    have := ha _ (quads_mem hk)
    rw [he, h] at this; cases this
theorem all_yes {ms : List Q4} (h : ∀ j, j < ms.length → posM (ms.getD j z4) = true) : ms.all posM = true := by
  rw [List.all_eq_true]
  intro x hx
  obtain ⟨j, hj, rfl⟩ := List.getElem_of_mem hx
  have := h j hj
  rwa [List.getD_eq_getElem?_getD, List.getElem?_eq_getElem hj] at this

theorem s2_keep {w Y : World} {x : Nat} {a b : Value} (hx : x < w.heap.size) (h : w.cell? ⟨x, 0, none⟩ = some a ∧ w.cell? ⟨x, 1, none⟩ = some b) (hY : Below w.heap.size w Y) : Y.cell? ⟨x, 0, none⟩ = some a ∧ Y.cell? ⟨x, 1, none⟩ = some b :=
  ⟨(hY.cell (p := ⟨x, 0, none⟩) hx).trans h.1, (hY.cell (p := ⟨x, 1, none⟩) hx).trans h.2⟩
theorem kB0 {w w1 : World} (hb : Below w.drew.heap.size w.drew w1) : Below w.heap.size w w1 := through (Below.refl _ _).drew (Nat.le_refl _) hb
set_option maxHeartbeats 4000000 in
theorem right_any (g most : Int) (A M C : Option Addr) (c mc cc : Nat) (l : List OpP) (p : Nat → Option Addr × Nat) (ms : List Q4) (cur : List Int) (hl : l.length ≤ 9223372036854775807) (w : World) (B : Nat) (hB : B ≤ w.heap.size) (h : IsOps w B A l p) (hm : IsQuads w B M mc ms) (hc : IsInts w B ⟨C, cc, cur⟩) :
    Calls Try.prog 46 #[.agg #[.int .i64 g, .slice A l.length c], .slice M ms.length mc, .slice C cur.length cc, .int .i64 most] w fun e w' => e = .returned (.bool (rightB g most l ms cur)) ∧ Below w.heap.size w w' := by
  have hml := hm.len
  have hcl : (cur.length : Int) ≤ 9223372036854775807 := by have h1 := hc.2.1; have h2 := hc.2.2.1; unfold maxLen at h2; simp only at h1 h2; omega
  have T0 := (Bs.nil w w.heap.size).alloc (Nat.le_refl _) #[.int .i64 g, .slice A l.length c] 24 rfl
  obtain ⟨X, hX⟩ : ∃ X, w.alloc (.cells #[.int .i64 g, .slice A l.length c] 24) = X := ⟨_, rfl⟩
  rw [hX] at T0
  have T := Lib.hid T0
  have HCK := Lib.hid (checkI_any g A c l p hl X B (Nat.le_trans hB T.out.1.size) (h.below (T.out.1.mono hB)))
  have HH := Lib.hid h
  have HM := Lib.hid hm
  clear T0 h hm hc
  obtain ⟨s0, s1⟩ := Sp.spec_blk T.out.g0
  have HX := Lib.hid hX
  clear hX
  by_cases h1 : chkE g l = 0
  · rw [h1] at HCK
    have HC1 := Lib.hid h1
    clear h1
    by_cases h2 : ms.length = l.length
    · have t2 : ((ms.length : Int) != (l.length : Int)) = false := by rw [h2]; simp
      by_cases h3 : cur.length = l.length
      · have t3 : ((cur.length : Int) != (l.length : Int)) = false := by rw [h3]; simp
        by_cases h4 : most < 1
        · have HE := Lib.hid (rightB_no (g := g) (l := l) (ms := ms) (cur := cur) (.inr (.inr (.inr (.inl h4)))))
          have t4 : decide (most < 1) = true := by simpa using h4
          (go_enter Try.func46, Try.ntmps46; go_upto_region 1 with (fail); rw [HX.out]; go_wp2_with fail; refine HCK.out.mono ?_; rintro e w1 ⟨rfl, hb1⟩; have T2 := Lib.hid (T.out.step (Nat.le_refl _) hb1); clear hb1 s0 s1; obtain ⟨s0, s1⟩ := Sp.spec_blk T2.out.g0; have HBB := Lib.hid T2.out.1; go_wp2_with fail)
          (go_returns; exact ⟨Sp.ret_bool (HE.out.symm), HBB.out⟩)
        · have t4 : decide (most < 1) = false := by simpa using h4
          have HL2 := Lib.hid h2
          have HL3 := Lib.hid h3
          clear h2 h3
          (go_enter Try.func46, Try.ntmps46; go_upto_region 1 with (fail); rw [HX.out]; go_wp2_with fail; refine HCK.out.mono ?_; rintro e w1 ⟨rfl, hb1⟩; have T2 := Lib.hid (T.out.step (Nat.le_refl _) hb1); clear hb1 s0 s1; obtain ⟨s0, s1⟩ := Sp.spec_blk T2.out.g0; have HBB := Lib.hid T2.out.1; go_wp2_with fail)
          go_loopw [9] (fun u wr => ∃ k : Nat, k ≤ ms.length ∧ u = .int .i64 k ∧ Bs w w.heap.size [(w.heap.size, 24, #[.int .i64 g, .slice A l.length c])] wr ∧ ∀ j, j < k → posM (ms.getD j z4) = true) (fun u _ => ms.length - (intOf u).toNat)
          case atStart => exact ⟨0, by omega, rfl, T2.out, fun j hj => absurd hj (by omega)⟩
          case round =>
            clear T T2 s0 s1
            obtain ⟨k, hk, rfl, htr, hall⟩ := hrel
            have T := Lib.hid htr
            have HA := Lib.hid hall
            have HBB := Lib.hid htr.1
            clear htr hall
            by_cases hlt : k < ms.length
            · obtain ⟨b, o, x, rfl, hb, HV, -, c0, c1, c2, c3⟩ := quads_at (HM.out.below (T.out.1.mono hB)) hlt
              obtain ⟨ma, mb, md, me⟩ := x
              simp only at c0 c1 c2 c3
              by_cases n0 : ma < 0
              · have HE := Lib.hid (rightB_no (g := g) (most := most) (l := l) (cur := cur) (.inr (.inr (.inr (.inr (all_no hlt HV.out (posM_no (.inl n0))))))))
                go_wp2_with fail
                (go_returns; exact ⟨Sp.ret_bool (HE.out.symm), HBB.out⟩)
              · have d0 : decide (ma < 0) = false := by simpa using n0
                by_cases n1 : mb < 0
                · have HE := Lib.hid (rightB_no (g := g) (most := most) (l := l) (cur := cur) (.inr (.inr (.inr (.inr (all_no hlt HV.out (posM_no (.inr (.inl n1)))))))))
                  go_wp2_with fail
                  (go_returns; exact ⟨Sp.ret_bool (HE.out.symm), HBB.out⟩)
                · have d1 : decide (mb < 0) = false := by simpa using n1
                  by_cases n2 : md < 0
                  · have HE := Lib.hid (rightB_no (g := g) (most := most) (l := l) (cur := cur) (.inr (.inr (.inr (.inr (all_no hlt HV.out (posM_no (.inr (.inr n2)))))))))
                    go_wp2_with fail
                    (go_returns; exact ⟨Sp.ret_bool (HE.out.symm), HBB.out⟩)
                  · have d2 : decide (md < 0) = false := by simpa using n2
                    have HP := Lib.hid (posM_yes (m := (ma, mb, md, me)) (by show 0 ≤ ma; omega) (by show 0 ≤ mb; omega) (by show 0 ≤ md; omega))
                    go_wp2_with fail
                    go_roundw
                    case rel => exact ⟨k + 1, by omega, by go_num, T.out, fun j hj => by
                      rcases (show j < k ∨ j = k by omega) with h | rfl
                      · exact HA.out j h
                      · rw [HV.out]; exact HP.out⟩
                    case measure => simp [intOf]; omega
            · obtain rfl : k = ms.length := by omega
              have HJ := Lib.hid (ok_of HC1.out)
              have HE : Hid (rightB g most l ms cur = true) := by
                show rightB g most l ms cur = true
                unfold rightB
                rw [HC1.out, all_yes HA.out]
                simp only [Bool.and_eq_true, decide_eq_true_eq]
                exact ⟨⟨⟨⟨trivial, HL2.out⟩, HL3.out⟩, by omega⟩, trivial⟩
              have hl12 := HJ.out.len.2
              have HOR := Lib.hid (fun Y (hY : Below wr.heap.size wr Y) => order_any g A c l p Y B (by have h1 := HBB.out.size; have h2 := hY.size; omega) ((HH.out.below (HBB.out.mono hB)).below (hY.mono (by have h1 := HBB.out.size; omega))) (by omega))
              obtain ⟨s0, s1⟩ := Sp.spec_blk T.out.g0
              have hwr : w.heap.size < wr.heap.size := T.out.g0.lt
              have HOL := Lib.hid HJ.out.olen
              have tq : ((l.length : Int) == (l.length : Int)) = true := by simp
              go_upto_region 8 with (fail)
              go_region_held3 (fun w' => (w'.cell? ⟨w.heap.size, 0, none⟩ = some (.int .i64 g) ∧ w'.cell? ⟨w.heap.size, 1, none⟩ = some (.slice A l.length c)))
                (first | exact ⟨s0, s1⟩ | exact s2_keep hwr ⟨s0, s1⟩ (kB0 hb1))
                ((first | (go_at_call 21; refine (HOR.out _ (Below.refl _ _).drew).mono ?_; rintro e w2 ⟨A2, c2, rfl, own2, hb1⟩; rw [HOL.out])))
              have HB2 := Lib.hid (through HBB.out (Nat.le_refl _) (kB0 hb1))
              clear hb1 own2
              go_wp2_with fail
              go_returns
              exact ⟨Sp.ret_bool HE.out.symm, HB2.out⟩
      · have HE := Lib.hid (rightB_no (g := g) (most := most) (ms := ms) (.inr (.inr (.inl h3))))
        have t3 : ((cur.length : Int) != (l.length : Int)) = true := by simp; omega
        (go_enter Try.func46, Try.ntmps46; go_upto_region 1 with (fail); rw [HX.out]; go_wp2_with fail; refine HCK.out.mono ?_; rintro e w1 ⟨rfl, hb1⟩; have T2 := Lib.hid (T.out.step (Nat.le_refl _) hb1); clear hb1 s0 s1; obtain ⟨s0, s1⟩ := Sp.spec_blk T2.out.g0; have HBB := Lib.hid T2.out.1; go_wp2_with fail)
        (go_returns; exact ⟨Sp.ret_bool (HE.out.symm), HBB.out⟩)
    · have HE := Lib.hid (rightB_no (g := g) (most := most) (cur := cur) (.inr (.inl h2)))
      have t2 : ((ms.length : Int) != (l.length : Int)) = true := by simp; omega
      (go_enter Try.func46, Try.ntmps46; go_upto_region 1 with (fail); rw [HX.out]; go_wp2_with fail; refine HCK.out.mono ?_; rintro e w1 ⟨rfl, hb1⟩; have T2 := Lib.hid (T.out.step (Nat.le_refl _) hb1); clear hb1 s0 s1; obtain ⟨s0, s1⟩ := Sp.spec_blk T2.out.g0; have HBB := Lib.hid T2.out.1; go_wp2_with fail)
      (go_returns; exact ⟨Sp.ret_bool (HE.out.symm), HBB.out⟩)
  · have HE := Lib.hid (rightB_no (most := most) (ms := ms) (cur := cur) (.inl h1))
    have t1 : (chkE g l != 0) = true := by simpa using h1
    clear h1
    go_enter Try.func46, Try.ntmps46
    go_upto_region 1 with (fail)
    rw [HX.out]
    go_wp2_with fail
    refine HCK.out.mono ?_
    rintro e w1 ⟨rfl, hb1⟩
    have HBB := Lib.hid (through T.out.1 (Nat.le_refl _) hb1)
    clear hb1
    go_wp2_with fail
    (go_returns; exact ⟨Sp.ret_bool (HE.out.symm), HBB.out⟩)
end Go.Proofs.Ytcechimilefihaa.So

namespace Go.Proofs.Ytcechimilefihaa.So
open Go Sp Fr

theorem right_self' {a b : Int} (h : Lowest a b) : rightR a.toNat b.toNat = ⟨a, b, true⟩ := by
  obtain ⟨h0, h1, h2, h3, h4⟩ := h
  rw [rightR_yes (by rw [h4, Nat.div_one]; unfold M63; omega) (by rw [h4, Nat.div_one]; unfold M63; omega), h4, Nat.div_one, Nat.div_one]
  congr 1 <;> omega
theorem right_mulk (n d k : Nat) (hk : 0 < k) (hd : 0 < d) : rightR (n * k) (d * k) = rightR n d := by
  unfold rightR bigB
  have e : Nat.gcd (n * k) (d * k) = Nat.gcd n d * k := Nat.gcd_mul_right n k d
  have g := Nat.gcd_pos_of_pos_right n hd
  rw [e, Nat.mul_div_mul_right _ _ hk, Nat.mul_div_mul_right _ _ hk]
/-- small enough -/
theorem right_ok {n d : Nat} (h1 : n ≤ M63) (h2 : d ≤ M63) : (rightR n d).ok = true := by
  rw [rightR_yes (Nat.le_trans (Nat.div_le_self _ _) h1) (Nat.le_trans (Nat.div_le_self _ _) h2)]
/-- what is cut away -/
theorem right_parts {n d : Nat} (hd : 0 < d) (h : (rightR n d).ok = true) : ∃ g : Nat, 0 < g ∧ n = (rightR n d).n.toNat * g ∧ d = (rightR n d).d.toNat * g ∧ 0 ≤ (rightR n d).n ∧ 1 ≤ (rightR n d).d := by
  by_cases hb : M63 < n / Nat.gcd n d ∨ M63 < d / Nat.gcd n d
  · rw [rightR_no hb] at h; cases h
  · rw [rightR_yes (by omega) (by omega)]
    have g := Nat.gcd_pos_of_pos_right n hd
    refine ⟨Nat.gcd n d, g, ?_, ?_, Int.natCast_nonneg _, ?_⟩
    · show n = ((n / Nat.gcd n d : Nat) : Int).toNat * _
      rw [Int.toNat_natCast, Nat.div_mul_cancel (Nat.gcd_dvd_left n d)]
    · show d = ((d / Nat.gcd n d : Nat) : Int).toNat * _
      rw [Int.toNat_natCast, Nat.div_mul_cancel (Nat.gcd_dvd_right n d)]
    · show 1 ≤ ((d / Nat.gcd n d : Nat) : Int)
      have : 0 < d / Nat.gcd n d := Nat.div_pos (Nat.le_of_dvd hd (Nat.gcd_dvd_right n d)) g
      omega
/-- a product of two quotients -/
theorem times_right {P Q p q : Nat} (hQ : 0 < Q) (hq : 0 < q) (h1 : (rightR P Q).ok = true) (h2 : (rightR p q).ok = true) :
    timesR (rightR P Q).n (rightR P Q).d (rightR p q).n (rightR p q).d = rightR (P * p) (Q * q) := by
  obtain ⟨g, hg, a1, a2, -, a3⟩ := right_parts hQ h1
  obtain ⟨k, hk, b1, b2, -, b3⟩ := right_parts hq h2
  unfold timesR
  generalize (rightR P Q).n.toNat = x at *
  generalize hy : (rightR P Q).d.toNat = y at *
  generalize (rightR p q).n.toNat = u at *
  generalize hv : (rightR p q).d.toNat = v at *
  have hy0 : 0 < y := by omega
  have hv0 : 0 < v := by omega
  rw [a1, a2, b1, b2, show x * g * (u * k) = x * u * (g * k) by ac_rfl, show y * g * (v * k) = y * v * (g * k) by ac_rfl]
  exact (right_mulk (x * u) (y * v) (g * k) (Nat.mul_pos hg hk) (Nat.mul_pos hy0 hv0)).symm
theorem ceil_right {N D : Nat} (hD : 0 < D) (h : (rightR N D).ok = true) : ceilR (rightR N D).n (rightR N D).d = ceilR N D := by
  obtain ⟨g, hg, a1, a2, h0, h1⟩ := right_parts hD h
  generalize (rightR N D).n = n at *
  generalize (rightR N D).d = d at *
  have en : (N : Int) = n * g := by
    have : (n.toNat : Int) = n := Int.toNat_of_nonneg h0
    rw [a1, Int.natCast_mul, this]
  have ed : (D : Int) = d * g := by
    have : (d.toNat : Int) = d := Int.toNat_of_nonneg (by omega)
    rw [a2, Int.natCast_mul, this]
  rw [en, ed]
  unfold ceilR
  have gp : (0 : Int) < g := by omega
  -- n*g + d*g - 1 = (n + d - 1) * g + (g - 1)
  have e : n * (g : Int) + d * g - 1 = (n + d - 1) * g + (g - 1) := by
    rw [Int.sub_mul, Int.add_mul, Int.one_mul]; omega
  have hx : (n * (g : Int) + d * g - 1) / g = n + d - 1 := by
    rw [e, Int.add_comm, Int.add_mul_ediv_right _ _ (by omega), Int.ediv_eq_zero_of_lt (by omega) (by omega), Int.zero_add]
  rw [Int.mul_comm d, ← Int.ediv_ediv_of_nonneg (by omega), ← Int.mul_comm d, hx]

/-- whole tasks: the least number that is not less -/
theorem ceil_le {N D n : Int} (hD : 0 < D) : ceilR N D ≤ n ↔ N ≤ n * D := by
  unfold ceilR
  constructor
  · intro h
    have h1 := Int.mul_ediv_add_emod (N + D - 1) D
    have h2 := Int.emod_lt_of_pos (N + D - 1) hD
    have h3 : D * ((N + D - 1) / D) ≤ D * n := Int.mul_le_mul_of_nonneg_left h (by omega)
    rw [Int.mul_comm n D]; omega
  · intro h
    have h1 := Int.mul_ediv_add_emod (N + D - 1) D
    have h2 := Int.emod_nonneg (N + D - 1) (show D ≠ 0 by omega)
    rcases Int.lt_or_le n ((N + D - 1) / D) with h3 | h3
    · exfalso
      have h4 : D * (n + 1) ≤ D * ((N + D - 1) / D) := Int.mul_le_mul_of_nonneg_left (by omega) (by omega)
      rw [Int.mul_add, Int.mul_comm D n] at h4; omega
    · exact h3
theorem ceil_mono {N N' D : Int} (hD : 0 < D) (h : N ≤ N') : ceilR N D ≤ ceilR N' D := by
  rw [ceil_le hD]
  exact Int.le_trans h ((ceil_le hD).1 (Int.le_refl _))
theorem cut_mono {t t' lim : Int} (hl : 1 ≤ lim) (h : t ≤ t') : cutF t lim ≤ cutF t' lim := by
  rw [cut_min hl, cut_min hl]; omega

/-- what an operator needs, whose rate is the quotient P by Q -/
theorem need_right {P Q i o b x : Nat} (hQ : 0 < Q) (hi : 0 < i) (hb : 0 < b) (h1 : P * o ≤ M63) (h2 : Q * i * 100 ≤ M63) (h3 : P * b ≤ M63) (hP : P ≤ M63) (ho : o ≤ M63) (hbM : b ≤ M63) :
    needR (rightR P Q) ((i : Int), (o : Int), (b : Int), (x : Int)) = ⟨ceilR ((P * b : Nat) : Int) ((Q * (i * 100) : Nat) : Int), (rightR (P * o) (Q * i)).n, (rightR (P * o) (Q * i)).d, 0⟩ := by
  have hQi : Q * i ≤ M63 := by
    have : Q * i * 1 ≤ Q * i * 100 := Nat.mul_le_mul_left _ (by omega)
    omega
  have hQM : Q ≤ M63 := Nat.le_trans (Nat.le_mul_of_pos_right Q hi) hQi
  have hi100 : i * 100 ≤ M63 := by
    have : 1 * (i * 100) ≤ Q * (i * 100) := Nat.mul_le_mul_right _ hQ
    rw [Nat.mul_assoc] at h2; omega
  have hiM : i ≤ M63 := by omega
  have e1 : eachR ((i : Int), (o : Int), (b : Int), (x : Int)) = rightR o i := by
    unfold eachR ofR; simp only
    rw [if_neg (by omega), Int.toNat_natCast, Int.toNat_natCast]
  have e2 : costR ((i : Int), (o : Int), (b : Int), (x : Int)) = rightR b (i * 100) := by
    unfold costR ofR; simp only
    rw [if_neg (by omega), Int.toNat_natCast]
    congr 1
    try omega
  have k0 := right_ok hP hQM
  have k1 := right_ok ho hiM
  have k2 := right_ok hbM hi100
  have g1 : givesR (rightR P Q) ((i : Int), (o : Int), (b : Int), (x : Int)) = rightR (P * o) (Q * i) := by
    unfold givesR; rw [e1]; exact times_right hQ hi k0 k1
  have g2 : allR (rightR P Q) ((i : Int), (o : Int), (b : Int), (x : Int)) = rightR (P * b) (Q * (i * 100)) := by
    unfold allR; rw [e2]; exact times_right hQ (by omega) k0 k2
  have k3 := right_ok h1 hQi
  have k4 := right_ok h3 (show Q * (i * 100) ≤ M63 by rw [← Nat.mul_assoc]; exact h2)
  have hf : fits (((i : Int), (o : Int), (b : Int), (x : Int)).1 * 100) = true := by
    apply fits_yes; unfold I64; unfold M63 at hi100; simp only; omega
  rw [need_some (by simp only; omega) k0 hf (by rw [g1]; exact k3) (by rw [g2]; exact k4), g1, g2, ceil_right (Nat.mul_pos hQ (by omega)) k4]

theorem sum_one {kn : List Kn} {x : Int} {n d : Int} (h : knOf kn x.toNat = ⟨n, d, true⟩) (hl : Lowest n d) : sumSt kn [x] 1 = ⟨n, d, true⟩ := by
  show (if (R.mk 0 1 true).ok then plusR 0 1 (knOf kn x.toNat).n (knOf kn x.toNat).d else _) = _
  rw [if_pos rfl, h]
  show plusR 0 1 n d = _
  unfold plusR
  rw [show (0 : Int).toNat = 0 from rfl, show (1 : Int).toNat = 1 from rfl, Nat.mul_one, Nat.zero_mul, Nat.zero_add, Nat.one_mul]
  exact right_self' hl

/-- the line, where all can be told -/
theorem line_sol {rate most : Int} {m0 m1 m2 : Mea} {a b c : Int} {t0 n0 d0 t1 n1 d1 t2 n2 d2 : Int}
    (h0 : needR ⟨rate, 1, true⟩ m0 = ⟨t0, n0, d0, 0⟩) (l0 : Lowest n0 d0) (h1 : needR ⟨n0, d0, true⟩ m1 = ⟨t1, n1, d1, 0⟩) (l1 : Lowest n1 d1) (h2 : needR ⟨n1, d1, true⟩ m2 = ⟨t2, n2, d2, 0⟩) :
    (solF 8 most (lineL rate) [m0, m1, m2] [a, b, c]).out = [cutF t0 (limF 8 most (lineL rate) 0), cutF t1 (limF 8 most (lineL rate) 1), cutF t2 (limF 8 most (lineL rate) 2)] ∧ (solF 8 most (lineL rate) [m0, m1, m2] [a, b, c]).first = 0 := by
  have e0 : rateF (lineL rate) [default, default, default] 0 = ⟨rate, 1, true⟩ := rfl
  have s1 : solSt 8 most (lineL rate) [m0, m1, m2] [a, b, c] 1 = ⟨[cutF t0 (limF 8 most (lineL rate) 0), b, c], [⟨n0, d0, true⟩, default, default], 0⟩ := by
    show stepF 8 most (lineL rate) [m0, m1, m2] ⟨[a, b, c], [default, default, default], 0⟩ 0 = _
    rw [step_yes rfl (by show (needR _ m0).e = 0; rw [e0, h0])]
    show St.mk ([a, b, c].set 0 (cutF (needR _ m0).t _)) ([default, default, default].set 0 ⟨(needR _ m0).n, (needR _ m0).d, true⟩) 0 = _
    rw [e0, h0]; rfl
  have e1 : rateF (lineL rate) [⟨n0, d0, true⟩, default, default] 1 = ⟨n0, d0, true⟩ := sum_one (x := 0) rfl l0
  have s2 : solSt 8 most (lineL rate) [m0, m1, m2] [a, b, c] 2 = ⟨[cutF t0 (limF 8 most (lineL rate) 0), cutF t1 (limF 8 most (lineL rate) 1), c], [⟨n0, d0, true⟩, ⟨n1, d1, true⟩, default], 0⟩ := by
    show stepF 8 most (lineL rate) [m0, m1, m2] (solSt 8 most (lineL rate) [m0, m1, m2] [a, b, c] 1) 1 = _
    rw [s1, step_yes rfl (by show (needR _ m1).e = 0; rw [e1, h1])]
    show St.mk ([_, b, c].set 1 (cutF (needR _ m1).t _)) ([_, default, default].set 1 ⟨(needR _ m1).n, (needR _ m1).d, true⟩) 0 = _
    rw [e1, h1]; rfl
  have e2 : rateF (lineL rate) [⟨n0, d0, true⟩, ⟨n1, d1, true⟩, default] 2 = ⟨n1, d1, true⟩ := sum_one (x := 1) rfl l1
  have s3 : solSt 8 most (lineL rate) [m0, m1, m2] [a, b, c] 3 = ⟨[cutF t0 (limF 8 most (lineL rate) 0), cutF t1 (limF 8 most (lineL rate) 1), cutF t2 (limF 8 most (lineL rate) 2)], [⟨n0, d0, true⟩, ⟨n1, d1, true⟩, ⟨n2, d2, true⟩], 0⟩ := by
    show stepF 8 most (lineL rate) [m0, m1, m2] (solSt 8 most (lineL rate) [m0, m1, m2] [a, b, c] 2) 2 = _
    rw [s2, step_yes rfl (by show (needR _ m2).e = 0; rw [e2, h2])]
    show St.mk ([_, _, c].set 2 (cutF (needR _ m2).t _)) ([_, _, default].set 2 ⟨(needR _ m2).n, (needR _ m2).d, true⟩) 0 = _
    rw [e2, h2]; rfl
  have hf : solF 8 most (lineL rate) [m0, m1, m2] [a, b, c] = solSt 8 most (lineL rate) [m0, m1, m2] [a, b, c] 3 := by unfold solF; rw [line_order]; rfl
  rw [hf, s3]; exact ⟨rfl, rfl⟩
end Go.Proofs.Ytcechimilefihaa.So
