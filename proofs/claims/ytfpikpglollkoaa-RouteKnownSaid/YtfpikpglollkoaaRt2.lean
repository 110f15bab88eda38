/- Lists lent and kept; spots held against one another, and written over. -/
import Derived.Test.YtfpikpglollkoaaKi
import Derived.Test.YtfpikpglollkoaaPair
namespace Go.Proofs.Ytfpikpglollkoaa.Rt
open Go.ChangeShapes Go.WideShapes Go.ChangeAt Go.RowKit M Sp

set_option maxHeartbeats 1000000 in
theorem sameSpots_any (A D : Option Addr) (c d : Nat) (xs : List (Int × Int)) (B B2 : Nat) (w : World) (h : IsPairs w B A c xs) (k : IsPairs w B2 D d xs) :
    Calls Try.prog 41 #[.slice A xs.length c, .slice D xs.length d] w fun e w' => e = .returned (.bool true) ∧ Below w.heap.size w w' := by
  have hlen := h.len
  have HX := Lib.hid h
  have HY := Lib.hid k
  have ht : ((xs.length : Int) != (xs.length : Int)) = false := by simp
  clear h k
  go_enter Try.func41, Try.ntmps41
  go_wp2_with fail
  go_loopw [5] (fun q wr => ∃ k : Nat, k ≤ xs.length ∧ q = .int .i64 k ∧ Below w.heap.size w wr ∧ (∀ p : Addr, wr.cell? p = w.cell? p)) (fun q _ => xs.length - (intOf q).toNat)
  case atStart => exact ⟨0, by omega, rfl, Below.refl _ _, fun _ => rfl⟩
  case round =>
    obtain ⟨k, hk, rfl, hbl, hcl⟩ := hrel
    have HB := Lib.hid hbl
    have HC := Lib.hid hcl
    clear hbl hcl
    by_cases hlt : k < xs.length
    · obtain ⟨b, o, x, rfl, hb, HV, -, c0, c1⟩ := pairs_at HX.out hlt
      obtain ⟨b2, o2, x2, rfl, hb2, HV2, -, d0, d1⟩ := pairs_at HY.out hlt
      obtain rfl : x = x2 := HV.out.symm.trans HV2.out
      obtain ⟨x, y⟩ := x
      have e0 := (HC.out ⟨b, o + k * 2, none⟩).trans c0
      have e1 := (HC.out ⟨b, o + k * 2 + 1, none⟩).trans c1
      have f0 := (HC.out ⟨b2, o2 + k * 2, none⟩).trans d0
      have f1 := (HC.out ⟨b2, o2 + k * 2 + 1, none⟩).trans d1
      clear c0 c1 d0 d1
      go_wp2_with fail
      go_quiet (fail)
      go_wp2_with fail
      go_roundw
      case rel => exact ⟨k + 1, by omega, by go_num, below_drewN HB.out _, HC.out⟩
      case measure => simp [intOf]; omega
    · obtain rfl : k = xs.length := by omega
      go_wp2_with fail
      go_returns
      exact ⟨rfl, HB.out⟩

theorem markSpots_any (i : Int) (w : World) (h : 0 ≤ i) (h2 : i ≤ 1000000000) :
    Calls Try.prog 70 #[.int .i64 i] w fun e w' => e = .returned (.agg #[.int .i64 (900 + i), .int .i64 3]) ∧ Below w.heap.size w w' := by
  go_enter Try.func70, Try.ntmps70
  go_wp2
  go_returns
  exact ⟨by first | rfl | simp, by go_grown⟩

theorem pairCells_set (ys : List (Int × Int)) (k : Nat) (a b : Int) (hk : k < ys.length) : ((pairCells ys).set (k * 2) (.int .i64 a)).set (k * 2 + 1) (.int .i64 b) = pairCells (ys.set k (a, b)) := by
  induction ys generalizing k with
  | nil => simp at hk
  | cons y ys ih =>
    cases k with
    | zero => simp [pairCells]
    | succ k =>
      have := ih k (by simpa using hk)
      have e1 : (k + 1) * 2 = k * 2 + 1 + 1 := by omega
      simp only [pairCells, List.flatMap_cons, e1] at *
      simpa using this
/-- a pair of one's own is written over -/
theorem own_pair_set {T : TypeId} {w : World} {B b n c : Nat} {ys : List (Int × Int)} (h : OwnP T w B (.slice (some ⟨b, 0, none⟩) n c) ys) {k : Nat} (hk : k < ys.length) (u : Int × Int) (hu : In2 u) :
    w.frozen? ⟨b, k * 2, none⟩ = false ∧ w.frozen? ⟨b, k * 2 + 1, none⟩ = false ∧ OwnP T ((w.setCell ⟨b, k * 2, none⟩ (.int .i64 u.1)).setCell ⟨b, k * 2 + 1, none⟩ (.int .i64 u.2)) B (.slice (some ⟨b, 0, none⟩) n c) (ys.set k u) := by
  have hn : n = ys.length := by
    rcases h.1.2 with ⟨hv, -⟩ | ⟨g, cap, cur, hv, -⟩
    · cases hv
    · injection hv with e1 e2 e3
  subst hn
  refine ⟨h.1.frozenAt _, h.1.frozenAt _, ?_, fun x hx => ?_⟩
  · have h1 := World.ownsRow.stored (World.ownsRow.stored h.1 (k * 2) (.int .i64 u.1)).1 (k * 2 + 1) (.int .i64 u.2)
    rw [pairCells_set _ _ _ _ hk] at h1
    rw [List.length_set]; exact h1.1
  · rcases List.mem_or_eq_of_mem_set hx with h3 | h3
    · exact h.2 x h3
    · rw [h3]; exact hu

set_option maxHeartbeats 1000000 in
theorem spoilSpots_any (A : Option Addr) (c : Nat) (xs : List (Int × Int)) (B : Nat) (w : World) (h : OwnP 54 w B (.slice A xs.length c) xs) (hl : xs.length ≤ 1000000) :
    Calls Try.prog 44 #[.slice A xs.length c] w fun e w' => e = .returned (.tuple #[]) ∧ w.grownBy w' (Value.slice A xs.length c).ownBlock := by
  go_enter Try.func44, Try.ntmps44
  go_wp2_with fail
  go_loopw [2] (fun q wr => ∃ (k : Nat) (ys : List (Int × Int)), k ≤ xs.length ∧ q = .int .i64 k ∧ ys.length = xs.length ∧ OwnP 54 wr B (.slice A xs.length c) ys ∧ w.grownBy wr (Value.slice A xs.length c).ownBlock) (fun q _ => xs.length - (intOf q).toNat)
  case atStart => exact ⟨0, xs, by omega, rfl, rfl, h, World.grownBy.refl _ _⟩
  case round =>
    obtain ⟨k, ys, hk, rfl, hyl, hown, hg⟩ := hrel
    have HG := Lib.hid hg
    have HYL := Lib.hid hyl
    clear hg
    by_cases hlt : k < xs.length
    · have HM := Lib.hid (markSpots_any ((k : Int) + 7) wr (by omega) (by omega))
      have HOW := Lib.hid hown
      clear hown
      go_wp2_with fail
      refine HM.out.mono ?_
      rintro e w2 ⟨rfl, hb2⟩
      have hown2 := HOW.out.below hb2
      obtain ⟨b, o, x, rfl, hb, HV, h64, c0, c1⟩ := pairs_at hown2.pairs (show k < ys.length by omega)
      obtain ⟨-, rfl, -⟩ := hown2.own rfl
      obtain ⟨f0, f1, hset⟩ := own_pair_set hown2 (show k < ys.length by omega) (900 + ((k : Int) + 7), 3) ⟨by unfold In64; simp only; omega, (by show In64 3; unfold In64; decide)⟩
      have HG2 : Hid (∀ u1 u2, w.grownBy ((w2.setCell ⟨b, k * 2, none⟩ u1).setCell ⟨b, k * 2 + 1, none⟩ u2) (some b)) := fun u1 u2 =>
        only_setCell (only_setCell (HG.out.trans (only_of_below hb2 (some b))) (p := ⟨b, k * 2, none⟩) (.inl rfl) u1) (p := ⟨b, k * 2 + 1, none⟩) (.inl rfl) u2
      have HSET := Lib.hid hset
      simp only [Nat.zero_add] at c0 c1
      clear hown2 hyl hset hb2
      go_wp2_with fail
      go_roundw
      case rel => exact ⟨k + 1, _, by omega, by go_num, by rw [List.length_set]; exact HYL.out, HSET.out, HG2.out _ _⟩
      case measure => simp [intOf]; omega
    · obtain rfl : k = xs.length := by omega
      clear hown hyl
      go_wp2_with fail
      go_returns
      exact ⟨rfl, HG.out⟩

def marksL : List Int := [7001, 7014, 7027, 7040, 7053]
theorem marks_get {k : Nat} (hk : k < 5) : marksL.getD k 0 = 7001 + 13 * (k : Int) := by
  rcases (show k = 0 ∨ k = 1 ∨ k = 2 ∨ k = 3 ∨ k = 4 by omega) with rfl | rfl | rfl | rfl | rfl <;> rfl
theorem marks_take {k : Nat} (hk : k < 5) : marksL.take (k + 1) = marksL.take k ++ [7001 + 13 * (k : Int)] := take_snoc hk (marks_get hk)

set_option maxHeartbeats 1000000 in
theorem lentInts_any (A : Option Addr) (c : Nat) (xs : List Int) (B : Nat) (w : World) (hB : B ≤ w.heap.size) (h : IsInts w B ⟨A, c, xs⟩) (hl : xs.length ≤ 1000000) :
    Calls Try.prog 39 #[.slice A xs.length c] w (RetInts w (xs ++ marksL)) := by
  have HC := Lib.hid (copyInts_any A c xs B w hB h hl)
  clear h
  go_enter Try.func39, Try.ntmps39
  go_wp2_with fail
  refine HC.out.mono ?_
  rintro e w1 ⟨A1, c1, rfl, own1, hb1⟩
  have HO1 := Lib.hid own1
  have HB1 := Lib.hid hb1
  clear own1 hb1
  go_wp2_with fail
  go_loopw [3, 4] (fun v q wr => ∃ k : Nat, k ≤ 5 ∧ q = .int .i64 k ∧ OwnI wr w.heap.size v (xs ++ marksL.take k) ∧ Below w.heap.size w wr) (fun _ q _ => 5 - (intOf q).toNat)
  case atStart => exact ⟨0, by omega, rfl, by simpa using HO1.out, HB1.out⟩
  case round =>
    obtain ⟨k, hk, rfl, hown, hbl⟩ := hrel
    have HB := Lib.hid hbl
    have HOW := Lib.hid hown
    clear hown hbl
    by_cases hlt : k < 5
    · have HM := Lib.hid (mark_any (k : Int) wr (by omega) (by omega))
      have ET := Lib.hid (marks_take hlt)
      have HU := Lib.hid (show In64 (7001 + 13 * (k : Int)) by unfold In64; omega)
      have HL := Lib.hid (show (xs ++ marksL.take k).length < 1000000000 by rw [List.length_append, List.length_take]; omega)
      have HZ := Lib.hid HB.out.size
      go_wp2_with (first | (go_at_call 63; refine HM.out.mono ?_; rintro e w' ⟨rfl, rfl⟩) | (at_builtin; refine app_new rfl _ _ rfl w.heap.size HOW.out rfl HU.out rfl HL.out HZ.out ?_))
      intro v' w2 hown2 hgr
      have HO2 := Lib.hid hown2
      have HB2 := Lib.hid (HB.out.trans hgr)
      clear hown2 hgr
      go_wp2
      go_roundw
      case rel => exact ⟨k + 1, by omega, by go_num, by rw [ET.out]; exact HO2.out, HB2.out⟩
      case measure => simp [intOf]; omega
    · obtain rfl : k = 5 := by omega
      have HO2 : Hid (OwnI wr w.heap.size u3 (xs ++ marksL)) := HOW.out
      go_wp2_with fail
      go_returns
      exact ret_ints HO2.out HB.out

set_option maxHeartbeats 1000000 in
theorem keptInts_any (A D : Option Addr) (c d : Nat) (xs : List Int) (B B2 : Nat) (w : World) (hB : B ≤ w.heap.size) (h : IsInts w B ⟨A, c, xs ++ marksL⟩) (k : IsInts w B2 ⟨D, d, xs⟩) (hl : xs.length ≤ 1000000) :
    Calls Try.prog 43 #[.slice A (xs.length + 5) c, .slice D xs.length d] w fun e w' => e = .returned (.bool true) ∧ Below w.heap.size w w' := by
  have hc : xs.length + 5 ≤ c := by have := h.2.1; simpa [marksL] using this
  have hc2 : (c : Int) ≤ 9223372036854775807 := by have := h.2.2.1; unfold maxLen at this; simp only at *; omega
  have ht : IsInts w B ⟨A, c, xs⟩ := by
    have := ints_take h xs.length (by simp)
    rwa [List.take_left'  rfl] at this
  have HS := Lib.hid (sameInts_any A D c d xs xs B B2 w ht k)
  rw [sameB_yes rfl] at HS
  have HX := Lib.hid h
  have tl : (((xs.length + 5 : Nat) : Int) != (xs.length : Int) + 5) = false := by simp
  have tl2 : ((xs.length : Int) + 5 != (xs.length : Int) + 5) = false := by simp
  clear h k ht
  go_enter Try.func43, Try.ntmps43
  go_wp2_with fail
  refine HS.out.mono ?_
  rintro e w1 ⟨rfl, hb1⟩
  have HB1 := Lib.hid hb1
  clear hb1
  go_wp2_with fail
  go_loopw [5] (fun q wr => ∃ k : Nat, k ≤ 5 ∧ q = .int .i64 k ∧ Below w.heap.size w wr) (fun q _ => 5 - (intOf q).toNat)
  case atStart => exact ⟨0, by omega, rfl, HB1.out⟩
  case round =>
    obtain ⟨k, hk, rfl, hbl⟩ := hrel
    have HB := Lib.hid hbl
    clear hbl
    by_cases hlt : k < 5
    · have hkl : xs.length + k < (xs ++ marksL).length := by simp [marksL]; omega
      obtain ⟨b, o, v, rfl, hb, HV, -, c0⟩ := Sp.ints_at (HX.out.below (HB.out.mono hB)) hkl
      have c1 : wr.cell? ⟨b, o + (xs.length + k), none⟩ = some (.int .i64 (7001 + 13 * (k : Int))) := by
        rw [c0, ← HV.out, List.getD_eq_getElem?_getD, List.getElem?_append_right (by omega), show xs.length + k - xs.length = k by omega, ← List.getD_eq_getElem?_getD, marks_get hlt]
      have HM := Lib.hid (mark_any (k : Int) (wr.drewN 0) (by omega) (by omega))
      have hm : ∀ Y, Calls Try.prog 63 #[.int .i64 (k : Int)] Y fun e w' => e = .returned (.int .i64 (7001 + 13 * (k : Int))) ∧ Y = w' := fun Y => mark_any (k : Int) Y (by omega) (by omega)
      have HMK := Lib.hid hm
      have tv : (7001 + 13 * (k : Int) != 7001 + 13 * (k : Int)) = false := by simp
      have hkl2 : xs.length + k < xs.length + 5 := by omega
      clear c0 hm HM hkl
      go_wp2_with fail
      go_quiet ((go_at_call 63; exact Calls.quiet_of_same ((HMK.out _).mono (by rintro e w' ⟨rfl, h⟩; exact ⟨rfl, h.symm⟩))))
      go_wp2_with fail
      go_roundw
      case rel => exact ⟨k + 1, by omega, by go_num, below_drewN HB.out _⟩
      case measure => simp [intOf]; omega
    · obtain rfl : k = 5 := by omega
      go_wp2_with fail
      go_returns
      exact ⟨rfl, HB.out⟩
end Go.Proofs.Ytfpikpglollkoaa.Rt
