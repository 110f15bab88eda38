/- Where records go: the tasks of some operators that own a group. -/
import Derived.Test.YtfpikpglollkoaaSpW
import Derived.Test.YtfpikpglollkoaaGrO
import Derived.Test.YtfpikpglollkoaaPair
import Derived.Test.YtfpikpglollkoaaHeld
namespace Go.Proofs.Ytfpikpglollkoaa.Rt
open Go.ChangeShapes Go.WideShapes Go.ChangeAt Go.RowKit M Sp

theorem ptSpot : IsPT 54 48 := ⟨Try.underlying48, by kernel_rfl⟩
/-- the tasks of operators us that own group h -/
def tasksF (g : Int) (par : List Int) (h : Int) (us : List Int) : List (Int × Int) := us.map fun u => (u, Gr.ownerG h (par.getD u.toNat 0) g)
theorem tasks_len (g : Int) (par : List Int) (h : Int) (us : List Int) : (tasksF g par h us).length = us.length := by simp [tasksF]
theorem tasks_snoc {g : Int} {par : List Int} {h : Int} {us : List Int} {k m : Nat} {p : Int} (hk : k < us.length) (hv : us.getD k 0 = (m : Int)) (hp : par.getD m 0 = p) : tasksF g par h (us.take (k + 1)) = tasksF g par h (us.take k) ++ [((m : Int), Gr.ownerG h p g)] := by
  unfold tasksF
  rw [take_snoc hk hv, List.map_append]
  simp [← hp]
theorem tasks_get {g : Int} {par : List Int} {h : Int} {us : List Int} {k : Nat} (hk : k < us.length) : (tasksF g par h us).getD k (0, 0) = (us.getD k 0, Gr.ownerG h (par.getD (us.getD k 0).toNat 0) g) := by
  unfold tasksF
  rw [List.getD_eq_getElem?_getD, List.getElem?_map, List.getD_eq_getElem?_getD, List.getElem?_eq_getElem hk]; rfl

set_option maxHeartbeats 2000000 in
theorem spots_any (h g : Int) (P O : Option Addr) (cp co : Nat) (par us : List Int) (hin : ∀ u ∈ us, ∃ m : Nat, u = m ∧ m < par.length) (hl : us.length ≤ 1000) (w : World) (B B2 : Nat) (hB : B ≤ w.heap.size) (hB2 : B2 ≤ w.heap.size) (hp : IsInts w B ⟨P, cp, par⟩) (hu : IsInts w B2 ⟨O, co, us⟩) :
    Calls Try.prog 67 #[.int .i64 h, .int .i64 g, .slice P par.length cp, .slice O us.length co] w (RetPairs 54 w (tasksF g par h us)) := by
  have HP := Lib.hid hp
  have HU := Lib.hid hu
  have HIN := Lib.hid hin
  clear hp hu hin
  go_enter Try.func67, Try.ntmps67
  go_wp2_with fail
  go_loopw [9, 14] (fun v q wr => ∃ k : Nat, k ≤ us.length ∧ q = .int .i64 k ∧ OwnP 54 wr w.heap.size v (tasksF g par h (us.take k)) ∧ Below w.heap.size w wr) (fun _ q _ => us.length - (intOf q).toNat)
  case atStart => exact ⟨0, by omega, rfl, OwnP.nil _ _ _, Below.refl _ _⟩
  case round =>
    obtain ⟨k, hk, rfl, hown, hbl⟩ := hrel
    have HB := Lib.hid hbl
    have HOW := Lib.hid hown
    clear hown hbl
    by_cases hlt : k < us.length
    · obtain ⟨b, o, v, rfl, hb, HV, -, c0⟩ := Sp.ints_at HU.out hlt
      obtain ⟨m, em, hm⟩ := HIN.out v (by rw [← HV.out]; exact getD_mem hlt)
      subst em
      obtain ⟨b2, o2, p, rfl, hb2, HPV, -, d0⟩ := Sp.ints_at HP.out hm
      have c1 := (HB.out.cell (p := ⟨b, o + k, none⟩) (by show b < _; omega)).trans c0
      have d1 := (HB.out.cell (p := ⟨b2, o2 + m, none⟩) (by show b2 < _; omega)).trans d0
      have HT := Lib.hid (tasks_snoc (g := g) (h := h) hlt HV.out HPV.out)
      have HL := Lib.hid (show (tasksF g par h (us.take k)).length < 1000000000 by rw [tasks_len, List.length_take]; omega)
      have HZ := Lib.hid HB.out.size
      have ob := Gr.ownerG_bd h p g
      have hm64 : (m : Int) ≤ 9223372036854775807 := by have h1 := HP.out.2.1; have h2 := HP.out.2.2.1; unfold maxLen at h2; simp only at *; omega
      have HO2 := Lib.hid (show In2 ((m : Int), Gr.ownerG h p g) from ⟨by unfold In64; omega, by unfold In64; simp only; omega⟩)
      clear c0 d0
      have HOWN := Lib.hid (Gr.owner_any h p g wr)
      generalize Gr.ownerG h p g = ow at *
      go_wp2_with (first | (go_at_call 80; refine HOWN.out.mono ?_; rintro e w' ⟨rfl, rfl⟩) | (at_builtin; refine app_pair ptSpot (u := ((m : Int), ow)) rfl _ _ rfl w.heap.size HOW.out rfl HO2.out rfl HL.out HZ.out ?_))
      intro v' w2 hown2 hgr
      have HN2 := Lib.hid hown2
      have HB2 := Lib.hid (HB.out.trans hgr)
      clear hown2 hgr
      go_wp2
      go_roundw
      case rel => exact ⟨k + 1, by omega, by go_num, by rw [HT.out]; exact HN2.out, HB2.out⟩
      case measure => simp [intOf]; omega
    · obtain rfl : k = us.length := by omega
      have HO2 : Hid (OwnP 54 wr w.heap.size u9 (tasksF g par h us)) := by have := HOW.out; rw [List.take_length] at this; exact this
      go_wp2_with fail
      go_returns
      exact ret_pairs HO2.out HB.out
end Go.Proofs.Ytfpikpglollkoaa.Rt
