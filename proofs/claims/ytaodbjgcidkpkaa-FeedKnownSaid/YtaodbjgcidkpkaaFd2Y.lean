/- The values of a key; are two lists of numbers the same? -/
import Derived.Test.YtaodbjgcidkpkaaFdPY
import Derived.Test.YtaodbjgcidkpkaaZi
import Derived.Test.YtaodbjgcidkpkaaZa

namespace Go.Proofs.Ytaodbjgcidkpkaa.Fd
open Go.ChangeShapes Go.WideShapes Go.ChangeAt Go.RowKit M

def ofF (r : List Rc) (key : Int) : List Int := (r.filter fun x => decide (x.1 = key)).map (·.2)
theorem ofF_yes {r : List Rc} {key : Int} {k : Nat} {x : Rc} (hk : k < r.length) (hx : r.getD k (0, 0) = x) (he : x.1 = key) : ofF (r.take (k + 1)) key = ofF (r.take k) key ++ [x.2] := by
  unfold ofF; rw [take_snocG hk hx, List.filter_append, List.map_append]; simp [he]
theorem ofF_no {r : List Rc} {key : Int} {k : Nat} {x : Rc} (hk : k < r.length) (hx : r.getD k (0, 0) = x) (he : x.1 ≠ key) : ofF (r.take (k + 1)) key = ofF (r.take k) key := by
  unfold ofF; rw [take_snocG hk hx, List.filter_append, List.map_append]; simp [he]
theorem ofF_len (r : List Rc) (key : Int) : (ofF r key).length ≤ r.length := by
  unfold ofF; rw [List.length_map]; exact List.length_filter_le _ _
theorem ofF_pos {r : List Rc} {key : Int} : 0 < (ofF r key).length ↔ key ∈ keysR r := by
  unfold ofF keysR
  rw [List.length_map, List.length_pos_iff, Ne, List.filter_eq_nil_iff, List.mem_map]
  constructor
  · intro h
    apply Classical.byContradiction
    intro hc
    exact h fun x hx he => hc ⟨x, hx, by simpa using he⟩
  · rintro ⟨x, hx, e⟩ h
    exact h x hx (by simpa using e)
set_option maxHeartbeats 1000000 in
theorem of_any (A : Option Addr) (c : Nat) (r : List Rc) (key : Int) (w : World) (B : Nat) (hB : B ≤ w.heap.size) (h : IsRecs w B A c r) (hl : r.length ≤ 1000000) :
    Calls Try.prog 35 #[.slice A r.length c, .int .i64 key] w (RetInts w (ofF r key)) := by
  have HX := Lib.hid h.1
  clear h
  go_enter Try.func35, Try.ntmps35
  go_wp2_with fail
  go_loopw [5, 6] (fun v q wr => ∃ k : Nat, k ≤ r.length ∧ q = .int .i64 k ∧ OwnI wr w.heap.size v (ofF (r.take k) key) ∧ Below w.heap.size w wr) (fun _ q _ => r.length - (Go.RowKit.intOf q).toNat)
  case atStart => exact ⟨0, by omega, rfl, OwnI.nil _ _, Below.refl _ _⟩
  case round =>
    obtain ⟨k, hk, rfl, hown, hbl⟩ := hrel
    have HB := Lib.hid hbl
    have HOW := Lib.hid hown
    clear hown hbl
    by_cases hlt : k < r.length
    · obtain ⟨b, o, x, rfl, hb, HV, h64, c0, c1⟩ := pairs_at HX.out hlt
      have e0 := (HB.out.cell (p := ⟨b, o + k * 2, none⟩) (by show b < _; omega)).trans c0
      have e1 := (HB.out.cell (p := ⟨b, o + k * 2 + 1, none⟩) (by show b < _; omega)).trans c1
      have HL := Lib.hid (show (ofF (r.take k) key).length < 1000000000 by have := ofF_len (r.take k) key; rw [List.length_take] at this; omega)
      have HZ := Lib.hid HB.out.size
      by_cases he : x.1 = key
      · have ET := Lib.hid (ofF_yes hlt HV.out he)
        obtain ⟨x, y⟩ := x
        simp only at e0 e1 he
        subst he
        have HU := Lib.hid h64.2
        clear c0 c1 h64
        go_wp2_with (at_builtin; refine app_new rfl _ _ rfl w.heap.size HOW.out rfl HU.out rfl HL.out HZ.out ?_)
        intro v' w2 hown2 hgr
        have HO2 := Lib.hid hown2
        have HB2 := Lib.hid (HB.out.trans hgr)
        clear hown2 hgr
        go_wp2
        go_roundw
        case rel => exact ⟨k + 1, by omega, by go_num, by rw [ET.out]; exact HO2.out, HB2.out⟩
        case measure => simp [Go.RowKit.intOf]; omega
      · have ET := Lib.hid (ofF_no hlt HV.out he)
        have te : (x.1 == key) = false := by simpa using he
        clear c0 c1 h64
        go_wp2_with fail
        go_roundw
        case rel => exact ⟨k + 1, by omega, by go_num, by rw [ET.out]; exact HOW.out, HB.out⟩
        case measure => simp [Go.RowKit.intOf]; omega
    · obtain rfl : k = r.length := by omega
      have HO2 : Hid (OwnI wr w.heap.size u5 (ofF r key)) := by have := HOW.out; rw [List.take_length] at this; exact this
      go_wp2_with fail
      go_returns
      exact ret_ints HO2.out HB.out
theorem equal_any (A D : Option Addr) (c d : Nat) (xs ys : List Int) (B B2 : Nat) (w : World) (h : IsInts w B ⟨A, c, xs⟩) (k : IsInts w B2 ⟨D, d, ys⟩) :
    Calls Try.prog 68 #[.slice A xs.length c, .slice D ys.length d] w fun e w' => e = .returned (.bool (decide (xs = ys))) ∧ Below w.heap.size w w' := by
  have hlx : xs.length ≤ 9223372036854775807 := by have h1 := h.2.1; have h2 := h.2.2.1; unfold maxLen at h2; simp only at h1 h2; omega
  have HX := Lib.hid h
  have HY := Lib.hid k
  clear h k
  by_cases hl : xs.length = ys.length
  · have t0 : ((xs.length : Int) != (ys.length : Int)) = false := by rw [hl]; simp
    go_enter Try.func68, Try.ntmps68
    go_wp2_with fail
    go_loopw [13] (fun q wr => ∃ k : Nat, k ≤ xs.length ∧ q = .int .i64 k ∧ Below w.heap.size w wr ∧ (∀ p : Addr, wr.cell? p = w.cell? p) ∧ ∀ j, j < k → xs.getD j 0 = ys.getD j 0) (fun q _ => xs.length - (Go.RowKit.intOf q).toNat)
    case atStart => exact ⟨0, by omega, rfl, Below.refl _ _, fun _ => rfl, fun j hj => absurd hj (by omega)⟩
    case round =>
      obtain ⟨k, hk, rfl, hbl, hcl, hall⟩ := hrel
      have HB := Lib.hid hbl
      have HC := Lib.hid hcl
      have HA := Lib.hid hall
      clear hbl hcl hall
      by_cases hlt : k < xs.length
      · obtain ⟨b, o, v, rfl, hb, HV, -, c0⟩ := Sp.ints_at HX.out hlt
        obtain ⟨b2, o2, v2, rfl, hb2, HV2, -, d0⟩ := Sp.ints_at HY.out (show k < ys.length by omega)
        have e0 := (HC.out ⟨b, o + k, none⟩).trans c0
        have f0 := (HC.out ⟨b2, o2 + k, none⟩).trans d0
        have hlt2 : (k : Int) < (ys.length : Int) := by omega
        clear c0 d0
        by_cases he : v = v2
        · subst he
          have tq : (v != v) = false := by simp
          go_wp2_with fail
          go_quiet (fail)
          go_wp2_with fail
          go_roundw
          case rel => exact ⟨k + 1, by omega, by go_num, below_drewN HB.out _, HC.out, fun j hj => by
            rcases (show j < k ∨ j = k by omega) with h | rfl
            · exact HA.out j h
            · rw [HV.out, HV2.out]⟩
          case measure => simp [Go.RowKit.intOf]; omega
        · have tq : (v != v2) = true := by simpa using he
          have E := Lib.hid (show decide (xs = ys) = false from decide_eq_false (fun e => he (by rw [← HV.out, ← HV2.out, e])))
          go_wp2_with fail
          go_quiet (fail)
          go_wp2_with fail
          go_returns
          exact ⟨Sp.ret_bool E.out.symm, below_drewN HB.out _⟩
      · obtain rfl : k = xs.length := by omega
        have E := Lib.hid (show decide (xs = ys) = true from decide_eq_true (Sp.eq_of_get hl HA.out))
        go_wp2_with fail
        go_returns
        exact ⟨Sp.ret_bool E.out.symm, HB.out⟩
  · have t0 : ((xs.length : Int) != (ys.length : Int)) = true := by simp; omega
    have E := Lib.hid (show decide (xs = ys) = false from decide_eq_false (fun e => hl (by rw [e])))
    go_enter Try.func68, Try.ntmps68
    go_wp2_with fail
    go_returns
    exact ⟨Sp.ret_bool E.out.symm, Below.refl _ _⟩
end Go.Proofs.Ytaodbjgcidkpkaa.Fd
