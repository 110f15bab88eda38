/- Lists of numbers: held against one another, copied, written over, looked through. -/
import Derived.Test.YtaodbjgcidkpkaaSp4
namespace Go.Proofs.Ytaodbjgcidkpkaa.Sp
open Go.ChangeShapes Go.WideShapes Go.ChangeAt Go.RowKit M

theorem eq_of_get {xs ys : List Int} (hl : xs.length = ys.length) (h : ∀ j, j < xs.length → xs.getD j 0 = ys.getD j 0) : xs = ys := by
  apply List.ext_getElem hl
  intro i h1 h2
  have := h i h1
  rw [List.getD_eq_getElem?_getD, List.getD_eq_getElem?_getD, List.getElem?_eq_getElem h1, List.getElem?_eq_getElem h2] at this
  exact this

/-- are two lists the same? -/
def sameB (xs ys : List Int) : Bool := decide (xs = ys)
theorem sameB_yes {xs ys : List Int} (h : xs = ys) : sameB xs ys = true := by unfold sameB; simp [h]
theorem sameB_no {xs ys : List Int} (h : xs ≠ ys) : sameB xs ys = false := by unfold sameB; simp [h]
theorem sameB_iff {xs ys : List Int} : sameB xs ys = true ↔ xs = ys := by unfold sameB; simp

/-- nothing has turned but the tape -/
def Same (w w' : World) : Prop := ∃ n, w' = w.drewN n

theorem sameInts_any (A D : Option Addr) (c d : Nat) (xs ys : List Int) (B B2 : Nat) (w : World) (h : IsInts w B ⟨A, c, xs⟩) (k : IsInts w B2 ⟨D, d, ys⟩) :
    Calls Try.prog 16 #[.slice A xs.length c, .slice D ys.length d] w fun e w' => e = .returned (.bool (sameB xs ys)) ∧ Below w.heap.size w w' := by
  have hlen : xs.length ≤ 9223372036854775807 := by have := h.2.1; have := h.2.2.1; unfold maxLen at this; simp only at *; omega
  have HX := Lib.hid h
  have HY := Lib.hid k
  clear h k
  by_cases hl : xs.length = ys.length
  · have HL := Lib.hid hl
    have ht : ((xs.length : Int) != (ys.length : Int)) = false := by rw [hl]; simp
    clear hl
    go_enter Try.func16, Try.ntmps16
    go_wp2_with fail
    go_loopw [5] (fun q wr => ∃ k : Nat, k ≤ xs.length ∧ q = .int .i64 k ∧ Below w.heap.size w wr ∧ (∀ p : Addr, wr.cell? p = w.cell? p) ∧ ∀ j, j < k → xs.getD j 0 = ys.getD j 0) (fun q _ => xs.length - (intOf q).toNat)
    case atStart => exact ⟨0, by omega, rfl, Below.refl _ _, fun _ => rfl, fun j hj => absurd hj (by omega)⟩
    case round =>
      obtain ⟨k, hk, rfl, hbl, hcl, hno⟩ := hrel
      have HB := Lib.hid hbl
      have HC := Lib.hid hcl
      have HN := Lib.hid hno
      clear hbl hcl hno
      by_cases hlt : k < xs.length
      · obtain ⟨b, o, v, rfl, hb, HV, -, c0⟩ := ints_at HX.out hlt
        obtain ⟨b2, o2, u, rfl, hb2, HU, -, d0⟩ := ints_at HY.out (show k < ys.length by have := HL.out; omega)
        have c1 := (HC.out ⟨b, o + k, none⟩).trans c0
        have d1 := (HC.out ⟨b2, o2 + k, none⟩).trans d0
        have hky : k < ys.length := by have := HL.out; omega
        clear c0 d0
        by_cases hv : v = u
        · have HVU := Lib.hid hv
          have ht2 : (v != u) = false := by simp [hv]
          clear hv
          go_wp2_with fail
          go_quiet (fail)
          go_wp2_with fail
          go_roundw
          case rel => exact ⟨k + 1, by omega, by go_num, below_drewN HB.out _, HC.out, fun j hj => by
            rcases (show j < k ∨ j = k by omega) with h | rfl
            · exact HN.out j h
            · rw [HV.out, HU.out, HVU.out]⟩
          case measure => simp [intOf]; omega
        · have E := Lib.hid (sameB_no (xs := xs) (ys := ys) (fun e => hv (by rw [← HV.out, ← HU.out, e])))
          have ht2 : (v != u) = true := by simp [hv]
          clear hv
          go_wp2_with fail
          go_quiet (fail)
          go_wp2_with fail
          go_returns
          exact ⟨ret_bool E.out.symm, below_drewN HB.out _⟩
      · obtain rfl : k = xs.length := by omega
        have E := Lib.hid (sameB_yes (eq_of_get HL.out HN.out))
        go_wp2_with fail
        go_returns
        exact ⟨ret_bool E.out.symm, HB.out⟩
  · have E := Lib.hid (sameB_no (xs := xs) (ys := ys) (fun e => hl (by rw [e])))
    have ht : ((xs.length : Int) != (ys.length : Int)) = true := by simp; omega
    clear hl
    go_enter Try.func16, Try.ntmps16
    go_wp2_with fail
    go_returns
    exact ⟨ret_bool E.out.symm, Below.refl _ _⟩

theorem take_snoc {xs : List Int} {k : Nat} {v : Int} (hk : k < xs.length) (hv : xs.getD k 0 = v) : xs.take (k + 1) = xs.take k ++ [v] := by
  rw [List.take_add_one, List.getElem?_eq_getElem hk]
  have : xs[k] = v := by rw [← hv, List.getD_eq_getElem?_getD, List.getElem?_eq_getElem hk]; rfl
  rw [this]; rfl

theorem copyInts_any (A : Option Addr) (c : Nat) (xs : List Int) (B : Nat) (w : World) (hB : B ≤ w.heap.size) (h : IsInts w B ⟨A, c, xs⟩) (hl : xs.length ≤ 1000000) :
    Calls Try.prog 79 #[.slice A xs.length c] w (RetInts w xs) := by
  have HX := Lib.hid h
  clear h
  go_enter Try.func79, Try.ntmps79
  go_wp2_with fail
  go_loopw [3, 4] (fun v q wr => ∃ k : Nat, k ≤ xs.length ∧ q = .int .i64 k ∧ OwnI wr w.heap.size v (xs.take k) ∧ Below w.heap.size w wr) (fun _ q _ => xs.length - (intOf q).toNat)
  case atStart => exact ⟨0, by omega, rfl, OwnI.nil _ _, Below.refl _ _⟩
  case round =>
    obtain ⟨k, hk, rfl, hown, hbl⟩ := hrel
    have HB := Lib.hid hbl
    have HOW := Lib.hid hown
    clear hown hbl
    by_cases hlt : k < xs.length
    · obtain ⟨b, o, v, rfl, hb, HV, h64, c0⟩ := ints_at HX.out hlt
      have c1 := (HB.out.cell (p := ⟨b, o + k, none⟩) (by show b < _; omega)).trans c0
      have ET := Lib.hid (take_snoc hlt HV.out)
      have HU := Lib.hid h64
      have HL := Lib.hid (show (xs.take k).length < 1000000000 by rw [List.length_take]; omega)
      have HZ := Lib.hid HB.out.size
      clear c0 h64
      go_wp2_with (at_builtin; refine app_new rfl _ _ rfl w.heap.size HOW.out rfl HU.out rfl HL.out HZ.out ?_)
      intro v' w2 hown2 hgr
      have HO2 := Lib.hid hown2
      have HB2 := Lib.hid (HB.out.trans hgr)
      clear hown2 hgr
      go_wp2
      go_roundw
      case rel => exact ⟨k + 1, by omega, by go_num, by rw [ET.out]; exact HO2.out, HB2.out⟩
      case measure => simp [intOf]; omega
    · obtain rfl : k = xs.length := by omega
      have HO2 : Hid (OwnI wr w.heap.size u3 xs) := by have := HOW.out; rw [List.take_length] at this; exact this
      go_wp2_with fail
      go_returns
      exact ret_ints HO2.out HB.out

/-- what a number is written over with -/
theorem mark_any (i : Int) (w : World) (h : 0 ≤ i) (h2 : i ≤ 1000000000) :
    Calls Try.prog 55 #[.int .i64 i] w fun e w' => e = .returned (.int .i64 (7001 + 13 * i)) ∧ w = w' := by
  go_enter Try.func55, Try.ntmps55
  go_wp2
  go_returns
  exact ⟨by first | rfl | simp, rfl⟩

/-- only block g has turned -/
theorem spoil_any (A : Option Addr) (c : Nat) (xs : List Int) (B : Nat) (w : World) (h : OwnI w B (.slice A xs.length c) xs) (hl : xs.length ≤ 1000000) :
    Calls Try.prog 19 #[.slice A xs.length c] w fun e w' => e = .returned (.tuple #[]) ∧ w.grownBy w' (Value.slice A xs.length c).ownBlock := by
  go_enter Try.func19, Try.ntmps19
  go_wp2_with fail
  go_loopw [2] (fun q wr => ∃ (k : Nat) (ys : List Int), k ≤ xs.length ∧ q = .int .i64 k ∧ ys.length = xs.length ∧ OwnI wr B (.slice A xs.length c) ys ∧ w.grownBy wr (Value.slice A xs.length c).ownBlock) (fun q _ => xs.length - (intOf q).toNat)
  case atStart => exact ⟨0, xs, by omega, rfl, rfl, h, World.grownBy.refl _ _⟩
  case round =>
    obtain ⟨k, ys, hk, rfl, hyl, hown, hg⟩ := hrel
    have HG := Lib.hid hg
    have HYL := Lib.hid hyl
    clear hg
    by_cases hlt : k < xs.length
    · have HOW := Lib.hid hown
      obtain ⟨b, o, v, rfl, hb, HV, h64, c0⟩ := ints_at hown.ints (show k < ys.length by omega)
      obtain ⟨-, rfl, -⟩ := hown.ints_own rfl
      have hf : wr.frozen? ⟨b, k, none⟩ = false := by
        have h1 := hown.1
        rw [← hyl] at h1
        exact World.ownsRow.frozenAt h1 k
      have HM := Lib.hid (mark_any ((k : Int) + 7) wr (by omega) (by omega))
      have HG2 : Hid (∀ u, w.grownBy (wr.setCell ⟨b, k, none⟩ u) (some b)) := fun u => only_setCell HG.out (p := ⟨b, k, none⟩) (.inl rfl) u
      have HO2 : Hid (OwnI (wr.setCell ⟨b, k, none⟩ (.int .i64 (7001 + 13 * ((k : Int) + 7)))) B (.slice (some ⟨b, 0, none⟩) xs.length c) (ys.set k (7001 + 13 * ((k : Int) + 7)))) := by
        have h1 := hown.1
        rw [← hyl] at h1
        have h2 := World.ownsRow.stored h1 k (.int .i64 (7001 + 13 * ((k : Int) + 7)))
        refine ⟨?_, fun x hx => ?_⟩
        · rw [List.length_set, ← hyl, List.map_set]; exact h2.1
        · rcases List.mem_or_eq_of_mem_set hx with h | h
          · exact hown.2 x h
          · rw [h]; unfold In64; omega
      simp only [Nat.zero_add] at c0
      clear hown hyl
      go_wp2_with (go_at_call 55; refine HM.out.mono ?_; rintro e w' ⟨rfl, rfl⟩)
      go_roundw
      case rel => exact ⟨k + 1, _, by omega, by go_num, by rw [List.length_set]; exact HYL.out, HO2.out, HG2.out _⟩
      case measure => simp [intOf]; omega
    · obtain rfl : k = xs.length := by omega
      clear hown hyl
      go_wp2_with fail
      go_returns
      exact ⟨rfl, HG.out⟩

theorem at_any (A : Option Addr) (c : Nat) (xs : List Int) (n : Int) (B : Nat) (w : World) (h : IsInts w B ⟨A, c, xs⟩) :
    Calls Try.prog 62 #[.slice A xs.length c, .int .i64 n] w fun e w' => e = .returned (.int .i64 (idxB xs n)) ∧ w = w' := by
  have hlen : xs.length ≤ 9223372036854775807 := by have := h.2.1; have := h.2.2.1; unfold maxLen at this; simp only at *; omega
  have H := Lib.hid h
  clear h
  go_enter Try.func62, Try.ntmps62
  go_wp2
  go_loop [5] (fun i => ∃ k : Nat, k ≤ xs.length ∧ i = .int .i64 k ∧ ∀ j, j < k → xs.getD j 0 ≠ n) (fun i => xs.length - (intOf i).toNat)
  case atStart => exact ⟨0, by omega, rfl, fun j hj => absurd hj (by omega)⟩
  case round =>
    obtain ⟨k, hk, rfl, hno⟩ := hrel
    have HN := Lib.hid hno
    clear hno
    by_cases hlt : k < xs.length
    · obtain ⟨b, o, v, rfl, hb, HV, -, hc⟩ := ints_at H.out hlt
      by_cases hx : v = n
      · have E := Lib.hid (idxB_at hlt (HV.out.trans hx) HN.out)
        have hq : (v == n) = true := beq_iff_eq.2 hx
        clear hx
        go_wp2
        go_returns
        exact ⟨ret_int E.out.symm, rfl⟩
      · have hq : (v == n) = false := beq_eq_false_iff_ne.2 hx
        have HX := Lib.hid hx
        clear hx
        go_wp2
        go_round
        case rel => exact ⟨k + 1, by omega, by go_num, fun j hj => by
          rcases (show j < k ∨ j = k by omega) with h | rfl
          · exact HN.out j h
          · exact fun e => HX.out (HV.out.symm.trans e)⟩
        case measure => simp [intOf]; omega
    · obtain rfl : k = xs.length := by omega
      have E := Lib.hid (idxB_none HN.out)
      go_wp2
      go_returns
      exact ⟨ret_int E.out.symm, rfl⟩
end Go.Proofs.Ytaodbjgcidkpkaa.Sp
