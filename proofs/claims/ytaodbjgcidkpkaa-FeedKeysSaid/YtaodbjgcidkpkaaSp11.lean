/- Jobs: have no two inputs of an operator a root in common: as the document has it. -/
import Derived.Test.YtaodbjgcidkpkaaSp10
namespace Go.Proofs.Ytaodbjgcidkpkaa.Sp
open Go.ChangeShapes Go.WideShapes Go.ChangeAt Go.RowKit M

theorem apart_no {r : List Int} {rs : List (List Int)} {S : List Int} {k : Nat} (hk : k < r.length) (h : hasB S (r.getD k 0) = true) : apartGo (r :: rs) S = false := by
  unfold apartGo
  have : (r.any fun x => hasB S x) = true := List.any_eq_true.2 ⟨_, getD_mem hk, h⟩
  rw [this]; rfl
theorem apart_yes {r : List Int} {rs : List (List Int)} {S : List Int} (h : ∀ k, k < r.length → hasB S (r.getD k 0) = false) : apartGo (r :: rs) S = apartGo rs (S ++ r) := by
  rw [apartGo]
  have : (r.any fun x => hasB S x) = false := List.any_eq_false.2 fun x hx => by
    obtain ⟨k, hk, e⟩ := mem_getD hx
    rw [← e, h k hk]; simp
  rw [this]; rfl
theorem drop_at {xs : List Int} {k : Nat} {v : Int} (hk : k < xs.length) (hv : xs.getD k 0 = v) : xs.drop k = v :: xs.drop (k + 1) := by
  rw [List.drop_eq_getElem_cons hk]
  have : xs[k] = v := by rw [← hv, List.getD_eq_getElem?_getD, List.getElem?_eq_getElem hk]; rfl
  rw [this]
theorem rootsF_len (l : List OpP) (op : Int) : (rootsF l op).length ≤ l.length := by
  unfold rootsF; split
  · exact Nat.le_trans (List.length_filter_le _ _) (whichF_len _ _)
  · simp

set_option maxHeartbeats 4000000 in
theorem refApart_any (g : Int) (A : Option Addr) (c : Nat) (l : List OpP) (p : Nat → Option Addr × Nat) (rank : Nat → Nat) (hr : Ranked l rank) (hl : l.length ≤ 1000) (i : Nat) (hi : i < l.length) (hil : (insOf l i).length ≤ 1000) (w : World) (B : Nat) (hB : B ≤ w.heap.size) (h : IsOps w B A l p) :
    Calls Try.prog 47 #[.agg #[.int .i64 g, .slice A l.length c], .int .i64 i] w fun e w' => e = .returned (.bool (apartB l i)) ∧ Below w.heap.size w w' := by
  have HH := Lib.hid h
  obtain ⟨b, o, rfl, hb, -, c1, -, -, -, -, -, -, -, hin⟩ := (h.alloc hB (.cells #[.int .i64 g, .slice A l.length c] 24)).at_ hi
  have HI := Lib.hid hin
  have HRO : Hid (∀ (j : Nat) w0, j < l.length → Below w.heap.size w w0 → Calls Try.prog 18 #[.agg #[.int .i64 g, .slice (some ⟨b, o, none⟩) l.length c], .int .i64 j] w0 (RetInts w0 (rootsF l j))) := fun j w0 hj h0 =>
    refRoots_any g _ c l p rank hr (by omega) j hj w0 B (Nat.le_trans hB h0.size) (h.below (h0.mono hB))
  have EA := Lib.hid (show apartB l i = apartGo ((insOf l i).map (rootsF l)) [] from rfl)
  have HIN := Lib.hid ((hr i hi).2)
  clear h hin
  generalize p i = a at *
  obtain ⟨pa, pc⟩ := a
  simp only at c1 HI
  generalize insOf l i = xs at *
  generalize apartB l i = res at *
  go_enter Try.func47, Try.ntmps47
  go_wp2_with fail
  go_loopw [5, 6] (fun v q wr => ∃ (k : Nat) (S : List Int), k ≤ xs.length ∧ q = .int .i64 k ∧ OwnI wr (w.heap.size + 1) v S ∧ S.length ≤ k * 1000 ∧ Below (w.heap.size + 1) (w.alloc (.cells #[.int .i64 g, .slice (some ⟨b, o, none⟩) l.length c] 24)) wr ∧ Hid (res = apartGo ((xs.drop k).map (rootsF l)) S)) (fun _ q _ => xs.length - (intOf q).toNat)
  case atStart => exact ⟨0, [], by omega, rfl, OwnI.nil _ _, by simp, Below.refl _ _, EA.out⟩
  case round =>
    obtain ⟨k, S, hk, rfl, hown, hSl, hbl, HRES⟩ := hrel
    obtain ⟨wo, rfl⟩ : ∃ wo : World, wo = wr := ⟨_, rfl⟩
    have HB := Lib.hid hbl
    have s0 : wo.cell? ⟨w.heap.size, 0, none⟩ = some (.int .i64 g) := (HB.out.cell (p := ⟨w.heap.size, 0, none⟩) (by show w.heap.size < _; omega)).trans (by go_simp)
    have s1 : wo.cell? ⟨w.heap.size, 1, none⟩ = some (.slice (some ⟨b, o, none⟩) l.length c) := (HB.out.cell (p := ⟨w.heap.size, 1, none⟩) (by show w.heap.size < _; omega)).trans (by go_simp)
    have s2 : wo.cell? ⟨b, o + i * 8 + 1, none⟩ = some (.slice pa xs.length pc) := (HB.out.cell (p := ⟨b, o + i * 8 + 1, none⟩) (by show b < _; omega)).trans c1
    have hsz : w.heap.size + 1 ≤ wo.heap.size := by have := HB.out.size; simpa using this
    obtain ⟨As, cs, rfl⟩ := hown.form
    have HOW := Lib.hid hown
    clear hbl hown
    by_cases hlt : k < xs.length
    · obtain ⟨b2, o2, v, rfl, hb2, HV, -, hc0⟩ := ints_at HI.out hlt
      have s3 : wo.cell? ⟨b2, o2 + k, none⟩ = some (.int .i64 v) := (HB.out.cell (p := ⟨b2, o2 + k, none⟩) (by show b2 < _; omega)).trans hc0
      obtain ⟨j, ej, hj, hrj⟩ := HIN.out v (by rw [← HV.out]; exact getD_mem hlt)
      subst ej
      have HC := Lib.hid (fun w0 => HRO.out j w0 hj)
      have HW := Lib.hid (through ((Below.refl _ _).alloc (Nat.le_refl _) _) (Nat.le_refl w.heap.size) (HB.out.mono (by simp)))
      have hrl := rootsF_len l j
      have HRS : Hid (res = apartGo (rootsF l j :: (xs.drop (k + 1)).map (rootsF l)) S) := by
        show res = _
        rw [HRES.out, drop_at hlt HV.out]; rfl
      generalize rootsF l (j : Int) = r at *
      have HNO : Hid (∀ m, m < r.length → hasB S (r.getD m 0) = true → res = false) := fun m hm h => by rw [HRS.out]; exact apart_no hm h
      have HYE : Hid ((∀ m, m < r.length → hasB S (r.getD m 0) = false) → res = apartGo ((xs.drop (k + 1)).map (rootsF l)) (S ++ r)) := fun h => by rw [HRS.out]; exact apart_yes h
      clear HRS HRES hc0 c1
      have HZ : Hid (∀ w2, Below wo.heap.size wo w2 → w2.cell? ⟨w.heap.size, 0, none⟩ = some (.int .i64 g) ∧ w2.cell? ⟨w.heap.size, 1, none⟩ = some (.slice (some ⟨b, o, none⟩) l.length c) ∧ w2.cell? ⟨b, o + i * 8 + 1, none⟩ = some (.slice (some ⟨b2, o2, none⟩) xs.length pc) ∧ w2.cell? ⟨b2, o2 + k, none⟩ = some (.int .i64 (j : Int))) := fun w2 h2 =>
        ⟨(h2.cell (p := ⟨w.heap.size, 0, none⟩) (by show w.heap.size < _; omega)).trans s0, (h2.cell (p := ⟨w.heap.size, 1, none⟩) (by show w.heap.size < _; omega)).trans s1, (h2.cell (p := ⟨b, o + i * 8 + 1, none⟩) (by show b < _; omega)).trans s2, (h2.cell (p := ⟨b2, o2 + k, none⟩) (by show b2 < _; omega)).trans s3⟩
      have HX : Hid (∀ w2, Below wo.heap.size wo w2 → Below (w.heap.size + 1) (w.alloc (.cells #[.int .i64 g, .slice (some ⟨b, o, none⟩) l.length c] 24)) w2 ∧ OwnI w2 (w.heap.size + 1) (.slice As S.length cs) S) := fun w2 h2 => ⟨through HB.out (by simp) h2, HOW.out.below h2⟩
      go_upto_region 5 with (fail)
      go_region_held3 (fun w' => w'.cell? ⟨w.heap.size, 0, none⟩ = some (.int .i64 g) ∧ w'.cell? ⟨w.heap.size, 1, none⟩ = some (.slice (some ⟨b, o, none⟩) l.length c) ∧ w'.cell? ⟨b, o + i * 8 + 1, none⟩ = some (.slice (some ⟨b2, o2, none⟩) xs.length pc) ∧ w'.cell? ⟨b2, o2 + k, none⟩ = some (.int .i64 (j : Int)))
        (first | exact HZ.out _ (Below.refl _ _).drew | exact HZ.out _ (Below.refl _ _) | exact HZ.out _ (of_drew hb3))
        ((go_at_call 18; refine (HC.out _ HW.out.drew).mono ?_; rintro e w1 ⟨Ar, cr, rfl, hownr, hb3⟩))
      obtain ⟨hx1, hx2⟩ := HX.out _ (of_drew hb3)
      have HX1 := Lib.hid hx1
      have HX2 := Lib.hid hx2
      have HR := Lib.hid hownr
      have HSI := Lib.hid hx2.ints
      have HRI := Lib.hid hownr.ints
      have hbase : w.heap.size + 1 ≤ w1.heap.size := by have := hx1.size; simpa using this
      clear hx1 hx2 hb3 hownr s0 s1 s2 s3
      go_wp2_with fail
      go_loop [8] (fun q => ∃ m : Nat, m ≤ r.length ∧ q = .int .i64 m ∧ ∀ j, j < m → hasB S (r.getD j 0) = false) (fun q => r.length - (intOf q).toNat)
      case atStart => exact ⟨0, by omega, rfl, fun j hj => absurd hj (by omega)⟩
      case round =>
        obtain ⟨m, hm, rfl, hno⟩ := hrel
        have HN := Lib.hid hno
        clear hno
        by_cases hml : m < r.length
        · obtain ⟨b4, o4, u, rfl, hb4, HU, -, hc4⟩ := ints_at HRI.out hml
          have HCH := Lib.hid (refHas_any As cs S u _ w1 HSI.out)
          have HNM := Lib.hid (HNO.out m hml)
          cases eu : hasB S u with
          | true =>
            rw [eu] at HCH
            have E := Lib.hid (HNM.out (by rw [HU.out]; exact eu))
            clear eu
            go_wp2_with (go_at_call 53; refine HCH.out.mono ?_; rintro e w' ⟨rfl, rfl⟩)
            go_returns
            exact ⟨ret_bool E.out.symm, through ((Below.refl _ _).alloc (Nat.le_refl _) _) (Nat.le_refl _) (HX1.out.mono (by simp))⟩
          | false =>
            rw [eu] at HCH
            have E : Hid (hasB S (r.getD m 0) = false) := by show hasB S (r.getD m 0) = false; rw [HU.out]; exact eu
            clear eu
            go_wp2_with (go_at_call 53; refine HCH.out.mono ?_; rintro e w' ⟨rfl, rfl⟩)
            go_round
            case rel => exact ⟨m + 1, by omega, by go_num, fun j hj => by
              rcases (show j < m ∨ j = m by omega) with h | rfl
              · exact HN.out j h
              · exact E.out⟩
            case measure => simp [intOf]; omega
        · obtain rfl : m = r.length := by omega
          have E := Lib.hid (HYE.out HN.out)
          have HL := Lib.hid (show S.length + r.length < 1000000000 by omega)
          have HBS := Lib.hid hbase
          go_wp2_with (at_builtin; refine app_list rfl _ _ rfl (w.heap.size + 1) HX2.out rfl HR.out rfl HL.out HBS.out ?_)
          intro v' w3 hown2 hgr
          have HO2 := Lib.hid hown2
          have HB2 := Lib.hid (HX1.out.trans hgr)
          clear hown2 hgr
          go_wp2
          go_roundw
          case rel => exact ⟨k + 1, S ++ r, by omega, by go_num, HO2.out, by rw [List.length_append]; omega, HB2.out, E.out⟩
          case measure => simp [intOf]; omega
    · obtain rfl : k = xs.length := by omega
      have E : Hid (res = true) := by
        show res = true
        rw [HRES.out, List.drop_length]; rfl
      go_wp2_with fail
      go_returns
      exact ⟨ret_bool E.out.symm, through ((Below.refl _ _).alloc (Nat.le_refl _) _) (Nat.le_refl _) (HB.out.mono (by simp))⟩
end Go.Proofs.Ytaodbjgcidkpkaa.Sp
