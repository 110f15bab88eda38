/- Jobs: what is wrong with an operator of its own. -/
import Derived.Test.YtaodbjgcidkpkaaSp
namespace Go.Proofs.Ytaodbjgcidkpkaa.Sp
open Go.ChangeShapes Go.WideShapes Go.ChangeAt Go.RowKit M

theorem containsN_any (A : Option Addr) (c m : Nat) (xs : List Int) (n : Int) (B : Nat) (w : World) (h : IsInts w B ⟨A, c, xs⟩) (hm : xs.length = m) :
    Calls Try.prog 50 #[.slice A m c, .int .i64 n] w fun e w' => e = .returned (.bool (hasB xs n)) ∧ w = w' := by
  subst hm; exact contains_any A c xs n B w h

theorem inB_of {n i : Nat} {xs : List Int} {k : Nat} {v : Int} (h : xs.getD k 0 = v) : inB n i xs k = (!(v == (i : Int)) && btw v 0 ((n : Int) - 1) && !hasB (xs.take k) v) := by
  unfold inB; rw [h]; congr 2
  cases hv : (v == (i : Int)) with
  | true => have : v = i := by simpa using hv
            simp [this]
  | false => have : v ≠ i := by simpa using hv
             simp [this]

set_option maxHeartbeats 2000000 in
theorem inputs_any (g : Int) (A : Option Addr) (c : Nat) (l : List OpP) (p : Nat → Option Addr × Nat) (i : Nat) (w : World) (B : Nat) (hB : B ≤ w.heap.size) (h : IsOps w B A l p) (hi : i < l.length) (hl : l.length ≤ 9223372036854775807) :
    Calls Try.prog 77 #[.agg #[.int .i64 g, .slice A l.length c], .int .i64 i] w fun e w' => e = .returned (.bool (inputsB l.length i (kindOf l i) (insOf l i))) ∧ Below w.heap.size w w' := by
  obtain ⟨b, o, rfl, hb, c0, c1, -, -, -, -, -, -, -, hin⟩ := h.at_ hi
  have HI := Lib.hid (hin.keep (w' := w.alloc (.cells #[.int .i64 g, .slice (some ⟨b, o, none⟩) l.length c] 24)) fun q hq => World.cell?_alloc_lt w _ q (by omega))
  have hlen : (insOf l i).length ≤ 9223372036854775807 := by have := hin.2.1; have := hin.2.2.1; unfold maxLen at this; simp only at *; omega
  have E := Lib.hid (show inputsB l.length i (kindOf l i) (insOf l i) = (allB (inB l.length i (insOf l i)) (insOf l i).length && manyB (kindOf l i) (insOf l i).length) from rfl)
  have EM := Lib.hid (show manyB (kindOf l i) (insOf l i).length = (if kindOf l i = 1 then decide ((insOf l i).length = 0) else if kindOf l i = 7 then decide (2 ≤ (insOf l i).length) else decide ((insOf l i).length = 1)) from rfl)
  generalize p i = a at *
  obtain ⟨pa, pc⟩ := a
  simp only at c1 HI
  generalize insOf l i = xs at *
  generalize kindOf l i = kd at *
  have hbw : b < w.heap.size := by omega
  have hpc : xs.length ≤ pc := HI.out.2.1
  have hpc2 : (pc : Int) ≤ 9223372036854775807 := by have := HI.out.2.2.1; unfold maxLen at this; simp only at *; omega
  clear hin h
  go_enter Try.func77, Try.ntmps77
  go_wp2
  go_loop [17] (fun q => ∃ k : Nat, k ≤ xs.length ∧ q = .int .i64 k ∧ ∀ j, j < k → inB l.length i xs j = true) (fun q => xs.length - (intOf q).toNat)
  case atStart => exact ⟨0, by omega, rfl, fun j hj => absurd hj (by omega)⟩
  case round =>
    obtain ⟨k, hk, rfl, hno⟩ := hrel
    have HN := Lib.hid hno
    clear hno
    by_cases hlt : k < xs.length
    · obtain ⟨b2, o2, v, rfl, hb2, HV, -, hc⟩ := ints_at HI.out hlt
      have EI := Lib.hid (inB_of (n := l.length) (i := i) HV.out)
      have HC := Lib.hid (fun w0 hw => containsN_any (some ⟨b2, o2, none⟩) pc k (xs.take k) v B w0 hw (by rw [List.length_take]; omega))
      have HT := Lib.hid (ints_take HI.out k (by omega))
      cases e1 : (v == (i : Int)) with
      | true =>
        have ER := Lib.hid (show allB (inB l.length i xs) xs.length = false from allB_no hlt (by rw [EI.out, e1]; rfl))
        go_wp2
        go_returns
        exact ⟨ret_bool (by rw [E.out, ER.out]; rfl), by go_grown⟩
      | false =>
        cases e2 : btw v 0 ((l.length : Int) - 1) with
        | false =>
          have ER := Lib.hid (show allB (inB l.length i xs) xs.length = false from allB_no hlt (by rw [EI.out, e1, e2]; rfl))
          go_wp2_with (go_at_call 51; refine (between_any _ _ _ _).mono ?_; rintro e w' ⟨rfl, rfl⟩)
          go_returns
          exact ⟨ret_bool (by rw [E.out, ER.out]; rfl), by go_grown⟩
        | true =>
          cases e3 : hasB (xs.take k) v with
          | true =>
            have ER := Lib.hid (show allB (inB l.length i xs) xs.length = false from allB_no hlt (by rw [EI.out, e1, e2, e3]; rfl))
            go_wp2_with (first | (go_at_call 51; refine (between_any _ _ _ _).mono ?_; rintro e w' ⟨rfl, rfl⟩) | (go_at_call 50; refine (HC.out _ HT.out).mono ?_; rintro e w' ⟨rfl, rfl⟩))
            go_returns
            exact ⟨ret_bool (by rw [E.out, ER.out]; rfl), by go_grown⟩
          | false =>
            have ER := Lib.hid (show inB l.length i xs k = true by rw [EI.out, e1, e2, e3]; rfl)
            go_wp2_with (first | (go_at_call 51; refine (between_any _ _ _ _).mono ?_; rintro e w' ⟨rfl, rfl⟩) | (go_at_call 50; refine (HC.out _ HT.out).mono ?_; rintro e w' ⟨rfl, rfl⟩))
            go_round
            case rel => exact ⟨k + 1, by omega, by go_num, fun j hj => by
              rcases (show j < k ∨ j = k by omega) with h | rfl
              · exact HN.out j h
              · exact ER.out⟩
            case measure => simp [intOf]; omega
    · obtain rfl : k = xs.length := by omega
      have EA := Lib.hid (allB_iff.2 HN.out)
      rw [EA.out] at E
      rw [EM.out] at E
      clear EM
      rcases (show kd = 1 ∨ kd = 7 ∨ (kd ≠ 1 ∧ kd ≠ 7) by omega) with rfl | rfl | ⟨h1, h7⟩
      · go_wp2
        go_returns
        exact ⟨ret_bool (by rw [E.out]; (first | rfl | (rw [Bool.eq_iff_iff]; simp; done) | (rw [Bool.eq_iff_iff]; simp; omega) | (rw [Bool.eq_iff_iff]; simp only [Bool.true_and, if_true, ↓reduceIte, decide_eq_true_eq, beq_iff_eq]; omega) | (rw [Bool.eq_iff_iff]; simp only [Bool.true_and, if_true, ↓reduceIte, decide_eq_true_eq, beq_iff_eq, Int.natCast_eq_zero]))), by go_grown⟩
      · go_wp2
        go_returns
        exact ⟨ret_bool (by rw [E.out]; (first | rfl | (rw [Bool.eq_iff_iff]; simp; done) | (rw [Bool.eq_iff_iff]; simp; omega) | (rw [Bool.eq_iff_iff]; simp only [Bool.true_and, if_true, ↓reduceIte, decide_eq_true_eq, beq_iff_eq]; omega) | (rw [Bool.eq_iff_iff]; simp only [Bool.true_and, if_true, ↓reduceIte, decide_eq_true_eq, beq_iff_eq, Int.natCast_eq_zero]))), by go_grown⟩
      · have h1' : (kd == 1) = false := beq_eq_false_iff_ne.2 h1
        have h7' : (kd == 7) = false := beq_eq_false_iff_ne.2 h7
        go_wp2
        go_returns
        exact ⟨ret_bool (by rw [E.out, if_neg h1, if_neg h7]; (first | rfl | (rw [Bool.eq_iff_iff]; simp; done) | (rw [Bool.eq_iff_iff]; simp; omega) | (rw [Bool.eq_iff_iff]; simp only [Bool.true_and, if_true, ↓reduceIte, decide_eq_true_eq, beq_iff_eq]; omega) | (rw [Bool.eq_iff_iff]; simp only [Bool.true_and, if_true, ↓reduceIte, decide_eq_true_eq, beq_iff_eq, Int.natCast_eq_zero]))), by go_grown⟩

set_option maxHeartbeats 4000000 in
theorem refInputs_any (g : Int) (A : Option Addr) (c : Nat) (l : List OpP) (p : Nat → Option Addr × Nat) (i : Nat) (w : World) (B : Nat) (hB : B ≤ w.heap.size) (h : IsOps w B A l p) (hi : i < l.length) (_hl : l.length ≤ 9223372036854775807) :
    Calls Try.prog 72 #[.agg #[.int .i64 g, .slice A l.length c], .int .i64 i] w fun e w' => e = .returned (.bool (inputsB l.length i (kindOf l i) (insOf l i))) ∧ Below w.heap.size w w' := by
  obtain ⟨b, o, rfl, hb, c0, c1, -, -, -, -, -, -, -, hin⟩ := h.at_ hi
  have HI := Lib.hid (hin.keep (w' := w.alloc (.cells #[.int .i64 g, .slice (some ⟨b, o, none⟩) l.length c] 24)) fun q hq => World.cell?_alloc_lt w _ q (by omega))
  have hlen : (insOf l i).length ≤ 9223372036854775807 := by have := hin.2.1; have := hin.2.2.1; unfold maxLen at this; simp only at *; omega
  have E := Lib.hid (show inputsB l.length i (kindOf l i) (insOf l i) = (allB (inB l.length i (insOf l i)) (insOf l i).length && manyB (kindOf l i) (insOf l i).length) from rfl)
  have EM := Lib.hid (show manyB (kindOf l i) (insOf l i).length = (if kindOf l i = 1 then decide ((insOf l i).length = 0) else if kindOf l i = 7 then decide (2 ≤ (insOf l i).length) else decide ((insOf l i).length = 1)) from rfl)
  generalize p i = a at *
  obtain ⟨pa, pc⟩ := a
  simp only at c1 HI
  generalize insOf l i = xs at *
  generalize kindOf l i = kd at *
  have hbw : b < w.heap.size := by omega
  have hpc : xs.length ≤ pc := HI.out.2.1
  have hpc2 : (pc : Int) ≤ 9223372036854775807 := by have := HI.out.2.2.1; unfold maxLen at this; simp only at *; omega
  clear hin h
  go_enter Try.func72, Try.ntmps72
  go_wp2
  go_loopw [6] (fun q wr => ∃ k : Nat, k ≤ xs.length ∧ q = .int .i64 k ∧ Below (w.heap.size + 1) (w.alloc (.cells #[.int .i64 g, .slice (some ⟨b, o, none⟩) l.length c] 24)) wr ∧ ∀ j, j < k → inB l.length i xs j = true) (fun q _ => xs.length - (intOf q).toNat)
  case atStart => exact ⟨0, by omega, rfl, Below.refl _ _, fun j hj => absurd hj (by omega)⟩
  case round =>
    obtain ⟨k, hk, rfl, hbl, hno⟩ := hrel
    have HN := Lib.hid hno
    have HB := Lib.hid hbl
    clear hno hbl
    have hg : wr.cell? ⟨w.heap.size, 1, none⟩ = some (.slice (some ⟨b, o, none⟩) l.length c) := (HB.out.cell (p := ⟨w.heap.size, 1, none⟩) (by show w.heap.size < _; omega)).trans (by go_simp)
    by_cases hlt : k < xs.length
    · obtain ⟨b2, o2, v, rfl, hb2, HV, -, hc0⟩ := ints_at HI.out hlt
      have hc : wr.cell? ⟨b2, o2 + k, none⟩ = some (.int .i64 v) := (HB.out.cell (p := ⟨b2, o2 + k, none⟩) (by show b2 < _; omega)).trans hc0
      clear hc0 c0 c1
      have EI := Lib.hid (inB_of (n := l.length) (i := i) HV.out)
      by_cases e1 : v < 0
      · have ER := Lib.hid (show allB (inB l.length i xs) xs.length = false from allB_no hlt (by rw [EI.out, btw_no (by omega)]; simp))
        have d1 : decide (v < 0) = true := decide_eq_true e1
        go_wp2
        go_quiet (fail)
        go_wp2
        go_returns
        exact ⟨ret_bool (by rw [E.out, ER.out]; rfl), (by first | exact through ((Below.refl _ _).alloc (Nat.le_refl _) _) (Nat.le_refl _) (HB.out.mono (by simp)) | exact below_drewN (through ((Below.refl _ _).alloc (Nat.le_refl _) _) (Nat.le_refl _) (HB.out.mono (by simp))) _)⟩
      · have d1 : decide (v < 0) = false := decide_eq_false e1
        by_cases e2 : (l.length : Int) ≤ v
        · have ER := Lib.hid (show allB (inB l.length i xs) xs.length = false from allB_no hlt (by rw [EI.out, btw_no (by omega)]; simp))
          have d2 : decide ((l.length : Int) ≤ v) = true := decide_eq_true e2
          go_wp2
          go_quiet (fail)
          go_wp2
          go_returns
          exact ⟨ret_bool (by rw [E.out, ER.out]; rfl), (by first | exact through ((Below.refl _ _).alloc (Nat.le_refl _) _) (Nat.le_refl _) (HB.out.mono (by simp)) | exact below_drewN (through ((Below.refl _ _).alloc (Nat.le_refl _) _) (Nat.le_refl _) (HB.out.mono (by simp))) _)⟩
        · have d2 : decide ((l.length : Int) ≤ v) = false := decide_eq_false e2
          cases e3 : (v == (i : Int)) with
          | true =>
            have ER := Lib.hid (show allB (inB l.length i xs) xs.length = false from allB_no hlt (by rw [EI.out, e3]; rfl))
            go_wp2
            go_quiet (fail)
            go_wp2
            go_returns
            exact ⟨ret_bool (by rw [E.out, ER.out]; rfl), (by first | exact through ((Below.refl _ _).alloc (Nat.le_refl _) _) (Nat.le_refl _) (HB.out.mono (by simp)) | exact below_drewN (through ((Below.refl _ _).alloc (Nat.le_refl _) _) (Nat.le_refl _) (HB.out.mono (by simp))) _)⟩
          | false =>
            have EB := Lib.hid (btw_yes (n := v) (lo := 0) (hi := (l.length : Int) - 1) (by omega) (by omega))
            have e3' : ¬ v = i := by simpa using e3
            go_wp2
            go_quiet (fail)
            go_wp2
            go_loopw [7] (fun q wj => ∃ j : Nat, j ≤ k ∧ q = .int .i64 j ∧ Below (w.heap.size + 1) (w.alloc (.cells #[.int .i64 g, .slice (some ⟨b, o, none⟩) l.length c] 24)) wj ∧ ∀ m, m < j → xs.getD m 0 ≠ v) (fun q _ => k - (intOf q).toNat)
            case atStart => exact ⟨0, by omega, rfl, below_drewN HB.out _, fun j hj => absurd hj (by omega)⟩
            case round =>
              obtain ⟨j, hj, rfl, hbj, hnj⟩ := hrel
              have HJ := Lib.hid hbj
              have HNJ := Lib.hid hnj
              clear hbj hnj hc hg
              by_cases hjk : j < k
              · obtain ⟨u, HU, -, hu0⟩ := ints_get HI.out (show j < xs.length by omega)
                obtain ⟨v', HV', -, hv0⟩ := ints_get HI.out hlt
                obtain rfl : v' = v := HV'.out.symm.trans HV.out
                have hu : wr.cell? ⟨b2, o2 + j, none⟩ = some (.int .i64 u) := (HJ.out.cell (p := ⟨b2, o2 + j, none⟩) (by show b2 < _; omega)).trans hu0
                have hc : wr.cell? ⟨b2, o2 + k, none⟩ = some (.int .i64 v') := (HJ.out.cell (p := ⟨b2, o2 + k, none⟩) (by show b2 < _; omega)).trans hv0
                clear hu0 hv0
                cases e4 : (u == v') with
                | true =>
                  have hh : hasB (xs.take k) v' = true := by
                    refine has_at (k := j) (by rw [List.length_take]; omega) ?_
                    have e : (xs.take k).getD j 0 = xs.getD j 0 := by rw [List.getD_eq_getElem?_getD, List.getD_eq_getElem?_getD, List.getElem?_take_of_lt hjk]
                    rw [e, HU.out]; simpa using e4
                  have ER := Lib.hid (show allB (inB l.length i xs) xs.length = false from allB_no hlt (by rw [EI.out, hh]; simp))
                  clear hh
                  go_wp2
                  go_quiet (fail)
                  go_wp2
                  go_returns
                  exact ⟨ret_bool (by rw [E.out, ER.out]; rfl), (by first | exact through ((Below.refl _ _).alloc (Nat.le_refl _) _) (Nat.le_refl _) (HJ.out.mono (by simp)) | exact below_drewN (through ((Below.refl _ _).alloc (Nat.le_refl _) _) (Nat.le_refl _) (HJ.out.mono (by simp))) _)⟩
                | false =>
                  have HE4 := Lib.hid (show u ≠ v' by simpa using e4)
                  go_wp2
                  go_quiet (fail)
                  go_wp2
                  go_roundw
                  case rel => exact ⟨j + 1, by omega, by go_num, below_drewN HJ.out _, fun m hm => by
                    rcases (show m < j ∨ m = j by omega) with h | rfl
                    · exact HNJ.out m h
                    · rw [HU.out]; exact HE4.out⟩
                  case measure => simp [intOf]; omega
              · obtain rfl : j = k := by omega
                have hh : hasB (xs.take j) v = false := has_none (fun m hm => by
                  rw [List.length_take] at hm
                  have e : (xs.take j).getD m 0 = xs.getD m 0 := by rw [List.getD_eq_getElem?_getD, List.getD_eq_getElem?_getD, List.getElem?_take_of_lt (by omega)]
                  rw [e]; exact HNJ.out m (by omega))
                have ER := Lib.hid (show inB l.length i xs j = true by rw [EI.out, e3, EB.out, hh]; rfl)
                clear hh
                go_wp2
                go_roundw
                case rel => exact ⟨j + 1, by omega, by go_num, HJ.out, fun m hm => by
                  rcases (show m < j ∨ m = j by omega) with h | rfl
                  · exact HN.out m h
                  · exact ER.out⟩
                case measure => simp [intOf]; omega
    · obtain rfl : k = xs.length := by omega
      have hk0 : wr.cell? ⟨b, o + i * 8, none⟩ = some (.int .i64 kd) := (HB.out.cell (p := ⟨b, o + i * 8, none⟩) (by show b < _; omega)).trans (by go_simp)
      have EA := Lib.hid (allB_iff.2 HN.out)
      rw [EA.out] at E
      rw [EM.out] at E
      clear EM
      rcases (show kd = 1 ∨ kd = 7 ∨ (kd ≠ 1 ∧ kd ≠ 7) by omega) with rfl | rfl | ⟨h1, h7⟩
      · go_wp2
        go_returns
        exact ⟨ret_bool (by rw [E.out]; (first | rfl | (rw [Bool.eq_iff_iff]; simp; done) | (rw [Bool.eq_iff_iff]; simp; omega) | (rw [Bool.eq_iff_iff]; simp only [Bool.true_and, if_true, ↓reduceIte, decide_eq_true_eq, beq_iff_eq]; omega) | (rw [Bool.eq_iff_iff]; simp only [Bool.true_and, if_true, ↓reduceIte, decide_eq_true_eq, beq_iff_eq, Int.natCast_eq_zero]))), (by first | exact through ((Below.refl _ _).alloc (Nat.le_refl _) _) (Nat.le_refl _) (HB.out.mono (by simp)) | exact below_drewN (through ((Below.refl _ _).alloc (Nat.le_refl _) _) (Nat.le_refl _) (HB.out.mono (by simp))) _)⟩
      · go_wp2
        go_returns
        exact ⟨ret_bool (by rw [E.out]; (first | rfl | (rw [Bool.eq_iff_iff]; simp; done) | (rw [Bool.eq_iff_iff]; simp; omega) | (rw [Bool.eq_iff_iff]; simp only [Bool.true_and, if_true, ↓reduceIte, decide_eq_true_eq, beq_iff_eq]; omega) | (rw [Bool.eq_iff_iff]; simp only [Bool.true_and, if_true, ↓reduceIte, decide_eq_true_eq, beq_iff_eq, Int.natCast_eq_zero]))), (by first | exact through ((Below.refl _ _).alloc (Nat.le_refl _) _) (Nat.le_refl _) (HB.out.mono (by simp)) | exact below_drewN (through ((Below.refl _ _).alloc (Nat.le_refl _) _) (Nat.le_refl _) (HB.out.mono (by simp))) _)⟩
      · have h1' : (kd == 1) = false := beq_eq_false_iff_ne.2 h1
        have h7' : (kd == 7) = false := beq_eq_false_iff_ne.2 h7
        go_wp2
        go_returns
        exact ⟨ret_bool (by rw [E.out, if_neg h1, if_neg h7]; (first | rfl | (rw [Bool.eq_iff_iff]; simp; done) | (rw [Bool.eq_iff_iff]; simp; omega) | (rw [Bool.eq_iff_iff]; simp only [Bool.true_and, if_true, ↓reduceIte, decide_eq_true_eq, beq_iff_eq]; omega) | (rw [Bool.eq_iff_iff]; simp only [Bool.true_and, if_true, ↓reduceIte, decide_eq_true_eq, beq_iff_eq, Int.natCast_eq_zero]))), (by first | exact through ((Below.refl _ _).alloc (Nat.le_refl _) _) (Nat.le_refl _) (HB.out.mono (by simp)) | exact below_drewN (through ((Below.refl _ _).alloc (Nat.le_refl _) _) (Nat.le_refl _) (HB.out.mono (by simp))) _)⟩
end Go.Proofs.Ytaodbjgcidkpkaa.Sp
