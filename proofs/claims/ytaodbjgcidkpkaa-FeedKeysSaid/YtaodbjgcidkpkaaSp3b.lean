/- Jobs: an operator of its own, whole, as the document has it. -/
import Derived.Test.YtaodbjgcidkpkaaSp3
namespace Go.Proofs.Ytaodbjgcidkpkaa.Sp
open Go.ChangeShapes Go.WideShapes Go.ChangeAt Go.RowKit M

set_option maxHeartbeats 4000000 in
theorem refAlone_any (g : Int) (A : Option Addr) (c : Nat) (l : List OpP) (p : Nat → Option Addr × Nat) (i : Nat) (w : World) (B : Nat) (hB : B ≤ w.heap.size) (h : IsOps w B A l p) (hi : i < l.length) (hl : l.length ≤ 9223372036854775807) :
    Calls Try.prog 46 #[.agg #[.int .i64 g, .slice A l.length c], .int .i64 i] w fun e w' => e = .returned (.int .i64 (aloneE l i)) ∧ Below w.heap.size w w' := by
  obtain ⟨b, o, rfl, hb, c0, c1, c2, c3, c4, c5, c6, c7, hin, -⟩ := h.at_ hi
  obtain ⟨ik, io, ia, ib, ip, ir, ic⟩ := hin
  have hbw : b < w.heap.size := by omega
  have EL := Lib.hid (show aloneE l i = aloneO l.length i (opOf l i) from rfl)
  have HI := Lib.hid (fun X => refInputs_any g (some ⟨b, o, none⟩) c l p i X (w.heap.size + 1 + 1))
  unfold kindOf insOf at *
  have HH := Lib.hid h
  clear h
  generalize hO : opOf l i = O at *
  generalize p i = a at *
  go_enter Try.func46, Try.ntmps46
  go_upto_region 2 with (fail)
  obtain ⟨X, hX⟩ : ∃ X, ((w.alloc (.cells #[.int .i64 g, .slice (some ⟨b, o, none⟩) l.length c] 24)).alloc (.cells (opArr O a) 40)) = X := ⟨_, rfl⟩
  have k1 : Blk X w.heap.size 24 #[.int .i64 g, .slice (some ⟨b, o, none⟩) l.length c] := hX ▸ (Blk.new w _ _).alloc _
  have k2 : Blk X (w.heap.size + 1) 40 (opArr O a) := hX ▸ (by have := Blk.new (w.alloc (.cells #[.int .i64 g, .slice (some ⟨b, o, none⟩) l.length c] 24)) 40 (opArr O a); simpa using this)
  have k3 : Below w.heap.size w X := hX ▸ (((Below.refl _ _).alloc (Nat.le_refl _) _).alloc (by simp) _)
  have k4 : X.heap.size = w.heap.size + 1 + 1 := hX ▸ (by simp)
  unfold opArr at hX
  (try rw [hX])
  have HX := Lib.hid k3
  have HS := Lib.hid k4
  have HO := Lib.hid (hX ▸ ((HH.out.alloc hB _).alloc (by simp; omega) _) : IsOps X B (some ⟨b, o, none⟩) l p)
  clear c0 c1 c2 c3 c4 c5 c6 c7 hX k3 k4
  obtain ⟨s0, s1⟩ := spec_blk k1
  obtain ⟨o0, o1, o2, o3, o4, o5, o6, o7⟩ := op_blk k2
  clear k1 k2
  have HY := Lib.hid hO
  clear hO
  by_cases e1 : O.kind < 1 ∨ 8 < O.kind
  · have EV := Lib.hid (EL.out.trans (aloneO_kind (btw_no e1)))
    rcases e1 with e1 | e1
    · have d1 : decide (O.kind < 1) = true := decide_eq_true e1
      go_wp2
      (go_returns; exact ⟨ret_int EV.out.symm, by first | exact HX.out | exact through HX.out (Nat.le_refl _) hbi | exact through (through HX.out (Nat.le_refl _) HBI.out) (Nat.le_refl _) hbm⟩)
    · have d1 : decide (O.kind < 1) = false := decide_eq_false (by omega)
      have d2 : decide (8 < O.kind) = true := decide_eq_true e1
      go_wp2
      (go_returns; exact ⟨ret_int EV.out.symm, by first | exact HX.out | exact through HX.out (Nat.le_refl _) hbi | exact through (through HX.out (Nat.le_refl _) HBI.out) (Nat.le_refl _) hbm⟩)
  · have d1 : decide (O.kind < 1) = false := decide_eq_false (by omega)
    have d2 : decide (8 < O.kind) = false := decide_eq_false (by omega)
    have e1 : btw O.kind 1 8 = true := btw_yes (by omega) (by omega)
    have HJ := Lib.hid (HI.out X (Nat.le_of_eq HS.out.symm) (HO.out.more (by omega)) hi hl)
    cases e2 : inputsB l.length i O.kind O.ins with
    | false =>
      have EV := Lib.hid (EL.out.trans (aloneO_in e1 e2))
      rw [e2] at HJ
      go_wp2_with (go_at_call 72; refine HJ.out.mono ?_; rintro e w1 ⟨rfl, hbi⟩)
      (go_returns; exact ⟨ret_int EV.out.symm, by first | exact HX.out | exact through HX.out (Nat.le_refl _) hbi | exact through (through HX.out (Nat.le_refl _) HBI.out) (Nat.le_refl _) hbm⟩)
    | true =>
      rw [e2] at HJ
      have HM := Lib.hid (fun X => refMay_any O.kind O.fo O.fa O.fb X ia)
      have EA := Lib.hid (fun h => EL.out.trans (aloneO_arg e1 e2 h))
      have EO := Lib.hid (fun h => EL.out.trans (aloneO_ok e1 e2 h))
      obtain ⟨m1, hm1⟩ : ∃ m, mayB O.kind O.fo O.fa O.fb = m := ⟨_, rfl⟩
      obtain ⟨m2, hm2⟩ : ∃ m, partsB O = m := ⟨_, rfl⟩
      rw [hm1] at HM
      rw [hm1, hm2] at EA EO
      have EP := Lib.hid (show m2 = (if O.kind = 1 then btw O.parts 1 8 && btw O.rate 1 1048576 else O.parts == 0 && O.rate == 0) from hm2.symm)
      clear hm1 hm2 e1 e2
      go_upto_region 6 with (go_at_call 72; refine HJ.out.mono ?_; rintro e w1 ⟨rfl, hbi⟩)
      obtain ⟨d1, d2⟩ := below_cells hbi
      have o0' := (d1 (w.heap.size + 1) 0 (by rw [HS.out]; omega)).trans o0
      have o2' := (d1 (w.heap.size + 1) 2 (by rw [HS.out]; omega)).trans o2
      have o3' := (d1 (w.heap.size + 1) 3 (by rw [HS.out]; omega)).trans o3
      have o4' := (d1 (w.heap.size + 1) 4 (by rw [HS.out]; omega)).trans o4
      have o5' := (d1 (w.heap.size + 1) 5 (by rw [HS.out]; omega)).trans o5
      have o6' := (d1 (w.heap.size + 1) 6 (by rw [HS.out]; omega)).trans o6
      have o7' := (d1 (w.heap.size + 1) 7 (by rw [HS.out]; omega)).trans o7
      have hfar : ∀ w3, Below w1.heap.size w1 w3 → w3.cell? ⟨w.heap.size + 1, 7, none⟩ = w1.cell? ⟨w.heap.size + 1, 7, none⟩ := fun w3 h3 => h3.cell (p := ⟨w.heap.size + 1, 7, none⟩) (by show w.heap.size + 1 < _; have := hbi.size; rw [HS.out] at this; omega)
      have HF := Lib.hid hfar
      clear hfar
      have HBI := Lib.hid hbi
      clear d1 d2 o0 o1 o2 o3 o4 o5 o6 o7 hbi HJ HI
      obtain ⟨z, hz⟩ : ∃ z, (O.parts == 0 && O.rate == 0) = z := ⟨_, rfl⟩
      have HZ := Lib.hid hz
      clear hz
      go_cut [6] (fun v wc => v = .bool z ∧ wc = w1)
      case first =>
        go_wp2
        all_goals go_meet
        all_goals exact ⟨by rw [← HZ.out]; first | (simp_all; done) | (rw [Bool.eq_iff_iff]; simp_all; done), rfl⟩
      case rest =>
      obtain ⟨rfl, rfl⟩ := hcut
      go_upto_if 34 with (fail)
      go_cut [6] (fun v w2 => v = .bool m2 ∧ w2 = wc)
      case first =>
        cases ek : (O.kind == 1) with
        | true =>
          have ek' := Lib.hid (show O.kind = 1 by simpa using ek)
          go_wp2
          all_goals go_meet
          all_goals exact ⟨congrArg Value.bool (by rw [EP.out, if_pos ek'.out]; unfold btw; first | (simp_all; done) | (rw [Bool.eq_iff_iff]; simp_all; done) | (rw [Bool.eq_iff_iff]; simp_all; omega) | (rw [Bool.eq_iff_iff]; simp; omega)), rfl⟩
        | false =>
          have ek' := Lib.hid (show ¬ O.kind = 1 by simpa using ek)
          go_wp2
          go_meet
          exact ⟨by rw [EP.out, if_neg ek'.out, HZ.out], rfl⟩
      case rest =>
      obtain ⟨rfl, rfl⟩ := hcut
      cases m1 with
      | false =>
        have EV := Lib.hid (EA.out rfl)
        clear EA EO
        go_wp2_with (go_at_call 73; refine (HM.out _).mono ?_; rintro e w3 ⟨rfl, hbm⟩; have o7'' := (HF.out w3 hbm).trans o7')
        (go_returns; exact ⟨ret_int EV.out.symm, by first | exact HX.out | exact through HX.out (Nat.le_refl _) hbi | exact through (through HX.out (Nat.le_refl _) HBI.out) (Nat.le_refl _) hbm⟩)
      | true =>
        cases m2 with
        | false =>
          have EV := Lib.hid (EA.out rfl)
          clear EA EO
          go_wp2_with (go_at_call 73; refine (HM.out _).mono ?_; rintro e w3 ⟨rfl, hbm⟩; have o7'' := (HF.out w3 hbm).trans o7')
          (go_returns; exact ⟨ret_int EV.out.symm, by first | exact HX.out | exact through HX.out (Nat.le_refl _) hbi | exact through (through HX.out (Nat.le_refl _) HBI.out) (Nat.le_refl _) hbm⟩)
        | true =>
          by_cases e3 : O.cost < 1 ∨ 1000 < O.cost
          · have EV := Lib.hid (EA.out (by rw [btw_no e3]; rfl))
            clear EA EO
            rcases e3 with e3 | e3
            · have d3 : decide (O.cost < 1) = true := decide_eq_true e3
              go_wp2_with (go_at_call 73; refine (HM.out _).mono ?_; rintro e w3 ⟨rfl, hbm⟩; have o7'' := (HF.out w3 hbm).trans o7')
              (go_returns; exact ⟨ret_int EV.out.symm, by first | exact HX.out | exact through HX.out (Nat.le_refl _) hbi | exact through (through HX.out (Nat.le_refl _) HBI.out) (Nat.le_refl _) hbm⟩)
            · have d3 : decide (O.cost < 1) = false := decide_eq_false (by omega)
              have d4 : decide (1000 < O.cost) = true := decide_eq_true e3
              go_wp2_with (go_at_call 73; refine (HM.out _).mono ?_; rintro e w3 ⟨rfl, hbm⟩; have o7'' := (HF.out w3 hbm).trans o7')
              (go_returns; exact ⟨ret_int EV.out.symm, by first | exact HX.out | exact through HX.out (Nat.le_refl _) hbi | exact through (through HX.out (Nat.le_refl _) HBI.out) (Nat.le_refl _) hbm⟩)
          · have EV := Lib.hid (EO.out (by rw [btw_yes (by omega) (by omega)]; rfl))
            clear EA EO
            have d3 : decide (O.cost < 1) = false := decide_eq_false (by omega)
            have d4 : decide (1000 < O.cost) = false := decide_eq_false (by omega)
            go_wp2_with (go_at_call 73; refine (HM.out _).mono ?_; rintro e w3 ⟨rfl, hbm⟩; have o7'' := (HF.out w3 hbm).trans o7')
            (go_returns; exact ⟨ret_int EV.out.symm, by first | exact HX.out | exact through HX.out (Nat.le_refl _) hbi | exact through (through HX.out (Nat.le_refl _) HBI.out) (Nat.le_refl _) hbm⟩)
end Go.Proofs.Ytaodbjgcidkpkaa.Sp
