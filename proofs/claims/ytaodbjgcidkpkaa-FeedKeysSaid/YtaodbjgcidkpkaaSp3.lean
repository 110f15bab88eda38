/- Jobs: an operator of its own, whole. -/
import Derived.Test.YtaodbjgcidkpkaaSp2
namespace Go.Proofs.Ytaodbjgcidkpkaa.Sp
open Go.ChangeShapes Go.WideShapes Go.ChangeAt Go.RowKit M

/-- a job's value -/
def specV (g : Int) (A : Option Addr) (n c : Nat) : Value := .agg #[.int .i64 g, .slice A n c]
theorem spec_blk {X : World} {q : Nat} {t : TypeId} {g : Int} {A : Option Addr} {n c : Nat} (h : Blk X q t #[.int .i64 g, .slice A n c]) :
    X.cell? ⟨q, 0, none⟩ = some (.int .i64 g) ∧ X.cell? ⟨q, 1, none⟩ = some (.slice A n c) := ⟨by rw [h.cell]; rfl, by rw [h.cell]; rfl⟩
/-- an operator's cells, as they stand in a block of their own -/
def opArr (o : OpP) (a : Option Addr × Nat) : Array Value := #[.int .i64 o.kind, .slice a.1 o.ins.length a.2, .int .i64 o.fo, .int .i64 o.fa, .int .i64 o.fb, .int .i64 o.parts, .int .i64 o.rate, .int .i64 o.cost]
theorem op_blk {X : World} {q : Nat} {t : TypeId} {o : OpP} {a : Option Addr × Nat} (h : Blk X q t (opArr o a)) :
    X.cell? ⟨q, 0, none⟩ = some (.int .i64 o.kind) ∧ X.cell? ⟨q, 1, none⟩ = some (.slice a.1 o.ins.length a.2) ∧ X.cell? ⟨q, 2, none⟩ = some (.int .i64 o.fo) ∧ X.cell? ⟨q, 3, none⟩ = some (.int .i64 o.fa) ∧ X.cell? ⟨q, 4, none⟩ = some (.int .i64 o.fb) ∧
    X.cell? ⟨q, 5, none⟩ = some (.int .i64 o.parts) ∧ X.cell? ⟨q, 6, none⟩ = some (.int .i64 o.rate) ∧ X.cell? ⟨q, 7, none⟩ = some (.int .i64 o.cost) :=
  ⟨by rw [h.cell]; rfl, by rw [h.cell]; rfl, by rw [h.cell]; rfl, by rw [h.cell]; rfl, by rw [h.cell]; rfl, by rw [h.cell]; rfl, by rw [h.cell]; rfl, by rw [h.cell]; rfl⟩

theorem aloneO_kind {n i : Nat} {o : OpP} (h : btw o.kind 1 8 = false) : aloneO n i o = 2 := by unfold aloneO; rw [h]; rfl
theorem aloneO_in {n i : Nat} {o : OpP} (h : btw o.kind 1 8 = true) (h2 : inputsB n i o.kind o.ins = false) : aloneO n i o = 8 := by unfold aloneO; rw [h, h2]; rfl
theorem aloneO_arg {n i : Nat} {o : OpP} (h : btw o.kind 1 8 = true) (h2 : inputsB n i o.kind o.ins = true) (h3 : (mayB o.kind o.fo o.fa o.fb && partsB o && btw o.cost 1 1000) = false) : aloneO n i o = 1 := by unfold aloneO; rw [h, h2, h3]; rfl
theorem aloneO_ok {n i : Nat} {o : OpP} (h : btw o.kind 1 8 = true) (h2 : inputsB n i o.kind o.ins = true) (h3 : (mayB o.kind o.fo o.fa o.fb && partsB o && btw o.cost 1 1000) = true) : aloneO n i o = 0 := by unfold aloneO; rw [h, h2, h3]; rfl

set_option maxHeartbeats 4000000 in
theorem alone_any (g : Int) (A : Option Addr) (c : Nat) (l : List OpP) (p : Nat → Option Addr × Nat) (i : Nat) (w : World) (B : Nat) (hB : B ≤ w.heap.size) (h : IsOps w B A l p) (hi : i < l.length) (hl : l.length ≤ 9223372036854775807) :
    Calls Try.prog 61 #[.agg #[.int .i64 g, .slice A l.length c], .int .i64 i] w fun e w' => e = .returned (.int .i64 (aloneE l i)) ∧ Below w.heap.size w w' := by
  obtain ⟨b, o, rfl, hb, c0, c1, c2, c3, c4, c5, c6, c7, hin, -⟩ := h.at_ hi
  obtain ⟨ik, io, ia, ib, ip, ir, ic⟩ := hin
  have hbw : b < w.heap.size := by omega
  have EL := Lib.hid (show aloneE l i = aloneO l.length i (opOf l i) from rfl)
  have HI := Lib.hid (fun X => inputs_any g (some ⟨b, o, none⟩) c l p i X (w.heap.size + 1 + 1))
  unfold kindOf insOf at *
  have HH := Lib.hid h
  clear h
  generalize hO : opOf l i = O at *
  generalize p i = a at *
  go_enter Try.func61, Try.ntmps61
  go_upto_region 2 with (fail)
  obtain ⟨X, hX⟩ : ∃ X, ((w.alloc (.cells #[.int .i64 g, .slice (some ⟨b, o, none⟩) l.length c] 24)).alloc (.cells (opArr O a) 40)) = X := ⟨_, rfl⟩
  have k1 : Blk X w.heap.size 24 #[.int .i64 g, .slice (some ⟨b, o, none⟩) l.length c] := hX ▸ (Blk.new w _ _).alloc _
  have k2 : Blk X (w.heap.size + 1) 40 (opArr O a) := hX ▸ (by have := Blk.new (w.alloc (.cells #[.int .i64 g, .slice (some ⟨b, o, none⟩) l.length c] 24)) 40 (opArr O a); simpa using this)
  have k3 : Below w.heap.size w X := hX ▸ (((Below.refl _ _).alloc (Nat.le_refl _) _).alloc (by simp) _)
  have k4 : X.heap.size = w.heap.size + 1 + 1 := hX ▸ (by simp)
  unfold opArr at hX
  (try rw [hX])
  have HX := Lib.hid k3
  have HS := Lib.hid k4
  have HO := Lib.hid (hX ▸ ((HH.out.alloc hB _).alloc (by simp; omega) _) : IsOps X B (some ⟨b, o, none⟩) l p)
  clear c0 c1 c2 c3 c4 c5 c6 c7 hX k3 k4
  obtain ⟨s0, s1⟩ := spec_blk k1
  obtain ⟨o0, o1, o2, o3, o4, o5, o6, o7⟩ := op_blk k2
  clear k1 k2
  have HY := Lib.hid hO
  clear hO
  obtain ⟨z, hz⟩ : ∃ z, (O.parts == 0 && O.rate == 0) = z := ⟨_, rfl⟩
  have HZ := Lib.hid hz
  clear hz
  go_cut [6] (fun v wc => v = .bool z ∧ wc = X)
  case first =>
    go_wp2
    all_goals go_meet
    all_goals exact ⟨by rw [← HZ.out]; first | (simp_all; done) | (rw [Bool.eq_iff_iff]; simp_all; done), rfl⟩
  case rest =>
    obtain ⟨rfl, rfl⟩ := hcut
    go_upto_if 22 with (fail)
    go_cut [6] (fun v w2 => v = .bool (partsB O) ∧ w2 = wc)
    case first =>
      have EP := Lib.hid (show partsB O = (if O.kind = 1 then btw O.parts 1 8 && btw O.rate 1 1048576 else z) by rw [← HZ.out]; rfl)
      cases ek : (O.kind == 1) with
      | true =>
        have ek' := Lib.hid (show O.kind = 1 by simpa using ek)
        cases eb : btw O.parts 1 8 <;> cases er : btw O.rate 1 1048576
        all_goals
          go_wp2_with (first | (go_at_call 51; refine (between_any _ _ _ _).mono ?_; rintro e w' ⟨rfl, rfl⟩))
          go_meet
          exact ⟨by rw [EP.out, if_pos ek'.out, eb]; first | rfl | (rw [er]; rfl), rfl⟩
      | false =>
        have ek' := Lib.hid (show ¬ O.kind = 1 by simpa using ek)
        go_wp2
        go_meet
        exact ⟨by rw [EP.out, if_neg ek'.out], rfl⟩
    case rest =>
    obtain ⟨rfl, rfl⟩ := hcut
    cases e1 : btw O.kind 1 8 with
    | false =>
      have EV := Lib.hid (EL.out.trans (aloneO_kind e1))
      go_wp2_with (first | (go_at_call 51; refine (between_any _ _ _ _).mono ?_; rintro e w' ⟨rfl, rfl⟩))
      (go_returns; exact ⟨ret_int EV.out.symm, by first | exact HX.out | exact through HX.out (Nat.le_refl _) hbi | exact through (through HX.out (Nat.le_refl _) HBI.out) (Nat.le_refl _) hbm⟩)
    | true =>
      have HJ := Lib.hid (HI.out wc (Nat.le_of_eq HS.out.symm) (HO.out.more (by omega)) hi hl)
      cases e2 : inputsB l.length i O.kind O.ins with
      | false =>
        have EV := Lib.hid (EL.out.trans (aloneO_in e1 e2))
        rw [e2] at HJ
        go_wp2_with (first | (first | (go_at_call 51; refine (between_any _ _ _ _).mono ?_; rintro e w' ⟨rfl, rfl⟩)) | (go_at_call 77; refine HJ.out.mono ?_; rintro e w1 ⟨rfl, hbi⟩))
        (go_returns; exact ⟨ret_int EV.out.symm, by first | exact HX.out | exact through HX.out (Nat.le_refl _) hbi | exact through (through HX.out (Nat.le_refl _) HBI.out) (Nat.le_refl _) hbm⟩)
      | true =>
        rw [e2] at HJ
        have HM := Lib.hid (fun X => may_any O.kind O.fo O.fa O.fb X ia)
        have EA := Lib.hid (fun h => EL.out.trans (aloneO_arg e1 e2 h))
        have EO := Lib.hid (fun h => EL.out.trans (aloneO_ok e1 e2 h))
        obtain ⟨m1, hm1⟩ : ∃ m, mayB O.kind O.fo O.fa O.fb = m := ⟨_, rfl⟩
        obtain ⟨m2, hm2⟩ : ∃ m, partsB O = m := ⟨_, rfl⟩
        rw [hm1] at HM
        rw [hm1, hm2] at EA EO
        rw [hm2]
        clear hm1 hm2
        go_upto_if 36 with (first | (first | (go_at_call 51; refine (between_any _ _ _ _).mono ?_; rintro e w' ⟨rfl, rfl⟩)) | (go_at_call 77; refine HJ.out.mono ?_; rintro e w1 ⟨rfl, hbi⟩))
        obtain ⟨d1, d2⟩ := below_cells hbi
        have o0' := (d1 (w.heap.size + 1) 0 (by rw [HS.out]; omega)).trans o0
        have o2' := (d1 (w.heap.size + 1) 2 (by rw [HS.out]; omega)).trans o2
        have o3' := (d1 (w.heap.size + 1) 3 (by rw [HS.out]; omega)).trans o3
        have o4' := (d1 (w.heap.size + 1) 4 (by rw [HS.out]; omega)).trans o4
        have o7' := (d1 (w.heap.size + 1) 7 (by rw [HS.out]; omega)).trans o7
        have HBI := Lib.hid hbi
        clear d1 d2 o0 o1 o2 o3 o4 o5 o6 o7 hbi HJ HI
        cases m1 with
        | false =>
          have EV := Lib.hid (EA.out rfl)
          clear EA EO
          go_wp2_with (first | (first | (go_at_call 51; refine (between_any _ _ _ _).mono ?_; rintro e w' ⟨rfl, rfl⟩)) | (go_at_call 78; refine (HM.out _).mono ?_; rintro e w3 ⟨rfl, hbm⟩))
          (go_returns; exact ⟨ret_int EV.out.symm, by first | exact HX.out | exact through HX.out (Nat.le_refl _) hbi | exact through (through HX.out (Nat.le_refl _) HBI.out) (Nat.le_refl _) hbm⟩)
        | true =>
          cases m2 with
          | false =>
            have EV := Lib.hid (EA.out rfl)
            clear EA EO
            go_wp2_with (first | (first | (go_at_call 51; refine (between_any _ _ _ _).mono ?_; rintro e w' ⟨rfl, rfl⟩)) | (go_at_call 78; refine (HM.out _).mono ?_; rintro e w3 ⟨rfl, hbm⟩))
            (go_returns; exact ⟨ret_int EV.out.symm, by first | exact HX.out | exact through HX.out (Nat.le_refl _) hbi | exact through (through HX.out (Nat.le_refl _) HBI.out) (Nat.le_refl _) hbm⟩)
          | true =>
            have hfar : ∀ w3, Below w1.heap.size w1 w3 → w3.cell? ⟨w.heap.size + 1, 7, none⟩ = w1.cell? ⟨w.heap.size + 1, 7, none⟩ := fun w3 h3 => h3.cell (p := ⟨w.heap.size + 1, 7, none⟩) (by show w.heap.size + 1 < _; have := HBI.out.size; rw [HS.out] at this; omega)
            have HF := Lib.hid hfar
            clear hfar
            cases e3 : btw O.cost 1 1000 with
            | false =>
              have EV := Lib.hid (EA.out (by rw [e3]; rfl))
              clear EA EO
              go_wp2_with (first | (first | (go_at_call 51; refine (between_any _ _ _ _).mono ?_; rintro e w' ⟨rfl, rfl⟩)) | (go_at_call 78; refine (HM.out _).mono ?_; rintro e w3 ⟨rfl, hbm⟩; have o7'' := (HF.out w3 hbm).trans o7'))
              (go_returns; exact ⟨ret_int EV.out.symm, by first | exact HX.out | exact through HX.out (Nat.le_refl _) hbi | exact through (through HX.out (Nat.le_refl _) HBI.out) (Nat.le_refl _) hbm⟩)
            | true =>
              have EV := Lib.hid (EO.out (by rw [e3]; rfl))
              clear EA EO
              go_wp2_with (first | (first | (go_at_call 51; refine (between_any _ _ _ _).mono ?_; rintro e w' ⟨rfl, rfl⟩)) | (go_at_call 78; refine (HM.out _).mono ?_; rintro e w3 ⟨rfl, hbm⟩; have o7'' := (HF.out w3 hbm).trans o7'))
              (go_returns; exact ⟨ret_int EV.out.symm, by first | exact HX.out | exact through HX.out (Nat.le_refl _) hbi | exact through (through HX.out (Nat.le_refl _) HBI.out) (Nat.le_refl _) hbm⟩)
end Go.Proofs.Ytaodbjgcidkpkaa.Sp
