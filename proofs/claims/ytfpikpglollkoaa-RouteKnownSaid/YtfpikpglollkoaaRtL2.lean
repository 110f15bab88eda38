/- The law: each operator that has another one as an input gets its records, just one task of it, which has the key's group; keys of one group go one way. -/
import Derived.Test.YtfpikpglollkoaaRt4
import Derived.Test.YtfpikpglollkoaaRt5
import Derived.Test.YtfpikpglollkoaaGrR
import Derived.Test.YtfpikpglollkoaaRtP
namespace Go.Proofs.Ytfpikpglollkoaa.Rt
open Go.ChangeShapes Go.WideShapes Go.ChangeAt Go.RowKit M Sp

set_option maxRecDepth 100000 in
set_option maxHeartbeats 8000000 in
theorem routeOneWay_any (g : Int) (A P : Option Addr) (c cp : Nat) (l : List OpP) (q : Nat → Option Addr × Nat) (hl : l.length ≤ 9223372036854775807) (par : List Int) (op key other : Int) (w : World) (B B2 : Nat) (hB : B ≤ w.heap.size) (hB2 : B2 ≤ w.heap.size) (h : IsOps w B A l q) (hpar : IsInts w B2 ⟨P, cp, par⟩) :
    Calls Try.prog 12 #[.agg #[.int .i64 g, .slice A l.length c], .slice P par.length cp, .int .i64 op, .int .i64 key, .int .i64 other] w fun e w' => e = .returned (.bool true) ∧ Below w.heap.size w w' := by
  have HR := Lib.hid (right_any g A P c cp l q hl par op (w.alloc (.cells #[.int .i64 g, .slice A l.length c] 24)) B B2 (by simp; omega) (by simp; omega) (h.alloc hB _) (hpar.below ((Below.refl _ _).alloc hB2 _)))
  have HS : Hid (∀ Y, Below (w.heap.size + 1) (w.alloc (.cells #[.int .i64 g, .slice A l.length c] 24)) Y → Y.cell? ⟨w.heap.size, 0, none⟩ = some (.int .i64 g) ∧ Y.cell? ⟨w.heap.size, 1, none⟩ = some (.slice A l.length c) ∧ Below w.heap.size w Y ∧ IsOps Y w.heap.size A l q ∧ IsInts Y w.heap.size ⟨P, cp, par⟩ ∧ w.heap.size + 1 ≤ Y.heap.size) := fun Y hb =>
    ⟨(hb.cell (p := ⟨w.heap.size, 0, none⟩) (by show w.heap.size < _; omega)).trans (by go_simp), (hb.cell (p := ⟨w.heap.size, 1, none⟩) (by show w.heap.size < _; omega)).trans (by go_simp),
      through ((Below.refl _ _).alloc (Nat.le_refl _) _) (Nat.le_refl _) (hb.mono (by simp)), ((h.more hB).alloc (Nat.le_refl _) _).below (hb.mono (by omega)), ((hpar.more hB2).below ((Below.refl _ _).alloc (Nat.le_refl _) _)).below (hb.mono (by omega)), by have := hb.size; simpa using this⟩
  have HW0 := Lib.hid (show (w.alloc (.cells #[.int .i64 g, .slice A l.length c] 24)).heap.size = w.heap.size + 1 by simp)
  have HX : Hid (∀ (X Y : World), Below (w.heap.size + 1) (w.alloc (.cells #[.int .i64 g, .slice A l.length c] 24)) X → Below X.heap.size X Y → Below (w.heap.size + 1) (w.alloc (.cells #[.int .i64 g, .slice A l.length c] 24)) Y) := fun X Y h1 h2 => through h1 (by simp) h2
  clear h hpar
  cases er : rightB g l par op with
  | false =>
    rw [er] at HR
    clear er
    go_enter Try.func12, Try.ntmps12
    go_wp2_with fail
    refine HR.out.mono ?_
    rintro e w1 ⟨rfl, hb1⟩
    have HB1 := Lib.hid (by rw [HW0.out] at hb1; exact hb1 : Below (w.heap.size + 1) (w.alloc (.cells #[.int .i64 g, .slice A l.length c] 24)) w1)
    clear hb1
    go_wp2_with fail
    refine (works_any _).mono ?_
    rintro e w2 ⟨rfl, hb2⟩
    have HB2 := Lib.hid (HS.out _ (HX.out _ _ HB1.out hb2)).2.2.1
    clear hb2
    go_wp2_with fail
    go_returns
    exact ⟨rfl, HB2.out⟩
  | true =>
  obtain ⟨hj, hpl, hpb, op', eop, hop⟩ := right_of er
  subst eop
  rw [er] at HR
  have HJ := Lib.hid hj
  have HPL := Lib.hid hpl
  have l12 := hj.len.2
  have hp12 : par.length ≤ 12 := by omega
  have I20 : Hid (∀ i, i < l.length → (insOf l i).length ≤ 1000) := fun i hi => by
    have h1 : (insOf l i).length ≤ l.length := nodup_le (fun x hx => by obtain ⟨j, e, hj2, -⟩ := ins_in (hj.alone i hi) x hx; exact ⟨j, e, hj2⟩) (by
      rw [List.nodup_iff_pairwise_ne, List.pairwise_iff_getElem]
      intro a b ha hb hab e
      have := ins_nodup (hj.alone i hi) a b hab hb
      rw [List.getD_eq_getElem?_getD, List.getD_eq_getElem?_getD, List.getElem?_eq_getElem ha, List.getElem?_eq_getElem hb] at this
      exact this (by simpa using e))
    omega
  have HPB := Lib.hid hpb
  clear er hj hpl hpb
  go_enter Try.func12, Try.ntmps12
  go_wp2_with fail
  refine HR.out.mono ?_
  rintro e w1 ⟨rfl, hb1⟩
  have HB1 := Lib.hid (by rw [HW0.out] at hb1; exact hb1 : Below (w.heap.size + 1) (w.alloc (.cells #[.int .i64 g, .slice A l.length c] 24)) w1)
  clear hb1
  have HT : Hid (∀ (ky : Int) Y, Below (w.heap.size + 1) (w.alloc (.cells #[.int .i64 g, .slice A l.length c] 24)) Y → Calls Try.prog 40 #[.agg #[.int .i64 g, .slice A l.length c], .slice P par.length cp, .int .i64 (op' : Int), .int .i64 ky] Y (RetPairs 54 Y (targF g l par op' ky))) := fun ky Y hY => by
    obtain ⟨-, -, -, hio, hpi, hz⟩ := HS.out _ hY
    exact targets_any g A P c cp l q par HPL.out (by omega) op' ky Y _ _ (by omega) (by omega) hio hpi
  have HU : Hid (∀ Y, Below (w.heap.size + 1) (w.alloc (.cells #[.int .i64 g, .slice A l.length c] 24)) Y → Calls Try.prog 21 #[.agg #[.int .i64 g, .slice A l.length c], .int .i64 (op' : Int)] Y (RetInts Y (usersF l op'))) := fun Y hY => by
    obtain ⟨-, -, -, hio, hpi, hz⟩ := HS.out _ hY
    exact users_any g A c l q op' Y _ (by omega) hio (by omega)
  have HUL : Hid ((usersF l op').length ≤ 12) := by show _ ≤ _; have := users_len l op'; omega
  obtain ⟨s0, s1, -, -, -, hsz1⟩ := HS.out _ HB1.out
  obtain ⟨us, hus⟩ : ∃ us, usersF l (op' : Int) = us := ⟨_, rfl⟩
  have HFK := HJ.out.fedK hop
  have hj := HJ.out
  have HPT : Hid (∀ k, k < us.length → ∃ m : Nat, us.getD k 0 = m ∧ m < par.length ∧ RangeOk g (Gr.ofG key g) (par.getD m 0)) := fun k hk => by
    subst hus
    obtain ⟨m, e, hm⟩ := users_in (par := par) HPL.out op' _ (getD_mem hk)
    exact ⟨m, e, hm, range_ok hj.groups (HPB.out m hm)⟩
  rw [hus] at HU HUL HFK
  have EL : Hid ((targF g l par op' key).length = us.length) := by show _ = _; unfold targF; rw [tasks_len, hus]
  have EG : Hid (∀ k, k < us.length → (targF g l par op' key).getD k (0, 0) = (us.getD k 0, Gr.ownerG (Gr.ofG key g) (par.getD (us.getD k 0).toNat 0) g)) := fun k hk => by
    unfold targF; rw [hus]; exact tasks_get hk
  have EO : Hid (Gr.ofG other g = Gr.ofG key g → targF g l par op' other = targF g l par op' key) := fun h => by unfold targF; rw [h]
  have hul := HUL.out
  clear hj hus
  go_wp2_with fail
  refine (HT.out key _ HB1.out).mono ?_
  rintro e w2 ⟨Al, cl, rfl, ol, hb2⟩
  have HL2 := Lib.hid ol
  have HB2 := Lib.hid (HX.out _ _ HB1.out hb2)
  clear ol hb2 s0 s1
  rw [EL.out]
  obtain ⟨s0, s1, -, -, -, hsz2⟩ := HS.out _ HB2.out
  go_wp2_with fail
  refine (HU.out _ HB2.out).mono ?_
  rintro e w3 ⟨Au, cu, rfl, ou, hb3⟩
  have HU3 := Lib.hid ou
  have HL3 := Lib.hid (HL2.out.below hb3)
  have HB3 := Lib.hid (HX.out _ _ HB2.out hb3)
  clear ou hb3 s0 s1 HL2
  obtain ⟨s0, s1, -, hio, hpi, hsz3⟩ := HS.out _ HB3.out
  obtain ⟨b, o, rfl, hb, c0, -⟩ := hio.at_ hop
  have HOF := Lib.hid (Gr.of_any key g w3)
  have HOO : Hid (∀ Y, Calls Try.prog 45 #[.int .i64 other, .int .i64 g] Y fun e w' => e = .returned (.int .i64 (Gr.ofG other g)) ∧ Y = w') := fun Y => Gr.of_any other g Y
  have HPI := Lib.hid hpi
  generalize targF g l par op' key = res at *
  generalize Gr.ofG key g = gg at *
  generalize Gr.ofG other g = g2 at *
  generalize kindOf l op' = kd at *
  clear hio hpi
  have tl : ((us.length : Int) != (us.length : Int)) = false := by simp
  have hopz : (op' : Int) < (l.length : Int) := by omega
  cases hkd : (kd == 8)
  case' true =>
    have hu0 : us = [] := by rw [hkd] at HFK; exact List.isEmpty_iff.1 HFK
    have tz : ((us.length : Int) != 0) = false := by rw [hu0]; rfl
    clear hu0
  all_goals
    clear HFK
    go_wp2_with fail
    refine HOF.out.mono ?_
    rintro e w4 ⟨rfl, rfl⟩
    go_wp2_with fail
    clear tl s0 s1 c0 HOF
    try clear tz
    go_loopw [14] (fun i wr => ∃ k : Nat, k ≤ us.length ∧ i = .int .i64 k ∧ Below w3.heap.size w3 wr) (fun i _ => us.length - (intOf i).toNat)
    case atStart => exact ⟨0, by omega, rfl, Below.refl _ _⟩
    case round =>
      obtain ⟨k, hk, rfl, hbl⟩ := hrel
      have HB := Lib.hid hbl
      have HBW := Lib.hid (HX.out _ _ HB3.out hbl)
      clear hbl
      obtain ⟨s0, s1, -, -, -, hsz0⟩ := HS.out _ HBW.out
      by_cases hlt : k < us.length
      · obtain ⟨m, em, hm, HRO⟩ := HPT.out k hlt
        obtain ⟨bu, ou, v, rfl, hbu, HV, -, u0⟩ := Sp.ints_at ((HU3.out.below HB.out).ints) hlt
        obtain rfl : v = (m : Int) := HV.out.symm.trans em
        obtain ⟨bp, op2, p, rfl, hbp, HPV, -, p0⟩ := Sp.ints_at (HPI.out.below (HB.out.mono (by omega))) hm
        obtain ⟨bl, ol, x, rfl, hbl, HLV, -, l0, l1⟩ := pairs_at ((HL3.out.below HB.out).pairs) (show k < res.length by rw [EL.out]; exact hlt)
        have ex := EG.out k hlt
        rw [HLV.out, em, Int.toNat_natCast, HPV.out] at ex
        rw [HPV.out] at HRO
        subst ex
        simp only at l0 l1
        obtain ⟨r1, r2, r3, r4, er⟩ := HRO
        have HRG := Lib.hid (Gr.range_any (Gr.ownerG gg p g) p g)
        generalize Gr.ownerG gg p g = t at *
        generalize Gr.loG t p g = lo at *
        generalize Gr.hiG t p g = hi at *
        have t1 : ((m : Int) != (m : Int)) = false := by simp
        have t2 : decide (t < 0) = false := decide_eq_false (by omega)
        have t3 : decide (p ≤ t) = false := decide_eq_false (by omega)
        have t4 : decide (gg < lo) = false := decide_eq_false (by omega)
        have t5 : decide (hi ≤ gg) = false := decide_eq_false (by omega)
        have hmp : m < par.length := hm
        have hkr : k < us.length := hlt
        clear em hm er r1 r2 r3 r4 s1
        go_wp2_with fail
        go_quiet (fail)
        go_wp2_with fail
        go_region_held3 (fun w' => w'.cell? ⟨bl, ol + k * 2 + 1, none⟩ = some (.int .i64 t) ∧ w'.cell? ⟨bu, ou + k, none⟩ = some (.int .i64 (m : Int)) ∧ w'.cell? ⟨bp, op2 + m, none⟩ = some (.int .i64 p) ∧ w'.cell? ⟨w.heap.size, 0, none⟩ = some (.int .i64 g))
          (first | assumption | exact ⟨l1, u0, p0, s0⟩)
          ((go_at_call 46; refine (HRG.out _).mono ?_; rintro e w' ⟨rfl, rfl⟩))
        go_wp2_with fail
        go_roundw
        case rel => exact ⟨k + 1, by omega, by go_num, (below_drewN HB.out _).drew⟩
        case measure => simp [intOf]; omega
      · obtain rfl : k = us.length := by omega
        obtain ⟨w5, hw5⟩ : ∃ x, wr = x := ⟨_, rfl⟩
        rw [hw5] at HB HBW s0 s1 ⊢
        clear hw5
        have HL5 := Lib.hid (HL3.out.below HB.out)
        by_cases hg : g2 = gg
        · have tg : (g2 != gg) = false := by simp [hg]
          have EO2 := Lib.hid (EO.out hg)
          clear hg
          go_wp2_with fail
          refine (HOO.out w5).mono ?_
          rintro e w6 ⟨rfl, rfl⟩
          go_wp2_with fail
          refine (HT.out other _ HBW.out).mono ?_
          rintro e w7 ⟨A7, c7, rfl, o7, hb7⟩
          rw [EO2.out] at o7
          have el7 : (targF g l par op' other).length = us.length := by rw [EO2.out]; exact EL.out
          have HSS := Lib.hid (sameSpots_any A7 Al c7 cl res _ _ w7 o7.pairs (HL5.out.below hb7).pairs)
          rw [EL.out] at HSS
          rw [el7]
          have HB7 := Lib.hid (HX.out _ _ HBW.out hb7)
          clear o7 hb7 s0 s1 el7
          go_wp2_with fail
          refine HSS.out.mono ?_
          rintro e w8 ⟨rfl, hb8⟩
          have HB8 := Lib.hid (HX.out _ _ HB7.out hb8)
          clear hb8
          go_wp2_with fail
          refine (works_any _).mono ?_
          rintro e w9 ⟨rfl, hb9⟩
          have HB9 := Lib.hid (HS.out _ (HX.out _ _ HB8.out hb9)).2.2.1
          clear hb9
          go_wp2_with fail
          go_returns
          exact ⟨by first | rfl | simp, HB9.out⟩
        · have tg : (g2 != gg) = true := by simp [hg]
          clear hg
          go_wp2_with fail
          refine (HOO.out w5).mono ?_
          rintro e w6 ⟨rfl, rfl⟩
          go_wp2_with fail
          refine (works_any _).mono ?_
          rintro e w9 ⟨rfl, hb9⟩
          have HB9 := Lib.hid (HS.out _ (HX.out _ _ HBW.out hb9)).2.2.1
          clear hb9 s0 s1
          go_wp2_with fail
          go_returns
          exact ⟨by first | rfl | simp, HB9.out⟩
end Go.Proofs.Ytfpikpglollkoaa.Rt
