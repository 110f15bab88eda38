/- The law: two operators with as many tasks get a key's records by the same task, whoever they come of. -/
import Derived.Test.YtfpikpglollkoaaRt4
import Derived.Test.YtfpikpglollkoaaRt5
import Derived.Test.YtfpikpglollkoaaGrR
import Derived.Test.YtfpikpglollkoaaRtP
namespace Go.Proofs.Ytfpikpglollkoaa.Rt
open Go.ChangeShapes Go.WideShapes Go.ChangeAt Go.RowKit M Sp

set_option maxRecDepth 100000 in
set_option maxHeartbeats 8000000 in
theorem routeAlike_any (g : Int) (A P : Option Addr) (c cp : Nat) (l : List OpP) (q : Nat → Option Addr × Nat) (hl : l.length ≤ 9223372036854775807) (par : List Int) (op op2 key : Int) (w : World) (B B2 : Nat) (hB : B ≤ w.heap.size) (hB2 : B2 ≤ w.heap.size) (h : IsOps w B A l q) (hpar : IsInts w B2 ⟨P, cp, par⟩) :
    Calls Try.prog 10 #[.agg #[.int .i64 g, .slice A l.length c], .slice P par.length cp, .int .i64 op, .int .i64 op2, .int .i64 key] w fun e w' => e = .returned (.bool true) ∧ Below w.heap.size w w' := by
  have HR := Lib.hid (right_any g A P c cp l q hl par op (w.alloc (.cells #[.int .i64 g, .slice A l.length c] 24)) B B2 (by simp; omega) (by simp; omega) (h.alloc hB _) (hpar.below ((Below.refl _ _).alloc hB2 _)))
  have HS : Hid (∀ Y, Below (w.heap.size + 1) (w.alloc (.cells #[.int .i64 g, .slice A l.length c] 24)) Y → Y.cell? ⟨w.heap.size, 0, none⟩ = some (.int .i64 g) ∧ Y.cell? ⟨w.heap.size, 1, none⟩ = some (.slice A l.length c) ∧ Below w.heap.size w Y ∧ IsOps Y w.heap.size A l q ∧ IsInts Y w.heap.size ⟨P, cp, par⟩ ∧ w.heap.size + 1 ≤ Y.heap.size) := fun Y hb =>
    ⟨(hb.cell (p := ⟨w.heap.size, 0, none⟩) (by show w.heap.size < _; omega)).trans (by go_simp), (hb.cell (p := ⟨w.heap.size, 1, none⟩) (by show w.heap.size < _; omega)).trans (by go_simp),
      through ((Below.refl _ _).alloc (Nat.le_refl _) _) (Nat.le_refl _) (hb.mono (by simp)), ((h.more hB).alloc (Nat.le_refl _) _).below (hb.mono (by omega)), ((hpar.more hB2).below ((Below.refl _ _).alloc (Nat.le_refl _) _)).below (hb.mono (by omega)), by have := hb.size; simpa using this⟩
  have HW0 := Lib.hid (show (w.alloc (.cells #[.int .i64 g, .slice A l.length c] 24)).heap.size = w.heap.size + 1 by simp)
  have HX : Hid (∀ (X Y : World), Below (w.heap.size + 1) (w.alloc (.cells #[.int .i64 g, .slice A l.length c] 24)) X → Below X.heap.size X Y → Below (w.heap.size + 1) (w.alloc (.cells #[.int .i64 g, .slice A l.length c] 24)) Y) := fun X Y h1 h2 => through h1 (by simp) h2
  clear h hpar
  cases er : rightB g l par op with
  | false =>
    rw [er] at HR
    clear er
    go_enter Try.func10, Try.ntmps10
    go_wp2_with fail
    refine HR.out.mono ?_
    rintro e w1 ⟨rfl, hb1⟩
    have HB1 := Lib.hid (by rw [HW0.out] at hb1; exact hb1 : Below (w.heap.size + 1) (w.alloc (.cells #[.int .i64 g, .slice A l.length c] 24)) w1)
    clear hb1
    go_wp2_with fail
    refine (works_any _).mono ?_
    rintro e w2 ⟨rfl, hb2⟩
    have HB2 := Lib.hid (HS.out _ (HX.out _ _ HB1.out hb2)).2.2.1
    clear hb2
    go_wp2_with fail
    go_returns
    exact ⟨rfl, HB2.out⟩
  | true =>
  obtain ⟨hj, hpl, hpb, op', eop, hop⟩ := right_of er
  subst eop
  rw [er] at HR
  have HJ := Lib.hid hj
  have HPL := Lib.hid hpl
  have l12 := hj.len.2
  have hp12 : par.length ≤ 12 := by omega
  have I20 : Hid (∀ i, i < l.length → (insOf l i).length ≤ 1000) := fun i hi => by
    have h1 : (insOf l i).length ≤ l.length := nodup_le (fun x hx => by obtain ⟨j, e, hj2, -⟩ := ins_in (hj.alone i hi) x hx; exact ⟨j, e, hj2⟩) (by
      rw [List.nodup_iff_pairwise_ne, List.pairwise_iff_getElem]
      intro a b ha hb hab e
      have := ins_nodup (hj.alone i hi) a b hab hb
      rw [List.getD_eq_getElem?_getD, List.getD_eq_getElem?_getD, List.getElem?_eq_getElem ha, List.getElem?_eq_getElem hb] at this
      exact this (by simpa using e))
    omega
  have HPB := Lib.hid hpb
  clear er hj hpl hpb
  go_enter Try.func10, Try.ntmps10
  go_wp2_with fail
  refine HR.out.mono ?_
  rintro e w1 ⟨rfl, hb1⟩
  have HB1 := Lib.hid (by rw [HW0.out] at hb1; exact hb1 : Below (w.heap.size + 1) (w.alloc (.cells #[.int .i64 g, .slice A l.length c] 24)) w1)
  clear hb1

  obtain ⟨s0, s1, -, hio, hpi, hsz1⟩ := HS.out _ HB1.out
  have HR2 := Lib.hid (right_any g A P c cp l q hl par op2 w1 _ _ (by omega) (by omega) hio hpi)
  clear hio hpi
  cases er2 : rightB g l par op2 with
  | false =>
    rw [er2] at HR2
    clear er2
    go_wp2_with fail
    refine HR2.out.mono ?_
    rintro e w2 ⟨rfl, hb2⟩
    have HB2 := Lib.hid (HX.out _ _ HB1.out hb2)
    clear hb2 s0 s1
    go_wp2_with fail
    refine (works_any _).mono ?_
    rintro e w3 ⟨rfl, hb3⟩
    have HB3 := Lib.hid (HS.out _ (HX.out _ _ HB2.out hb3)).2.2.1
    clear hb3
    go_wp2_with fail
    go_returns
    exact ⟨rfl, HB3.out⟩
  | true =>
  obtain ⟨-, -, -, of', eof, hof⟩ := right_of er2
  subst eof
  rw [er2] at HR2
  clear er2
  go_wp2_with fail
  refine HR2.out.mono ?_
  rintro e w2 ⟨rfl, hb2⟩
  have HB2 := Lib.hid (HX.out _ _ HB1.out hb2)
  clear hb2 s0 s1 HR2
  have HT : Hid (∀ (o : Int) Y, Below (w.heap.size + 1) (w.alloc (.cells #[.int .i64 g, .slice A l.length c] 24)) Y → Calls Try.prog 40 #[.agg #[.int .i64 g, .slice A l.length c], .slice P par.length cp, .int .i64 o, .int .i64 key] Y (RetPairs 54 Y (targF g l par o key))) := fun o Y hY => by
    obtain ⟨-, -, -, hio, hpi, hz⟩ := HS.out _ hY
    exact targets_any g A P c cp l q par HPL.out (by omega) o key Y _ _ (by omega) (by omega) hio hpi
  have HEL : Hid (∀ o, (targF g l par o key).length = (usersF l o).length) := fun o => by unfold targF; rw [tasks_len]
  have HUL : Hid (∀ o, (usersF l o).length ≤ 12) := fun o => by have := users_len l o; omega
  have HEG : Hid (∀ o k, k < (usersF l o).length → ∃ m : Nat, m < par.length ∧ (targF g l par o key).getD k (0, 0) = ((m : Int), Gr.ownerG (Gr.ofG key g) (par.getD m 0) g)) := fun o k hk => by
    obtain ⟨m, e, hm⟩ := users_in (par := par) HPL.out o _ (getD_mem hk)
    refine ⟨m, hm, ?_⟩
    unfold targF; rw [tasks_get hk, e, Int.toNat_natCast]
  have ELA := Lib.hid (HEL.out (op' : Int))
  have ELB := Lib.hid (HEL.out (of' : Int))
  have EGA := Lib.hid (HEG.out (op' : Int))
  have EGB := Lib.hid (HEG.out (of' : Int))
  have hua := HUL.out (op' : Int)
  have hub := HUL.out (of' : Int)
  obtain ⟨s0, s1, -, -, -, hsz2⟩ := HS.out _ HB2.out
  go_wp2_with fail
  refine (HT.out _ _ HB2.out).mono ?_
  rintro e w3 ⟨Aa, ca, rfl, oa, hb3⟩
  have HA3 := Lib.hid oa
  have HB3 := Lib.hid (HX.out _ _ HB2.out hb3)
  clear oa hb3 s0 s1
  rw [ELA.out]
  obtain ⟨s0, s1, -, -, -, hsz3⟩ := HS.out _ HB3.out
  go_wp2_with fail
  refine (HT.out _ _ HB3.out).mono ?_
  rintro e w4 ⟨Ab, cb, rfl, ob, hb4⟩
  have HO4 := Lib.hid ob
  have HA4 := Lib.hid (HA3.out.below hb4)
  have HB4 := Lib.hid (HX.out _ _ HB3.out hb4)
  clear ob hb4 s0 s1 HA3
  rw [ELB.out]
  obtain ⟨-, -, -, -, hpi, hsz4⟩ := HS.out _ HB4.out
  have HPI := Lib.hid hpi
  clear hpi
  generalize targF g l par (op' : Int) key = la at *
  generalize targF g l par (of' : Int) key = lb at *
  generalize (usersF l (op' : Int)).length = na at *
  generalize (usersF l (of' : Int)).length = nb at *
  generalize Gr.ofG key g = gg at *
  clear HT HEL HUL HEG
  go_wp2_with fail
  go_loopw [13] (fun i wr => ∃ k : Nat, k ≤ na ∧ i = .int .i64 k ∧ Below w4.heap.size w4 wr) (fun i _ => na - (intOf i).toNat)
  case atStart => exact ⟨0, by omega, rfl, Below.refl _ _⟩
  case round =>
    obtain ⟨i, hi, rfl, hbl⟩ := hrel
    obtain ⟨wo, rfl⟩ : ∃ wo : World, wo = wr := ⟨_, rfl⟩
    have HBo := Lib.hid hbl
    clear hbl
    by_cases hli : i < na
    · go_wp2_with fail
      go_loopw [14] (fun j wr => ∃ k : Nat, k ≤ nb ∧ j = .int .i64 k ∧ Below w4.heap.size w4 wr) (fun j _ => nb - (intOf j).toNat)
      case atStart => exact ⟨0, by omega, rfl, HBo.out⟩
      case round =>
        obtain ⟨k, hk, rfl, hbl⟩ := hrel
        have HB := Lib.hid hbl
        clear hbl
        by_cases hlk : k < nb
        · obtain ⟨m, hm, em⟩ := EGA.out i hli
          obtain ⟨m2, hm2, em2⟩ := EGB.out k hlk
          obtain ⟨ba, oa, x, rfl, -, HXV, -, a0, a1⟩ := pairs_at ((HA4.out.below HB.out).pairs) (show i < la.length by rw [ELA.out]; exact hli)
          obtain ⟨bb, ob, y, rfl, -, HYV, -, b0, b1⟩ := pairs_at ((HO4.out.below HB.out).pairs) (show k < lb.length by rw [ELB.out]; exact hlk)
          obtain ⟨bp, op3, p, rfl, -, HPV, -, p0⟩ := Sp.ints_at (HPI.out.below (HB.out.mono (by omega))) hm
          obtain ⟨p2, HPV2, -, p1⟩ := ints_get (HPI.out.below (HB.out.mono (by omega))) hm2
          rw [HXV.out, HPV.out] at em
          rw [HYV.out, HPV2.out] at em2
          subst em em2
          simp only at a0 a1 b0 b1
          by_cases hp : p = p2
          · subst hp
            have t1 : (p == p) = true := by simp
            generalize Gr.ownerG gg p g = t at *
            have t2 : (t != t) = false := by simp
            go_wp2_with fail
            go_quiet (fail)
            go_wp2_with fail
            go_roundw
            case rel => exact ⟨k + 1, by omega, by go_num, below_drewN HB.out _⟩
            case measure => simp [intOf]; omega
          · have t1 : (p == p2) = false := by simp [hp]
            clear hp
            generalize Gr.ownerG gg p g = t at *
            generalize Gr.ownerG gg p2 g = t2 at *
            go_wp2_with fail
            go_quiet (fail)
            go_wp2_with fail
            go_roundw
            case rel => exact ⟨k + 1, by omega, by go_num, below_drewN HB.out _⟩
            case measure => simp [intOf]; omega
        · obtain rfl : k = nb := by omega
          go_wp2_with fail
          go_roundw
          case rel => exact ⟨i + 1, by omega, by go_num, HB.out⟩
          case measure => simp [intOf]; omega
    · obtain rfl : i = na := by omega
      go_wp2_with fail
      refine (works_any _).mono ?_
      rintro e w9 ⟨rfl, hb9⟩
      have HB9 := Lib.hid (HS.out _ (HX.out _ _ (HX.out _ _ HB4.out HBo.out) hb9)).2.2.1
      clear hb9
      go_wp2_with fail
      go_returns
      exact ⟨by first | rfl | simp, HB9.out⟩
end Go.Proofs.Ytfpikpglollkoaa.Rt
