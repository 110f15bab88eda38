/- The law: where an operator has twice as many tasks a key's records go to one of the two that have its groups then. -/
import Derived.Test.YtfpikpglollkoaaRt4
import Derived.Test.YtfpikpglollkoaaRt5
import Derived.Test.YtfpikpglollkoaaGrR
import Derived.Test.YtfpikpglollkoaaRtP
namespace Go.Proofs.Ytfpikpglollkoaa.Rt
open Go.ChangeShapes Go.WideShapes Go.ChangeAt Go.RowKit M Sp

set_option maxRecDepth 100000 in
set_option maxHeartbeats 8000000 in
theorem routeHalves_any (g : Int) (A P : Option Addr) (c cp : Nat) (l : List OpP) (q : Nat → Option Addr × Nat) (hl : l.length ≤ 9223372036854775807) (par : List Int) (op key : Int) (w : World) (B B2 : Nat) (hB : B ≤ w.heap.size) (hB2 : B2 ≤ w.heap.size) (h : IsOps w B A l q) (hpar : IsInts w B2 ⟨P, cp, par⟩) :
    Calls Try.prog 11 #[.agg #[.int .i64 g, .slice A l.length c], .slice P par.length cp, .int .i64 op, .int .i64 key] w fun e w' => e = .returned (.bool true) ∧ Below w.heap.size w w' := by
  have HR := Lib.hid (right_any g A P c cp l q hl par op (w.alloc (.cells #[.int .i64 g, .slice A l.length c] 24)) B B2 (by simp; omega) (by simp; omega) (h.alloc hB _) (hpar.below ((Below.refl _ _).alloc hB2 _)))
  have HS : Hid (∀ Y, Below (w.heap.size + 1) (w.alloc (.cells #[.int .i64 g, .slice A l.length c] 24)) Y → Y.cell? ⟨w.heap.size, 0, none⟩ = some (.int .i64 g) ∧ Y.cell? ⟨w.heap.size, 1, none⟩ = some (.slice A l.length c) ∧ Below w.heap.size w Y ∧ IsOps Y w.heap.size A l q ∧ IsInts Y w.heap.size ⟨P, cp, par⟩ ∧ w.heap.size + 1 ≤ Y.heap.size) := fun Y hb =>
    ⟨(hb.cell (p := ⟨w.heap.size, 0, none⟩) (by show w.heap.size < _; omega)).trans (by go_simp), (hb.cell (p := ⟨w.heap.size, 1, none⟩) (by show w.heap.size < _; omega)).trans (by go_simp),
      through ((Below.refl _ _).alloc (Nat.le_refl _) _) (Nat.le_refl _) (hb.mono (by simp)), ((h.more hB).alloc (Nat.le_refl _) _).below (hb.mono (by omega)), ((hpar.more hB2).below ((Below.refl _ _).alloc (Nat.le_refl _) _)).below (hb.mono (by omega)), by have := hb.size; simpa using this⟩
  have HW0 := Lib.hid (show (w.alloc (.cells #[.int .i64 g, .slice A l.length c] 24)).heap.size = w.heap.size + 1 by simp)
  have HX : Hid (∀ (X Y : World), Below (w.heap.size + 1) (w.alloc (.cells #[.int .i64 g, .slice A l.length c] 24)) X → Below X.heap.size X Y → Below (w.heap.size + 1) (w.alloc (.cells #[.int .i64 g, .slice A l.length c] 24)) Y) := fun X Y h1 h2 => through h1 (by simp) h2
  clear h hpar
  cases er : rightB g l par op with
  | false =>
    rw [er] at HR
    clear er
    go_enter Try.func11, Try.ntmps11
    go_wp2_with fail
    refine HR.out.mono ?_
    rintro e w1 ⟨rfl, hb1⟩
    have HB1 := Lib.hid (by rw [HW0.out] at hb1; exact hb1 : Below (w.heap.size + 1) (w.alloc (.cells #[.int .i64 g, .slice A l.length c] 24)) w1)
    clear hb1
    go_wp2_with fail
    refine (works_any _).mono ?_
    rintro e w2 ⟨rfl, hb2⟩
    have HB2 := Lib.hid (HS.out _ (HX.out _ _ HB1.out hb2)).2.2.1
    clear hb2
    go_wp2_with fail
    go_returns
    exact ⟨rfl, HB2.out⟩
  | true =>
  obtain ⟨hj, hpl, hpb, op', eop, hop⟩ := right_of er
  subst eop
  rw [er] at HR
  have HJ := Lib.hid hj
  have HPL := Lib.hid hpl
  have l12 := hj.len.2
  have hp12 : par.length ≤ 12 := by omega
  have I20 : Hid (∀ i, i < l.length → (insOf l i).length ≤ 1000) := fun i hi => by
    have h1 : (insOf l i).length ≤ l.length := nodup_le (fun x hx => by obtain ⟨j, e, hj2, -⟩ := ins_in (hj.alone i hi) x hx; exact ⟨j, e, hj2⟩) (by
      rw [List.nodup_iff_pairwise_ne, List.pairwise_iff_getElem]
      intro a b ha hb hab e
      have := ins_nodup (hj.alone i hi) a b hab hb
      rw [List.getD_eq_getElem?_getD, List.getD_eq_getElem?_getD, List.getElem?_eq_getElem ha, List.getElem?_eq_getElem hb] at this
      exact this (by simpa using e))
    omega
  have HPB := Lib.hid hpb
  clear er hj hpl hpb
  go_enter Try.func11, Try.ntmps11
  go_wp2_with fail
  refine HR.out.mono ?_
  rintro e w1 ⟨rfl, hb1⟩
  have HB1 := Lib.hid (by rw [HW0.out] at hb1; exact hb1 : Below (w.heap.size + 1) (w.alloc (.cells #[.int .i64 g, .slice A l.length c] 24)) w1)
  clear hb1
  have hj := HJ.out
  have HPB2 : Hid (∀ k, k < par.length → ∀ p, par.getD k 0 = p → 1 ≤ p ∧ p ≤ 8 ∧ p ≤ g) := fun k hk p e => by rw [← e]; exact HPB.out k hk
  have HGB := Lib.hid hj.groups
  clear hj
  obtain ⟨s0, s1, -, -, hpi, hsz1⟩ := HS.out _ HB1.out
  have HPI := Lib.hid hpi
  clear hpi
  go_wp2_with fail
  clear s0 s1
  go_loopw [9, 10] (fun v i wr => ∃ k : Nat, k ≤ par.length ∧ i = .int .i64 k ∧ OwnI wr w1.heap.size v (twiceL g (par.take k)) ∧ Below w1.heap.size w1 wr) (fun _ i _ => par.length - (intOf i).toNat)
  case atStart => exact ⟨0, by omega, rfl, OwnI.nil _ _, Below.refl _ _⟩
  case round =>
    obtain ⟨k, hk, rfl, hown, hbl⟩ := hrel
    have HB := Lib.hid hbl
    have HOW := Lib.hid hown
    have HBW := Lib.hid (HX.out _ _ HB1.out hbl)
    clear hown hbl
    obtain ⟨s0, s1, -, -, -, hsz0⟩ := HS.out _ HBW.out
    by_cases hlt : k < par.length
    · obtain ⟨b, o, p, rfl, -, HV, -, c0⟩ := Sp.ints_at (HPI.out.below (HB.out.mono (by omega))) hlt
      obtain ⟨p1, p2, p3⟩ := HPB2.out k hlt p HV.out
      have ET := Lib.hid (twice_snoc (g := g) hlt HV.out)
      have HLL := Lib.hid (show (twiceL g (par.take k)).length < 1000000000 by rw [twice_len, List.length_take]; omega)
      have HZ := Lib.hid HB.out.size
      by_cases h1 : 2 * p ≤ g
      case' pos => by_cases h2 : 2 * p ≤ 8
      · have t1 : decide (2 * p ≤ g) = true := decide_eq_true h1
        have t2 : decide (2 * p ≤ 8) = true := decide_eq_true h2
        have HTW : Hid (twiceN g p = 2 * p) := by show _ = _; unfold twiceN; rw [if_pos ⟨h1, h2⟩]
        clear h1 h2
        have HU64 := Lib.hid (show In64 (2 * p) by unfold In64; omega)
        go_wp2_with (at_builtin; refine app_new (u := 2 * p) rfl _ _ rfl w1.heap.size HOW.out rfl HU64.out rfl HLL.out HZ.out ?_)
        intro v' w2 hown2 hgr
        have HO2 := Lib.hid hown2
        have HB2 := Lib.hid (HB.out.trans hgr)
        clear hown2 hgr
        go_wp2
        go_roundw
        case rel => exact ⟨k + 1, by omega, by go_num, by rw [ET.out, HTW.out]; exact HO2.out, HB2.out⟩
        case measure => simp [intOf]; omega
      · have t1 : decide (2 * p ≤ g) = true := decide_eq_true h1
        have t2 : decide (2 * p ≤ 8) = false := decide_eq_false h2
        have HTW : Hid (twiceN g p = p) := by show _ = _; unfold twiceN; rw [if_neg (fun h => h2 h.2)]
        clear h1 h2
        have HU64 := Lib.hid (show In64 (p) by unfold In64; omega)
        go_wp2_with (at_builtin; refine app_new (u := p) rfl _ _ rfl w1.heap.size HOW.out rfl HU64.out rfl HLL.out HZ.out ?_)
        intro v' w2 hown2 hgr
        have HO2 := Lib.hid hown2
        have HB2 := Lib.hid (HB.out.trans hgr)
        clear hown2 hgr
        go_wp2
        go_roundw
        case rel => exact ⟨k + 1, by omega, by go_num, by rw [ET.out, HTW.out]; exact HO2.out, HB2.out⟩
        case measure => simp [intOf]; omega
      · have t1 : decide (2 * p ≤ g) = false := decide_eq_false h1
        have HTW : Hid (twiceN g p = p) := by show _ = _; unfold twiceN; rw [if_neg (fun h => h1 h.1)]
        clear h1
        have HU64 := Lib.hid (show In64 (p) by unfold In64; omega)
        go_wp2_with (at_builtin; refine app_new (u := p) rfl _ _ rfl w1.heap.size HOW.out rfl HU64.out rfl HLL.out HZ.out ?_)
        intro v' w2 hown2 hgr
        have HO2 := Lib.hid hown2
        have HB2 := Lib.hid (HB.out.trans hgr)
        clear hown2 hgr
        go_wp2
        go_roundw
        case rel => exact ⟨k + 1, by omega, by go_num, by rw [ET.out, HTW.out]; exact HO2.out, HB2.out⟩
        case measure => simp [intOf]; omega
    · obtain rfl : k = par.length := by omega
      obtain ⟨w2, hw2⟩ : ∃ x, wr = x := ⟨_, rfl⟩
      rw [hw2] at HB HOW HBW s0 s1 hsz0 ⊢
      clear hw2
      have how := HOW.out
      rw [List.take_length] at how
      obtain ⟨Am, cm, ev⟩ := how.form
      rw [twice_len] at ev
      rw [ev] at how ⊢
      have HM2 := Lib.hid how
      clear how HOW ev
      have HTT : Hid (∀ (ls : List Int) (R : Option Addr) (cr : Nat) Y, ls.length = par.length → Below w2.heap.size w2 Y → IsInts Y Y.heap.size ⟨R, cr, ls⟩ → Calls Try.prog 40 #[.agg #[.int .i64 g, .slice A l.length c], .slice R par.length cr, .int .i64 (op' : Int), .int .i64 key] Y (RetPairs 54 Y (targF g l ls op' key))) := fun ls R cr Y hls hY hI => by
        obtain ⟨-, -, -, hio, hpi, hz⟩ := HS.out _ (HX.out _ _ HBW.out hY)
        rw [← hls]
        exact targets_any g A R c cr l q ls (hls.trans HPL.out) (by omega) op' key Y _ _ (by omega) (Nat.le_refl _) hio hI
      have HEL : Hid (∀ ls, (targF g l ls op' key).length = (usersF l (op' : Int)).length) := fun ls => by unfold targF; rw [tasks_len]
      have hul : (usersF l (op' : Int)).length ≤ 12 := by have := users_len l (op' : Int); omega
      have HEG : Hid (∀ k, k < (usersF l (op' : Int)).length → ∃ m : Nat, m < par.length ∧ ∀ ls, (targF g l ls op' key).getD k (0, 0) = ((m : Int), Gr.ownerG (Gr.ofG key g) (ls.getD m 0) g)) := fun k hk => by
        obtain ⟨m, e, hm⟩ := users_in (par := par) HPL.out (op' : Int) _ (getD_mem hk)
        refine ⟨m, hm, fun ls => ?_⟩
        unfold targF; rw [tasks_get hk, e, Int.toNat_natCast]
      have HTO : Hid (∀ p, (1 ≤ p ∧ p ≤ 8 ∧ p ≤ g) → (twiceN g p = p ∧ Gr.ownerG (Gr.ofG key g) (twiceN g p) g = Gr.ownerG (Gr.ofG key g) p g) ∨ (twiceN g p ≠ p ∧ Gr.ownerG (Gr.ofG key g) (twiceN g p) g / 2 = Gr.ownerG (Gr.ofG key g) p g)) := fun p hp => twice_owner HGB.out hp
      have HTG : Hid (∀ m, m < par.length → ∀ p, par.getD m 0 = p → (twiceL g par).getD m 0 = twiceN g p) := fun m hm p e => by rw [twice_get hm, e]
      have HTL : Hid ((twiceL g par).length = par.length) := twice_len g par
      have HPW := Lib.hid (HPI.out.below (HB.out.mono (by omega)))
      go_wp2_with fail
      refine (HTT.out par P cp w2 rfl (Below.refl _ _) (HPW.out.more (by omega))).mono ?_
      rintro e w3 ⟨Aa, ca, rfl, oa, hb3⟩
      have HA3 := Lib.hid oa
      have HB3 := Lib.hid hb3
      have HBW3 := Lib.hid (HX.out _ _ HBW.out hb3)
      clear oa hb3 s0 s1
      rw [HEL.out]
      obtain ⟨s0, s1, -, -, -, hsz3⟩ := HS.out _ HBW3.out
      have HM3 := Lib.hid (HM2.out.below HB3.out)
      go_wp2_with fail
      refine (HTT.out (twiceL g par) Am cm w3 HTL.out HB3.out HM3.out.ints).mono ?_
      rintro e w4 ⟨Ab, cb, rfl, ob, hb4⟩
      have HO4 := Lib.hid ob
      have HA4 := Lib.hid (HA3.out.below hb4)
      have HM4 := Lib.hid (HM3.out.below hb4)
      have HP4 := Lib.hid (HPW.out.below ((HB3.out.mono (by omega)).trans (hb4.mono (by have := HB3.out.size; omega))))
      have HBW4 := Lib.hid (HX.out _ _ HBW3.out hb4)
      have hs4 : w.heap.size ≤ w4.heap.size := (HS.out _ HBW4.out).2.2.1.size
      clear ob hb4 s0 s1
      rw [HEL.out]
      have ELA := Lib.hid (HEL.out par)
      have ELB := Lib.hid (HEL.out (twiceL g par))
      have EGA : Hid (∀ k, k < (usersF l (op' : Int)).length → ∃ m : Nat, m < par.length ∧ (targF g l par op' key).getD k (0, 0) = ((m : Int), Gr.ownerG (Gr.ofG key g) (par.getD m 0) g) ∧ (targF g l (twiceL g par) op' key).getD k (0, 0) = ((m : Int), Gr.ownerG (Gr.ofG key g) ((twiceL g par).getD m 0) g)) := fun k hk => by
        obtain ⟨m, hm, he⟩ := HEG.out k hk
        exact ⟨m, hm, he _, he _⟩
      clear HTT HEG HEL
      generalize targF g l par (op' : Int) key = la at *
      generalize targF g l (twiceL g par) (op' : Int) key = lb at *
      generalize (usersF l (op' : Int)).length = na at *
      have tl : ((na : Int) != (na : Int)) = false := by simp
      go_wp2_with fail
      clear tl
      go_loopw [14] (fun i wr => ∃ k : Nat, k ≤ na ∧ i = .int .i64 k ∧ Below w4.heap.size w4 wr) (fun i _ => na - (intOf i).toNat)
      case atStart => exact ⟨0, by omega, rfl, Below.refl _ _⟩
      case round =>
        obtain ⟨k, hk, rfl, hbl⟩ := hrel
        have HB := Lib.hid hbl
        clear hbl
        by_cases hlk : k < na
        · obtain ⟨m, hm, em, em2⟩ := EGA.out k hlk
          obtain ⟨ba, oa, x, rfl, -, HXV, -, a0, a1⟩ := pairs_at ((HA4.out.below HB.out).pairs) (show k < la.length by rw [ELA.out]; exact hlk)
          obtain ⟨bb, ob, y, rfl, -, HYV, -, b0, b1⟩ := pairs_at ((HO4.out.below HB.out).pairs) (show k < lb.length by rw [ELB.out]; exact hlk)
          obtain ⟨bp, op3, p, rfl, -, HPV, -, p0⟩ := Sp.ints_at (HP4.out.below (HB.out.mono (by omega))) hm
          obtain ⟨bm, om, pn, rfl, -, HMV, -, m0⟩ := Sp.ints_at ((HM4.out.below HB.out).ints) (show m < (twiceL g par).length by rw [HTL.out]; exact hm)
          have hpp := HPB2.out m hm p HPV.out
          have htn := HTG.out m hm p HPV.out
          have hto := HTO.out p hpp
          rw [HMV.out] at htn
          rw [← htn] at hto
          rw [HXV.out, HPV.out] at em
          rw [HYV.out, HMV.out] at em2
          subst em em2
          simp only at a0 a1 b0 b1
          have hta := (Gr.ownerG_bd (Gr.ofG key g) p g)
          have htb := (Gr.ownerG_bd (Gr.ofG key g) pn g)
          generalize Gr.ownerG (Gr.ofG key g) p g = ta at *
          generalize Gr.ownerG (Gr.ofG key g) pn g = tb at *
          obtain ⟨hta0, hta1⟩ := hta
          obtain ⟨htb0, htb1⟩ := htb
          have t1 : ((m : Int) != (m : Int)) = false := by simp
          have t2 : decide ((m : Int) < 0) = false := decide_eq_false (by omega)
          have t3 : decide ((par.length : Int) ≤ (m : Int)) = false := decide_eq_false (by omega)
          have t3n : decide (par.length ≤ m) = false := decide_eq_false (by omega)
          have hmm : m < par.length := hm
          clear htn hpp
          rcases hto with ⟨e1, e2⟩ | ⟨e1, e2⟩
          · subst e1 e2
            have t4 : (pn != pn) = false := by simp
            have t5 : (tb != tb) = false := by simp
            go_wp2_with fail
            go_quiet (fail)
            go_wp2_with fail
            go_quiet (fail)
            go_wp2_with fail
            go_roundw
            case rel => exact ⟨k + 1, by omega, by go_num, below_drewN HB.out _⟩
            case measure => simp [intOf]; omega
          · have t4 : (pn != p) = true := by simp [e1]
            have t5 : (tb / 2 != ta) = false := by simp [e2]
            clear e1 e2
            go_wp2_with fail
            go_quiet (fail)
            go_wp2_with fail
            go_quiet (fail)
            go_wp2_with fail
            go_roundw
            case rel => exact ⟨k + 1, by omega, by go_num, below_drewN HB.out _⟩
            case measure => simp [intOf]; omega
        · obtain rfl : k = na := by omega
          go_wp2_with fail
          refine (works_any _).mono ?_
          rintro e w9 ⟨rfl, hb9⟩
          have HB9 := Lib.hid (HS.out _ (HX.out _ _ (HX.out _ _ HBW4.out HB.out) hb9)).2.2.1
          clear hb9
          go_wp2_with fail
          go_returns
          exact ⟨by first | rfl | simp, HB9.out⟩
end Go.Proofs.Ytfpikpglollkoaa.Rt
