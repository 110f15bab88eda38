/- Right numbers of tasks; a job that may be, with them, and an operator of it. -/
import Derived.Test.YtfpikpglollkoaaSpW
namespace Go.Proofs.Ytfpikpglollkoaa.Rt
open Go.ChangeShapes Go.WideShapes Go.ChangeAt Go.RowKit M Sp

def parB (g : Int) (n : Nat) (par : List Int) : Bool := decide (par.length = n) && allB (fun i => decide (1 ≤ par.getD i 0) && decide (par.getD i 0 ≤ 8) && decide (par.getD i 0 ≤ g)) par.length
theorem parB_no {g : Int} {par : List Int} {k : Nat} (hk : k < par.length) {p : Int} (hp : par.getD k 0 = p) (h : p < 1 ∨ 8 < p ∨ g < p) (n : Nat) : parB g n par = false := by
  unfold parB
  rw [allB_no hk (by simp only [hp]; rcases h with h | h | h <;> simp <;> omega)]; simp
theorem parB_yes {g : Int} {par : List Int} {n : Nat} (hn : par.length = n) (h : ∀ j, j < par.length → 1 ≤ par.getD j 0 ∧ par.getD j 0 ≤ 8 ∧ par.getD j 0 ≤ g) : parB g n par = true := by
  unfold parB
  rw [Bool.and_eq_true, allB_iff]
  exact ⟨by simpa using hn, fun j hj => by obtain ⟨a, b, c⟩ := h j hj; rw [decide_eq_true a, decide_eq_true b, decide_eq_true c]; rfl⟩
theorem parB_len {g : Int} {par : List Int} {n : Nat} (hn : par.length ≠ n) : parB g n par = false := by unfold parB; simp [hn]
theorem parB_of {g : Int} {par : List Int} {n : Nat} (h : parB g n par = true) : par.length = n ∧ ∀ j, j < par.length → 1 ≤ par.getD j 0 ∧ par.getD j 0 ≤ 8 ∧ par.getD j 0 ≤ g := by
  unfold parB at h
  rw [Bool.and_eq_true, allB_iff] at h
  refine ⟨by simpa using h.1, fun j hj => ?_⟩
  have := h.2 j hj
  simp only [Bool.and_eq_true, decide_eq_true_eq] at this
  exact ⟨this.1.1, this.1.2, this.2⟩

set_option maxHeartbeats 2000000 in
theorem refRight_any (g : Int) (A P : Option Addr) (n c cp : Nat) (par : List Int) (w : World) (B : Nat) (hB : B ≤ w.heap.size) (hpar : IsInts w B ⟨P, cp, par⟩) :
    Calls Try.prog 66 #[.agg #[.int .i64 g, .slice A n c], .slice P par.length cp] w fun e w' => e = .returned (.bool (parB g n par)) ∧ Below w.heap.size w w' := by
  have hlen : par.length ≤ 9223372036854775807 := by have := hpar.2.1; have := hpar.2.2.1; unfold maxLen at this; simp only at *; omega
  have HP := Lib.hid hpar
  clear hpar
  by_cases hn : par.length = n
  · subst hn
    have tn : ((par.length : Int) != (par.length : Int)) = false := by simp
    go_enter Try.func66, Try.ntmps66
    go_wp2_with fail
    go_loopw [5] (fun q wr => ∃ k : Nat, k ≤ par.length ∧ q = .int .i64 k ∧ Below (w.heap.size + 1) (w.alloc (.cells #[.int .i64 g, .slice A par.length c] 24)) wr ∧ ∀ j, j < k → 1 ≤ par.getD j 0 ∧ par.getD j 0 ≤ 8 ∧ par.getD j 0 ≤ g) (fun q _ => par.length - (intOf q).toNat)
    case atStart => exact ⟨0, by omega, rfl, Below.refl _ _, fun j hj => absurd hj (by omega)⟩
    case round =>
      obtain ⟨k, hk, rfl, hbl, hno⟩ := hrel
      have HB := Lib.hid hbl
      have HN := Lib.hid hno
      have HBB := Lib.hid (through ((Below.refl _ _).alloc (Nat.le_refl _) _) (Nat.le_refl w.heap.size) (hbl.mono (by simp)))
      have s0 : wr.cell? ⟨w.heap.size, 0, none⟩ = some (.int .i64 g) := (hbl.cell (p := ⟨w.heap.size, 0, none⟩) (by show w.heap.size < _; omega)).trans (by go_simp)
      clear hbl hno
      by_cases hlt : k < par.length
      · obtain ⟨b, o, p, rfl, hb, HV, -, c0⟩ := Sp.ints_at (HP.out.below (HBB.out.mono hB)) hlt
        have HNO := Lib.hid (parB_no (g := g) hlt HV.out)
        by_cases h1 : p < 1
        · have t1 : decide (p < 1) = true := decide_eq_true h1
          have E := Lib.hid (HNO.out (.inl h1) par.length)
          go_wp2_with fail
          go_quiet (fail)
          go_wp2_with fail
          go_returns
          exact ⟨ret_bool E.out.symm, below_drewN HBB.out _⟩
        · have t1 : decide (p < 1) = false := decide_eq_false h1
          by_cases h2 : 8 < p
          · have t2 : decide (8 < p) = true := decide_eq_true h2
            have E := Lib.hid (HNO.out (.inr (.inl h2)) par.length)
            go_wp2_with fail
            go_quiet (fail)
            go_wp2_with fail
            go_returns
            exact ⟨ret_bool E.out.symm, below_drewN HBB.out _⟩
          · have t2 : decide (8 < p) = false := decide_eq_false h2
            by_cases h3 : g < p
            · have t3 : decide (g < p) = true := decide_eq_true h3
              have E := Lib.hid (HNO.out (.inr (.inr h3)) par.length)
              go_wp2_with fail
              go_quiet (fail)
              go_wp2_with fail
              go_returns
              exact ⟨ret_bool E.out.symm, below_drewN HBB.out _⟩
            · have t3 : decide (g < p) = false := decide_eq_false h3
              have H3 := Lib.hid (show 1 ≤ p ∧ p ≤ 8 ∧ p ≤ g by omega)
              go_wp2_with fail
              go_quiet (fail)
              go_wp2_with fail
              go_roundw
              case rel => exact ⟨k + 1, by omega, by go_num, below_drewN HB.out _, fun j hj => by
                rcases (show j < k ∨ j = k by omega) with h | rfl
                · exact HN.out j h
                · rw [HV.out]; exact H3.out⟩
              case measure => simp [intOf]; omega
      · obtain rfl : k = par.length := by omega
        have E := Lib.hid (parB_yes (g := g) rfl HN.out)
        go_wp2_with fail
        go_returns
        exact ⟨ret_bool E.out.symm, HBB.out⟩
  · have E := Lib.hid (parB_len (g := g) hn)
    have tn : ((par.length : Int) != (n : Int)) = true := by simp; omega
    go_enter Try.func66, Try.ntmps66
    go_wp2_with fail
    go_returns
    exact ⟨ret_bool E.out.symm, by go_grown⟩

def rightB (g : Int) (l : List OpP) (par : List Int) (op : Int) : Bool := decide (chkE g l = 0) && parB g l.length par && decide (0 ≤ op) && decide (op < l.length)
theorem right_of {g : Int} {l : List OpP} {par : List Int} {op : Int} (h : rightB g l par op = true) : OkJ g l ∧ par.length = l.length ∧ (∀ j, j < par.length → 1 ≤ par.getD j 0 ∧ par.getD j 0 ≤ 8 ∧ par.getD j 0 ≤ g) ∧ ∃ i : Nat, op = i ∧ i < l.length := by
  unfold rightB at h
  simp only [Bool.and_eq_true, decide_eq_true_eq] at h
  obtain ⟨⟨⟨h1, h2⟩, h3⟩, h4⟩ := h
  obtain ⟨p1, p2⟩ := parB_of h2
  exact ⟨ok_of h1, p1, p2, op.toNat, by omega, by omega⟩

theorem check_long (g : Int) (A : Option Addr) (c : Nat) (l : List OpP) (h : 12 < l.length) (hl : l.length ≤ 9223372036854775807) (w : World) :
    Calls Try.prog 17 #[.agg #[.int .i64 g, .slice A l.length c]] w fun e w' => e = .returned (.int .i64 (chkE g l)) ∧ Below w.heap.size w w' := by
  have e2 : btw (l.length : Int) 1 12 = false := btw_no (by omega)
  cases e1 : btw g 1 64 with
  | false =>
    have E := Lib.hid (chk_g (l := l) e1)
    go_enter Try.func17, Try.ntmps17
    go_wp2_with (go_at_call 49; refine (between_any _ _ _ _).mono ?_; rintro e w' ⟨rfl, rfl⟩)
    go_returns
    exact ⟨ret_int E.out.symm, by go_grown⟩
  | true =>
    have E := Lib.hid (chk_n e1 e2)
    go_enter Try.func17, Try.ntmps17
    go_wp2_with (go_at_call 49; refine (between_any _ _ _ _).mono ?_; rintro e w' ⟨rfl, rfl⟩)
    go_returns
    exact ⟨ret_int E.out.symm, by go_grown⟩
theorem checkI_any (g : Int) (A : Option Addr) (c : Nat) (l : List OpP) (p : Nat → Option Addr × Nat) (hl : l.length ≤ 9223372036854775807) (w : World) (B : Nat) (hB : B ≤ w.heap.size) (h : IsOps w B A l p) :
    Calls Try.prog 17 #[.agg #[.int .i64 g, .slice A l.length c]] w fun e w' => e = .returned (.int .i64 (chkE g l)) ∧ Below w.heap.size w w' := by
  by_cases h12 : l.length ≤ 12
  · exact check_any g A c l p (by omega) w B hB h
  · exact check_long g A c l (by omega) hl w

set_option maxHeartbeats 2000000 in
theorem right_any (g : Int) (A P : Option Addr) (c cp : Nat) (l : List OpP) (q : Nat → Option Addr × Nat) (hl : l.length ≤ 9223372036854775807) (par : List Int) (op : Int) (w : World) (B B2 : Nat) (hB : B ≤ w.heap.size) (hB2 : B2 ≤ w.heap.size) (h : IsOps w B A l q) (hpar : IsInts w B2 ⟨P, cp, par⟩) :
    Calls Try.prog 37 #[.agg #[.int .i64 g, .slice A l.length c], .slice P par.length cp, .int .i64 op] w fun e w' => e = .returned (.bool (rightB g l par op)) ∧ Below w.heap.size w w' := by
  obtain ⟨X, hX⟩ : ∃ X, (w.alloc (.cells #[.int .i64 g, .slice A l.length c] 24)) = X := ⟨_, rfl⟩
  have kB : Below w.heap.size w X := hX ▸ ((Below.refl _ _).alloc (Nat.le_refl _) _)
  have kX : X.heap.size = w.heap.size + 1 := hX ▸ (by simp)
  have kK : Blk X w.heap.size 24 #[.int .i64 g, .slice A l.length c] := hX ▸ Blk.new _ _ _
  have ER : Hid (rightB g l par op = (decide (chkE g l = 0) && parB g l.length par && decide (0 ≤ op) && decide (op < l.length))) := rfl
  have HCK := Lib.hid (checkI_any g A c l q hl X B (by omega) (h.below (kB.mono hB)))
  have HF : Hid (∀ Y, Below X.heap.size X Y → Y.cell? ⟨w.heap.size, 0, none⟩ = some (.int .i64 g) ∧ Y.cell? ⟨w.heap.size, 1, none⟩ = some (.slice A l.length c) ∧ Below w.heap.size w Y ∧ IsInts Y B2 ⟨P, cp, par⟩ ∧ B2 ≤ Y.heap.size) := fun Y hY => by
    obtain ⟨t0, t1⟩ := spec_blk (kK.below hY (by omega))
    exact ⟨t0, t1, through kB (Nat.le_refl _) hY, (hpar.below (kB.mono hB2)).below (hY.mono (by omega)), by have := hY.size; omega⟩
  have HX := Lib.hid hX
  obtain ⟨k0, k1⟩ := spec_blk kK
  clear hX kB kX kK h hpar
  cases e1 : decide (chkE g l = 0) with
  | false =>
    have hne : chkE g l ≠ 0 := by simpa using e1
    have t1 : (chkE g l == 0) = false := by simpa using hne
    have E := Lib.hid (show rightB g l par op = false by rw [ER.out, e1]; rfl)
    clear e1 hne ER
    generalize chkE g l = z at *
    go_enter Try.func37, Try.ntmps37
    go_upto_region 1 with (fail)
    rw [HX.out]
    go_wp2_with fail
    refine HCK.out.mono ?_
    rintro e w1 ⟨rfl, hb1⟩
    obtain ⟨-, -, hE, -⟩ := HF.out _ hb1
    have HEE := Lib.hid hE
    clear hb1 hE k0 k1
    go_wp2_with fail
    go_returns
    exact ⟨ret_bool E.out.symm, HEE.out⟩
  | true =>
    have ez : chkE g l = 0 := by simpa using e1
    rw [ez] at HCK
    rw [e1, Bool.true_and] at ER
    clear e1 ez
    cases e2 : parB g l.length par with
    | false =>
      have E := Lib.hid (show rightB g l par op = false by rw [ER.out, e2]; rfl)
      clear ER
      go_enter Try.func37, Try.ntmps37
      go_upto_region 1 with (fail)
      rw [HX.out]
      go_wp2_with fail
      refine HCK.out.mono ?_
      rintro e w1 ⟨rfl, hb1⟩
      obtain ⟨t0, t1, -, hi, hz⟩ := HF.out _ hb1
      have HR := Lib.hid (refRight_any g A P l.length c cp par w1 B2 hz hi)
      rw [e2] at HR
      have HB1 := Lib.hid hb1
      clear hb1 hi k0 k1 e2
      go_wp2_with fail
      refine HR.out.mono ?_
      rintro e w2 ⟨rfl, hb2⟩
      have HEE := Lib.hid (HF.out _ (through HB1.out (Nat.le_refl _) hb2)).2.2.1
      clear hb2 t0 t1
      go_wp2_with fail
      go_returns
      exact ⟨ret_bool E.out.symm, HEE.out⟩
    | true =>
      rw [e2, Bool.true_and] at ER
      cases e3 : decide (0 ≤ op) <;> cases e4 : decide (op < l.length)
      all_goals
        have E : Hid (rightB g l par op = (decide (0 ≤ op) && decide (op < l.length))) := ER
        rw [e3, e4] at E
        clear ER
        go_enter Try.func37, Try.ntmps37
        go_upto_region 1 with (fail)
        rw [HX.out]
        go_wp2_with fail
        refine HCK.out.mono ?_
        rintro e w1 ⟨rfl, hb1⟩
        obtain ⟨t0, t1, -, hi, hz⟩ := HF.out _ hb1
        have HR := Lib.hid (refRight_any g A P l.length c cp par w1 B2 hz hi)
        rw [e2] at HR
        have HB1 := Lib.hid hb1
        clear hb1 hi k0 k1 e2
        go_wp2_with fail
        refine HR.out.mono ?_
        rintro e w2 ⟨rfl, hb2⟩
        obtain ⟨s0, s1, hE, -⟩ := HF.out _ (through HB1.out (Nat.le_refl _) hb2)
        have HEE := Lib.hid hE
        clear hb2 t0 t1 hE
        go_wp2_with fail
        go_returns
        exact ⟨ret_bool (by rw [E.out]; first | rfl | simp), HEE.out⟩
end Go.Proofs.Ytfpikpglollkoaa.Rt
