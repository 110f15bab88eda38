/- How many tasks are needed, as the document reckons it: what one operator needs. -/
import Derived.Test.YtcechimilefihaaZm
import Derived.Test.YtcechimilefihaaZe
import Derived.Deep.RegionHeld3

namespace Go.Proofs.Ytcechimilefihaa.So
open Go.ChangeShapes Go.WideShapes Go.ChangeAt Go.RowKit M Sp Fr

theorem Bs.g5 {w wr : World} {B : Nat} {l : List (Nat × TypeId × Array Value)} {a b c d e x : Nat × TypeId × Array Value} (h : Bs w B (a :: b :: c :: d :: e :: x :: l) wr) : Blk wr x.1 x.2.1 x.2.2 := h.2 _ (by simp)
theorem Bs.g6 {w wr : World} {B : Nat} {l : List (Nat × TypeId × Array Value)} {a b c d e f x : Nat × TypeId × Array Value} (h : Bs w B (a :: b :: c :: d :: e :: f :: x :: l) wr) : Blk wr x.1 x.2.1 x.2.2 := h.2 _ (by simp)
theorem q4_below {w w1 : World} {x y : Nat} {a b c d : Value} (hx : x < w.heap.size) (hy : y < w.heap.size) (h : w.cell? ⟨x, 0, none⟩ = some a ∧ w.cell? ⟨x, 1, none⟩ = some b ∧ w.cell? ⟨y, 0, none⟩ = some c ∧ w.cell? ⟨y, 1, none⟩ = some d) (hb : Below w.drew.heap.size w.drew w1) :
    w1.cell? ⟨x, 0, none⟩ = some a ∧ w1.cell? ⟨x, 1, none⟩ = some b ∧ w1.cell? ⟨y, 0, none⟩ = some c ∧ w1.cell? ⟨y, 1, none⟩ = some d :=
  ⟨(hb.cell (p := ⟨x, 0, none⟩) hx).trans h.1, (hb.cell (p := ⟨x, 1, none⟩) hx).trans h.2.1, (hb.cell (p := ⟨y, 0, none⟩) hy).trans h.2.2.1, (hb.cell (p := ⟨y, 1, none⟩) hy).trans h.2.2.2⟩
theorem q4_set {w : World} {x y Z : Nat} {a b c d : Value} (hx : x ≠ Z) (hy : y ≠ Z) (h : w.cell? ⟨x, 0, none⟩ = some a ∧ w.cell? ⟨x, 1, none⟩ = some b ∧ w.cell? ⟨y, 0, none⟩ = some c ∧ w.cell? ⟨y, 1, none⟩ = some d) (u u' : Value) :
    ((w.setCell ⟨Z, 0, none⟩ u).setCell ⟨Z, 1, none⟩ u').cell? ⟨x, 0, none⟩ = some a ∧ ((w.setCell ⟨Z, 0, none⟩ u).setCell ⟨Z, 1, none⟩ u').cell? ⟨x, 1, none⟩ = some b ∧ ((w.setCell ⟨Z, 0, none⟩ u).setCell ⟨Z, 1, none⟩ u').cell? ⟨y, 0, none⟩ = some c ∧ ((w.setCell ⟨Z, 0, none⟩ u).setCell ⟨Z, 1, none⟩ u').cell? ⟨y, 1, none⟩ = some d := by
  have e : ∀ b k, b ≠ Z → ((w.setCell ⟨Z, 0, none⟩ u).setCell ⟨Z, 1, none⟩ u').cell? ⟨b, k, none⟩ = w.cell? ⟨b, k, none⟩ := fun b k hb => by
    rw [World.cell?_setCell_other _ _ _ _ (by intro e; injection e with e; exact hb e.symm), World.cell?_setCell_other _ _ _ _ (by intro e; injection e with e; exact hb e.symm)]
  exact ⟨(e _ _ hx).trans h.1, (e _ _ hx).trans h.2.1, (e _ _ hy).trans h.2.2.1, (e _ _ hy).trans h.2.2.2⟩
theorem op_of {w : World} {g : Nat} {a b c d e f x y : Value} (h : Blk w g 40 #[a, b, c, d, e, f, x, y]) : w.cell? ⟨g, 0, none⟩ = some a ∧ w.cell? ⟨g, 1, none⟩ = some b ∧ w.cell? ⟨g, 6, none⟩ = some x := ⟨h.cell 0, h.cell 1, h.cell 6⟩
theorem ops_cells {w : World} {B b ob : Nat} {l : List OpP} {p : Nat → Option Addr × Nat} (h : IsOps w B (some ⟨b, ob, none⟩) l p) {i : Nat} (hi : i < l.length) :
    w.cell? ⟨b, ob + i * 8, none⟩ = some (.int .i64 (kindOf l i)) ∧ w.cell? ⟨b, ob + i * 8 + 1, none⟩ = some (.slice (p i).1 (insOf l i).length (p i).2) ∧
    w.cell? ⟨b, ob + i * 8 + 2, none⟩ = some (.int .i64 (opOf l i).fo) ∧ w.cell? ⟨b, ob + i * 8 + 3, none⟩ = some (.int .i64 (opOf l i).fa) ∧ w.cell? ⟨b, ob + i * 8 + 4, none⟩ = some (.int .i64 (opOf l i).fb) ∧
    w.cell? ⟨b, ob + i * 8 + 5, none⟩ = some (.int .i64 (opOf l i).parts) ∧ w.cell? ⟨b, ob + i * 8 + 6, none⟩ = some (.int .i64 (opOf l i).rate) ∧ w.cell? ⟨b, ob + i * 8 + 7, none⟩ = some (.int .i64 (opOf l i).cost) := by
  obtain ⟨b', o', e, hb, c0, c1, c2, c3, c4, c5, c6, c7, -⟩ := h.at_ hi
  simp only [Option.some.injEq, Addr.mk.injEq, and_true] at e
  obtain ⟨rfl, rfl⟩ := e
  exact ⟨c0, c1, c2, c3, c4, c5, c6, c7⟩

set_option maxRecDepth 100000 in
set_option maxHeartbeats 4000000 in
theorem one_src (g : Int) (A : Option Addr) (c : Nat) (l : List OpP) (p : Nat → Option Addr × Nat) (kn : List Kn) (m : Mea) (hmo : MeaOk m) (G i : Nat) (w : World) (B : Nat) (hB : B ≤ w.heap.size) (h : IsOps w B A l p) (hgv : IsGv w G kn) (hko : KnOk kn) (hkl : kn.length = l.length) (hi : i < l.length) {g' : Int} (hj : OkJ g' l) (_hr : readyF l kn i = true) (hk : kindOf l i = 1) :
    Calls Try.prog 94 #[.agg #[.int .i64 g, .slice A l.length c], .int .i64 i, .agg (meaCells m), .slice (some ⟨G, 0, none⟩) l.length l.length] w fun e w' => e = .returned (oneV (needR (rateF l kn i) m)) ∧ Below w.heap.size w w' := by
  have hsb := src_bd hj hi hk
  have HRT := Lib.hid (show rateF l kn i = ⟨(opOf l i).rate, 1, true⟩ by unfold rateF; rw [if_pos hk])
  have HLR := Lib.hid (low_one' hsb.1 hsb.2)
  have HKI := Lib.hid hk
  clear hk hsb _hr
  have hlen := hj.len.2
  obtain ⟨b, ob, rfl, hb, -⟩ := h.at_ hi
  have hbw : b < w.heap.size := by omega
  have HH := Lib.hid h
  have HGV := Lib.hid hgv
  have HKO := Lib.hid hko
  have HKL := Lib.hid hkl
  have hGw := hgv.lt
  by_cases hz : m.1 = 0 ∨ m.2.2.1 = 0
  · exact one_zero g b ob c l _ m G i _ _ w hz
  have hma : m.1 ≠ 0 := fun e => hz (.inl e)
  have hmd : m.2.2.1 ≠ 0 := fun e => hz (.inr e)
  have hmo2 := hmo
  obtain ⟨x0, x1, x2, x3, x4, x5⟩ := hmo2
  have HMUL := Lib.hid (fun X => rMul_any m.1 100 X (by unfold I64; omega) (by unfold I64; omega))
  have HEA := Lib.hid (fun X => rOf_any m.2.1 m.1 X (by unfold I64; omega) (by unfold I64; omega))
  obtain ⟨he1, he2⟩ := each_ok hmo hma
  have he3 := R_eta he1
  obtain ⟨en, hen⟩ : ∃ x, (eachR m).n = x := ⟨_, rfl⟩
  obtain ⟨ed, hed⟩ : ∃ x, (eachR m).d = x := ⟨_, rfl⟩
  rw [hen, hed] at he2 he3
  change Hid (∀ X, Calls _ _ _ X fun e w' => e = rV (eachR m) ∧ _) at HEA
  rw [he3] at HEA
  unfold rV at HEA
  simp only at HEA
  have HHZ := Lib.hid hz
  have HMO := Lib.hid hmo
  have HEN := Lib.hid (And.intro hen hed)
  have HE2 := Lib.hid he2
  have t0 : (m.1 == 0) = false := by simpa using hma
  have t1 : (m.2.2.1 == 0) = false := by simpa using hmd
  have HMA := Lib.hid hma
  have HFT : Hid (fits (m.1 * 100) = true → m.1 * 100 ≤ 9223372036854775807) := fun e => fits_le e
  have HRB := Lib.hid (⟨x0, x1, x2, x3, x4, x5⟩ : MeaOk m)
  clear h hgv hko hkl hz hmo hen hed he1 he2 he3 hma hmd x0 x1 x2 x3 x4 x5
  (obtain ⟨X0, hX0⟩ : ∃ X0, (((w.alloc (.cells #[.int .i64 g, .slice (some ⟨b, ob, none⟩) l.length c] 24)).alloc (.cells #[.int .i64 m.1, .int .i64 m.2.1, .int .i64 m.2.2.1, .int .i64 m.2.2.2] 55)).alloc (.cells #[.int .i64 0, .int .i64 0] 43)) = X0 := ⟨_, rfl⟩; have T := Lib.hid (hX0 ▸ one_start w g (some ⟨b, ob, none⟩) l.length c m.1 m.2.1 m.2.2.1 m.2.2.2); unfold meaCells; go_enter Try.func94, Try.ntmps94; go_upto_region 1 with (fail); (try rw [hX0]); clear hX0; obtain ⟨m0, m1, m2⟩ := mea_of T.out.g1)
  go_upto_region 3 with (fail)
  obtain ⟨s0, s1⟩ := spec_of T.out.g2
  obtain ⟨c0, c1, c2, c3, c4, c5, c6, c7⟩ := ops_cells (HH.out.below (T.out.1.mono hB)) hi
  rw [HKI.out] at c0
  have HX0 := Lib.hid T.out.1.size
  have hbx : b < X0.heap.size := by have := HX0.out; omega
  generalize (opOf l i).rate = rn at *
  (obtain ⟨b11, hg⟩ : ∃ k, X0.heap.size = k := ⟨_, rfl⟩; go_upto_region 4 with (fail); obtain ⟨X1, hX⟩ : ∃ W9, (X0.alloc (.cells #[.int .i64 1, .slice (p i).1 (insOf l i).length (p i).2, .int .i64 (opOf l i).fo, .int .i64 (opOf l i).fa, .int .i64 (opOf l i).fb, .int .i64 (opOf l i).parts, .int .i64 rn, .int .i64 (opOf l i).cost] 40)) = W9 := ⟨_, rfl⟩; have T1 := Lib.hid (T.out.alloc (Nat.le_refl _) #[.int .i64 1, .slice (p i).1 (insOf l i).length (p i).2, .int .i64 (opOf l i).fo, .int .i64 (opOf l i).fa, .int .i64 (opOf l i).fb, .int .i64 (opOf l i).parts, .int .i64 rn, .int .i64 (opOf l i).cost] 40 hg); (clear T; have T := T1; clear T1); rw [hX] at T; (try rw [hX]); clear hX hg)
  clear s0 s1 c0 c1 c2 c3 c4 c5 c6 c7 m0 m1 m2 HX0 hbx
  obtain ⟨o0, o1, o6⟩ := op_of T.out.g0
  (obtain ⟨b12, hg⟩ : ∃ k, X1.heap.size = k := ⟨_, rfl⟩; go_upto_region 5 with (fail); obtain ⟨X2, hX⟩ : ∃ W9, (X1.alloc (.cells #[.int .i64 rn, .int .i64 1] 43)) = W9 := ⟨_, rfl⟩; have T1 := Lib.hid (T.out.alloc (Nat.le_refl _) #[.int .i64 rn, .int .i64 1] 43 hg); (clear T; have T := T1; clear T1); rw [hX] at T; (try rw [hX]); clear hX hg)
  clear o0 o1 o6
  obtain ⟨o0, o1, o6⟩ := op_of T.out.g1
  go_upto_region 14 with (fail)
  clear o0 o1 o6
  obtain ⟨m0, m1, m2⟩ := mea_of T.out.g3
  have hl := HLR.out
  have HLG := Lib.hid (fun X => rTimesF_any rn 1 en ed X hl HE2.out)
  clear hl
  cases hf : fits (m.1 * 100) with
  | false =>
    have E := Lib.hid (show oneV (needR (rateF l kn i) m) = .tuple #[.int .i64 0, .agg #[.int .i64 0, .int .i64 0], .int .i64 15] by rw [HRT.out, need_fit HHZ.out rfl hf]; rfl)
    rw [hf] at HMUL
    clear hf
    go_wp2_with fail
    refine (HMUL.out _).mono ?_
    rintro e w2 ⟨rfl, hb1⟩
    have T1 := Lib.hid (T.out.step (Nat.le_refl _) hb1)
    (clear T; have T := T1; clear T1)
    clear hb1 m0 m1 m2
    (obtain ⟨f0, f1, f2, f3⟩ := frac4 T.out.g2; have HP := Lib.hid (put2 f0 f1 (.int .i64 0) (.int .i64 0)); go_wp2_with fail; obtain ⟨q0, q1⟩ := HP.out; refine bodyPost_ret (res3b rfl _ _ rfl q0 q1) rfl ?_; exact ⟨by rw [E.out]; rfl, (T.out.1.setCell (p := ⟨w.heap.size + 1 + 1, 0, none⟩) (by show w.heap.size ≤ w.heap.size + 1 + 1; omega) _).setCell (p := ⟨w.heap.size + 1 + 1, 1, none⟩) (by show w.heap.size ≤ w.heap.size + 1 + 1; omega) _⟩)
  | true =>
    have hv : Fr.asInt (m.1 * 100) = m.1 * 100 := by unfold Fr.asInt; rw [hf]; rfl
    rw [hf, hv] at HMUL
    have hft := HFT.out hf
    have HCO := Lib.hid (fun X => rOf_any m.2.2.1 (m.1 * 100) X (by have := HRB.out; unfold MeaOk at this; unfold I64; omega) (by have := HRB.out; unfold MeaOk at this; unfold I64; omega))
    obtain ⟨hc1, hc2⟩ := cost_ok HMO.out HMA.out hf
    have hc3 := R_eta hc1
    obtain ⟨cn, hcn⟩ : ∃ x, (costR m).n = x := ⟨_, rfl⟩
    obtain ⟨cd, hcd⟩ : ∃ x, (costR m).d = x := ⟨_, rfl⟩
    rw [hcn, hcd] at hc2 hc3
    change Hid (∀ X, Calls _ _ _ X fun e w' => e = rV (costR m) ∧ _) at HCO
    rw [hc3] at HCO
    unfold rV at HCO
    simp only at HCO
    have HLA := Lib.hid (fun X => rTimesF_any rn 1 cn cd X HLR.out hc2)
    have hg0 : givesR ⟨rn, 1, true⟩ m = timesR rn 1 en ed := by unfold givesR; rw [HEN.out.1, HEN.out.2]
    have ha0 : allR ⟨rn, 1, true⟩ m = timesR rn 1 cn cd := by unfold allR; rw [hcn, hcd]
    have hall : (timesR rn 1 cn cd).ok = true → Lowest (timesR rn 1 cn cd).n (timesR rn 1 cn cd).d := times_low HLR.out hc2
    have hov := need_over (r := ⟨rn, 1, true⟩) (m := m) HHZ.out rfl hf
    have hso := need_some (r := ⟨rn, 1, true⟩) (m := m) HHZ.out rfl hf
    rw [hg0, ha0] at hov hso
    clear hg0 ha0
    generalize timesR rn 1 en ed = gr at *
    generalize timesR rn 1 cn cd = ar at *
    obtain ⟨gn, gd, go⟩ := gr
    obtain ⟨an, ad, ao⟩ := ar
    simp only at hall hov hso
    unfold rV at HLG HLA
    simp only at HLG HLA
    have HALL := Lib.hid hall
    have HOV := Lib.hid hov
    have HSO := Lib.hid hso
    clear hf hv hft hcn hcd hc1 hc2 hc3 hall hov hso
    generalize m.1 * 100 = mul at *
    go_wp2_with fail
    refine (HMUL.out _).mono ?_
    rintro e w2 ⟨rfl, hb1⟩
    have T1 := Lib.hid (T.out.step (Nat.le_refl _) hb1)
    (clear T; have T := T1; clear T1)
    clear hb1 m0 m1 m2
    obtain ⟨m0, m1, m2⟩ := mea_of T.out.g3
    go_wp2_with fail
    refine (HCO.out _).mono ?_
    rintro e w3 ⟨rfl, hb1⟩
    have T1 := Lib.hid (T.out.step (Nat.le_refl _) hb1)
    (clear T; have T := T1; clear T1)
    clear hb1 m0 m1 m2
    (obtain ⟨b18, hg⟩ : ∃ k, w3.heap.size = k := ⟨_, rfl⟩; go_upto_region 18 with (fail); obtain ⟨X3, hX⟩ : ∃ W9, (w3.alloc (.cells #[.int .i64 cn, .int .i64 cd] 43)) = W9 := ⟨_, rfl⟩; have T1 := Lib.hid (T.out.alloc (Nat.le_refl _) #[.int .i64 cn, .int .i64 cd] 43 hg); (clear T; have T := T1; clear T1); rw [hX] at T; (try rw [hX]); clear hX hg)
    obtain ⟨m0, m1, m2⟩ := mea_of T.out.g4
    go_wp2_with fail
    refine (HEA.out _).mono ?_
    rintro e w4 ⟨rfl, hb1⟩
    have T1 := Lib.hid (T.out.step (Nat.le_refl _) hb1)
    (clear T; have T := T1; clear T1)
    clear hb1 m0 m1 m2
    (obtain ⟨b20, hg⟩ : ∃ k, w4.heap.size = k := ⟨_, rfl⟩; go_upto_region 19 with (fail); obtain ⟨X4, hX⟩ : ∃ W9, (w4.alloc (.cells #[.int .i64 en, .int .i64 ed] 43)) = W9 := ⟨_, rfl⟩; have T1 := Lib.hid (T.out.alloc (Nat.le_refl _) #[.int .i64 en, .int .i64 ed] 43 hg); (clear T; have T := T1; clear T1); rw [hX] at T; (try rw [hX]); clear hX hg)
    obtain ⟨c0, c1⟩ := frac_of T.out.g2
    obtain ⟨d0, d1⟩ := frac_of T.out.g0
    go_wp2_with fail
    refine (HLG.out _).mono ?_
    rintro e w5 ⟨rfl, hb1⟩
    have T1 := Lib.hid (T.out.step (Nat.le_refl _) hb1)
    (clear T; have T := T1; clear T1)
    clear hb1 c0 c1 d0 d1
    have hb9 : w.heap.size + 1 + 1 < w5.heap.size := T.out.g4.lt
    obtain ⟨b22, hg22⟩ : ∃ k, w5.heap.size = k := ⟨_, rfl⟩
    have HB22 := Lib.hid (show w.heap.size + 1 + 1 < b22 from hg22 ▸ hb9)
    clear hb9
    go_upto_region 20 with (fail)
    obtain ⟨X5, hX⟩ : ∃ W9, (w5.alloc (.cells #[.int .i64 gn, .int .i64 gd] 43)) = W9 := ⟨_, rfl⟩
    have T1 := Lib.hid (T.out.alloc (Nat.le_refl _) #[.int .i64 gn, .int .i64 gd] 43 hg22)
    (clear T; have T := T1; clear T1)
    rw [hX] at T
    (try rw [hX])
    clear hX hg22
    obtain ⟨c0, c1⟩ := frac_of T.out.g3
    obtain ⟨d0, d1⟩ := frac_of T.out.g2
    go_wp2_with fail
    refine (HLA.out _).mono ?_
    rintro e w6 ⟨rfl, hb1⟩
    have T1 := Lib.hid (T.out.step (Nat.le_refl _) hb1)
    (clear T; have T := T1; clear T1)
    clear hb1 c0 c1 d0 d1
    have hb9 : w.heap.size + 1 + 1 < w6.heap.size := T.out.g5.lt
    have hb22 : b22 < w6.heap.size := T.out.g0.lt
    have hb922 : w.heap.size + 1 + 1 < b22 := HB22.out
    obtain ⟨b24, hg24⟩ : ∃ k, w6.heap.size = k := ⟨_, rfl⟩
    have HB24 := Lib.hid (show w.heap.size + 1 + 1 < b24 ∧ b22 < b24 from hg24 ▸ ⟨hb9, hb22⟩)
    clear hb9 hb22
    go_upto_region 21 with (fail)
    obtain ⟨X6, hX⟩ : ∃ W9, (w6.alloc (.cells #[.int .i64 an, .int .i64 ad] 43)) = W9 := ⟨_, rfl⟩
    have T1 := Lib.hid (T.out.alloc (Nat.le_refl _) #[.int .i64 an, .int .i64 ad] 43 hg24)
    (clear T; have T := T1; clear T1)
    rw [hX] at T
    (try rw [hX])
    clear hX hg24
    cases hgo : go && ao with
    | false =>
      have E := Lib.hid (show oneV (needR (rateF l kn i) m) = .tuple #[.int .i64 0, .agg #[.int .i64 0, .int .i64 0], .int .i64 15] by rw [HRT.out, HOV.out (by cases go <;> cases ao <;> simp at hgo ⊢)]; rfl)
      cases go with
      | false =>
        clear hgo
        (obtain ⟨f0, f1, f2, f3⟩ := frac4 T.out.g6; have HP := Lib.hid (put2 f0 f1 (.int .i64 0) (.int .i64 0)); go_wp2_with fail; obtain ⟨q0, q1⟩ := HP.out; refine bodyPost_ret (res3b rfl _ _ rfl q0 q1) rfl ?_; exact ⟨by rw [E.out]; rfl, (T.out.1.setCell (p := ⟨w.heap.size + 1 + 1, 0, none⟩) (by show w.heap.size ≤ w.heap.size + 1 + 1; omega) _).setCell (p := ⟨w.heap.size + 1 + 1, 1, none⟩) (by show w.heap.size ≤ w.heap.size + 1 + 1; omega) _⟩)
      | true =>
        obtain rfl : ao = false := by simpa using hgo
        clear hgo
        (obtain ⟨f0, f1, f2, f3⟩ := frac4 T.out.g6; have HP := Lib.hid (put2 f0 f1 (.int .i64 0) (.int .i64 0)); go_wp2_with fail; obtain ⟨q0, q1⟩ := HP.out; refine bodyPost_ret (res3b rfl _ _ rfl q0 q1) rfl ?_; exact ⟨by rw [E.out]; rfl, (T.out.1.setCell (p := ⟨w.heap.size + 1 + 1, 0, none⟩) (by show w.heap.size ≤ w.heap.size + 1 + 1; omega) _).setCell (p := ⟨w.heap.size + 1 + 1, 1, none⟩) (by show w.heap.size ≤ w.heap.size + 1 + 1; omega) _⟩)
    | true =>
      obtain ⟨rfl, rfl⟩ : go = true ∧ ao = true := by simpa using hgo
      have E := Lib.hid (show oneV (needR (rateF l kn i) m) = .tuple #[.int .i64 (ceilR an ad), .agg #[.int .i64 gn, .int .i64 gd], .int .i64 0] by rw [HRT.out, HSO.out rfl rfl]; rfl)
      have HCE := Lib.hid (fun X => rCeil_any an ad X (HALL.out rfl))
      generalize ceilR an ad = t at *
      clear hgo
      go_upto_region 23 with (fail)
      obtain ⟨c0, c1⟩ := frac_of T.out.g0
      obtain ⟨d0, d1⟩ := frac_of T.out.g1
      have hb24 : b24 < X6.heap.size := T.out.g0.lt
      have hb22 : b22 < X6.heap.size := T.out.g1.lt
      have hn24 : b24 ≠ w.heap.size + 1 + 1 := by have := HB24.out; omega
      have hn22 : b22 ≠ w.heap.size + 1 + 1 := by have := HB22.out; omega
      have HTB := Lib.hid (T.out.1.drew)
      have T9 := Lib.hid (show FracAt X6 (w.heap.size + 1 + 1) 0 0 from T.out.g6)
      go_region_held3 (fun w' => w'.cell? ⟨b24, 0, none⟩ = some (.int .i64 an) ∧ w'.cell? ⟨b24, 1, none⟩ = some (.int .i64 ad) ∧ w'.cell? ⟨b22, 0, none⟩ = some (.int .i64 gn) ∧ w'.cell? ⟨b22, 1, none⟩ = some (.int .i64 gd))
        (first | exact ⟨c0, c1, d0, d1⟩ | exact q4_below hb24 hb22 ⟨c0, c1, d0, d1⟩ hb1 | exact q4_set hn24 hn22 (q4_below hb24 hb22 ⟨c0, c1, d0, d1⟩ hb1) _ _)
        ((first | (go_at_call 86; refine (HCE.out _).mono ?_; rintro e w7 ⟨rfl, hb1⟩; obtain ⟨r0, r1, r2, r3⟩ := (frac_aft T9.out hb1).cells)))
      have HP := Lib.hid (put2 r0 r1 (.int .i64 gn) (.int .i64 gd))
      have HB := Lib.hid (((through HTB.out (Nat.le_refl _) hb1).setCell (p := ⟨w.heap.size + 1 + 1, 0, none⟩) (by show w.heap.size ≤ w.heap.size + 1 + 1; omega) (.int .i64 gn)).setCell (p := ⟨w.heap.size + 1 + 1, 1, none⟩) (by show w.heap.size ≤ w.heap.size + 1 + 1; omega) (.int .i64 gd))
      clear hb1 r0 r1 r2 r3
      go_wp2_with fail
      obtain ⟨q0, q1⟩ := HP.out
      refine bodyPost_ret (res3b rfl _ _ rfl q0 q1) rfl ?_
      exact ⟨by rw [E.out]; rfl, HB.out⟩
end Go.Proofs.Ytcechimilefihaa.So
