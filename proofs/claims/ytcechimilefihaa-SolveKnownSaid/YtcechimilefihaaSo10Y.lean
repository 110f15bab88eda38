/- How many tasks are needed, as the document reckons it: what an operator that is no source needs. -/
import Derived.Test.YtcechimilefihaaSo9Y

namespace Go.Proofs.Ytcechimilefihaa.So
open Go.ChangeShapes Go.WideShapes Go.ChangeAt Go.RowKit M Sp Fr

theorem Bs.ne_new {w wr : World} {B g : Nat} {l : List (Nat × TypeId × Array Value)} (h : Bs w B l wr) (hg : wr.heap.size = g) : ∀ z ∈ l, z.1 ≠ g := fun z hz => by have := (h.2 z hz).lt; omega
section
variable {w w1 : World} {x y b G o2 k j : Nat} {a0 a1 a2 a3 a4 a5 : Value}
theorem s6_keep {Y : World} (hx : x < w.heap.size) (hy : y < w.heap.size) (hb : b < w.heap.size) (hG : G < w.heap.size)
    (h : w.cell? ⟨x, 0, none⟩ = some a0 ∧ w.cell? ⟨x, 1, none⟩ = some a1 ∧ w.cell? ⟨y, 1, none⟩ = some a2 ∧ w.cell? ⟨b, o2 + k, none⟩ = some a3 ∧ w.cell? ⟨G, j * 2, none⟩ = some a4 ∧ w.cell? ⟨G, j * 2 + 1, none⟩ = some a5) (hY : Below w.heap.size w Y) :
    Y.cell? ⟨x, 0, none⟩ = some a0 ∧ Y.cell? ⟨x, 1, none⟩ = some a1 ∧ Y.cell? ⟨y, 1, none⟩ = some a2 ∧ Y.cell? ⟨b, o2 + k, none⟩ = some a3 ∧ Y.cell? ⟨G, j * 2, none⟩ = some a4 ∧ Y.cell? ⟨G, j * 2 + 1, none⟩ = some a5 :=
  ⟨(hY.cell (p := ⟨x, 0, none⟩) hx).trans h.1, (hY.cell (p := ⟨x, 1, none⟩) hx).trans h.2.1, (hY.cell (p := ⟨y, 1, none⟩) hy).trans h.2.2.1, (hY.cell (p := ⟨b, o2 + k, none⟩) hb).trans h.2.2.2.1, (hY.cell (p := ⟨G, j * 2, none⟩) hG).trans h.2.2.2.2.1, (hY.cell (p := ⟨G, j * 2 + 1, none⟩) hG).trans h.2.2.2.2.2⟩
theorem kA {o : Obj} (hb : Below (w.alloc o).drew.heap.size (w.alloc o).drew w1) : Below w.heap.size w w1 := through ((Below.refl _ _).alloc (Nat.le_refl _) o).drew (Nat.le_refl _) hb
theorem kB (hb : Below w.drew.heap.size w.drew w1) : Below w.heap.size w w1 := through (Below.refl _ _).drew (Nat.le_refl _) hb
theorem kA2 {o : Obj} (hb : Below (w.alloc o).drew.heap.size (w.alloc o).drew w1) (u v : Value) : Below w.heap.size w ((w1.setCell ⟨w.heap.size, 0, none⟩ u).setCell ⟨w.heap.size, 1, none⟩ v) := ((kA hb).setCell (Nat.le_refl _) _).setCell (Nat.le_refl _) _
theorem kB2 (hb : Below w.drew.heap.size w.drew w1) (o : Obj) : Below w.heap.size w (w1.alloc o) := (kB hb).alloc (kB hb).size o
theorem kB3 (hb : Below w.drew.heap.size w.drew w1) (o : Obj) (u v : Value) : Below w.heap.size w (((w1.alloc o).setCell ⟨w1.heap.size, 0, none⟩ u).setCell ⟨w1.heap.size, 1, none⟩ v) := ((kB2 hb o).setCell (p := ⟨w1.heap.size, 0, none⟩) (kB hb).size _).setCell (p := ⟨w1.heap.size, 1, none⟩) (kB hb).size _
theorem kF (hb : Below (w.alloc (.cells #[.int .i64 0, .int .i64 0] 43)).drew.heap.size (w.alloc (.cells #[.int .i64 0, .int .i64 0] 43)).drew w1) : FracAt w1 w.heap.size 0 0 :=
  Blk.below (Blk.drew (Blk.new w 43 #[.int .i64 0, .int .i64 0])) hb (by show w.heap.size < (w.alloc _).heap.size; simp)
theorem kR (hb : Below (w.alloc (.cells #[.int .i64 0, .int .i64 0] 43)).drew.heap.size (w.alloc (.cells #[.int .i64 0, .int .i64 0] 43)).drew w1) :
    w1.cell? ⟨w.heap.size, 0, none⟩ = some (.int .i64 0) ∧ w1.cell? ⟨w.heap.size, 1, none⟩ = some (.int .i64 0) ∧ w1.frozen? ⟨w.heap.size, 0, none⟩ = false ∧ w1.frozen? ⟨w.heap.size, 1, none⟩ = false := (kF hb).cells
end
theorem Bs.tail {w wr : World} {B : Nat} {l : List (Nat × TypeId × Array Value)} {x : Nat × TypeId × Array Value} (h : Bs w B (x :: l) wr) : Bs w B l wr := ⟨h.1, fun z hz => h.2 z (List.mem_cons_of_mem _ hz)⟩
theorem wayA {w wr w1 : World} {x y : Int} {l : List (Nat × TypeId × Array Value)} (h : Bs w w.heap.size l wr) (hb : Below (wr.alloc (.cells #[.int .i64 0, .int .i64 0] 43)).drew.heap.size (wr.alloc (.cells #[.int .i64 0, .int .i64 0] 43)).drew w1) :
    Bs w w.heap.size ((wr.heap.size, 43, #[.int .i64 x, .int .i64 y]) :: l) ((w1.setCell ⟨wr.heap.size, 0, none⟩ (.int .i64 x)).setCell ⟨wr.heap.size, 1, none⟩ (.int .i64 y)) := by
  refine ⟨through h.1 (Nat.le_refl _) (kA2 hb _ _), fun z hz => ?_⟩
  rcases List.mem_cons.1 hz with rfl | hz
  · exact (kF hb).put
  · exact (h.2 z hz).below (kA2 hb _ _) (h.2 z hz).lt
theorem wayB {w wr w1 : World} {x y : Int} {l : List (Nat × TypeId × Array Value)} (h : Bs w w.heap.size l wr) (hb : Below wr.drew.heap.size wr.drew w1) :
    Bs w w.heap.size ((w1.heap.size, 43, #[.int .i64 x, .int .i64 y]) :: l) (w1.alloc (.cells #[.int .i64 x, .int .i64 y] 43)) :=
  (h.step (Nat.le_refl _) (kB hb)).alloc (Nat.le_refl _) _ _ rfl

set_option maxRecDepth 100000 in
set_option maxHeartbeats 8000000 in
theorem one_in (g : Int) (A : Option Addr) (c : Nat) (l : List OpP) (p : Nat → Option Addr × Nat) (kn : List Kn) (m : Mea) (hmo : MeaOk m) (G i : Nat) (w : World) (B : Nat) (hB : B ≤ w.heap.size) (h : IsOps w B A l p) (hgv : IsGv w G kn) (hko : KnOk kn) (hkl : kn.length = l.length) (hi : i < l.length) {g' : Int} (hj : OkJ g' l) (hr : readyF l kn i = true) (hk : kindOf l i ≠ 1) :
    Calls Try.prog 94 #[.agg #[.int .i64 g, .slice A l.length c], .int .i64 i, .agg (meaCells m), .slice (some ⟨G, 0, none⟩) l.length l.length] w fun e w' => e = .returned (oneV (needR (rateF l kn i) m)) ∧ Below w.heap.size w w' := by
  obtain ⟨hpos, hin, hn12⟩ := in_facts hj hi hk
  have HRF : Hid (rateF l kn i = sumSt kn (insOf l i) (insOf l i).length) := by show rateF l kn i = _; unfold rateF; rw [if_neg hk]
  have HIN := Lib.hid hin
  have HRD := Lib.hid hr
  obtain ⟨-, -, -, -, -, -, -, -, -, -, -, -, -, hints⟩ := h.at_ hi
  generalize hpp : p i = pp at hints
  obtain ⟨pa, pc⟩ := pp
  simp only at hints
  obtain ⟨b2, o2, -, rfl, hb2, -⟩ := Sp.ints_at hints hpos
  have HPP := Lib.hid hpp
  have HI := Lib.hid hints
  have tk : (kindOf l i != 1) = true := by simpa using hk
  clear hpp hints hin hr hk
  have hlen := hj.len.2
  obtain ⟨b, ob, rfl, hb, -⟩ := h.at_ hi
  have hbw : b < w.heap.size := by omega
  have HH := Lib.hid h
  have HGV := Lib.hid hgv
  have HKO := Lib.hid hko
  have HKL := Lib.hid hkl
  have hGw := hgv.lt
  by_cases hz : m.1 = 0 ∨ m.2.2.1 = 0
  · exact one_zero g b ob c l _ m G i _ _ w hz
  have hma : m.1 ≠ 0 := fun e => hz (.inl e)
  have hmd : m.2.2.1 ≠ 0 := fun e => hz (.inr e)
  have hmo2 := hmo
  obtain ⟨x0, x1, x2, x3, x4, x5⟩ := hmo2
  have HMUL := Lib.hid (fun X => rMul_any m.1 100 X (by unfold I64; omega) (by unfold I64; omega))
  have HEA := Lib.hid (fun X => rOf_any m.2.1 m.1 X (by unfold I64; omega) (by unfold I64; omega))
  obtain ⟨he1, he2⟩ := each_ok hmo hma
  have he3 := R_eta he1
  obtain ⟨en, hen⟩ : ∃ x, (eachR m).n = x := ⟨_, rfl⟩
  obtain ⟨ed, hed⟩ : ∃ x, (eachR m).d = x := ⟨_, rfl⟩
  rw [hen, hed] at he2 he3
  change Hid (∀ X, Calls _ _ _ X fun e w' => e = rV (eachR m) ∧ _) at HEA
  rw [he3] at HEA
  unfold rV at HEA
  simp only at HEA
  have HHZ := Lib.hid hz
  have HMO := Lib.hid hmo
  have HEN := Lib.hid (And.intro hen hed)
  have HE2 := Lib.hid he2
  have t0 : (m.1 == 0) = false := by simpa using hma
  have t1 : (m.2.2.1 == 0) = false := by simpa using hmd
  have HMA := Lib.hid hma
  have HFT : Hid (fits (m.1 * 100) = true → m.1 * 100 ≤ 9223372036854775807) := fun e => fits_le e
  have HRB := Lib.hid (⟨x0, x1, x2, x3, x4, x5⟩ : MeaOk m)
  clear h hgv hko hkl hz hmo hen hed he1 he2 he3 hma hmd x0 x1 x2 x3 x4 x5
  (obtain ⟨X0, hX0⟩ : ∃ X0, (((w.alloc (.cells #[.int .i64 g, .slice (some ⟨b, ob, none⟩) l.length c] 24)).alloc (.cells #[.int .i64 m.1, .int .i64 m.2.1, .int .i64 m.2.2.1, .int .i64 m.2.2.2] 55)).alloc (.cells #[.int .i64 0, .int .i64 0] 43)) = X0 := ⟨_, rfl⟩; have T := Lib.hid (hX0 ▸ one_start w g (some ⟨b, ob, none⟩) l.length c m.1 m.2.1 m.2.2.1 m.2.2.2); unfold meaCells; go_enter Try.func94, Try.ntmps94; go_upto_region 1 with (fail); (try rw [hX0]); clear hX0; obtain ⟨m0, m1, m2⟩ := mea_of T.out.g1)
  go_upto_region 3 with (fail)
  obtain ⟨s0, s1⟩ := spec_of T.out.g2
  obtain ⟨c0, c1, c2, c3, c4, c5, c6, c7⟩ := ops_cells (HH.out.below (T.out.1.mono hB)) hi
  rw [HPP.out] at c1
  simp only at c1
  have HX0 := Lib.hid T.out.1.size
  have hbx : b < X0.heap.size := by have := HX0.out; omega
  obtain ⟨kd, hkd⟩ : ∃ k, kindOf l i = k := ⟨_, rfl⟩
  rw [hkd] at c0 tk
  clear hkd
  (obtain ⟨b11, hg⟩ : ∃ k, X0.heap.size = k := ⟨_, rfl⟩; go_upto_region 4 with (fail); obtain ⟨X1, hX⟩ : ∃ W9, (X0.alloc (.cells #[.int .i64 kd, .slice (some ⟨b2, o2, none⟩) (insOf l i).length pc, .int .i64 (opOf l i).fo, .int .i64 (opOf l i).fa, .int .i64 (opOf l i).fb, .int .i64 (opOf l i).parts, .int .i64 (opOf l i).rate, .int .i64 (opOf l i).cost] 40)) = W9 := ⟨_, rfl⟩; have T1 := Lib.hid (T.out.alloc (Nat.le_refl _) #[.int .i64 kd, .slice (some ⟨b2, o2, none⟩) (insOf l i).length pc, .int .i64 (opOf l i).fo, .int .i64 (opOf l i).fa, .int .i64 (opOf l i).fb, .int .i64 (opOf l i).parts, .int .i64 (opOf l i).rate, .int .i64 (opOf l i).cost] 40 hg); (clear T; have T := T1; clear T1); rw [hX] at T; (try rw [hX]); clear hX hg)
  clear s0 s1 c0 c1 c2 c3 c4 c5 c6 c7 m0 m1 m2 HX0 hbx
  obtain ⟨o0, o1, o6⟩ := op_of T.out.g0
  obtain ⟨b12, hg⟩ : ∃ k, X1.heap.size = k := ⟨_, rfl⟩
  have HNE := Lib.hid (T.out.ne_new hg)
  have HGE := Lib.hid (show w.heap.size ≤ b12 from hg ▸ T.out.1.size)
  go_upto_region 5 with (fail)
  obtain ⟨X2, hX⟩ : ∃ W9, (X1.alloc (.cells #[.int .i64 (opOf l i).rate, .int .i64 1] 43)) = W9 := ⟨_, rfl⟩
  have T1 := Lib.hid (T.out.alloc (Nat.le_refl _) #[.int .i64 (opOf l i).rate, .int .i64 1] 43 hg)
  (clear T; have T := T1; clear T1)
  rw [hX] at T
  (try rw [hX])
  clear hX hg o0 o1 o6
  obtain ⟨o0, o1, o6⟩ := op_of T.out.g1
  obtain ⟨z0, z1, z2, z3⟩ := frac4 T.out.g0
  go_upto_region 7 with (fail)
  have T1 := Lib.hid (T.out.put0 (x := .int .i64 0) (y := .int .i64 1) HGE.out HNE.out)
  (clear T; have T := T1; clear T1)
  clear o0 o1 o6 z0 z1 z2 z3
  generalize ((X2.setCell ⟨b12, 0, none⟩ (.int .i64 0)).setCell ⟨b12, 1, none⟩ (.int .i64 1)) = X3 at *
  go_wp2_with fail
  go_loopw [13] (fun u wr => ∃ (k : Nat) (n d : Int), k ≤ (insOf l i).length ∧ u = .int .i64 k ∧ sumSt kn (insOf l i) k = ⟨n, d, true⟩ ∧ Bs w w.heap.size ((b12, 43, #[.int .i64 n, .int .i64 d]) :: [(b11, 40, #[.int .i64 kd, .slice (some ⟨b2, o2, none⟩) (insOf l i).length pc, .int .i64 (opOf l i).fo, .int .i64 (opOf l i).fa, .int .i64 (opOf l i).fb, .int .i64 (opOf l i).parts, .int .i64 (opOf l i).rate, .int .i64 (opOf l i).cost]), (w.heap.size + 1 + 1, 43, #[.int .i64 0, .int .i64 0]), (w.heap.size + 1, 55, #[.int .i64 m.1, .int .i64 m.2.1, .int .i64 m.2.2.1, .int .i64 m.2.2.2]), (w.heap.size, 24, #[.int .i64 g, .slice (some ⟨b, ob, none⟩) l.length c])]) wr) (fun u _ => (insOf l i).length - (intOf u).toNat)
  case atStart => exact ⟨0, 0, 1, by omega, rfl, rfl, T.out⟩
  case round =>
    clear T
    obtain ⟨k, n, d, hk, rfl, hst, htr⟩ := hrel
    have HS := Lib.hid hst
    have T := Lib.hid htr
    clear hst htr
    have hln : Lowest n d := by
      have := sum_low HKO.out (fun x hx => by have := HRD.out; unfold readyF at this; rw [List.all_eq_true] at this; exact this x hx) k (by omega) (by rw [HS.out])
      rw [HS.out] at this; exact this
    have HLN := Lib.hid hln
    clear hln
    obtain ⟨o0, o1, o6⟩ := op_of T.out.g1
    by_cases hlt : k < (insOf l i).length
    · obtain ⟨v, HV, hv64, d0⟩ := Sp.ints_get (HI.out.below (T.out.1.mono hB)) hlt
      obtain ⟨jn, rfl, hjn⟩ : ∃ j : Nat, v = j ∧ j < l.length := HIN.out v (HV.out ▸ getD_mem hlt)
      obtain ⟨e0, e1⟩ := (HGV.out.below T.out.1).at_ (show jn < kn.length by rw [HKL.out]; exact hjn)
      have HJ := Lib.hid (show ((insOf l i).getD k 0).toNat = jn by rw [HV.out]; simp)
      obtain ⟨z0, z1, z2, z3⟩ := frac4 T.out.g0
      have hlk : Lowest (knOf kn jn).n (knOf kn jn).d := (HKO.out jn).1 (by
        have := HRD.out; unfold readyF at this; rw [List.all_eq_true] at this; have := this _ (getD_mem hlt); rwa [HJ.out] at this)
      have hfp := fun Z => rPlus_any n d (knOf kn jn).n (knOf kn jn).d Z HLN.out hlk
      have hst1 := sumSt_succ HS.out HJ.out
      generalize (knOf kn jn).n = kn1 at *
      generalize (knOf kn jn).d = kd1 at *
      generalize plusR n d kn1 kd1 = r at *
      obtain ⟨xn, xd, xo⟩ := r
      have HS1 := Lib.hid hst1
      have HFP := Lib.hid hfp
      clear hlk hfp hst1 o0 o6 hv64
      unfold rV at HFP
      simp only at HFP
      go_upto_region 10 with (fail)
      have hb12 : b12 < wr.heap.size := T.out.g0.lt
      have hb11 : b11 < wr.heap.size := T.out.g1.lt
      have hbG : G < wr.heap.size := Nat.lt_of_lt_of_le hGw T.out.1.size
      have hbb2 : b2 < wr.heap.size := by have := T.out.1.size; omega
      have hke := fun Y (hY : Below wr.heap.size wr Y) => s6_keep hb12 hb11 hbb2 hbG ⟨z0, z1, o1, d0, e0, e1⟩ hY
      have HKE := Lib.hid hke
      clear hke
      go_region_held3 (fun w' => (w'.cell? ⟨b12, 0, none⟩ = some (.int .i64 n) ∧ w'.cell? ⟨b12, 1, none⟩ = some (.int .i64 d) ∧ w'.cell? ⟨b11, 1, none⟩ = some (.slice (some ⟨b2, o2, none⟩) (insOf l i).length pc) ∧ w'.cell? ⟨b2, o2 + k, none⟩ = some (.int .i64 jn) ∧ w'.cell? ⟨G, jn * 2, none⟩ = some (.int .i64 kn1) ∧ w'.cell? ⟨G, jn * 2 + 1, none⟩ = some (.int .i64 kd1)))
        (first | exact ⟨z0, z1, o1, d0, e0, e1⟩ | exact HKE.out _ (Below.refl _ _).drew | exact HKE.out _ ((Below.refl _ _).alloc (Nat.le_refl _) _).drew | exact HKE.out _ (kA hb1) | exact HKE.out _ (kB hb1) | exact HKE.out _ (kA2 hb1 _ _) | exact HKE.out _ (kB2 hb1 _) | exact HKE.out _ (kB3 hb1 _ _ _))
        ((first | (go_at_call 84; refine (HFP.out _).mono ?_; rintro e w1 ⟨rfl, hb1⟩; obtain ⟨hcc, hff⟩ := below_cells hb1)))
      all_goals clear hcc hff
      all_goals first
        | (have T2 := Lib.hid (wayA (x := xn) (y := xd) T.out hb1); generalize ((w1.setCell ⟨wr.heap.size, 0, none⟩ (.int .i64 xn)).setCell ⟨wr.heap.size, 1, none⟩ (.int .i64 xd)) = Z at *; clear hb1; generalize wr.heap.size = g14 at *)
        | (have T2 := Lib.hid (wayB (x := xn) (y := xd) T.out hb1); generalize w1.alloc (.cells #[.int .i64 xn, .int .i64 xd] 43) = Z at *; clear hb1; generalize w1.heap.size = g14 at *)
      all_goals
        clear hb12 hb11 hbG hbb2 HKE z0 z1 z2 z3 o1 d0 e0 e1
        clear T
        obtain ⟨y0, y1⟩ := frac_of T2.out.g0
        obtain ⟨z0, z1, z2, z3⟩ := frac4 T2.out.g1
        cases xo with
        | true =>
          have T3 := Lib.hid (T2.out.tail.put0 (x := .int .i64 xn) (y := .int .i64 xd) HGE.out HNE.out)
          go_wp2_with fail
          go_roundw
          case rel => exact ⟨k + 1, xn, xd, by omega, by go_num, HS1.out, T3.out⟩
          case measure => simp [intOf]; omega
        | false =>
          have E := Lib.hid (show oneV (needR (rateF l kn i) m) = .tuple #[.int .i64 0, .agg #[.int .i64 0, .int .i64 0], .int .i64 15] by
            have e := sum_no (kn := kn) (xs := insOf l i) (k := k + 1) (by rw [HS1.out]) _ hlt
            rw [HRF.out, e, HS1.out, need_rate HHZ.out rfl]; rfl)
          have T := T2
          clear y0 y1 z0 z1 z2 z3
          (obtain ⟨f0, f1, f2, f3⟩ := frac4 T.out.g3; have HP := Lib.hid (put2 f0 f1 (.int .i64 0) (.int .i64 0)); go_wp2_with fail; obtain ⟨q0, q1⟩ := HP.out; refine bodyPost_ret (res3b rfl _ _ rfl q0 q1) rfl ?_; exact ⟨by rw [E.out]; rfl, (T.out.1.setCell (p := ⟨w.heap.size + 1 + 1, 0, none⟩) (by show w.heap.size ≤ w.heap.size + 1 + 1; omega) _).setCell (p := ⟨w.heap.size + 1 + 1, 1, none⟩) (by show w.heap.size ≤ w.heap.size + 1 + 1; omega) _⟩)
    · obtain rfl : k = (insOf l i).length := by omega
      have HRT := Lib.hid (HRF.out.trans HS.out)
      have HLR := HLN
      go_upto_region 14 with (fail)
      clear o0 o1 o6
      obtain ⟨m0, m1, m2⟩ := mea_of T.out.g3
      have hl := HLR.out
      have HLG := Lib.hid (fun X => rTimesF_any n d en ed X hl HE2.out)
      clear hl
      cases hf : fits (m.1 * 100) with
      | false =>
        have E := Lib.hid (show oneV (needR (rateF l kn i) m) = .tuple #[.int .i64 0, .agg #[.int .i64 0, .int .i64 0], .int .i64 15] by rw [HRT.out, need_fit HHZ.out rfl hf]; rfl)
        rw [hf] at HMUL
        clear hf
        go_wp2_with fail
        refine (HMUL.out _).mono ?_
        rintro e w2 ⟨rfl, hb1⟩
        have T1 := Lib.hid (T.out.step (Nat.le_refl _) hb1)
        (clear T; have T := T1; clear T1)
        clear hb1 m0 m1 m2
        (obtain ⟨f0, f1, f2, f3⟩ := frac4 T.out.g2; have HP := Lib.hid (put2 f0 f1 (.int .i64 0) (.int .i64 0)); go_wp2_with fail; obtain ⟨q0, q1⟩ := HP.out; refine bodyPost_ret (res3b rfl _ _ rfl q0 q1) rfl ?_; exact ⟨by rw [E.out]; rfl, (T.out.1.setCell (p := ⟨w.heap.size + 1 + 1, 0, none⟩) (by show w.heap.size ≤ w.heap.size + 1 + 1; omega) _).setCell (p := ⟨w.heap.size + 1 + 1, 1, none⟩) (by show w.heap.size ≤ w.heap.size + 1 + 1; omega) _⟩)
      | true =>
        have hv : Fr.asInt (m.1 * 100) = m.1 * 100 := by unfold Fr.asInt; rw [hf]; rfl
        rw [hf, hv] at HMUL
        have hft := HFT.out hf
        have HCO := Lib.hid (fun X => rOf_any m.2.2.1 (m.1 * 100) X (by have := HRB.out; unfold MeaOk at this; unfold I64; omega) (by have := HRB.out; unfold MeaOk at this; unfold I64; omega))
        obtain ⟨hc1, hc2⟩ := cost_ok HMO.out HMA.out hf
        have hc3 := R_eta hc1
        obtain ⟨cn, hcn⟩ : ∃ x, (costR m).n = x := ⟨_, rfl⟩
        obtain ⟨cd, hcd⟩ : ∃ x, (costR m).d = x := ⟨_, rfl⟩
        rw [hcn, hcd] at hc2 hc3
        change Hid (∀ X, Calls _ _ _ X fun e w' => e = rV (costR m) ∧ _) at HCO
        rw [hc3] at HCO
        unfold rV at HCO
        simp only at HCO
        have HLA := Lib.hid (fun X => rTimesF_any n d cn cd X HLR.out hc2)
        have hg0 : givesR ⟨n, d, true⟩ m = timesR n d en ed := by unfold givesR; rw [HEN.out.1, HEN.out.2]
        have ha0 : allR ⟨n, d, true⟩ m = timesR n d cn cd := by unfold allR; rw [hcn, hcd]
        have hall : (timesR n d cn cd).ok = true → Lowest (timesR n d cn cd).n (timesR n d cn cd).d := times_low HLR.out hc2
        have hov := need_over (r := ⟨n, d, true⟩) (m := m) HHZ.out rfl hf
        have hso := need_some (r := ⟨n, d, true⟩) (m := m) HHZ.out rfl hf
        rw [hg0, ha0] at hov hso
        clear hg0 ha0
        generalize timesR n d en ed = gr at *
        generalize timesR n d cn cd = ar at *
        obtain ⟨gn, gd, go⟩ := gr
        obtain ⟨an, ad, ao⟩ := ar
        simp only at hall hov hso
        unfold rV at HLG HLA
        simp only at HLG HLA
        have HALL := Lib.hid hall
        have HOV := Lib.hid hov
        have HSO := Lib.hid hso
        clear hf hv hft hcn hcd hc1 hc2 hc3 hall hov hso
        generalize m.1 * 100 = mul at *
        go_wp2_with fail
        refine (HMUL.out _).mono ?_
        rintro e w2 ⟨rfl, hb1⟩
        have T1 := Lib.hid (T.out.step (Nat.le_refl _) hb1)
        (clear T; have T := T1; clear T1)
        clear hb1 m0 m1 m2
        obtain ⟨m0, m1, m2⟩ := mea_of T.out.g3
        go_wp2_with fail
        refine (HCO.out _).mono ?_
        rintro e w3 ⟨rfl, hb1⟩
        have T1 := Lib.hid (T.out.step (Nat.le_refl _) hb1)
        (clear T; have T := T1; clear T1)
        clear hb1 m0 m1 m2
        (obtain ⟨b18, hg⟩ : ∃ k, w3.heap.size = k := ⟨_, rfl⟩; go_upto_region 18 with (fail); obtain ⟨X3, hX⟩ : ∃ W9, (w3.alloc (.cells #[.int .i64 cn, .int .i64 cd] 43)) = W9 := ⟨_, rfl⟩; have T1 := Lib.hid (T.out.alloc (Nat.le_refl _) #[.int .i64 cn, .int .i64 cd] 43 hg); (clear T; have T := T1; clear T1); rw [hX] at T; (try rw [hX]); clear hX hg)
        obtain ⟨m0, m1, m2⟩ := mea_of T.out.g4
        go_wp2_with fail
        refine (HEA.out _).mono ?_
        rintro e w4 ⟨rfl, hb1⟩
        have T1 := Lib.hid (T.out.step (Nat.le_refl _) hb1)
        (clear T; have T := T1; clear T1)
        clear hb1 m0 m1 m2
        (obtain ⟨b20, hg⟩ : ∃ k, w4.heap.size = k := ⟨_, rfl⟩; go_upto_region 19 with (fail); obtain ⟨X4, hX⟩ : ∃ W9, (w4.alloc (.cells #[.int .i64 en, .int .i64 ed] 43)) = W9 := ⟨_, rfl⟩; have T1 := Lib.hid (T.out.alloc (Nat.le_refl _) #[.int .i64 en, .int .i64 ed] 43 hg); (clear T; have T := T1; clear T1); rw [hX] at T; (try rw [hX]); clear hX hg)
        obtain ⟨c0, c1⟩ := frac_of T.out.g2
        obtain ⟨d0, d1⟩ := frac_of T.out.g0
        go_wp2_with fail
        refine (HLG.out _).mono ?_
        rintro e w5 ⟨rfl, hb1⟩
        have T1 := Lib.hid (T.out.step (Nat.le_refl _) hb1)
        (clear T; have T := T1; clear T1)
        clear hb1 c0 c1 d0 d1
        have hb9 : w.heap.size + 1 + 1 < w5.heap.size := T.out.g4.lt
        obtain ⟨b22, hg22⟩ : ∃ k, w5.heap.size = k := ⟨_, rfl⟩
        have HB22 := Lib.hid (show w.heap.size + 1 + 1 < b22 from hg22 ▸ hb9)
        clear hb9
        go_upto_region 20 with (fail)
        obtain ⟨X5, hX⟩ : ∃ W9, (w5.alloc (.cells #[.int .i64 gn, .int .i64 gd] 43)) = W9 := ⟨_, rfl⟩
        have T1 := Lib.hid (T.out.alloc (Nat.le_refl _) #[.int .i64 gn, .int .i64 gd] 43 hg22)
        (clear T; have T := T1; clear T1)
        rw [hX] at T
        (try rw [hX])
        clear hX hg22
        obtain ⟨c0, c1⟩ := frac_of T.out.g3
        obtain ⟨d0, d1⟩ := frac_of T.out.g2
        go_wp2_with fail
        refine (HLA.out _).mono ?_
        rintro e w6 ⟨rfl, hb1⟩
        have T1 := Lib.hid (T.out.step (Nat.le_refl _) hb1)
        (clear T; have T := T1; clear T1)
        clear hb1 c0 c1 d0 d1
        have hb9 : w.heap.size + 1 + 1 < w6.heap.size := T.out.g5.lt
        have hb22 : b22 < w6.heap.size := T.out.g0.lt
        have hb922 : w.heap.size + 1 + 1 < b22 := HB22.out
        obtain ⟨b24, hg24⟩ : ∃ k, w6.heap.size = k := ⟨_, rfl⟩
        have HB24 := Lib.hid (show w.heap.size + 1 + 1 < b24 ∧ b22 < b24 from hg24 ▸ ⟨hb9, hb22⟩)
        clear hb9 hb22
        go_upto_region 21 with (fail)
        obtain ⟨X6, hX⟩ : ∃ W9, (w6.alloc (.cells #[.int .i64 an, .int .i64 ad] 43)) = W9 := ⟨_, rfl⟩
        have T1 := Lib.hid (T.out.alloc (Nat.le_refl _) #[.int .i64 an, .int .i64 ad] 43 hg24)
        (clear T; have T := T1; clear T1)
        rw [hX] at T
        (try rw [hX])
        clear hX hg24
        cases hgo : go && ao with
        | false =>
          have E := Lib.hid (show oneV (needR (rateF l kn i) m) = .tuple #[.int .i64 0, .agg #[.int .i64 0, .int .i64 0], .int .i64 15] by rw [HRT.out, HOV.out (by cases go <;> cases ao <;> simp at hgo ⊢)]; rfl)
          cases go with
          | false =>
            clear hgo
            (obtain ⟨f0, f1, f2, f3⟩ := frac4 T.out.g6; have HP := Lib.hid (put2 f0 f1 (.int .i64 0) (.int .i64 0)); go_wp2_with fail; obtain ⟨q0, q1⟩ := HP.out; refine bodyPost_ret (res3b rfl _ _ rfl q0 q1) rfl ?_; exact ⟨by rw [E.out]; rfl, (T.out.1.setCell (p := ⟨w.heap.size + 1 + 1, 0, none⟩) (by show w.heap.size ≤ w.heap.size + 1 + 1; omega) _).setCell (p := ⟨w.heap.size + 1 + 1, 1, none⟩) (by show w.heap.size ≤ w.heap.size + 1 + 1; omega) _⟩)
          | true =>
            obtain rfl : ao = false := by simpa using hgo
            clear hgo
            (obtain ⟨f0, f1, f2, f3⟩ := frac4 T.out.g6; have HP := Lib.hid (put2 f0 f1 (.int .i64 0) (.int .i64 0)); go_wp2_with fail; obtain ⟨q0, q1⟩ := HP.out; refine bodyPost_ret (res3b rfl _ _ rfl q0 q1) rfl ?_; exact ⟨by rw [E.out]; rfl, (T.out.1.setCell (p := ⟨w.heap.size + 1 + 1, 0, none⟩) (by show w.heap.size ≤ w.heap.size + 1 + 1; omega) _).setCell (p := ⟨w.heap.size + 1 + 1, 1, none⟩) (by show w.heap.size ≤ w.heap.size + 1 + 1; omega) _⟩)
        | true =>
          obtain ⟨rfl, rfl⟩ : go = true ∧ ao = true := by simpa using hgo
          have E := Lib.hid (show oneV (needR (rateF l kn i) m) = .tuple #[.int .i64 (ceilR an ad), .agg #[.int .i64 gn, .int .i64 gd], .int .i64 0] by rw [HRT.out, HSO.out rfl rfl]; rfl)
          have HCE := Lib.hid (fun X => rCeil_any an ad X (HALL.out rfl))
          generalize ceilR an ad = t at *
          clear hgo
          go_upto_region 23 with (fail)
          obtain ⟨c0, c1⟩ := frac_of T.out.g0
          obtain ⟨d0, d1⟩ := frac_of T.out.g1
          have hb24 : b24 < X6.heap.size := T.out.g0.lt
          have hb22 : b22 < X6.heap.size := T.out.g1.lt
          have hn24 : b24 ≠ w.heap.size + 1 + 1 := by have := HB24.out; omega
          have hn22 : b22 ≠ w.heap.size + 1 + 1 := by have := HB22.out; omega
          have HTB := Lib.hid (T.out.1.drew)
          have T9 := Lib.hid (show FracAt X6 (w.heap.size + 1 + 1) 0 0 from T.out.g6)
          go_region_held3 (fun w' => w'.cell? ⟨b24, 0, none⟩ = some (.int .i64 an) ∧ w'.cell? ⟨b24, 1, none⟩ = some (.int .i64 ad) ∧ w'.cell? ⟨b22, 0, none⟩ = some (.int .i64 gn) ∧ w'.cell? ⟨b22, 1, none⟩ = some (.int .i64 gd))
            (first | exact ⟨c0, c1, d0, d1⟩ | exact q4_below hb24 hb22 ⟨c0, c1, d0, d1⟩ hb1 | exact q4_set hn24 hn22 (q4_below hb24 hb22 ⟨c0, c1, d0, d1⟩ hb1) _ _)
            ((first | (go_at_call 86; refine (HCE.out _).mono ?_; rintro e w7 ⟨rfl, hb1⟩; obtain ⟨r0, r1, r2, r3⟩ := (frac_aft T9.out hb1).cells)))
          have HP := Lib.hid (put2 r0 r1 (.int .i64 gn) (.int .i64 gd))
          have HB := Lib.hid (((through HTB.out (Nat.le_refl _) hb1).setCell (p := ⟨w.heap.size + 1 + 1, 0, none⟩) (by show w.heap.size ≤ w.heap.size + 1 + 1; omega) (.int .i64 gn)).setCell (p := ⟨w.heap.size + 1 + 1, 1, none⟩) (by show w.heap.size ≤ w.heap.size + 1 + 1; omega) (.int .i64 gd))
          clear hb1 r0 r1 r2 r3
          go_wp2_with fail
          obtain ⟨q0, q1⟩ := HP.out
          refine bodyPost_ret (res3b rfl _ _ rfl q0 q1) rfl ?_
          exact ⟨by rw [E.out]; rfl, HB.out⟩
end Go.Proofs.Ytcechimilefihaa.So
