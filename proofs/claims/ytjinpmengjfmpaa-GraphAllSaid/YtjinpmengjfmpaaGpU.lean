/- The law: all edges; those to and from a task. -/
import Derived.Test.YtjinpmengjfmpaaGpT
import Derived.Test.YtjinpmengjfmpaaGp8
import Derived.Test.YtjinpmengjfmpaaSpP4
namespace Go.Proofs.Ytjinpmengjfmpaa.Gp
open Go.ChangeShapes Go.WideShapes Go.ChangeAt Go.RowKit M Sp

theorem ok_ins {g : Int} {l : List OpP} (hj : OkJ g l) : ∀ i, i < l.length → (insOf l i).length ≤ 12 ∧ ∀ x ∈ insOf l i, ∃ j : Nat, x = j ∧ j < l.length := by
  intro i hi
  have h1 : (insOf l i).length ≤ l.length := nodup_le (fun x hx => by obtain ⟨j, e, hj2, -⟩ := ins_in (hj.alone i hi) x hx; exact ⟨j, e, hj2⟩) (by
    rw [List.nodup_iff_pairwise_ne, List.pairwise_iff_getElem]
    intro a b ha hb hab e
    have := ins_nodup (hj.alone i hi) a b hab hb
    rw [List.getD_eq_getElem?_getD, List.getD_eq_getElem?_getD, List.getElem?_eq_getElem ha, List.getElem?_eq_getElem hb] at this
    exact this (by simpa using e))
  have := hj.len.2
  exact ⟨by omega, fun x hx => by obtain ⟨j, e, hj2, -⟩ := ins_in (hj.alone i hi) x hx; exact ⟨j, e, hj2⟩⟩
theorem edgesP_len {l : List OpP} {par : List Int} (hp : par.length = l.length) (hl : l.length ≤ 12) (h8 : ∀ x ∈ par, x ≤ 8) (hin : ∀ i, i < l.length → (insOf l i).length ≤ 12) : (edgesP l par).length ≤ 9216 := by
  rw [← edgesTo_all]
  have h1 := edgesTo_len (l := l) (par := par) h8 (fun i hi => hin i (by omega)) (spotsP par).length
  have h2 := (show Few par from ⟨by omega, h8⟩).len
  rw [spotsP_len] at h1
  rw [spotsP_len]
  omega

set_option maxRecDepth 100000 in
set_option maxHeartbeats 8000000 in
theorem graphEdges_any (g : Int) (A P : Option Addr) (c cp : Nat) (l : List OpP) (q : Nat → Option Addr × Nat) (hl : l.length ≤ 9223372036854775807) (xs : List Int) (task : Int) (w : World) (hO : IsOps w w.heap.size A l q) (hI : IsInts w w.heap.size ⟨P, cp, xs⟩) :
    Calls Try.prog 4 #[.agg #[.int .i64 g, .slice A l.length c], .slice P xs.length cp, .int .i64 task] w fun e w' => e = .returned (.bool true) ∧ Below w.heap.size w w' := by
  obtain ⟨W0, hW0⟩ : ∃ W0, w.alloc (.cells #[.int .i64 g, .slice A l.length c] 35) = W0 := ⟨_, rfl⟩
  have hz0 : W0.heap.size = w.heap.size + 1 := by rw [← hW0]; simp
  have HW : Hid (∀ Y, Below W0.heap.size W0 Y → Y.cell? ⟨w.heap.size, 0, none⟩ = some (.int .i64 g) ∧ Y.cell? ⟨w.heap.size, 1, none⟩ = some (.slice A l.length c) ∧ IsOps Y w.heap.size A l q ∧ IsInts Y w.heap.size ⟨P, cp, xs⟩ ∧ Below w.heap.size w Y) := Lib.hid (fun Y hY => by
    have hb0 : Below w.heap.size w W0 := hW0 ▸ (Below.refl _ _).alloc (Nat.le_refl _) _
    have hk := (hW0 ▸ Blk.new w _ _ : Blk W0 w.heap.size 35 #[.int .i64 g, .slice A l.length c]).below hY (by omega)
    have h1 := hb0.trans (hY.mono (by omega))
    exact ⟨by simpa using hk.cell 0, by simpa using hk.cell 1, hO.below h1, hI.below h1, h1⟩)
  have HX : Hid (∀ X Y, Below W0.heap.size W0 X → Below X.heap.size X Y → Below W0.heap.size W0 Y) := Lib.hid (fun X Y h1 h2 => through h1 (Nat.le_refl _) h2)
  have H0 := Lib.hid (Below.refl W0.heap.size W0)
  have HW0 := Lib.hid hW0
  have HL := Lib.hid (long_any g A c l q hl W0 w.heap.size (by omega) (HW.out _ H0.out).2.2.1)
  have HZ : Hid (∀ Y, Below W0.heap.size W0 Y → w.heap.size ≤ Y.heap.size) := Lib.hid (fun Y hY => by have := hY.size; omega)
  clear hW0 hO hI hz0
  cases elong : longB l with
  | true =>
    rw [elong] at HL
    clear elong
    go_enter Try.func4, Try.ntmps4
    go_wp2_with fail
    rw [HW0.out]
    refine HL.out.mono ?_
    rintro e w1 ⟨rfl, hb⟩
    have B1 := Lib.hid (HX.out _ _ H0.out hb)
    clear hb
    go_wp2_with fail
    refine (known_any _).mono ?_
    rintro e w2 ⟨rfl, hb⟩
    have HB := Lib.hid (HW.out _ (HX.out _ _ B1.out hb)).2.2.2.2
    clear hb
    go_wp2_with fail
    go_returns
    exact ⟨by first | rfl | simp, HB.out⟩
  | false =>
    obtain ⟨l20, i20⟩ := long_no elong
    rw [elong] at HL
    clear elong
    have HC : Hid (∀ Y, Below W0.heap.size W0 Y → Calls Try.prog 24 #[.agg #[.int .i64 g, .slice A l.length c]] Y fun e w' => e = .returned (.int .i64 (chkE g l)) ∧ Below Y.heap.size Y w') := Lib.hid (fun Y hY => refCheck_any g A c l q (by omega) (fun i hi => by have := i20 i hi; omega) Y w.heap.size (HZ.out Y hY) (HW.out Y hY).2.2.1)
    clear i20
    by_cases hck : chkE g l = 0
    · have hj := ok_of hck
      rw [hck] at HC
      have HJ := Lib.hid hj
      have HIN := Lib.hid (ok_ins hj)
      have hl12 := hj.len.2
      clear hck hj
      have HPA : Hid (∀ Y, Below W0.heap.size W0 Y → Calls Try.prog 25 #[.agg #[.int .i64 g, .slice A l.length c], .slice P xs.length cp] Y (RetInts Y (parsF xs l.length))) := Lib.hid (fun Y hY => pars_any g A P l.length c cp (by omega) xs w.heap.size Y (HZ.out Y hY) (HW.out Y hY).2.2.2.1)
      obtain ⟨par, hpar⟩ : ∃ par, parsF xs l.length = par := ⟨_, rfl⟩
      have HP := Lib.hid (show par.length = l.length by rw [← hpar, parsF_len])
      have HPB := Lib.hid (show ∀ x ∈ par, 1 ≤ x ∧ x ≤ 8 by rw [← hpar]; exact parsF_bd xs l.length)
      rw [hpar] at HPA
      clear hpar
      have HE : Hid (∀ (A1 : Option Addr) (c1 : Nat) (Y : World), Below W0.heap.size W0 Y → IsInts Y Y.heap.size ⟨A1, c1, par⟩ → Calls Try.prog 26 #[.agg #[.int .i64 g, .slice A l.length c], .slice A1 par.length c1] Y (RetPairs 49 Y (edgesP l par))) := Lib.hid (fun A1 c1 Y hY hi => edges_any g A A1 c c1 l q par (by omega) HP.out (fun x hx => (HPB.out x hx).2) HIN.out Y ((HW.out Y hY).2.2.1.more (HZ.out Y hY)) hi)
      have HRE : Hid (∀ (A1 : Option Addr) (c1 : Nat) (Y : World), Below W0.heap.size W0 Y → IsInts Y Y.heap.size ⟨A1, c1, par⟩ → Calls Try.prog 27 #[.agg #[.int .i64 g, .slice A l.length c], .slice A1 par.length c1] Y (RetPairs 49 Y (edgesP l par))) := Lib.hid (fun A1 c1 Y hY hi => refEdges_any g A A1 c c1 l q par (by omega) HP.out (fun x hx => (HPB.out x hx).2) HIN.out Y ((HW.out Y hY).2.2.1.more (HZ.out Y hY)) hi)
      have HEL := Lib.hid (edgesP_len HP.out (by omega) (fun x hx => (HPB.out x hx).2) (fun i hi => (HIN.out i hi).1))
      obtain ⟨E, hE⟩ : ∃ E, edgesP l par = E := ⟨_, rfl⟩
      rw [hE] at HE HRE HEL
      clear hE
      go_enter Try.func4, Try.ntmps4
      go_wp2_with fail
      rw [HW0.out]
      refine HL.out.mono ?_
      rintro e w1 ⟨rfl, hb⟩
      have B1 := Lib.hid (HX.out _ _ H0.out hb)
      clear hb
      obtain ⟨s0, s1, -⟩ := HW.out _ B1.out
      go_wp2_with fail
      refine (HC.out _ B1.out).mono ?_
      rintro e w2 ⟨rfl, hb⟩
      have B2 := Lib.hid (HX.out _ _ B1.out hb)
      clear hb s0 s1 B1
      obtain ⟨s0, s1, -⟩ := HW.out _ B2.out
      go_wp2_with fail
      refine (HPA.out _ B2.out).mono ?_
      rintro e w3 ⟨A1, c1, rfl, own, hb⟩
      have B3 := Lib.hid (HX.out _ _ B2.out hb)
      have HI3 := Lib.hid own.ints
      clear hb s0 s1 B2 own
      obtain ⟨s0, s1, -⟩ := HW.out _ B3.out
      go_wp2_with fail
      refine (HE.out _ _ _ B3.out HI3.out).mono ?_
      rintro e w4 ⟨A4, c4, rfl, own, hb⟩
      have B4 := Lib.hid (HX.out _ _ B3.out hb)
      have HZ3 := Lib.hid B3.out.size
      have HO4 := Lib.hid own
      have HI4 := Lib.hid ((HI3.out.below hb).more hb.size)
      clear hb s0 s1 B3 own HI3
      obtain ⟨s0, s1, -⟩ := HW.out _ B4.out
      go_wp2_with fail
      refine (HRE.out _ _ _ B4.out HI4.out).mono ?_
      rintro e w5 ⟨A5, c5, rfl, own, hb⟩
      have B5 := Lib.hid (HX.out _ _ B4.out hb)
      have HO5 := Lib.hid own
      have HO45 := Lib.hid (HO4.out.below hb)
      have HNE := Lib.hid (show ∀ x y, (Value.slice A4 E.length c4).ownBlock = some x → (Value.slice A5 E.length c5).ownBlock = some y → x < y from fun x y h1 h2 => by have := (HO4.out.blk x h1).2; have := (own.blk y h2).1; omega)
      clear hb s0 s1 B4 own HI4 HO4
      go_wp2_with fail
      refine (sameEdges_any A4 A5 c4 c5 E _ _ w5 HO45.out.pairs HO5.out.pairs).mono ?_
      rintro e w6 ⟨rfl, hb⟩
      have B6 := Lib.hid (HX.out _ _ B5.out hb)
      have HO56 := Lib.hid (HO5.out.below hb)
      have HO46 := Lib.hid (HO45.out.below hb)
      clear hb B5 HO5 HO45
      go_wp2_with fail
      refine (spoilEdges_any A4 c4 E _ w6 HO46.out (by have := HEL.out; omega)).mono ?_
      rintro e w7 ⟨rfl, hg⟩
      have B7 := Lib.hid (show Below W0.heap.size W0 w7 from B6.out.grown hg B6.out.size (fun x hv => by have h1 := (HO46.out.blk x hv).1; have := HZ3.out; omega))
      have HO57 := Lib.hid (HO56.out.grown hg (by
        cases h5 : (Value.slice A5 E.length c5).ownBlock with
        | none => exact .inl rfl
        | some y => right; intro h4; have := HNE.out y y h4.symm h5; omega))
      clear hg B6 HO56 HO46
      have HIS : Hid (∀ Y, Below w7.heap.size w7 Y → Calls Try.prog 30 #[.slice A5 E.length c5, .int .i64 task] Y (RetInts Y (insP E task))) := Lib.hid (fun Y hY => ins_any A5 c5 E task w7.heap.size Y hY.size (HO57.out.pairs.below hY) (by have := HEL.out; omega))
      have HOS : Hid (∀ Y, Below w7.heap.size w7 Y → Calls Try.prog 31 #[.slice A5 E.length c5, .int .i64 task] Y (RetInts Y (outsP E task))) := Lib.hid (fun Y hY => outs_any A5 c5 E task w7.heap.size Y hY.size (HO57.out.pairs.below hY) (by have := HEL.out; omega))
      have HRI : Hid (∀ Y, Below w7.heap.size w7 Y → Calls Try.prog 33 #[.slice A5 E.length c5, .int .i64 task] Y (RetInts Y (insP E task))) := Lib.hid (fun Y hY => refIns_any A5 c5 E task w7.heap.size Y hY.size (HO57.out.pairs.below hY) (by have := HEL.out; omega))
      have HRO : Hid (∀ Y, Below w7.heap.size w7 Y → Calls Try.prog 34 #[.slice A5 E.length c5, .int .i64 task] Y (RetInts Y (outsP E task))) := Lib.hid (fun Y hY => refOuts_any A5 c5 E task w7.heap.size Y hY.size (HO57.out.pairs.below hY) (by have := HEL.out; omega))
      have HL1 := Lib.hid (show (insP E task).length ≤ 9216 from Nat.le_trans (posF_len 0 E) HEL.out)
      have HL2 := Lib.hid (show (outsP E task).length ≤ 9216 from Nat.le_trans (posF_len 0 E) HEL.out)
      obtain ⟨I1, hI1⟩ : ∃ I1, insP E task = I1 := ⟨_, rfl⟩
      obtain ⟨I2, hI2⟩ : ∃ I2, outsP E task = I2 := ⟨_, rfl⟩
      rw [hI1] at HIS HRI HL1
      rw [hI2] at HOS HRO HL2
      clear hI1 hI2
      go_wp2_with fail
      refine (HIS.out _ (Below.refl _ _)).mono ?_
      rintro e w8 ⟨A8, c8, rfl, own, hb⟩
      have C8 := Lib.hid hb
      have HO8 := Lib.hid own
      clear hb own
      go_wp2_with fail
      refine (HOS.out _ C8.out).mono ?_
      rintro e w9 ⟨A9, c9, rfl, own, hb⟩
      have C9 := Lib.hid (through C8.out (Nat.le_refl _) hb)
      have HO9 := Lib.hid own
      have HNB := Lib.hid (show ∀ x y, (Value.slice A8 I1.length c8).ownBlock = some x → (Value.slice A9 I2.length c9).ownBlock = some y → x ≠ y from fun x y h1 h2 => by have := (HO8.out.blk x h1).2; have := (own.blk y h2).1; omega)
      have HO89 := Lib.hid (HO8.out.below hb)
      clear hb own HO8
      go_wp2_with fail
      refine (HRI.out _ C9.out).mono ?_
      rintro e w10 ⟨A10, c10, rfl, own, hb⟩
      have C10 := Lib.hid (through C9.out (Nat.le_refl _) hb)
      have HO10 := Lib.hid own
      have HO910 := Lib.hid (HO9.out.below hb)
      have HO810 := Lib.hid (HO89.out.below hb)
      clear hb own HO9 HO89
      go_wp2_with fail
      have hs := sameInts_any A8 A10 c8 c10 I1 I1 _ _ w10 HO810.out.ints HO10.out.ints
      rw [sameB_yes rfl] at hs
      refine hs.mono ?_
      rintro e w11 ⟨rfl, hb⟩
      have C11 := Lib.hid (through C10.out (Nat.le_refl _) hb)
      have HO911 := Lib.hid (HO910.out.below hb)
      have HO811 := Lib.hid (HO810.out.below hb)
      clear hb hs HO910 HO810 HO10
      go_wp2_with fail
      refine (HRO.out _ C11.out).mono ?_
      rintro e w12 ⟨A12, c12, rfl, own, hb⟩
      have C12 := Lib.hid (through C11.out (Nat.le_refl _) hb)
      have HO12 := Lib.hid own
      have HO912 := Lib.hid (HO911.out.below hb)
      have HO812 := Lib.hid (HO811.out.below hb)
      clear hb own HO911 HO811
      go_wp2_with fail
      have hs := sameInts_any A9 A12 c9 c12 I2 I2 _ _ w12 HO912.out.ints HO12.out.ints
      rw [sameB_yes rfl] at hs
      refine hs.mono ?_
      rintro e w13 ⟨rfl, hb⟩
      have C13 := Lib.hid (through C12.out (Nat.le_refl _) hb)
      have HO913 := Lib.hid (HO912.out.below hb)
      have HO813 := Lib.hid (HO812.out.below hb)
      clear hb hs HO912 HO812 HO12
      go_wp2_with fail
      refine (spoil_any A8 c8 I1 _ w13 HO813.out (by have := HL1.out; omega)).mono ?_
      rintro e w14 ⟨rfl, hg⟩
      have C14 := Lib.hid (show Below w7.heap.size w7 w14 from C13.out.grown hg C13.out.size (fun x hv => (HO813.out.blk x hv).1))
      have HO914 := Lib.hid (HO913.out.grown hg (by
        cases h5 : (Value.slice A9 I2.length c9).ownBlock with
        | none => exact .inl rfl
        | some y => right; intro h4; exact (HNB.out y y h4.symm h5) rfl))
      clear hg HO913 HO813
      go_wp2_with fail
      refine (spoil_any A9 c9 I2 _ w14 HO914.out (by have := HL2.out; omega)).mono ?_
      rintro e w15 ⟨rfl, hg⟩
      have C15 := Lib.hid (show Below w7.heap.size w7 w15 from C14.out.grown hg C14.out.size (fun x hv => by have := (HO914.out.blk x hv).1; have := C8.out.size; omega))
      clear hg HO914
      go_wp2_with fail
      refine (known_any _).mono ?_
      rintro e w16 ⟨rfl, hb⟩
      have HB := Lib.hid (HW.out _ (HX.out _ _ (HX.out _ _ B7.out C15.out) hb)).2.2.2.2
      clear hb
      go_wp2_with fail
      go_returns
      exact ⟨by first | rfl | simp, HB.out⟩
    · have hne : (chkE g l != 0) = true := by simpa using hck
      clear hck
      go_enter Try.func4, Try.ntmps4
      go_wp2_with fail
      rw [HW0.out]
      refine HL.out.mono ?_
      rintro e w1 ⟨rfl, hb⟩
      have B1 := Lib.hid (HX.out _ _ H0.out hb)
      clear hb
      obtain ⟨s0, s1, -⟩ := HW.out _ B1.out
      go_wp2_with fail
      refine (HC.out _ B1.out).mono ?_
      rintro e w2 ⟨rfl, hb⟩
      have B2 := Lib.hid (HX.out _ _ B1.out hb)
      clear hb s0 s1
      go_wp2_with fail
      refine (known_any _).mono ?_
      rintro e w3 ⟨rfl, hb⟩
      have HB := Lib.hid (HW.out _ (HX.out _ _ B2.out hb)).2.2.2.2
      clear hb
      go_wp2_with fail
      go_returns
      exact ⟨by first | rfl | simp, HB.out⟩
end Go.Proofs.Ytjinpmengjfmpaa.Gp
