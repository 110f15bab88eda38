/- The law: of any key, of any operator, it is told where its records go, in new memory. -/
import Derived.Test.YtfpikpglollkoaaRt4
import Derived.Test.YtfpikpglollkoaaRt5
import Derived.Test.YtfpikpglollkoaaSp17
namespace Go.Proofs.Ytfpikpglollkoaa.Rt
open Go.ChangeShapes Go.WideShapes Go.ChangeAt Go.RowKit M Sp

set_option maxRecDepth 100000 in
set_option maxHeartbeats 8000000 in
theorem routeTells_any (g : Int) (A P : Option Addr) (c cp : Nat) (l : List OpP) (q : Nat → Option Addr × Nat) (hl : l.length ≤ 9223372036854775807) (par : List Int) (op key : Int) (w : World) (B B2 : Nat) (hB : B ≤ w.heap.size) (hB2 : B2 ≤ w.heap.size) (h : IsOps w B A l q) (hpar : IsInts w B2 ⟨P, cp, par⟩) :
    Calls Try.prog 9 #[.agg #[.int .i64 g, .slice A l.length c], .slice P par.length cp, .int .i64 op, .int .i64 key] w fun e w' => e = .returned (.bool true) ∧ Below w.heap.size w w' := by
  have HR := Lib.hid (right_any g A P c cp l q hl par op (w.alloc (.cells #[.int .i64 g, .slice A l.length c] 24)) B B2 (by simp; omega) (by simp; omega) (h.alloc hB _) (hpar.below ((Below.refl _ _).alloc hB2 _)))
  have HS : Hid (∀ Y, Below (w.heap.size + 1) (w.alloc (.cells #[.int .i64 g, .slice A l.length c] 24)) Y → Y.cell? ⟨w.heap.size, 0, none⟩ = some (.int .i64 g) ∧ Y.cell? ⟨w.heap.size, 1, none⟩ = some (.slice A l.length c) ∧ Below w.heap.size w Y ∧ IsOps Y w.heap.size A l q ∧ IsInts Y w.heap.size ⟨P, cp, par⟩ ∧ w.heap.size + 1 ≤ Y.heap.size) := fun Y hb =>
    ⟨(hb.cell (p := ⟨w.heap.size, 0, none⟩) (by show w.heap.size < _; omega)).trans (by go_simp), (hb.cell (p := ⟨w.heap.size, 1, none⟩) (by show w.heap.size < _; omega)).trans (by go_simp),
      through ((Below.refl _ _).alloc (Nat.le_refl _) _) (Nat.le_refl _) (hb.mono (by simp)), ((h.more hB).alloc (Nat.le_refl _) _).below (hb.mono (by omega)), ((hpar.more hB2).below ((Below.refl _ _).alloc (Nat.le_refl _) _)).below (hb.mono (by omega)), by have := hb.size; simpa using this⟩
  have HW0 := Lib.hid (show (w.alloc (.cells #[.int .i64 g, .slice A l.length c] 24)).heap.size = w.heap.size + 1 by simp)
  have HX : Hid (∀ (X Y : World), Below (w.heap.size + 1) (w.alloc (.cells #[.int .i64 g, .slice A l.length c] 24)) X → Below X.heap.size X Y → Below (w.heap.size + 1) (w.alloc (.cells #[.int .i64 g, .slice A l.length c] 24)) Y) := fun X Y h1 h2 => through h1 (by simp) h2
  clear h hpar
  cases er : rightB g l par op with
  | false =>
    rw [er] at HR
    clear er
    go_enter Try.func9, Try.ntmps9
    go_wp2_with fail
    refine HR.out.mono ?_
    rintro e w1 ⟨rfl, hb1⟩
    have HB1 := Lib.hid (by rw [HW0.out] at hb1; exact hb1 : Below (w.heap.size + 1) (w.alloc (.cells #[.int .i64 g, .slice A l.length c] 24)) w1)
    clear hb1
    go_wp2_with fail
    refine (works_any _).mono ?_
    rintro e w2 ⟨rfl, hb2⟩
    have HB2 := Lib.hid (HS.out _ (HX.out _ _ HB1.out hb2)).2.2.1
    clear hb2
    go_wp2_with fail
    go_returns
    exact ⟨rfl, HB2.out⟩
  | true =>
  obtain ⟨hj, hpl, hpb, op', eop, hop⟩ := right_of er
  subst eop
  rw [er] at HR
  have HJ := Lib.hid hj
  have HPL := Lib.hid hpl
  have l12 := hj.len.2
  have hp12 : par.length ≤ 12 := by omega
  have I20 : Hid (∀ i, i < l.length → (insOf l i).length ≤ 1000) := fun i hi => by
    have h1 : (insOf l i).length ≤ l.length := nodup_le (fun x hx => by obtain ⟨j, e, hj2, -⟩ := ins_in (hj.alone i hi) x hx; exact ⟨j, e, hj2⟩) (by
      rw [List.nodup_iff_pairwise_ne, List.pairwise_iff_getElem]
      intro a b ha hb hab e
      have := ins_nodup (hj.alone i hi) a b hab hb
      rw [List.getD_eq_getElem?_getD, List.getD_eq_getElem?_getD, List.getElem?_eq_getElem ha, List.getElem?_eq_getElem hb] at this
      exact this (by simpa using e))
    omega
  clear er hj hpl hpb
  go_enter Try.func9, Try.ntmps9
  go_wp2_with fail
  refine HR.out.mono ?_
  rintro e w1 ⟨rfl, hb1⟩
  have HB1 := Lib.hid (by rw [HW0.out] at hb1; exact hb1 : Below (w.heap.size + 1) (w.alloc (.cells #[.int .i64 g, .slice A l.length c] 24)) w1)
  clear hb1
  obtain ⟨s0, s1, -, hio, -, hsz1⟩ := HS.out _ HB1.out
  have HC := Lib.hid (copySpec_any g A c l q (by omega) I20.out w1 _ (by omega) hio)
  clear hio
  go_wp2_with fail
  refine HC.out.mono ?_
  rintro e w2 ⟨A2, c2, q2, rfl, own2, hb2⟩
  have HI2 := Lib.hid own2.ops
  have HB2 := Lib.hid (HX.out _ _ HB1.out hb2)
  clear own2 hb2 s0 s1
  go_upto_region 4 with (fail)
  obtain ⟨X3, hX3⟩ : ∃ X, (w2.alloc (.cells #[.int .i64 g, .slice A2 l.length c2] 24)) = X := ⟨_, rfl⟩
  have k3 : Blk X3 w2.heap.size 24 #[.int .i64 g, .slice A2 l.length c2] := hX3 ▸ Blk.new w2 _ _
  have k3b : Below w2.heap.size w2 X3 := hX3 ▸ ((Below.refl _ _).alloc (Nat.le_refl _) _)
  rw [hX3]
  have HB3 := Lib.hid (HX.out _ _ HB2.out k3b)
  have HI3 := Lib.hid (HI2.out.below k3b)
  have HK3 := Lib.hid k3
  have HZ3 := Lib.hid k3.lt
  obtain ⟨n4, hn4⟩ : ∃ n, w2.heap.size = n := ⟨_, rfl⟩
  rw [hn4] at HI3 HK3 HZ3 ⊢
  clear hX3 k3 k3b HI2 hn4
  obtain ⟨s0, s1, -, -, hpi, hsz3⟩ := HS.out _ HB3.out
  have HLI := Lib.hid (lentInts_any P cp par w.heap.size X3 (by omega) hpi (by omega))
  clear hpi
  go_wp2_with fail
  refine HLI.out.mono ?_
  rintro e w5 ⟨A5, c5, rfl, own5, hb5⟩
  have e5 : (par ++ marksL).length = par.length + 5 := by simp [marksL]
  rw [e5] at own5 ⊢
  have HO5 := Lib.hid own5
  have hc5 : par.length + 5 ≤ c5 ∧ (c5 : Int) ≤ 9223372036854775807 := by
    have h1 := own5.ints.2.1; have h2 := own5.ints.2.2.1; unfold maxLen at h2; simp only [e5] at *; omega
  obtain ⟨hc5a, hc5b⟩ := hc5
  have hc5c : (par.length : Int) ≤ (c5 : Int) := by omega
  have hc5d : (0 : Int) ≤ (par.length : Int) := by omega
  have hc5e : par.length ≤ c5 := by omega
  have HB5 := Lib.hid (HX.out _ _ HB3.out hb5)
  have HK5 := Lib.hid (HK3.out.below hb5 HZ3.out)
  have HI5 := Lib.hid (HI3.out.below (hb5.mono (by have := HZ3.out; omega)))
  have HZ5 := Lib.hid (show n4 < w5.heap.size by have := HZ3.out; have := hb5.size; omega)
  clear own5 hb5 e5 s0 s1 HLI HC
  -- what holds at any later world
  have HF : Hid (∀ Y, Below w5.heap.size w5 Y → (fun (w' : World) => w'.cell? ⟨n4, 0, none⟩ = some (.int .i64 g) ∧ w'.cell? ⟨n4, 1, none⟩ = some (.slice A2 l.length c2) ∧ w'.cell? ⟨w.heap.size, 0, none⟩ = some (.int .i64 g) ∧ w'.cell? ⟨w.heap.size, 1, none⟩ = some (.slice A l.length c) ∧ Below w5.heap.size w5 w') Y) := fun Y hY => by
    obtain ⟨d0, d1, -⟩ := HS.out Y (HX.out _ _ HB5.out hY)
    obtain ⟨t0, t1⟩ := spec_blk (HK5.out.below hY HZ5.out)
    exact ⟨t0, t1, d0, d1, hY⟩
  have H5 : Hid (∀ X Y, Below X.heap.size X Y → Below w5.heap.size w5 X → Below w5.heap.size w5 Y) := fun X Y h1 h2 => through h2 (Nat.le_refl _) h1
  have HT1 : Hid (∀ Y, Below w5.heap.size w5 Y → Calls Try.prog 40 #[.agg #[.int .i64 g, .slice A2 l.length c2], .slice A5 par.length c5, .int .i64 (op' : Int), .int .i64 key] Y (RetPairs 54 Y (targF g l par op' key))) := fun Y hY =>
    targets_any g A2 A5 c2 c5 l q2 par HPL.out (by omega) op' key Y n4 w5.heap.size (by have := HZ5.out; have := hY.size; omega) hY.size (HI5.out.below (hY.mono (by have := HZ5.out; omega))) (by
      have := ints_take (HO5.out.below hY).ints par.length (by simp)
      rw [List.take_left' rfl] at this
      exact (ints_take HO5.out.ints par.length (by simp) |> fun h9 => by rw [List.take_left' rfl] at h9; exact h9.below hY))
  have HT2 : Hid (∀ Y, Below w5.heap.size w5 Y → Calls Try.prog 40 #[.agg #[.int .i64 g, .slice A2 l.length c2], .slice P par.length cp, .int .i64 (op' : Int), .int .i64 key] Y (RetPairs 54 Y (targF g l par op' key))) := fun Y hY =>
    targets_any g A2 P c2 cp l q2 par HPL.out (by omega) op' key Y n4 w.heap.size (by have := HZ5.out; have := hY.size; omega) (by have := (HS.out _ (HX.out _ _ HB5.out hY)).2.2.2.2.2; omega) (HI5.out.below (hY.mono (by have := HZ5.out; omega))) (HS.out _ (HX.out _ _ HB5.out hY)).2.2.2.2.1
  have HT3 : Hid (∀ Y, Below w5.heap.size w5 Y → Calls Try.prog 42 #[.agg #[.int .i64 g, .slice A l.length c], .slice P par.length cp, .int .i64 (op' : Int), .int .i64 key] Y (RetPairs 54 Y (targF g l par op' key))) := fun Y hY => by
    obtain ⟨-, -, -, hio, hpi, hz⟩ := HS.out _ (HX.out _ _ HB5.out hY)
    exact refTargets_any g A P c cp l q par HPL.out (by omega) op' key Y _ _ (by omega) (by omega) hio hpi
  have HSM : Hid (∀ Y, Below w5.heap.size w5 Y → Calls Try.prog 19 #[.agg #[.int .i64 g, .slice A2 l.length c2], .agg #[.int .i64 g, .slice A l.length c]] Y fun e w' => e = .returned (.bool true) ∧ Below Y.heap.size Y w') := fun Y hY => by
    obtain ⟨-, -, -, hio, hpi, hz⟩ := HS.out _ (HX.out _ _ HB5.out hY)
    exact sameSpec_any g A2 A c2 c l q2 q (by omega) Y Y.heap.size (Nat.le_refl _) ((HI5.out.below (hY.mono (by have := HZ5.out; omega))).more (by have := HZ5.out; have := hY.size; omega)) (hio.more (by omega))
  have HKP : Hid (∀ Y, Below w5.heap.size w5 Y → Calls Try.prog 43 #[.slice A5 (par.length + 5) c5, .slice P par.length cp] Y fun e w' => e = .returned (.bool true) ∧ Below Y.heap.size Y w') := fun Y hY => by
    obtain ⟨-, -, -, hio, hpi, hz⟩ := HS.out _ (HX.out _ _ HB5.out hY)
    exact keptInts_any A5 P c5 cp par w5.heap.size _ Y hY.size (HO5.out.ints.below hY) hpi (by omega)
  have HRL : Hid ((targF g l par op' key).length ≤ 1000) := by
    show _ ≤ _
    unfold targF; rw [tasks_len]; have := users_len l op'; omega
  have HEND : Hid (∀ Y, Below w5.heap.size w5 Y → Below w.heap.size w Y) := fun Y hY => (HS.out _ (HX.out _ _ HB5.out hY)).2.2.1
  generalize targF g l par op' key = res at *
  clear HR HS HJ HPL I20 HX HO5
  go_upto_region 5 with (fail)
  go_region_held3 (fun (w' : World) => w'.cell? ⟨n4, 0, none⟩ = some (.int .i64 g) ∧ w'.cell? ⟨n4, 1, none⟩ = some (.slice A2 l.length c2) ∧ w'.cell? ⟨w.heap.size, 0, none⟩ = some (.int .i64 g) ∧ w'.cell? ⟨w.heap.size, 1, none⟩ = some (.slice A l.length c) ∧ Below w5.heap.size w5 w')
    (first | exact HF.out _ (Below.refl _ _).drew | exact HF.out _ (H5.out _ _ (by assumption) (And.right (And.right (And.right (And.right (by assumption)))))))
    ((go_at_call 40; refine (HT1.out _ (And.right (And.right (And.right (And.right (by assumption)))))).mono ?_; rintro e v1 ⟨A6, c6, rfl, o6, q6⟩))
  have HB6 := Lib.hid (show Below w5.heap.size w5 v1 from (And.right (And.right (And.right (And.right (by assumption))))))
  have HO6 := Lib.hid (o6.mono (B' := w5.heap.size) (Nat.le_refl _))
  clear o6 q6
  obtain ⟨t0, t1, s0, s1, -⟩ := HF.out _ HB6.out
  go_wp2_with fail
  refine (HT3.out _ HB6.out).mono ?_
  rintro e w7 ⟨A7, c7, rfl, o7, hb7⟩
  have HB7 := Lib.hid (H5.out _ _ hb7 HB6.out)
  have HO67 := Lib.hid (HO6.out.below hb7)
  have HSA := Lib.hid (sameSpots_any A6 A7 c6 c7 res _ _ w7 HO67.out.pairs o7.pairs)
  clear hb7 o7 t0 t1 s0 s1 HO6
  obtain ⟨t0, t1, s0, s1, -⟩ := HF.out _ HB7.out
  go_wp2_with fail
  refine HSA.out.mono ?_
  rintro e w8 ⟨rfl, hb8⟩
  have HB8 := Lib.hid (H5.out _ _ hb8 HB7.out)
  have HO68 := Lib.hid (HO67.out.below hb8)
  clear hb8 t0 t1 s0 s1 HO67 HSA
  obtain ⟨t0, t1, s0, s1, -⟩ := HF.out _ HB8.out
  go_wp2_with fail
  refine (HSM.out _ HB8.out).mono ?_
  rintro e w9 ⟨rfl, hb9⟩
  have HB9 := Lib.hid (H5.out _ _ hb9 HB8.out)
  have HO69 := Lib.hid (HO68.out.below hb9)
  clear hb9 t0 t1 s0 s1 HO68
  go_wp2_with fail
  refine (HKP.out _ HB9.out).mono ?_
  rintro e w10 ⟨rfl, hb10⟩
  have HB10 := Lib.hid (H5.out _ _ hb10 HB9.out)
  have HO610 := Lib.hid (HO69.out.below hb10)
  have HSP := Lib.hid (spoilSpots_any A6 c6 res _ w10 HO610.out (by have := HRL.out; omega))
  clear hb10 HO69
  go_wp2_with fail
  refine HSP.out.mono ?_
  rintro e w11 ⟨rfl, hg11⟩
  have HB11 := Lib.hid (HB10.out.grown hg11 HB10.out.size (fun z hz => (HO610.out.blk z hz).1))
  clear hg11 HSP HO610
  go_upto_region 9 with (fail)
  go_region_held3 (fun (w' : World) => w'.cell? ⟨n4, 0, none⟩ = some (.int .i64 g) ∧ w'.cell? ⟨n4, 1, none⟩ = some (.slice A2 l.length c2) ∧ w'.cell? ⟨w.heap.size, 0, none⟩ = some (.int .i64 g) ∧ w'.cell? ⟨w.heap.size, 1, none⟩ = some (.slice A l.length c) ∧ Below w5.heap.size w5 w')
    (first | exact HF.out _ HB11.out.drew | exact HF.out _ (H5.out _ _ (by assumption) (And.right (And.right (And.right (And.right (by assumption)))))))
    ((first
      | (go_at_call 40; refine (HT2.out _ (And.right (And.right (And.right (And.right (by assumption)))))).mono ?_; rintro e v1 ⟨Aa, ca, rfl, oa, qa⟩)
      | (go_at_call 42; refine (HT3.out _ (And.right (And.right (And.right (And.right (by assumption)))))).mono ?_; rintro e v2 ⟨Ab, cb, rfl, ob, qb⟩)
      | (go_at_call 41; refine (sameSpots_any Aa Ab ca cb res _ _ _ (oa.below qb).pairs ob.pairs).mono ?_; rintro e v3 ⟨rfl, qc⟩)
      | (go_at_call 38; refine (works_any _).mono ?_; rintro e v4 ⟨rfl, qd⟩)))
  have HE := Lib.hid (HEND.out _ (And.right (And.right (And.right (And.right (by assumption))))))
  clear oa qa ob qb qc qd
  go_wp2
  go_returns
  exact ⟨rfl, HE.out⟩
end Go.Proofs.Ytfpikpglollkoaa.Rt
