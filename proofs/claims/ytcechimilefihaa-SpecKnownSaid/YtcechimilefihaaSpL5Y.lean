/- The law: a job that may be may be with its operators numbered the other way round; with one thing out of its place it may not. -/
import Derived.Test.YtcechimilefihaaZj
import Derived.Test.YtcechimilefihaaSp20Y
import Derived.Test.YtcechimilefihaaPickY
import Derived.Test.YtcechimilefihaaZa

namespace Go.Proofs.Ytcechimilefihaa.Sp
open Go.ChangeShapes Go.WideShapes Go.ChangeAt Go.RowKit M

set_option maxRecDepth 100000 in
set_option maxHeartbeats 8000000 in
theorem specTurned_any (g : Int) (A : Option Addr) (c : Nat) (l : List OpP) (p : Nat → Option Addr × Nat) (hl : l.length ≤ 9223372036854775807) (n0 : Int) (hn0 : In64 n0) (w : World) (B : Nat) (hB : B ≤ w.heap.size) (h : IsOps w B A l p) :
    Calls Try.prog 31 #[.agg #[.int .i64 g, .slice A l.length c], .int .i64 n0] w fun e w' => e = .returned (.bool true) ∧ Below w.heap.size w w' := by
  have HL := Lib.hid (long_any g A c l p hl (w.alloc (.cells #[.int .i64 g, .slice A l.length c] 24)) B (by simp; omega) (h.alloc hB _))
  have HS : Hid (∀ Y, Below (w.heap.size + 1) (w.alloc (.cells #[.int .i64 g, .slice A l.length c] 24)) Y → Y.cell? ⟨w.heap.size, 0, none⟩ = some (.int .i64 g) ∧ Y.cell? ⟨w.heap.size, 1, none⟩ = some (.slice A l.length c) ∧ Below w.heap.size w Y ∧ IsOps Y w.heap.size A l p ∧ w.heap.size + 1 ≤ Y.heap.size) := fun Y hb =>
    ⟨(hb.cell (p := ⟨w.heap.size, 0, none⟩) (by show w.heap.size < _; omega)).trans (by go_simp), (hb.cell (p := ⟨w.heap.size, 1, none⟩) (by show w.heap.size < _; omega)).trans (by go_simp),
      through ((Below.refl _ _).alloc (Nat.le_refl _) _) (Nat.le_refl _) (hb.mono (by simp)), ((h.more hB).alloc (Nat.le_refl _) _).below (hb.mono (by omega)), by have := hb.size; simpa using this⟩
  have HW0 := Lib.hid (show (w.alloc (.cells #[.int .i64 g, .slice A l.length c] 24)).heap.size = w.heap.size + 1 by simp)
  clear h
  cases elong : longB l with
  | true =>
    rw [elong] at HL
    go_enter Try.func31, Try.ntmps31
    go_wp2_with fail
    refine HL.out.mono ?_
    rintro e w1 ⟨rfl, hb1⟩
    have HB1 := Lib.hid (through ((Below.refl _ _).alloc (Nat.le_refl _) _) (Nat.le_refl w.heap.size) hb1)
    clear hb1
    go_wp2_with fail
    refine (known_any _).mono ?_
    rintro e w2 ⟨rfl, hb2⟩
    have HB2 := Lib.hid (through HB1.out (Nat.le_refl _) hb2)
    clear hb2
    go_wp2_with fail
    go_returns
    exact ⟨rfl, HB2.out⟩
  | false =>
  obtain ⟨l20, i20⟩ := long_no elong
  rw [elong] at HL
  clear elong
  have I20 := Lib.hid i20
  clear i20
  go_enter Try.func31, Try.ntmps31
  go_wp2_with fail
  refine HL.out.mono ?_
  rintro e w1 ⟨rfl, hb1⟩
  have HB1 := Lib.hid (by rw [HW0.out] at hb1; exact hb1 : Below (w.heap.size + 1) (w.alloc (.cells #[.int .i64 g, .slice A l.length c] 24)) w1)
  clear hb1
  obtain ⟨s0, s1, -, hio, hsz⟩ := HS.out _ HB1.out
  have HCK := Lib.hid (check_any g A c l p (by omega) w1 _ (by omega) hio)
  clear hio
  cases echk : decide (chkE g l = 0) with
  | false =>
    have hne : chkE g l ≠ 0 := by simpa using echk
    have ht : (chkE g l != 0) = true := by simpa using hne
    generalize chkE g l = z at *
    clear hne echk
    go_wp2_with fail
    refine HCK.out.mono ?_
    rintro e w2 ⟨rfl, hb2⟩
    have HB2 := Lib.hid (through HB1.out (by simp) hb2)
    clear hb2
    go_wp2_with fail
    refine (known_any _).mono ?_
    rintro e w3 ⟨rfl, hb3⟩
    have HB3 := Lib.hid (through HB2.out (by simp) hb3)
    clear hb3
    go_wp2_with fail
    go_returns
    exact ⟨rfl, (HS.out _ HB3.out).2.2.1⟩
  | true =>
  have ez : chkE g l = 0 := by simpa using echk
  have HJ := Lib.hid (ok_of ez)
  rw [ez] at HCK
  clear echk ez
  have l12 := HJ.out.len.2
  have HIX : Hid (∀ i, i < l.length → ∀ x ∈ insOf l i, 0 ≤ x ∧ x < l.length) := fun i hi x hx => by
    obtain ⟨j, rfl, hj, -⟩ := ins_in (HJ.out.alone i hi) x hx
    omega
  have HX : Hid (∀ (X Y : World), Below (w.heap.size + 1) (w.alloc (.cells #[.int .i64 g, .slice A l.length c] 24)) X → Below X.heap.size X Y → Below (w.heap.size + 1) (w.alloc (.cells #[.int .i64 g, .slice A l.length c] 24)) Y) := fun X Y h1 h2 => through h1 (by simp) h2
  have HCOPY : Hid (∀ Y, Below (w.heap.size + 1) (w.alloc (.cells #[.int .i64 g, .slice A l.length c] 24)) Y → Calls Try.prog 47 #[.agg #[.int .i64 g, .slice A l.length c]] Y (RetSpecR Y g l)) := fun Y hY => by
    obtain ⟨-, -, -, hio, hz⟩ := HS.out Y hY
    exact copySpecR_any g A c l p (by omega) (fun i hi => by have := I20.out i hi; omega) Y _ (by omega) hio
  go_wp2_with fail
  refine HCK.out.mono ?_
  rintro e w2 ⟨rfl, hb2⟩
  have HB2 := Lib.hid (HX.out _ _ HB1.out hb2)
  clear hb2 s0 s1
  obtain ⟨s0, s1, -, hio, hsz2⟩ := HS.out _ HB2.out
  have HT := Lib.hid (turned_any g A c l p (by omega) (fun i hi => by have := I20.out i hi; omega) HIX.out w2 _ (by omega) hio)
  clear hio
  go_wp2_with fail
  refine HT.out.mono ?_
  rintro e w3 ⟨A2, c2, p2, rfl, hown3, hb3⟩
  have HI3 := Lib.hid hown3.ops
  have HB3 := Lib.hid (HX.out _ _ HB2.out hb3)
  rw [turnL_len] at *
  clear hown3 hb3 s0 s1
  obtain ⟨s0, s1, -, -, hsz3⟩ := HS.out _ HB3.out
  go_upto_region 4 with (fail)
  obtain ⟨X3, hX3⟩ : ∃ X, (w3.alloc (.cells #[.int .i64 g, .slice A2 l.length c2] 24)) = X := ⟨_, rfl⟩
  have k3 : Blk X3 w3.heap.size 24 #[.int .i64 g, .slice A2 l.length c2] := hX3 ▸ Blk.new w3 _ _
  have k3s : X3.heap.size = w3.heap.size + 1 := hX3 ▸ (by simp)
  have k3b : Below w3.heap.size w3 X3 := hX3 ▸ ((Below.refl _ _).alloc (Nat.le_refl _) _)
  (try rw [hX3])
  have HX3 := Lib.hid k3
  have HX3S := Lib.hid k3s
  have HX3B := Lib.hid (HX.out _ _ HB3.out k3b)
  have HTI : Hid (∀ Y, Below X3.heap.size X3 Y → IsOps Y w3.heap.size A2 (turnL l) p2 ∧ X3.heap.size ≤ Y.heap.size) := fun Y hY => ⟨(HI3.out.below k3b).below (hY.mono (by omega)), hY.size⟩
  have HS5 : Hid (∀ Y, Below X3.heap.size X3 Y → (fun (w' : World) => w'.cell? ⟨w3.heap.size, 0, none⟩ = some (.int .i64 g) ∧ w'.cell? ⟨w3.heap.size, 1, none⟩ = some (.slice A2 l.length c2) ∧ w'.cell? ⟨w.heap.size, 0, none⟩ = some (.int .i64 g) ∧ w'.cell? ⟨w.heap.size, 1, none⟩ = some (.slice A l.length c) ∧ Below X3.heap.size X3 w') Y) := fun Y hY => by
    obtain ⟨d0, d1, -⟩ := HS.out Y (HX.out _ _ HX3B.out hY)
    obtain ⟨t0, t1⟩ := spec_blk (HX3.out.below hY (by rw [HX3S.out]; omega))
    exact ⟨t0, t1, d0, d1, hY⟩
  have H5 : Hid (∀ X Y, Below X.heap.size X Y → Below X3.heap.size X3 X → Below X3.heap.size X3 Y) := fun X Y h1 h2 => through h2 (Nat.le_refl _) h1
  have HTC : Hid (∀ Y, Below X3.heap.size X3 Y → Calls Try.prog 28 #[.agg #[.int .i64 g, .slice A2 l.length c2]] Y fun e w' => e = .returned (.int .i64 0) ∧ Below Y.heap.size Y w') := fun Y hY => by
    obtain ⟨h1, h2⟩ := HTI.out Y hY
    have := check_any g A2 c2 (turnL l) p2 (by rw [turnL_len]; omega) Y _ (by rw [HX3S.out] at h2; omega) h1
    rw [turnL_len, chk_of (turn_ok HJ.out)] at this
    exact this
  have HKL : Hid (∀ kd, (kindF l kd).length ≤ 20) := fun kd => by
    have h1 := whichF_len (fun i => kindOf l i == kd) l.length
    have h2 : kindF l kd = whichF (fun i => kindOf l i == kd) l.length := rfl
    rw [h2]; omega
  obtain ⟨n1, hn1⟩ : ∃ n, (kindF l 1).length = n := ⟨_, rfl⟩
  obtain ⟨n8, hn8⟩ : ∃ n, (kindF l 8).length = n := ⟨_, rfl⟩
  have l1 := HKL.out 1
  have l8 := HKL.out 8
  rw [hn1] at l1
  rw [hn8] at l8
  have HT1 : Hid (∀ Y, Below X3.heap.size X3 Y → Calls Try.prog 22 #[.agg #[.int .i64 g, .slice A2 l.length c2]] Y fun e w' => ∃ a b, e = .returned (.slice a n1 b) ∧ Below Y.heap.size Y w') := fun Y hY => by
    obtain ⟨h1, h2⟩ := HTI.out Y hY
    have := sources_any g A2 c2 (turnL l) p2 Y _ (by rw [HX3S.out] at h2; omega) h1 (by rw [turnL_len]; omega)
    rw [turnL_len] at this
    refine this.mono ?_
    rintro e w' ⟨a, b, rfl, -, hb⟩
    exact ⟨a, b, by rw [turn_kinds, hn1], hb⟩
  have HT8 : Hid (∀ Y, Below X3.heap.size X3 Y → Calls Try.prog 23 #[.agg #[.int .i64 g, .slice A2 l.length c2]] Y fun e w' => ∃ a b, e = .returned (.slice a n8 b) ∧ Below Y.heap.size Y w') := fun Y hY => by
    obtain ⟨h1, h2⟩ := HTI.out Y hY
    have := sinks_any g A2 c2 (turnL l) p2 Y _ (by rw [HX3S.out] at h2; omega) h1 (by rw [turnL_len]; omega)
    rw [turnL_len] at this
    refine this.mono ?_
    rintro e w' ⟨a, b, rfl, -, hb⟩
    exact ⟨a, b, by rw [turn_kinds, hn8], hb⟩
  have HL1 : Hid (∀ Y, Below X3.heap.size X3 Y → Calls Try.prog 22 #[.agg #[.int .i64 g, .slice A l.length c]] Y fun e w' => ∃ a b, e = .returned (.slice a n1 b) ∧ Below Y.heap.size Y w') := fun Y hY => by
    obtain ⟨-, -, -, hio, hz⟩ := HS.out Y (HX.out _ _ HX3B.out hY)
    refine (sources_any g A c l p Y _ (by omega) hio (by omega)).mono ?_
    rintro e w' ⟨a, b, rfl, -, hb⟩
    exact ⟨a, b, by rw [hn1], hb⟩
  have HL8 : Hid (∀ Y, Below X3.heap.size X3 Y → Calls Try.prog 23 #[.agg #[.int .i64 g, .slice A l.length c]] Y fun e w' => ∃ a b, e = .returned (.slice a n8 b) ∧ Below Y.heap.size Y w') := fun Y hY => by
    obtain ⟨-, -, -, hio, hz⟩ := HS.out Y (HX.out _ _ HX3B.out hY)
    refine (sinks_any g A c l p Y _ (by omega) hio (by omega)).mono ?_
    rintro e w' ⟨a, b, rfl, -, hb⟩
    exact ⟨a, b, by rw [hn8], hb⟩
  clear hn1 hn8 k3 k3s k3b hX3 s0 s1
  have t1 : ((n1 : Int) != (n1 : Int)) = false := by simp
  have t8 : ((n8 : Int) != (n8 : Int)) = false := by simp
  go_region_held3 (fun (w' : World) => w'.cell? ⟨w3.heap.size, 0, none⟩ = some (.int .i64 g) ∧ w'.cell? ⟨w3.heap.size, 1, none⟩ = some (.slice A2 l.length c2) ∧ w'.cell? ⟨w.heap.size, 0, none⟩ = some (.int .i64 g) ∧ w'.cell? ⟨w.heap.size, 1, none⟩ = some (.slice A l.length c) ∧ Below X3.heap.size X3 w')
    (first | exact HS5.out _ (Below.refl _ _).drew | exact HS5.out _ (H5.out _ _ (by assumption) (And.right (And.right (And.right (And.right (by assumption)))))))
    ((first
      | (go_at_call 28; refine (HTC.out _ (And.right (And.right (And.right (And.right (by assumption)))))).mono ?_; rintro e v1 ⟨rfl, q1⟩)
      | (go_at_call_of 22 A2; refine (HT1.out _ (And.right (And.right (And.right (And.right (by assumption)))))).mono ?_; rintro e v2 ⟨a2, b2, rfl, q2⟩)
      | (go_at_call_of 23 A2; refine (HT8.out _ (And.right (And.right (And.right (And.right (by assumption)))))).mono ?_; rintro e v3 ⟨a3, b3, rfl, q3⟩)
      | (go_at_call 22; refine (HL1.out _ (And.right (And.right (And.right (And.right (by assumption)))))).mono ?_; rintro e v4 ⟨a4, b4, rfl, q4⟩)
      | (go_at_call 23; refine (HL8.out _ (And.right (And.right (And.right (And.right (by assumption)))))).mono ?_; rintro e v5 ⟨a5, b5, rfl, q5⟩)))
  have HW5 := Lib.hid (HX.out _ _ HX3B.out (show Below X3.heap.size X3 v5 from (And.right (And.right (And.right (And.right (by assumption)))))))
  clear t1 t8 l1 l8 HT1 HT8 HL1 HL8 HTC HTI HS5 H5 q1 q2 q3 q4 q5
  obtain ⟨s0, s1, -, hio5, hsz5⟩ := HS.out _ HW5.out
  obtain ⟨nn, hnn, hnl⟩ : ∃ nn : Nat, pickF n0 l.length = nn ∧ nn < l.length := by
    have := pickF_bd (k := n0) (n := l.length) (by have := HJ.out.len.1; omega)
    exact ⟨(pickF n0 l.length).toNat, by omega, by omega⟩
  have hoi : OpIn (opOf l nn) := (hio5.2 nn hnl).1
  have HOI := Lib.hid hoi
  have HP := Lib.hid (pick_any n0 l.length v5 (by unfold In64; omega) hn0)
  rw [hnn] at HP
  clear hnn hio5 hoi
  go_wp2_with fail
  refine HP.out.mono ?_
  rintro e w6 ⟨rfl, rfl⟩
  clear HP
  go_wp2_with fail
  -- the copy whose cost is spoiled
  refine (HCOPY.out _ HW5.out).mono ?_
  rintro e wa ⟨Aa, ca, pa, rfl, owna, hba, -⟩
  clear s0 s1
  go_upto_region 8 with (fail)
  obtain ⟨Xa, hXa⟩ : ∃ X, (wa.alloc (.cells #[.int .i64 g, .slice Aa l.length ca] 24)) = X := ⟨_, rfl⟩
  obtain ⟨ga, rfl, hga, qa0, qa1, fa, la, puta⟩ := copy_put owna hba hnl (j := 7) (by omega) (.int .i64 1001) { opOf l nn with cost := 1001 } (fun k hk => by rcases (show k = 0 ∨ k = 1 ∨ k = 2 ∨ k = 3 ∨ k = 4 ∨ k = 5 ∨ k = 6 ∨ k = 7 by omega) with rfl | rfl | rfl | rfl | rfl | rfl | rfl | rfl <;> rfl) ⟨HOI.out.1, HOI.out.2.1, HOI.out.2.2.1, HOI.out.2.2.2.1, HOI.out.2.2.2.2.1, HOI.out.2.2.2.2.2.1, (by show In64 1001; unfold In64; omega)⟩ rfl hXa
  rw [hXa]
  clear hXa owna
  have PUT := Lib.hid puta
  have HBA := Lib.hid hba
  clear puta hba
  go_upto_region 9 with (fail)
  obtain ⟨Wa, hWa⟩ : ∃ W, Xa.setCell ⟨ga, nn * 8 + 7, none⟩ (.int .i64 1001) = W := ⟨_, rfl⟩
  obtain ⟨ba, sza, ka, ia⟩ := PUT.out _ hWa
  rw [hWa]
  have HWa := Lib.hid (HX.out _ _ HW5.out ba)
  obtain ⟨na, hna⟩ : ∃ n, wa.heap.size = n := ⟨_, rfl⟩
  rw [hna] at ka ia sza ⊢
  have HKa := Lib.hid ka
  have HIa := Lib.hid ia
  have HSa := Lib.hid sza
  clear hWa qa0 qa1 fa la ba ka ia sza PUT HBA hga hna
  obtain ⟨s0, s1, -⟩ := HS.out _ HWa.out
  go_wp2_with fail
  -- the copy whose kind is spoiled
  refine (HCOPY.out _ HWa.out).mono ?_
  rintro e wb ⟨Ab, cb, pb, rfl, ownb, hbb, -⟩
  clear s0 s1
  go_upto_region 10 with (fail)
  obtain ⟨Xb, hXb⟩ : ∃ X, (wb.alloc (.cells #[.int .i64 g, .slice Ab l.length cb] 24)) = X := ⟨_, rfl⟩
  obtain ⟨gb, rfl, hgb, qb0, qb1, fb, lb, putb⟩ := copy_put ownb hbb hnl (j := 0) (by omega) (.int .i64 9) { opOf l nn with kind := 9 } (fun k hk => by rcases (show k = 0 ∨ k = 1 ∨ k = 2 ∨ k = 3 ∨ k = 4 ∨ k = 5 ∨ k = 6 ∨ k = 7 by omega) with rfl | rfl | rfl | rfl | rfl | rfl | rfl | rfl <;> rfl) ⟨(by show In64 9; unfold In64; omega), HOI.out.2.1, HOI.out.2.2.1, HOI.out.2.2.2.1, HOI.out.2.2.2.2.1, HOI.out.2.2.2.2.2.1, HOI.out.2.2.2.2.2.2⟩ rfl hXb
  rw [hXb]
  simp only [Nat.add_zero] at fb lb putb
  clear hXb ownb
  have PUT := Lib.hid putb
  clear putb hbb
  go_upto_region 11 with (fail)
  obtain ⟨Wb, hWb⟩ : ∃ W, Xb.setCell ⟨gb, nn * 8, none⟩ (.int .i64 9) = W := ⟨_, rfl⟩
  obtain ⟨bb, szb, kb, ib⟩ := PUT.out _ hWb
  rw [hWb]
  have HAB := Lib.hid bb
  have HWb := Lib.hid (HX.out _ _ HWa.out bb)
  obtain ⟨nb, hnb⟩ : ∃ n, wb.heap.size = n := ⟨_, rfl⟩
  rw [hnb] at kb ib szb ⊢
  have HKb := Lib.hid kb
  have HIb := Lib.hid ib
  have HSb := Lib.hid szb
  clear hWb qb0 qb1 fb lb bb kb ib szb PUT hgb hnb
  obtain ⟨s0, s1, -⟩ := HS.out _ HWb.out
  go_wp2_with fail
  -- the copy whose groups are spoiled
  refine (HCOPY.out _ HWb.out).mono ?_
  rintro e wc ⟨Ac, cc, pc, rfl, ownc, hbc, -⟩
  clear s0 s1
  go_upto_region 12 with (fail)
  obtain ⟨Xc, hXc⟩ : ∃ X, (wc.alloc (.cells #[.int .i64 g, .slice Ac l.length cc] 24)) = X := ⟨_, rfl⟩
  have kc : Blk Xc wc.heap.size 24 #[.int .i64 g, .slice Ac l.length cc] := hXc ▸ Blk.new _ _ _
  have xc : Below wc.heap.size wc Xc := hXc ▸ ((Below.refl _ _).alloc (Nat.le_refl _) _)
  rw [hXc]
  obtain ⟨qc0, qc1⟩ := spec_blk kc
  have fc := kc.frozen 0
  have HKX := Lib.hid kc
  have HXC := Lib.hid xc
  have HOC := Lib.hid ownc.ops
  have HBC := Lib.hid hbc
  clear hXc kc xc ownc hbc
  go_upto_region 13 with (fail)
  obtain ⟨Wc, hWc⟩ : ∃ W, Xc.setCell ⟨wc.heap.size, 0, none⟩ (.int .i64 65) = W := ⟨_, rfl⟩
  rw [hWc]
  have kc : Blk Wc wc.heap.size 24 #[.int .i64 65, .slice Ac l.length cc] := hWc ▸ HKX.out.set_ 0 (.int .i64 65)
  have xc : Below wc.heap.size wc Wc := hWc ▸ HXC.out.setCell (Nat.le_refl _) _
  have HBCD := Lib.hid (through HBC.out (Nat.le_refl _) xc)
  have HWc := Lib.hid (HX.out _ _ HWb.out (through HBC.out (Nat.le_refl _) xc))
  have HIc := Lib.hid (HOC.out.below xc)
  have HSc := Lib.hid kc.lt
  have HKc := Lib.hid kc
  obtain ⟨nc, hnc⟩ : ∃ n, wc.heap.size = n := ⟨_, rfl⟩
  rw [hnc] at HKc HIc HSc ⊢
  clear hWc qc0 qc1 fc kc xc HKX HXC HOC HBC hnc
  obtain ⟨s0, s1, -⟩ := HS.out _ HWc.out
  go_wp2_with fail
  -- the copy of which an operator is its own input
  refine (HCOPY.out _ HWc.out).mono ?_
  rintro e wd ⟨Ad, cd, pd, rfl, ownd, hbd, rised⟩
  clear s0 s1
  go_upto_region 14 with (fail)
  obtain ⟨Xd, hXd⟩ : ∃ X, (wd.alloc (.cells #[.int .i64 g, .slice Ad l.length cd] 24)) = X := ⟨_, rfl⟩
  obtain ⟨gd, rfl, hgd, d0, d1, dl, dsz, dY, downn, dne, dapp⟩ := copy_app ownd hbd rised hnl hXd (nn : Int) (o := .cells #[.int .i64 (nn : Int)] 3)
  rw [hXd]
  have DAPP := Lib.hid dapp
  have DOWN := Lib.hid ((downn.alloc (.cells #[.int .i64 (nn : Int)] 3)).drew)
  have hil20 := I20.out nn hnl
  obtain ⟨nd, hnd⟩ : ∃ n, wd.heap.size = n := ⟨_, rfl⟩
  rw [hnd] at d0 d1 dsz DAPP dne hgd ⊢
  clear hXd ownd hbd rised dapp downn hnd
  have d2 : (Xd.alloc (.cells #[.int .i64 (nn : Int)] 3)).cell? ⟨gd, nn * 8 + 1, none⟩ = some (.slice (pd nn).1 (insOf l nn).length (pd nn).2) := (World.cell?_alloc_lt Xd _ _ (by show gd < Xd.heap.size; omega)).trans dl
  have d3 : (Xd.alloc (.cells #[.int .i64 (nn : Int)] 3)).cell? ⟨nd, 0, none⟩ = some (.int .i64 g) ∧ (Xd.alloc (.cells #[.int .i64 (nn : Int)] 3)).cell? ⟨nd, 1, none⟩ = some (.slice (some ⟨gd, 0, none⟩) l.length cd) := ⟨(World.cell?_alloc_lt Xd _ _ (by show nd < Xd.heap.size; omega)).trans d0, (World.cell?_alloc_lt Xd _ _ (by show nd < Xd.heap.size; omega)).trans d1⟩
  have D3 := Lib.hid d3
  have D0 := Lib.hid d0
  have D1 := Lib.hid d1
  have hlz : (insOf l nn).length < 1000000000 := by omega
  have hu64 : In64 (nn : Int) := by unfold In64; omega
  have HU64 := Lib.hid hu64
  have HLZ := Lib.hid hlz
  have HNC : Hid ((Xd.alloc (.cells #[.int .i64 (nn : Int)] 3)).drew.cell? ⟨Xd.heap.size, 0, none⟩ = some (.int .i64 (nn : Int))) := (Blk.new Xd 3 #[.int .i64 (nn : Int)]).drew.cell 0
  have DSZ := Lib.hid dsz
  have DY := Lib.hid dY
  have hnl2 : (nn : Int) < (l.length : Int) := by omega
  have hnl3 : (0 : Int) ≤ (nn : Int) := by omega
  obtain ⟨ys, hys⟩ : ∃ ys, insOf l nn = ys := ⟨_, rfl⟩
  have HYS := Lib.hid hys
  rw [hys] at DAPP DOWN dl d2 HLZ hil20
  generalize (pd nn).1 = qa at *
  generalize (pd nn).2 = qc at *
  clear d3 dsz dY hu64 hlz hys
  refine wp_region_held_drew (S := (fun (w' : World) => w'.cell? ⟨nd, 0, none⟩ = some (.int .i64 g) ∧ w'.cell? ⟨nd, 1, none⟩ = some (.slice (some ⟨gd, 0, none⟩) l.length cd))) (by kernel_rfl) ⟨D0.out, D1.out⟩ (fun hHeld => ?_)
  (refine held_take 0 (by kernel_rfl) (by kernel_rfl) (by kernel_rfl) (by assumption) ?_; simp only [List.getElem?_toArray, List.getElem?_cons_zero]; refine ⟨fun _ _ _ _ h => h, ?_, Or.inl ⟨by kernel_rfl, ?_⟩, ?_⟩; rotate_left; (focus (intro wS hSw; (try dsimp only at hSw); go_simp; try with_reducible rfl)); (try simp only [Act.put, List.setIfInBounds_toArray, List.set_cons_zero, List.set_cons_succ]))
  (refine held_take 1 (by kernel_rfl) (by kernel_rfl) (by kernel_rfl) (by assumption) ?_; simp only [List.getElem?_toArray, List.getElem?_cons_succ, List.getElem?_cons_zero]; refine ⟨fun _ _ _ _ h => h, ?_, Or.inl ⟨by kernel_rfl, ?_⟩, ?_⟩; rotate_left; (focus (intro wS hSw; (try dsimp only at hSw); go_simp; try with_reducible rfl)); (try simp only [Act.put, List.setIfInBounds_toArray, List.set_cons_zero, List.set_cons_succ]))
  (refine held_take 2 (by kernel_rfl) (by kernel_rfl) (by kernel_rfl) (by assumption) ?_; simp only [List.getElem?_toArray, List.getElem?_cons_succ, List.getElem?_cons_zero]; refine ⟨fun _ _ _ _ h => h, ?_, Or.inl ⟨by kernel_rfl, ?_⟩, ?_⟩; rotate_left; (focus (intro wS hSw; (try dsimp only at hSw); go_simp; try with_reducible rfl)); (try simp only [Act.put, List.setIfInBounds_toArray, List.set_cons_zero, List.set_cons_succ]))
  (refine held_take 3 (by kernel_rfl) (by kernel_rfl) (by kernel_rfl) (by assumption) ?_; simp only [List.getElem?_toArray, List.getElem?_cons_succ, List.getElem?_cons_zero]; refine ⟨fun _ _ _ _ h => h, ?_, Or.inl ⟨by kernel_rfl, ?_⟩, ?_⟩; rotate_left; (focus (intro wS hSw; (try dsimp only at hSw); go_simp; try with_reducible rfl)); (try simp only [Act.put, List.setIfInBounds_toArray, List.set_cons_zero, List.set_cons_succ]))
  (refine held_take 4 (by kernel_rfl) (by kernel_rfl) (by kernel_rfl) (by assumption) ?_; simp only [List.getElem?_toArray, List.getElem?_cons_succ, List.getElem?_cons_zero]; refine ⟨fun _ _ _ _ h => h, ?_, Or.inl ⟨by kernel_rfl, ?_⟩, ?_⟩; rotate_left; (focus (intro wS hSw; (try dsimp only at hSw); go_simp; try with_reducible rfl)); (try simp only [Act.put, List.setIfInBounds_toArray, List.set_cons_zero, List.set_cons_succ]))
  (refine held_take 5 (by kernel_rfl) (by kernel_rfl) (by kernel_rfl) (by assumption) ?_; simp only [List.getElem?_toArray, List.getElem?_cons_succ, List.getElem?_cons_zero]; refine ⟨fun _ _ _ _ h => h, ?_, Or.inl ⟨by kernel_rfl, ?_⟩, ?_⟩; rotate_left; (focus (intro wS hSw; (try dsimp only at hSw); go_simp; try with_reducible rfl)); (try simp only [Act.put, List.setIfInBounds_toArray, List.set_cons_zero, List.set_cons_succ]))
  (refine held_take 6 (by kernel_rfl) (by kernel_rfl) (by kernel_rfl) (by assumption) ?_; simp only [List.getElem?_toArray, List.getElem?_cons_succ, List.getElem?_cons_zero]; refine ⟨fun _ _ _ _ h => h, ?_, Or.inl ⟨by kernel_rfl, ?_⟩, ?_⟩; rotate_left; (focus (intro wS hSw; (try dsimp only at hSw); go_simp; try with_reducible rfl)); (try simp only [Act.put, List.setIfInBounds_toArray, List.set_cons_zero, List.set_cons_succ]))
  (refine held_take 7 (by kernel_rfl) (by kernel_rfl) (by kernel_rfl) (by assumption) ?_; simp only [List.getElem?_toArray, List.getElem?_cons_succ, List.getElem?_cons_zero]; refine ⟨fun _ _ _ _ h => h, ?_, Or.inl ⟨by kernel_rfl, ?_⟩, ?_⟩; rotate_left; (focus (intro wS hSw; (try dsimp only at hSw); go_simp; try with_reducible rfl)); (try simp only [Act.put, List.setIfInBounds_toArray, List.set_cons_zero, List.set_cons_succ]))
  (refine held_take 9 (by kernel_rfl) (by kernel_rfl) (by kernel_rfl) (by assumption) ?_; simp only [List.getElem?_toArray, List.getElem?_cons_succ, List.getElem?_cons_zero]; refine ⟨fun _ _ _ _ h => h, ?_, Or.inl ⟨by kernel_rfl, ?_⟩, ?_⟩; rotate_left; (focus (intro wS hSw; (try dsimp only at hSw); go_simp; try with_reducible rfl)); (try simp only [Act.put, List.setIfInBounds_toArray, List.set_cons_zero, List.set_cons_succ]))
  refine held_two 8 10 (by kernel_rfl) ?_ ?_
  case' refine_1 =>
    (simp only [List.getElem?_toArray, List.getElem?_cons_succ, List.getElem?_cons_zero]; intro K hK; go_simp)
    (go_wp2_with fail; refine hK.out _ _ ?_ (fun hHeld => ?_); (focus (exact ⟨D0.out, D1.out⟩)); clear hK K; (try simp only [Act.put, List.setIfInBounds_toArray, List.set_cons_zero, List.set_cons_succ]))
    (refine held_one 10 (by kernel_rfl) ?_; simp only [List.getElem?_toArray, List.getElem?_cons_succ, List.getElem?_cons_zero]; intro K hK; go_simp)
    (go_wp2_with fail; refine hK.out _ _ ?_ (fun hHeld => ?_); (focus (exact D3.out)); clear hK K; (try simp only [Act.put, List.setIfInBounds_toArray, List.set_cons_zero, List.set_cons_succ]))
  case' refine_2 =>
    (simp only [List.getElem?_toArray, List.getElem?_cons_succ, List.getElem?_cons_zero]; intro K hK; go_simp)
    (go_wp2_with fail; refine hK.out _ _ ?_ (fun hHeld => ?_); (focus (exact D3.out)); clear hK K; (try simp only [Act.put, List.setIfInBounds_toArray, List.set_cons_zero, List.set_cons_succ]))
    (refine held_one 8 (by kernel_rfl) ?_; simp only [List.getElem?_toArray, List.getElem?_cons_succ, List.getElem?_cons_zero]; intro K hK; go_simp)
    (go_wp2_with fail; refine hK.out _ _ ?_ (fun hHeld => ?_); (focus (exact D3.out)); clear hK K; (try simp only [Act.put, List.setIfInBounds_toArray, List.set_cons_zero, List.set_cons_succ]))
  all_goals
    (refine held_one 11 (by kernel_rfl) ?_; simp only [List.getElem?_toArray, List.getElem?_cons_succ, List.getElem?_cons_zero]; intro K hK)
    rw [if_pos (by kernel_rfl)]
    refine wp_int (.tmp 73) (.tmp 75) rfl Wc.heap.size (by rfl) DOWN.out HU64.out ⟨Xd.heap.size, 0, none⟩ (by rfl) HNC.out HLZ.out (by have h9 := DY.out; simp; omega) ?_
    intro g5 c5 w5 own5 grow5
    obtain ⟨e0, e1, ef, ⟨ev, el⟩, put⟩ := DAPP.out g5 c5 w5 own5 grow5
    have PUT := Lib.hid put
    clear put own5 grow5 d2 d0 d1 dl
    refine hK.out _ _ ?_ (fun hHeld => ?_)
    · exact ⟨e0, e1⟩
    clear hK K
    try simp only [Act.put, List.setIfInBounds_toArray, List.set_cons_zero, List.set_cons_succ]
    (refine held_take 12 (by kernel_rfl) (by kernel_rfl) (by kernel_rfl) (by assumption) ?_; simp only [List.getElem?_toArray, List.getElem?_cons_succ, List.getElem?_cons_zero]; refine ⟨fun _ _ _ _ h => h, ?_, Or.inl ⟨by kernel_rfl, ?_⟩, ?_⟩; rotate_left; (focus (intro wS hSw; (try dsimp only at hSw); go_simp; try with_reducible rfl)); (try simp only [Act.put, List.setIfInBounds_toArray, List.set_cons_zero, List.set_cons_succ]))
    (refine held_take 13 (by kernel_rfl) (by kernel_rfl) (by kernel_rfl) (by assumption) ?_; simp only [List.getElem?_toArray, List.getElem?_cons_succ, List.getElem?_cons_zero]; refine ⟨fun _ _ _ _ h => h, ?_, Or.inl ⟨by kernel_rfl, ?_⟩, ?_⟩; rotate_left; (focus (intro wS hSw; (try dsimp only at hSw); go_simp; try with_reducible rfl)); (try simp only [Act.put, List.setIfInBounds_toArray, List.set_cons_zero, List.set_cons_succ]))
    (refine held_one 14 (by kernel_rfl) ?_; simp only [List.getElem?_toArray, List.getElem?_cons_succ, List.getElem?_cons_zero]; intro K hK; go_simp)
    obtain ⟨W, hW⟩ : ∃ W, w5.setCell ⟨gd, nn * 8 + 1, none⟩ (.slice (some ⟨g5, 0, none⟩) (ys.length + 1) c5) = W := ⟨_, rfl⟩
    rw [hW]
    obtain ⟨z1, z2, z3, z4⟩ := PUT.out W hW
    obtain ⟨y0, y1⟩ := spec_blk z3
    refine hK.out _ _ ?_ (fun hHeld => ?_)
    · exact ⟨y0, y1⟩
    clear hK K PUT hW e0 e1 ef el
    try simp only [Act.put, List.setIfInBounds_toArray, List.set_cons_zero, List.set_cons_succ]
    (refine wpAnyH_done (by kernel_rfl) ?_ _)
    have HAC : Hid (∀ Y, Below W.heap.size W Y → Below Wc.heap.size Wc Y) := fun Y hY => through z1 (Nat.le_refl _) hY
    have HBC : Hid (∀ Y, Below W.heap.size W Y → Below Wb.heap.size Wb Y) := fun Y hY => through HBCD.out (Nat.le_refl _) (HAC.out Y hY)
    have HAA : Hid (∀ Y, Below W.heap.size W Y → Below Wa.heap.size Wa Y) := fun Y hY => through HAB.out (Nat.le_refl _) (HBC.out Y hY)
    have HCA : Hid (∀ Y, Below W.heap.size W Y → Y.cell? ⟨na, 0, none⟩ = some (.int .i64 g) ∧ Y.cell? ⟨na, 1, none⟩ = some (.slice (some ⟨ga, 0, none⟩) l.length ca) ∧ Calls Try.prog 28 #[.agg #[.int .i64 g, .slice (some ⟨ga, 0, none⟩) l.length ca]] Y fun e w' => e = .returned (.int .i64 1) ∧ Below Y.heap.size Y w') := fun Y hY => by
      have hb := HAA.out Y hY
      have h9 := HSa.out
      obtain ⟨k0, k1⟩ := spec_blk (HKa.out.below hb (by omega))
      have := check_any g _ ca _ _ (by rw [setO_len]; omega) Y (na + 1) (by have := hb.size; omega) (HIa.out.below (hb.mono (by omega)))
      rw [setO_len, chk_cost HJ.out hnl] at this
      exact ⟨k0, k1, this⟩
    have HCB : Hid (∀ Y, Below W.heap.size W Y → Y.cell? ⟨nb, 0, none⟩ = some (.int .i64 g) ∧ Y.cell? ⟨nb, 1, none⟩ = some (.slice (some ⟨gb, 0, none⟩) l.length cb) ∧ Calls Try.prog 28 #[.agg #[.int .i64 g, .slice (some ⟨gb, 0, none⟩) l.length cb]] Y fun e w' => e = .returned (.int .i64 2) ∧ Below Y.heap.size Y w') := fun Y hY => by
      have hb := HBC.out Y hY
      have h9 := HSb.out
      obtain ⟨k0, k1⟩ := spec_blk (HKb.out.below hb (by omega))
      have := check_any g _ cb _ _ (by rw [setO_len]; omega) Y (nb + 1) (by have := hb.size; omega) (HIb.out.below (hb.mono (by omega)))
      rw [setO_len, chk_kind HJ.out hnl] at this
      exact ⟨k0, k1, this⟩
    have HCC : Hid (∀ Y, Below W.heap.size W Y → Y.cell? ⟨nc, 0, none⟩ = some (.int .i64 65) ∧ Y.cell? ⟨nc, 1, none⟩ = some (.slice Ac l.length cc) ∧ Calls Try.prog 28 #[.agg #[.int .i64 65, .slice Ac l.length cc]] Y fun e w' => e = .returned (.int .i64 1) ∧ Below Y.heap.size Y w') := fun Y hY => by
      have hb := HAC.out Y hY
      have h9 := HSc.out
      obtain ⟨k0, k1⟩ := spec_blk (HKc.out.below hb (by omega))
      exact ⟨k0, k1, check_any 65 _ cc l _ (by omega) Y nc (by have := hb.size; omega) (HIc.out.below (hb.mono (by omega)))⟩
    have HCD : Hid (∀ Y, Below W.heap.size W Y → Y.cell? ⟨nd, 0, none⟩ = some (.int .i64 g) ∧ Y.cell? ⟨nd, 1, none⟩ = some (.slice (some ⟨gd, 0, none⟩) l.length cd) ∧ Calls Try.prog 28 #[.agg #[.int .i64 g, .slice (some ⟨gd, 0, none⟩) l.length cd]] Y fun e w' => e = .returned (.int .i64 8) ∧ Below Y.heap.size Y w') := fun Y hY => by
      obtain ⟨k0, k1⟩ := spec_blk (z3.below hY (by omega))
      have := check_any g _ cd _ _ (by rw [setO_len]; omega) Y _ hY.size (z4.below hY)
      rw [setO_len] at this
      have e8 := chk_self HJ.out hnl
      rw [HYS.out] at e8
      rw [e8] at this
      exact ⟨k0, k1, this⟩
    have HXW : Hid (∀ X Y, Below W.heap.size W X → Below X.heap.size X Y → Below W.heap.size W Y) := fun X Y h1 h2 => through h1 (Nat.le_refl _) h2
    have HEND : Hid (∀ Y, Below W.heap.size W Y → Below w.heap.size w Y) := fun Y hY => (HS.out _ (HX.out _ _ HWc.out (HAC.out Y hY))).2.2.1
    clear z1 z2 z3 z4 y0 y1 hHeld
    obtain ⟨k0, k1, hc⟩ := HCA.out W (Below.refl _ _)
    have HC := Lib.hid hc
    clear hc
    go_wp2_with fail
    refine HC.out.mono ?_
    rintro e x1 ⟨rfl, hx1⟩
    have H1 := Lib.hid hx1
    clear hx1 k0 k1 HC
    obtain ⟨k0, k1, hc⟩ := HCB.out x1 H1.out
    have HC := Lib.hid hc
    clear hc
    go_wp2_with fail
    refine HC.out.mono ?_
    rintro e x2 ⟨rfl, hx2⟩
    have H2 := Lib.hid (HXW.out _ _ H1.out hx2)
    clear hx2 k0 k1 HC
    obtain ⟨k0, k1, hc⟩ := HCC.out x2 H2.out
    have HC := Lib.hid hc
    clear hc
    go_wp2_with fail
    refine HC.out.mono ?_
    rintro e x3 ⟨rfl, hx3⟩
    have H3 := Lib.hid (HXW.out _ _ H2.out hx3)
    clear hx3 k0 k1 HC
    obtain ⟨k0, k1, hc⟩ := HCD.out x3 H3.out
    have HC := Lib.hid hc
    clear hc
    go_wp2_with fail
    refine HC.out.mono ?_
    rintro e x4 ⟨rfl, hx4⟩
    have H4 := Lib.hid (HXW.out _ _ H3.out hx4)
    clear hx4 k0 k1 HC
    go_wp2_with fail
    refine (known_any _).mono ?_
    rintro e x5 ⟨rfl, hx5⟩
    have H5 := Lib.hid (HEND.out _ (HXW.out _ _ H4.out hx5))
    clear hx5
    go_wp2_with fail
    go_returns
    exact ⟨rfl, H5.out⟩
end Go.Proofs.Ytcechimilefihaa.Sp
