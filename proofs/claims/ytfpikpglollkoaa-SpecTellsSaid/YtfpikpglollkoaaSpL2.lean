/- The law: of a job that may be its order, users, roots, sources and sinks are what the document says. -/
import Derived.Test.YtfpikpglollkoaaSpW
import Derived.Test.YtfpikpglollkoaaSp17
namespace Go.Proofs.Ytfpikpglollkoaa.Sp
open Go.ChangeShapes Go.WideShapes Go.ChangeAt Go.RowKit M

set_option maxRecDepth 100000 in
set_option maxHeartbeats 8000000 in
theorem specTells_any (g : Int) (A : Option Addr) (c : Nat) (l : List OpP) (p : Nat → Option Addr × Nat) (hl : l.length ≤ 9223372036854775807) (op : Int) (w : World) (B : Nat) (hB : B ≤ w.heap.size) (h : IsOps w B A l p) :
    Calls Try.prog 6 #[.agg #[.int .i64 g, .slice A l.length c], .int .i64 op] w fun e w' => e = .returned (.bool true) ∧ Below w.heap.size w w' := by
  have HL := Lib.hid (long_any g A c l p hl (w.alloc (.cells #[.int .i64 g, .slice A l.length c] 24)) B (by simp; omega) (h.alloc hB _))
  have HS : Hid (∀ Y, Below (w.heap.size + 1) (w.alloc (.cells #[.int .i64 g, .slice A l.length c] 24)) Y → Y.cell? ⟨w.heap.size, 0, none⟩ = some (.int .i64 g) ∧ Y.cell? ⟨w.heap.size, 1, none⟩ = some (.slice A l.length c) ∧ Below w.heap.size w Y ∧ IsOps Y w.heap.size A l p ∧ w.heap.size + 1 ≤ Y.heap.size) := fun Y hb =>
    ⟨(hb.cell (p := ⟨w.heap.size, 0, none⟩) (by show w.heap.size < _; omega)).trans (by go_simp), (hb.cell (p := ⟨w.heap.size, 1, none⟩) (by show w.heap.size < _; omega)).trans (by go_simp),
      through ((Below.refl _ _).alloc (Nat.le_refl _) _) (Nat.le_refl _) (hb.mono (by simp)), ((h.more hB).alloc (Nat.le_refl _) _).below (hb.mono (by omega)), by have := hb.size; simpa using this⟩
  have HW0 := Lib.hid (show (w.alloc (.cells #[.int .i64 g, .slice A l.length c] 24)).heap.size = w.heap.size + 1 by simp)
  clear h
  cases elong : longB l with
  | true =>
    rw [elong] at HL
    go_enter Try.func6, Try.ntmps6
    go_wp2_with fail
    refine HL.out.mono ?_
    rintro e w1 ⟨rfl, hb1⟩
    have HB1 := Lib.hid (through ((Below.refl _ _).alloc (Nat.le_refl _) _) (Nat.le_refl w.heap.size) hb1)
    clear hb1
    go_wp2_with fail
    refine (known_any _).mono ?_
    rintro e w2 ⟨rfl, hb2⟩
    have HB2 := Lib.hid (through HB1.out (Nat.le_refl _) hb2)
    clear hb2
    go_wp2_with fail
    go_returns
    exact ⟨rfl, HB2.out⟩
  | false =>
  obtain ⟨l20, i20⟩ := long_no elong
  rw [elong] at HL
  clear elong
  have I20 := Lib.hid i20
  clear i20
  go_enter Try.func6, Try.ntmps6
  go_wp2_with fail
  refine HL.out.mono ?_
  rintro e w1 ⟨rfl, hb1⟩
  have HB1 := Lib.hid (by rw [HW0.out] at hb1; exact hb1 : Below (w.heap.size + 1) (w.alloc (.cells #[.int .i64 g, .slice A l.length c] 24)) w1)
  clear hb1
  obtain ⟨s0, s1, -, hio, hsz⟩ := HS.out _ HB1.out
  have HCK := Lib.hid (refCheck_any g A c l p (by omega) (fun i hi => by have := I20.out i hi; omega) w1 _ (by omega) hio)
  clear hio
  cases echk : decide (chkE g l = 0) with
  | false =>
    have hne : chkE g l ≠ 0 := by simpa using echk
    have ht : (chkE g l != 0) = true := by simpa using hne
    generalize chkE g l = z at *
    clear hne echk
    go_wp2_with fail
    refine HCK.out.mono ?_
    rintro e w2 ⟨rfl, hb2⟩
    have HB2 := Lib.hid (through HB1.out (by simp) hb2)
    clear hb2
    go_wp2_with fail
    refine (known_any _).mono ?_
    rintro e w3 ⟨rfl, hb3⟩
    have HB3 := Lib.hid (through HB2.out (by simp) hb3)
    clear hb3
    go_wp2_with fail
    go_returns
    exact ⟨rfl, (HS.out _ HB3.out).2.2.1⟩
  | true =>
  have ez : chkE g l = 0 := by simpa using echk
  have HJ := Lib.hid (ok_of ez)
  rw [ez] at HCK
  clear echk ez
  have l12 := HJ.out.len.2
  -- the contracts, at any later world
  have HU : Hid (∀ (k : Int) Y, Below (w.heap.size + 1) (w.alloc (.cells #[.int .i64 g, .slice A l.length c] 24)) Y → Calls Try.prog 21 #[.agg #[.int .i64 g, .slice A l.length c], .int .i64 k] Y (RetInts Y (usersF l k))) := fun k Y hY => by
    obtain ⟨-, -, -, hio, hz⟩ := HS.out Y hY
    exact users_any g A c l p k Y _ (by omega) hio (by omega)
  have HRU : Hid (∀ (k : Int) Y, Below (w.heap.size + 1) (w.alloc (.cells #[.int .i64 g, .slice A l.length c] 24)) Y → Calls Try.prog 26 #[.agg #[.int .i64 g, .slice A l.length c], .int .i64 k] Y (RetInts Y (usersF l k))) := fun k Y hY => by
    obtain ⟨-, -, -, hio, hz⟩ := HS.out Y hY
    exact refUsers_any g A c l p k Y _ (by omega) hio (by omega)
  have HR : Hid (∀ (k : Int) Y, Below (w.heap.size + 1) (w.alloc (.cells #[.int .i64 g, .slice A l.length c] 24)) Y → Calls Try.prog 22 #[.agg #[.int .i64 g, .slice A l.length c], .int .i64 k] Y (RetInts Y (rootsF l k))) := fun k Y hY => by
    obtain ⟨-, -, -, hio, hz⟩ := HS.out Y hY
    exact rootsI_any g A c l p HJ.out k Y _ (by omega) hio
  have HRR : Hid (∀ (k : Int) Y, Below (w.heap.size + 1) (w.alloc (.cells #[.int .i64 g, .slice A l.length c] 24)) Y → Calls Try.prog 27 #[.agg #[.int .i64 g, .slice A l.length c], .int .i64 k] Y (RetInts Y (rootsF l k))) := fun k Y hY => by
    obtain ⟨-, -, -, hio, hz⟩ := HS.out Y hY
    exact refRootsI_any g A c l p HJ.out k Y _ (by omega) hio
  have HUL : Hid (∀ k : Int, (usersF l k).length ≤ 20) := fun k => by
    have h1 := whichF_len (fun i => hasB (insOf l i) k) l.length
    have h2 : usersF l k = whichF (fun i => hasB (insOf l i) k) l.length := rfl
    rw [h2]; omega
  have HRL : Hid (∀ k : Int, (rootsF l k).length ≤ 20) := fun k => by have := rootsF_len l k; omega
  have HX : Hid (∀ (X Y : World), Below (w.heap.size + 1) (w.alloc (.cells #[.int .i64 g, .slice A l.length c] 24)) X → Below X.heap.size X Y → Below (w.heap.size + 1) (w.alloc (.cells #[.int .i64 g, .slice A l.length c] 24)) Y) := fun X Y h1 h2 => through h1 (by simp) h2
  go_wp2_with fail
  refine HCK.out.mono ?_
  rintro e w2 ⟨rfl, hb2⟩
  have HB2 := Lib.hid (HX.out _ _ HB1.out hb2)
  clear hb2 s0 s1
  go_wp2_with fail
  go_loopw [5] (fun q wr => ∃ k : Nat, k ≤ l.length + 1 ∧ q = .int .i64 k ∧ Below (w.heap.size + 1) (w.alloc (.cells #[.int .i64 g, .slice A l.length c] 24)) wr) (fun q _ => l.length + 1 - (intOf q).toNat)
  case atStart => exact ⟨0, by omega, rfl, HB2.out⟩
  case round =>
    obtain ⟨k, hk, rfl, hbl⟩ := hrel
    have HB := Lib.hid hbl
    obtain ⟨s0, s1, -, -, hsz0⟩ := HS.out _ hbl
    clear hbl
    by_cases hlt : k < l.length + 1
    · obtain ⟨kk, hkk⟩ : ∃ kk : Int, (if (k : Int) = (l.length : Int) then op else (k : Int)) = kk := ⟨_, rfl⟩
      have HKK := Lib.hid hkk
      clear hkk
      go_upto_if 33 with (fail)
      go_cut [6] (fun v wc => v = .int .i64 kk ∧ wc = wr)
      case first =>
        cases ek : ((k : Int) == (l.length : Int)) with
        | true =>
          have E := Lib.hid (show op = kk by rw [← HKK.out, if_pos (by simpa using ek)])
          go_wp2
          go_meet
          exact ⟨by rw [E.out], rfl⟩
        | false =>
          have E := Lib.hid (show (k : Int) = kk by rw [← HKK.out, if_neg (by simpa using ek)])
          go_wp2
          go_meet
          exact ⟨by rw [E.out], rfl⟩
      case rest =>
      obtain ⟨rfl, rfl⟩ := hcut
      have HU1 := Lib.hid (HU.out kk)
      have HRU1 := Lib.hid (HRU.out kk)
      have HR1 := Lib.hid (HR.out kk)
      have HRR1 := Lib.hid (HRR.out kk)
      have hul := HUL.out kk
      have hrl := HRL.out kk
      generalize usersF l kk = us at *
      generalize rootsF l kk = rs at *
      go_wp2_with fail
      refine (HU1.out _ HB.out).mono ?_
      rintro e x1 ⟨Aa, ca, rfl, owna, hx1⟩
      have X1 := Lib.hid (HX.out _ _ HB.out hx1)
      have OA1 := Lib.hid owna
      clear hx1 owna s0 s1
      obtain ⟨s0, s1, -, -, hz1⟩ := HS.out _ X1.out
      go_wp2_with fail
      refine (HR1.out _ X1.out).mono ?_
      rintro e x2 ⟨Ab, cb, rfl, ownb, hx2⟩
      have X2 := Lib.hid (HX.out _ _ X1.out hx2)
      have OA2 := Lib.hid (OA1.out.below hx2)
      have OB2 := Lib.hid ownb
      clear hx2 ownb s0 s1
      obtain ⟨s0, s1, -, -, hz2⟩ := HS.out _ X2.out
      go_wp2_with fail
      refine (HRU1.out _ X2.out).mono ?_
      rintro e x3 ⟨Ac, cc, rfl, ownc, hx3⟩
      have X3 := Lib.hid (HX.out _ _ X2.out hx3)
      have OA3 := Lib.hid (OA2.out.below hx3)
      have OB3 := Lib.hid (OB2.out.below hx3)
      have SI := Lib.hid (sameInts_any Aa Ac ca cc us us _ _ x3 OA3.out.ints ownc.ints)
      rw [sameB_yes rfl] at SI
      clear hx3 ownc s0 s1
      obtain ⟨s0, s1, -, -, hz3⟩ := HS.out _ X3.out
      go_wp2_with fail
      refine SI.out.mono ?_
      rintro e x4 ⟨rfl, hx4⟩
      have X4 := Lib.hid (HX.out _ _ X3.out hx4)
      have OA4 := Lib.hid (OA3.out.below hx4)
      have OB4 := Lib.hid (OB3.out.below hx4)
      clear hx4 s0 s1
      obtain ⟨s0, s1, -, -, hz4⟩ := HS.out _ X4.out
      go_wp2_with fail
      refine (HRR1.out _ X4.out).mono ?_
      rintro e x5 ⟨Ad, cd, rfl, ownd, hx5⟩
      have X5 := Lib.hid (HX.out _ _ X4.out hx5)
      have OA5 := Lib.hid (OA4.out.below hx5)
      have OB5 := Lib.hid (OB4.out.below hx5)
      have SI2 := Lib.hid (sameInts_any Ab Ad cb cd rs rs _ _ x5 OB5.out.ints ownd.ints)
      rw [sameB_yes rfl] at SI2
      clear hx5 ownd s0 s1
      go_wp2_with fail
      refine SI2.out.mono ?_
      rintro e x6 ⟨rfl, hx6⟩
      have X6 := Lib.hid (HX.out _ _ X5.out hx6)
      have OA6 := Lib.hid (OA5.out.below hx6)
      have OB6 := Lib.hid (OB5.out.below hx6)
      clear hx6
      have hz6 := (HS.out _ X6.out).2.2.2.2
      have hag : Hid (∀ q, (Value.slice Aa us.length ca).ownBlock = some q → q < x1.heap.size) := fun q hq => (OA1.out.blk q hq).2
      have hab : Hid (∀ q, (Value.slice Aa us.length ca).ownBlock = some q → w.heap.size + 1 ≤ q) := fun q hq => Nat.le_trans hsz0 (OA1.out.blk q hq).1
      have SP := Lib.hid (spoil_own Aa ca us _ x6 hz6 (OA6.out.mono hsz0) (by omega))
      go_wp2_with fail
      refine SP.out.mono ?_
      rintro e x7 ⟨rfl, hx7, hg7⟩
      have X7 := Lib.hid (X6.out.trans hx7)
      have OB7 := Lib.hid (own_later OA6.out OB6.out hag.out hg7)
      clear hx7 hg7
      have hz7 := (HS.out _ X7.out).2.2.2.2
      have SP2 := Lib.hid (spoil_own Ab cb rs _ x7 hz7 (OB7.out.mono hz1) (by omega))
      go_wp2_with fail
      refine SP2.out.mono ?_
      rintro e x8 ⟨rfl, hx8, -⟩
      have X8 := Lib.hid (X7.out.trans hx8)
      clear hx8
      go_wp2_with fail
      go_roundw
      case rel => exact ⟨k + 1, by omega, by go_num, X8.out⟩
      case measure => simp [intOf]; omega
    · obtain rfl : k = l.length + 1 := by omega
      have HO : Hid (∀ Y, Below (w.heap.size + 1) (w.alloc (.cells #[.int .i64 g, .slice A l.length c] 24)) Y → Calls Try.prog 20 #[.agg #[.int .i64 g, .slice A l.length c]] Y (RetInts Y (orderF l))) := fun Y hY => by
        obtain ⟨-, -, -, hio, hz⟩ := HS.out Y hY
        exact order_any g A c l p Y _ (by omega) hio (by omega)
      have HRO : Hid (∀ Y, Below (w.heap.size + 1) (w.alloc (.cells #[.int .i64 g, .slice A l.length c] 24)) Y → Calls Try.prog 30 #[.agg #[.int .i64 g, .slice A l.length c]] Y (RetInts Y (orderF l))) := fun Y hY => by
        obtain ⟨-, -, -, hio, hz⟩ := HS.out Y hY
        exact refOrder_any g A c l p Y _ (by omega) hio (by omega)
      have HSo : Hid (∀ Y, Below (w.heap.size + 1) (w.alloc (.cells #[.int .i64 g, .slice A l.length c] 24)) Y → Calls Try.prog 25 #[.agg #[.int .i64 g, .slice A l.length c]] Y (RetInts Y (kindF l 1))) := fun Y hY => by
        obtain ⟨-, -, -, hio, hz⟩ := HS.out Y hY
        exact sources_any g A c l p Y _ (by omega) hio (by omega)
      have HRSo : Hid (∀ Y, Below (w.heap.size + 1) (w.alloc (.cells #[.int .i64 g, .slice A l.length c] 24)) Y → Calls Try.prog 31 #[.agg #[.int .i64 g, .slice A l.length c]] Y (RetInts Y (kindF l 1))) := fun Y hY => by
        obtain ⟨-, -, -, hio, hz⟩ := HS.out Y hY
        exact refSources_any g A c l p Y _ (by omega) hio (by omega)
      have HSi : Hid (∀ Y, Below (w.heap.size + 1) (w.alloc (.cells #[.int .i64 g, .slice A l.length c] 24)) Y → Calls Try.prog 29 #[.agg #[.int .i64 g, .slice A l.length c]] Y (RetInts Y (kindF l 8))) := fun Y hY => by
        obtain ⟨-, -, -, hio, hz⟩ := HS.out Y hY
        exact sinks_any g A c l p Y _ (by omega) hio (by omega)
      have HRSi : Hid (∀ Y, Below (w.heap.size + 1) (w.alloc (.cells #[.int .i64 g, .slice A l.length c] 24)) Y → Calls Try.prog 32 #[.agg #[.int .i64 g, .slice A l.length c]] Y (RetInts Y (kindF l 8))) := fun Y hY => by
        obtain ⟨-, -, -, hio, hz⟩ := HS.out Y hY
        exact refSinks_any g A c l p Y _ (by omega) hio (by omega)
      have hkl : ∀ kd, (kindF l kd).length ≤ 20 := fun kd => by
        have h1 := whichF_len (fun i => kindOf l i == kd) l.length
        have h2 : kindF l kd = whichF (fun i => kindOf l i == kd) l.length := rfl
        rw [h2]; omega
      have hsl := hkl 1
      have hil := hkl 8
      have hol : (orderF l).length ≤ 20 := by have := ordSt_len l l.length; have e : orderF l = ordSt l l.length := rfl; rw [e]; omega
      clear hkl
      generalize kindF l 1 = so at *
      generalize kindF l 8 = si at *
      generalize orderF l = os at *
      have HBASEc := HB
      go_wp2_with fail
      refine (HO.out _ HB.out).mono ?_
      rintro e y1 ⟨Al1, cl1, rfl, own1, hx1⟩
      have BX1 := Lib.hid (HX.out _ _ HB.out hx1)
      have OWN1 := Lib.hid own1
      clear hx1 own1 s0 s1
      obtain ⟨s0, s1, -, -, hz1⟩ := HS.out _ BX1.out
      have HBASEd := BX1
      have HLTcd : Hid (∀ q, (Value.slice Al1 os.length cl1).ownBlock = some q → q < y1.heap.size) := fun q hq => (OWN1.out.blk q hq).2
      go_wp2_with fail
      refine (HSo.out _ BX1.out).mono ?_
      rintro e y2 ⟨Al2, cl2, rfl, own2, hx2⟩
      have BX2 := Lib.hid (HX.out _ _ BX1.out hx2)
      have OW3 := Lib.hid (OWN1.out.below hx2)
      have OWN2 := Lib.hid own2
      clear hx2 own2 s0 s1
      obtain ⟨s0, s1, -, -, hz2⟩ := HS.out _ BX2.out
      have HBASEe := BX2
      have HLTce : Hid (∀ q, (Value.slice Al1 os.length cl1).ownBlock = some q → q < y2.heap.size) := fun q hq => (OW3.out.blk q hq).2
      have HLTde : Hid (∀ q, (Value.slice Al2 so.length cl2).ownBlock = some q → q < y2.heap.size) := fun q hq => (OWN2.out.blk q hq).2
      go_wp2_with fail
      refine (HSi.out _ BX2.out).mono ?_
      rintro e y4 ⟨Al4, cl4, rfl, own4, hx4⟩
      have BX4 := Lib.hid (HX.out _ _ BX2.out hx4)
      have OW5 := Lib.hid (OW3.out.below hx4)
      have OW6 := Lib.hid (OWN2.out.below hx4)
      have OWN4 := Lib.hid own4
      clear hx4 own4 s0 s1
      obtain ⟨s0, s1, -, -, hz4⟩ := HS.out _ BX4.out
      go_wp2_with fail
      refine (HRO.out _ BX4.out).mono ?_
      rintro e y7 ⟨Al7, cl7, rfl, own7, hx7⟩
      have BX7 := Lib.hid (HX.out _ _ BX4.out hx7)
      have OW8 := Lib.hid (OW5.out.below hx7)
      have OW9 := Lib.hid (OW6.out.below hx7)
      have OW10 := Lib.hid (OWN4.out.below hx7)
      have OWN7 := Lib.hid own7
      clear hx7 own7 s0 s1
      obtain ⟨s0, s1, -, -, hz7⟩ := HS.out _ BX7.out
      have SI11 := Lib.hid (sameInts_any Al1 Al7 cl1 cl7 os os _ _ y7 OW8.out.ints OWN7.out.ints)
      rw [sameB_yes rfl] at SI11
      go_wp2_with fail
      refine SI11.out.mono ?_
      rintro e y11 ⟨rfl, hx11⟩
      have BX11 := Lib.hid (HX.out _ _ BX7.out hx11)
      have OW12 := Lib.hid (OW8.out.below hx11)
      have OW13 := Lib.hid (OW9.out.below hx11)
      have OW14 := Lib.hid (OW10.out.below hx11)
      clear hx11 s0 s1
      obtain ⟨s0, s1, -, -, hz11⟩ := HS.out _ BX11.out
      go_wp2_with fail
      refine (HRSo.out _ BX11.out).mono ?_
      rintro e y15 ⟨Al15, cl15, rfl, own15, hx15⟩
      have BX15 := Lib.hid (HX.out _ _ BX11.out hx15)
      have OW16 := Lib.hid (OW12.out.below hx15)
      have OW17 := Lib.hid (OW13.out.below hx15)
      have OW18 := Lib.hid (OW14.out.below hx15)
      have OWN15 := Lib.hid own15
      clear hx15 own15 s0 s1
      obtain ⟨s0, s1, -, -, hz15⟩ := HS.out _ BX15.out
      have SI19 := Lib.hid (sameInts_any Al2 Al15 cl2 cl15 so so _ _ y15 OW17.out.ints OWN15.out.ints)
      rw [sameB_yes rfl] at SI19
      go_wp2_with fail
      refine SI19.out.mono ?_
      rintro e y19 ⟨rfl, hx19⟩
      have BX19 := Lib.hid (HX.out _ _ BX15.out hx19)
      have OW20 := Lib.hid (OW16.out.below hx19)
      have OW21 := Lib.hid (OW17.out.below hx19)
      have OW22 := Lib.hid (OW18.out.below hx19)
      clear hx19 s0 s1
      obtain ⟨s0, s1, -, -, hz19⟩ := HS.out _ BX19.out
      go_wp2_with fail
      refine (HRSi.out _ BX19.out).mono ?_
      rintro e y23 ⟨Al23, cl23, rfl, own23, hx23⟩
      have BX23 := Lib.hid (HX.out _ _ BX19.out hx23)
      have OW24 := Lib.hid (OW20.out.below hx23)
      have OW25 := Lib.hid (OW21.out.below hx23)
      have OW26 := Lib.hid (OW22.out.below hx23)
      have OWN23 := Lib.hid own23
      clear hx23 own23 s0 s1
      obtain ⟨s0, s1, -, -, hz23⟩ := HS.out _ BX23.out
      have SI27 := Lib.hid (sameInts_any Al4 Al23 cl4 cl23 si si _ _ y23 OW26.out.ints OWN23.out.ints)
      rw [sameB_yes rfl] at SI27
      go_wp2_with fail
      refine SI27.out.mono ?_
      rintro e y27 ⟨rfl, hx27⟩
      have BX27 := Lib.hid (HX.out _ _ BX23.out hx27)
      have OW28 := Lib.hid (OW24.out.below hx27)
      have OW29 := Lib.hid (OW25.out.below hx27)
      have OW30 := Lib.hid (OW26.out.below hx27)
      clear hx27 s0 s1
      obtain ⟨s0, s1, -, -, hz27⟩ := HS.out _ BX27.out
      have SP31 := Lib.hid (spoil_own Al1 cl1 os _ y27 (HS.out _ BX27.out).2.2.2.2 (OW28.out.mono (HS.out _ HBASEc.out).2.2.2.2) (by omega))
      go_wp2_with fail
      refine SP31.out.mono ?_
      rintro e y31 ⟨rfl, hx31, hg31⟩
      have BX31 := Lib.hid (BX27.out.trans hx31)
      have OW32 := Lib.hid (own_later OW28.out OW29.out (HLTcd.out) hg31)
      have OW33 := Lib.hid (own_later OW28.out OW30.out (HLTce.out) hg31)
      clear hx31 hg31 s0 s1
      obtain ⟨s0, s1, -, -, hz31⟩ := HS.out _ BX31.out
      have SP34 := Lib.hid (spoil_own Al2 cl2 so _ y31 (HS.out _ BX31.out).2.2.2.2 (OW32.out.mono (HS.out _ HBASEd.out).2.2.2.2) (by omega))
      go_wp2_with fail
      refine SP34.out.mono ?_
      rintro e y34 ⟨rfl, hx34, hg34⟩
      have BX34 := Lib.hid (BX31.out.trans hx34)
      have OW35 := Lib.hid (own_later OW32.out OW33.out (HLTde.out) hg34)
      clear hx34 hg34 s0 s1
      obtain ⟨s0, s1, -, -, hz34⟩ := HS.out _ BX34.out
      have SP36 := Lib.hid (spoil_own Al4 cl4 si _ y34 (HS.out _ BX34.out).2.2.2.2 (OW35.out.mono (HS.out _ HBASEe.out).2.2.2.2) (by omega))
      go_wp2_with fail
      refine SP36.out.mono ?_
      rintro e y36 ⟨rfl, hx36, hg36⟩
      have BX36 := Lib.hid (BX34.out.trans hx36)
      clear hx36 hg36 s0 s1
      obtain ⟨s0, s1, -, -, hz36⟩ := HS.out _ BX36.out
      have HXX := Lib.hid (Below.refl y36.heap.size y36)
      have HST : Hid (∀ Y, Below y36.heap.size y36 Y → Y.cell? ⟨w.heap.size, 0, none⟩ = some (.int .i64 g) ∧ Y.cell? ⟨w.heap.size, 1, none⟩ = some (.slice A l.length c)) := fun Y hY => by
        obtain ⟨x0, x1, -⟩ := HS.out _ (HX.out _ _ BX36.out hY)
        exact ⟨x0, x1⟩
      go_upto_region 22 with (fail)
      go_region_held3 (fun w' => w'.cell? ⟨w.heap.size, 0, none⟩ = some (.int .i64 g) ∧ w'.cell? ⟨w.heap.size, 1, none⟩ = some (.slice A l.length c))
        (first | exact HST.out _ (Below.refl _ _).drew | exact HST.out _ (Below.refl _ _) | exact HST.out _ h1 | exact HST.out _ h2 | exact HST.out _ h3 | exact HST.out _ h4)
        ((first
          | (go_at_call 20; refine (HO.out _ (HX.out _ _ BX36.out HXX.out.drew)).mono ?_; rintro e v1 ⟨A1, c1, rfl, o1, hq1⟩; have h1 := of_drew hq1)
          | (go_at_call 30; refine (HRO.out _ (HX.out _ _ BX36.out h1)).mono ?_; rintro e v2 ⟨A2, c2, rfl, o2, hq2⟩; have h2 := through h1 (Nat.le_refl _) hq2; have o1' := o1.below hq2)
          | (go_at_call 24; refine (sameInts_any A1 A2 c1 c2 os os _ _ _ o1'.ints o2.ints).mono ?_; rw [sameB_yes rfl]; rintro e v3 ⟨rfl, hq3⟩; have h3 := through h2 (Nat.le_refl _) hq3)
          | (go_at_call 15; refine (known_any _).mono ?_; rintro e v4 ⟨rfl, hq4⟩; have h4 := through h3 (Nat.le_refl _) hq4)))
      have HE := Lib.hid (HS.out _ (HX.out _ _ BX36.out h4)).2.2.1
      clear h1 h2 h3 h4 hq1 hq2 hq3 hq4 o1 o2 o1' s0 s1
      go_wp2
      go_returns
      exact ⟨by first | rfl | simp, HE.out⟩
end Go.Proofs.Ytfpikpglollkoaa.Sp
