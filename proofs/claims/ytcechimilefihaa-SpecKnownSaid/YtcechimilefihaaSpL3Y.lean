/- The law: of a job that may be the order has each operator once, each behind its inputs, and ahead of its users. -/
import Derived.Test.YtcechimilefihaaZj
import Derived.Test.YtcechimilefihaaSpP5Y
import Derived.Deep.RegionHeld3

namespace Go.Proofs.Ytcechimilefihaa.Sp
open Go.ChangeShapes Go.WideShapes Go.ChangeAt Go.RowKit M

set_option maxRecDepth 100000 in
set_option maxHeartbeats 8000000 in
theorem specOrders_any (g : Int) (A : Option Addr) (c : Nat) (l : List OpP) (p : Nat → Option Addr × Nat) (hl : l.length ≤ 9223372036854775807) (w : World) (B : Nat) (hB : B ≤ w.heap.size) (h : IsOps w B A l p) :
    Calls Try.prog 29 #[.agg #[.int .i64 g, .slice A l.length c]] w fun e w' => e = .returned (.bool true) ∧ Below w.heap.size w w' := by
  have HL := Lib.hid (long_any g A c l p hl (w.alloc (.cells #[.int .i64 g, .slice A l.length c] 24)) B (by simp; omega) (h.alloc hB _))
  have HS : Hid (∀ Y, Below (w.heap.size + 1) (w.alloc (.cells #[.int .i64 g, .slice A l.length c] 24)) Y → Y.cell? ⟨w.heap.size, 0, none⟩ = some (.int .i64 g) ∧ Y.cell? ⟨w.heap.size, 1, none⟩ = some (.slice A l.length c) ∧ Below w.heap.size w Y ∧ IsOps Y w.heap.size A l p ∧ w.heap.size + 1 ≤ Y.heap.size) := fun Y hb =>
    ⟨(hb.cell (p := ⟨w.heap.size, 0, none⟩) (by show w.heap.size < _; omega)).trans (by go_simp), (hb.cell (p := ⟨w.heap.size, 1, none⟩) (by show w.heap.size < _; omega)).trans (by go_simp),
      through ((Below.refl _ _).alloc (Nat.le_refl _) _) (Nat.le_refl _) (hb.mono (by simp)), ((h.more hB).alloc (Nat.le_refl _) _).below (hb.mono (by omega)), by have := hb.size; simpa using this⟩
  have HW0 := Lib.hid (show (w.alloc (.cells #[.int .i64 g, .slice A l.length c] 24)).heap.size = w.heap.size + 1 by simp)
  clear h
  cases elong : longB l with
  | true =>
    rw [elong] at HL
    go_enter Try.func29, Try.ntmps29
    go_wp2_with fail
    refine HL.out.mono ?_
    rintro e w1 ⟨rfl, hb1⟩
    have HB1 := Lib.hid (through ((Below.refl _ _).alloc (Nat.le_refl _) _) (Nat.le_refl w.heap.size) hb1)
    clear hb1
    go_wp2_with fail
    refine (known_any _).mono ?_
    rintro e w2 ⟨rfl, hb2⟩
    have HB2 := Lib.hid (through HB1.out (Nat.le_refl _) hb2)
    clear hb2
    go_wp2_with fail
    go_returns
    exact ⟨rfl, HB2.out⟩
  | false =>
  obtain ⟨l20, i20⟩ := long_no elong
  rw [elong] at HL
  clear elong
  have I20 := Lib.hid i20
  clear i20
  go_enter Try.func29, Try.ntmps29
  go_wp2_with fail
  refine HL.out.mono ?_
  rintro e w1 ⟨rfl, hb1⟩
  have HB1 := Lib.hid (by rw [HW0.out] at hb1; exact hb1 : Below (w.heap.size + 1) (w.alloc (.cells #[.int .i64 g, .slice A l.length c] 24)) w1)
  clear hb1
  obtain ⟨s0, s1, -, hio, hsz⟩ := HS.out _ HB1.out
  have HCK := Lib.hid (check_any g A c l p (by omega) w1 _ (by omega) hio)
  clear hio
  cases echk : decide (chkE g l = 0) with
  | false =>
    have hne : chkE g l ≠ 0 := by simpa using echk
    have ht : (chkE g l != 0) = true := by simpa using hne
    generalize chkE g l = z at *
    clear hne echk
    go_wp2_with fail
    refine HCK.out.mono ?_
    rintro e w2 ⟨rfl, hb2⟩
    have HB2 := Lib.hid (through HB1.out (by simp) hb2)
    clear hb2
    go_wp2_with fail
    refine (known_any _).mono ?_
    rintro e w3 ⟨rfl, hb3⟩
    have HB3 := Lib.hid (through HB2.out (by simp) hb3)
    clear hb3
    go_wp2_with fail
    go_returns
    exact ⟨rfl, (HS.out _ HB3.out).2.2.1⟩
  | true =>
  have ez : chkE g l = 0 := by simpa using echk
  have HJ := Lib.hid (ok_of ez)
  rw [ez] at HCK
  clear echk ez
  have l12 := HJ.out.len.2
  -- the contracts, at any later world
  have HU : Hid (∀ (k : Int) Y, Below (w.heap.size + 1) (w.alloc (.cells #[.int .i64 g, .slice A l.length c] 24)) Y → Calls Try.prog 15 #[.agg #[.int .i64 g, .slice A l.length c], .int .i64 k] Y (RetInts Y (usersF l k))) := fun k Y hY => by
    obtain ⟨-, -, -, hio, hz⟩ := HS.out Y hY
    exact users_any g A c l p k Y _ (by omega) hio (by omega)
  have HR : Hid (∀ (k : Int) Y, Below (w.heap.size + 1) (w.alloc (.cells #[.int .i64 g, .slice A l.length c] 24)) Y → Calls Try.prog 16 #[.agg #[.int .i64 g, .slice A l.length c], .int .i64 k] Y (RetInts Y (rootsF l k))) := fun k Y hY => by
    obtain ⟨-, -, -, hio, hz⟩ := HS.out Y hY
    exact rootsI_any g A c l p HJ.out k Y _ (by omega) hio
  have HUL : Hid (∀ k : Int, (usersF l k).length ≤ 20) := fun k => by
    have h1 := whichF_len (fun i => hasB (insOf l i) k) l.length
    have h2 : usersF l k = whichF (fun i => hasB (insOf l i) k) l.length := rfl
    rw [h2]; omega
  have HRL : Hid (∀ k : Int, (rootsF l k).length ≤ 20) := fun k => by have := rootsF_len l k; omega
  have HX : Hid (∀ (X Y : World), Below (w.heap.size + 1) (w.alloc (.cells #[.int .i64 g, .slice A l.length c] 24)) X → Below X.heap.size X Y → Below (w.heap.size + 1) (w.alloc (.cells #[.int .i64 g, .slice A l.length c] 24)) Y) := fun X Y h1 h2 => through h1 (by simp) h2
  go_wp2_with fail
  refine HCK.out.mono ?_
  rintro e w2 ⟨rfl, hb2⟩
  have HB2 := Lib.hid (HX.out _ _ HB1.out hb2)
  clear hb2 s0 s1
  obtain ⟨s0, s1, -, hio, hsz2⟩ := HS.out _ HB2.out
  have HO := Lib.hid (order_any g A c l p w2 _ (by omega) hio (by omega))
  have HOLN := HJ.out.olen
  have HOM : Hid (∀ i, i < l.length → 0 ≤ idxB (orderF l) i) := fun i hi => idxB_pos (HJ.out.omem hi)
  have HOR : Hid (∀ i x, i < l.length → x ∈ insOf l i → idxB (orderF l) x < idxB (orderF l) i) := fun i x hi hx => HJ.out.rises hi hx
  clear hio
  generalize orderF l = os at *
  have tlen : ((os.length : Int) != (l.length : Int)) = false := by rw [HOLN]; simp
  have hol : os.length ≤ 20 := by omega
  clear HOLN
  go_wp2_with fail
  refine HO.out.mono ?_
  rintro e y1 ⟨Al, cl, rfl, hown3, hb3⟩
  have HOW := Lib.hid hown3
  have HY1 := Lib.hid (HX.out _ _ HB2.out hb3)
  clear hown3 hb3 s0 s1
  obtain ⟨s0, s1, -, -, hz1⟩ := HS.out _ HY1.out
  go_wp2_with fail
  -- the list, at any later world
  have HLI : Hid (∀ Y, Below y1.heap.size y1 Y → IsInts Y Y.heap.size ⟨Al, cl, os⟩) := fun Y hY => (HOW.out.below hY).ints
  have HAT : Hid (∀ (n : Int) Y, Below y1.heap.size y1 Y → Calls Try.prog 72 #[.slice Al os.length cl, .int .i64 n] Y fun e w' => e = .returned (.int .i64 (idxB os n)) ∧ Y = w') := fun n Y hY => at_any Al cl os n _ Y (HLI.out Y hY)
  have HX1 : Hid (∀ (X Y : World), Below y1.heap.size y1 X → Below X.heap.size X Y → Below y1.heap.size y1 Y) := fun X Y h1 h2 => through h1 (Nat.le_refl _) h2
  have HZ1 : Hid (∀ Y, Below y1.heap.size y1 Y → Below (w.heap.size + 1) (w.alloc (.cells #[.int .i64 g, .slice A l.length c] 24)) Y) := fun Y h1 => HX.out _ _ HY1.out h1
  go_loopw [4] (fun q wr => ∃ k : Nat, k ≤ l.length ∧ q = .int .i64 k ∧ Below y1.heap.size y1 wr) (fun q _ => l.length - (intOf q).toNat)
  case atStart => exact ⟨0, by omega, rfl, Below.refl _ _⟩
  case round =>
    obtain ⟨k, hk, rfl, hbl⟩ := hrel
    have HB := Lib.hid hbl
    clear hbl s0 s1
    obtain ⟨s0, s1, -, hio, hsz0⟩ := HS.out _ (HZ1.out _ HB.out)
    by_cases hlt : k < l.length
    · obtain ⟨b, o, rfl, hb, c0, c1, -, -, -, -, -, -, -, hin⟩ := hio.at_ hlt
      have HCC : Hid (∀ Y, Below y1.heap.size y1 Y → Y.cell? ⟨w.heap.size, 0, none⟩ = some (.int .i64 g) ∧ Y.cell? ⟨w.heap.size, 1, none⟩ = some (.slice (some ⟨b, o, none⟩) l.length c) ∧ Y.cell? ⟨b, o + k * 8, none⟩ = some (.int .i64 (kindOf l k)) ∧ Y.cell? ⟨b, o + k * 8 + 1, none⟩ = some (.slice (p k).1 (insOf l k).length (p k).2) ∧ IsInts Y w.heap.size ⟨(p k).1, (p k).2, insOf l k⟩) := fun Y hY => by
        obtain ⟨s0, s1, -, hio, hz⟩ := HS.out _ (HZ1.out _ hY)
        obtain ⟨b', o', e, -, d0, d1, -, -, -, -, -, -, -, hin⟩ := hio.at_ hlt
        simp only [Option.some.injEq, Addr.mk.injEq, and_true] at e
        obtain ⟨rfl, rfl⟩ := e
        exact ⟨s0, s1, d0, d1, hin⟩
      have HCO : Hid (∀ (m : Nat) Y, m < l.length → Below y1.heap.size y1 Y → Y.cell? ⟨b, o + m * 8 + 1, none⟩ = some (.slice (p m).1 (insOf l m).length (p m).2) ∧ IsInts Y w.heap.size ⟨(p m).1, (p m).2, insOf l m⟩) := fun m Y hm hY => by
        obtain ⟨s0, s1, -, hio, hz⟩ := HS.out _ (HZ1.out _ hY)
        obtain ⟨b', o', e, -, d0, d1, -, -, -, -, -, -, -, hin⟩ := hio.at_ hm
        simp only [Option.some.injEq, Addr.mk.injEq, and_true] at e
        obtain ⟨rfl, rfl⟩ := e
        exact ⟨d1, hin⟩
      have hik := HOM.out k hlt
      have hrne : (((rootsF l k).length : Int) == 0) = false := by
        have := roots_some HJ.out hlt
        cases hr : rootsF l k with
        | nil => exact absurd hr this
        | cons => simp; omega
      have hul := HUL.out k
      have hrl := HRL.out k
      have hxl := I20.out k hlt
      have HFK := HJ.out.fedK hlt
      have HUM : Hid (∀ j, j < (usersF l k).length → ∃ m : Nat, (usersF l k).getD j 0 = m ∧ m < l.length ∧ (k : Int) ∈ insOf l m) := fun j hj => users_mem.1 (getD_mem hj)
      have HUR : Hid (∀ i j, i < j → j < (usersF l k).length → (usersF l k).getD i 0 < (usersF l k).getD j 0) := whichF_rises _ _
      have HXI : Hid (∀ x ∈ insOf l k, idxB os x < idxB os k ∧ 0 ≤ idxB (usersF l x) k) := fun x hx => ⟨HOR.out k x hlt hx, idxB_pos (in_users HJ.out hlt hx)⟩
      have HU1 := Lib.hid (HU.out k)
      have HR1 := Lib.hid (HR.out k)
      have HAT1 := Lib.hid (HAT.out k)
      obtain ⟨z, hz⟩ : ∃ z, (kindOf l k == 8) = z := ⟨_, rfl⟩
      rw [hz] at HFK
      have hue : (((usersF l k).length : Int) == 0) = z := by rw [len_empty]; exact HFK
      have hzz : (z != z) = false := by simp
      clear hio c0 c1 hin HFK
      generalize kindOf l k = kd at *
      generalize insOf l k = xs at *
      generalize (p k).1 = pa at *
      generalize (p k).2 = pc at *
      generalize rootsF l (k : Int) = rs at *
      generalize usersF l (k : Int) = us at *
      generalize idxB os (k : Int) = ik at *
      have tik : decide (ik < 0) = false := decide_eq_false (by omega)
      go_wp2_with fail
      refine (HU1.out _ (HZ1.out _ HB.out)).mono ?_
      rintro e x1 ⟨Aa, ca, rfl, owna, hx1⟩
      have X1 := Lib.hid (HX1.out _ _ HB.out hx1)
      have OA1 := Lib.hid owna
      clear hx1 owna s0 s1
      obtain ⟨s0, s1, -⟩ := HCC.out _ X1.out
      go_wp2_with fail
      refine (HR1.out _ (HZ1.out _ X1.out)).mono ?_
      rintro e x2 ⟨Ab, cb, rfl, -, hx2⟩
      have X2 := Lib.hid (HX1.out _ _ X1.out hx2)
      have OA2 := Lib.hid (OA1.out.below hx2)
      clear hx2 s0 s1
      obtain ⟨s0, s1, c0, -⟩ := HCC.out _ X2.out
      go_wp2_with fail
      refine (HAT1.out _ X2.out).mono ?_
      rintro e x3 ⟨rfl, rfl⟩
      go_wp2_with fail
      clear hrne hue hzz tik hz
      have HX2 : Hid (∀ Y, Below x2.heap.size x2 Y → Below y1.heap.size y1 Y) := fun Y hY => HX1.out _ _ X2.out hY
      clear s0 s1 c0
      go_loopw [7] (fun q wi => ∃ j : Nat, j ≤ xs.length ∧ q = .int .i64 j ∧ Below x2.heap.size x2 wi) (fun q _ => xs.length - (intOf q).toNat)
      case atStart => exact ⟨0, by omega, rfl, Below.refl _ _⟩
      case round =>
        obtain ⟨j, hj, rfl, hbj⟩ := hrel
        have HBj := Lib.hid hbj
        clear hbj
        obtain ⟨s0, s1, -, c1, hin⟩ := HCC.out _ (HX2.out _ HBj.out)
        by_cases hjl : j < xs.length
        · obtain ⟨b2, o2, x, rfl, hb2, HV, -, hc⟩ := ints_at hin hjl
          have hxm : x ∈ xs := by rw [← HV.out]; exact getD_mem hjl
          obtain ⟨hq1, hq2⟩ := HXI.out x hxm
          have HAx := Lib.hid (HAT.out x)
          have HUx := Lib.hid (HU.out x)
          have HST : Hid (∀ Y, Below x2.heap.size x2 Y → Y.cell? ⟨w.heap.size, 0, none⟩ = some (.int .i64 g) ∧ Y.cell? ⟨w.heap.size, 1, none⟩ = some (.slice (some ⟨b, o, none⟩) l.length c) ∧ Y.cell? ⟨b, o + k * 8 + 1, none⟩ = some (.slice (some ⟨b2, o2, none⟩) xs.length pc) ∧ Y.cell? ⟨b2, o2 + j, none⟩ = some (.int .i64 x)) := fun Y hY => by
            obtain ⟨d0, d1, -, d2, din⟩ := HCC.out _ (HX2.out _ hY)
            obtain ⟨v, hv, -, hcv⟩ := ints_get din hjl
            have : v = x := hv.out.symm.trans HV.out
            rw [this] at hcv
            exact ⟨d0, d1, d2, hcv⟩
          have HWJ : Hid (∀ Y, Below wr.heap.size wr Y → Below x2.heap.size x2 Y) := fun Y hY => through HBj.out (Nat.le_refl _) hY
          obtain ⟨iu, hiu⟩ : ∃ iu, idxB (usersF l x) k = iu := ⟨_, rfl⟩
          rw [hiu] at hq2
          have HIU := Lib.hid hiu
          clear hiu hin
          generalize usersF l x = ux at *
          generalize idxB os x = ix at *
          have t1 : decide (ik ≤ ix) = false := decide_eq_false (by omega)
          have t2 : decide (iu < 0) = false := decide_eq_false (by omega)
          have HXX := Lib.hid (Below.refl wr.heap.size wr)
          clear hq1 hq2 hxm
          go_upto_region 16 with (fail)
          go_region_held3 (fun w' => w'.cell? ⟨w.heap.size, 0, none⟩ = some (.int .i64 g) ∧ w'.cell? ⟨w.heap.size, 1, none⟩ = some (.slice (some ⟨b, o, none⟩) l.length c) ∧ w'.cell? ⟨b, o + k * 8 + 1, none⟩ = some (.slice (some ⟨b2, o2, none⟩) xs.length pc) ∧ w'.cell? ⟨b2, o2 + j, none⟩ = some (.int .i64 x))
            (first | exact HST.out _ (HWJ.out _ (Below.refl _ _).drew) | exact HST.out _ (HWJ.out _ (Below.refl _ _)) | exact HST.out _ (HWJ.out _ h3))
            ((first
              | (go_at_call_of 72 (Value.int .i64 x); refine (HAx.out _ (HX2.out _ (HWJ.out _ HXX.out.drew))).mono ?_; rintro e v1 ⟨rfl, rfl⟩)
              | (go_at_call_of 72 Al; refine (HAT1.out _ (HX2.out _ (HWJ.out _ HXX.out.drew))).mono ?_; rintro e v2 ⟨rfl, rfl⟩)
              | (go_at_call 15; refine (HUx.out _ (HZ1.out _ (HX2.out _ (HWJ.out _ HXX.out.drew)))).mono ?_; rintro e v3 ⟨A3, c3, rfl, o3, hq3⟩; have h3 := of_drew hq3)
              | (go_at_call 72; refine (at_any A3 c3 ux k _ _ o3.ints).mono ?_; rw [HIU.out]; rintro e v4 ⟨rfl, rfl⟩)))
          have HE := Lib.hid (HWJ.out _ h3)
          clear h3 hq3 o3 s0 s1 c1 hc
          go_wp2
          go_roundw
          case rel => exact ⟨j + 1, by omega, by go_num, HE.out⟩
          case measure => simp [intOf]; omega
        · obtain rfl : j = xs.length := by omega
          obtain ⟨x4, hx4⟩ : ∃ x, wr = x := ⟨_, rfl⟩
          rw [hx4] at HBj s0 s1 c1 ⊢
          clear hx4
          have OA4 := Lib.hid (OA2.out.below HBj.out)
          have HY4 := Lib.hid (HX2.out _ HBj.out)
          clear hin
          go_wp2_with fail
          clear s0 s1 c1
          go_loopw [8] (fun q wi => ∃ j : Nat, j ≤ us.length ∧ q = .int .i64 j ∧ Below x4.heap.size x4 wi) (fun q _ => us.length - (intOf q).toNat)
          case atStart => exact ⟨0, by omega, rfl, Below.refl _ _⟩
          case round =>
            obtain ⟨j, hj, rfl, hbj⟩ := hrel
            have HB4 := Lib.hid hbj
            clear hbj
            have HY5 := Lib.hid (HX1.out _ _ HY4.out HB4.out)
            obtain ⟨s0, s1, -⟩ := HCC.out _ HY5.out
            by_cases hjl : j < us.length
            · obtain ⟨m, em, hm, hkm⟩ := HUM.out j hjl
              obtain ⟨b3, o3, v, rfl, hb3, HV, -, hc⟩ := ints_at (OA4.out.below HB4.out).ints hjl
              obtain rfl : v = (m : Int) := HV.out.symm.trans em
              obtain ⟨d1, din⟩ := HCO.out m _ hm HY5.out
              have him := idxB_pos hkm
              have HIM := Lib.hid (fun Y (hY : Below wr.heap.size wr Y) => at_any _ _ _ (k : Int) _ Y ((din.more (show w.heap.size ≤ wr.heap.size by have := (HS.out _ (HZ1.out _ HY5.out)).2.2.2.2; omega)).below hY))
              have HXX := Lib.hid (Below.refl wr.heap.size wr)
              clear din em hkm
              generalize insOf l m = ys at *
              generalize (p m).1 = qa at *
              generalize (p m).2 = qc at *
              generalize idxB ys (k : Int) = im at *
              have t1 : decide ((m : Int) < 0) = false := decide_eq_false (by omega)
              have t2 : decide ((l.length : Int) ≤ (m : Int)) = false := decide_eq_false (by omega)
              have t2n : decide (l.length ≤ m) = false := decide_eq_false (by omega)
              have t3 : decide (im < 0) = false := decide_eq_false (by omega)
              by_cases hj0 : 0 < j
              · obtain ⟨b4, o4, v4, e4, -, HV4, -, hc4⟩ := ints_at (OA4.out.below HB4.out).ints (show j - 1 < us.length by omega)
                simp only [Option.some.injEq, Addr.mk.injEq, and_true] at e4
                obtain ⟨rfl, rfl⟩ := e4
                have hr := HUR.out (j - 1) j (by omega) hjl
                rw [HV.out, HV4.out] at hr
                have t4 : decide ((m : Int) ≤ v4) = false := decide_eq_false (by omega)
                have t5 : decide ((0 : Int) < (j : Int)) = true := decide_eq_true (by omega)
                have t6 : (0 : Int) ≤ (j : Int) - 1 := by omega
                have t7 : (j : Int) - 1 < (us.length : Int) := by omega
                have hc5 : wr.cell? ⟨b3, o3 + ((j : Int) - 1).toNat, none⟩ = some (.int .i64 v4) := by rw [show ((j : Int) - 1).toNat = j - 1 by omega]; exact hc4
                clear hr HV4
                go_upto_region 21 with (fail)
                go_quiet ((go_at_call 72; exact Calls.quiet_of_same ((HIM.out _ (below_drewN HXX.out _)).mono (by rintro e w' ⟨rfl, h⟩; exact ⟨rfl, h.symm⟩))))
                clear d1 hc hc4 hc5 s0 s1 t1 t2 t3 t4
                go_wp2
                go_roundw
                case rel => exact ⟨j + 1, by omega, by go_num, below_drewN HB4.out _⟩
                case measure => simp [intOf]; omega
              · obtain rfl : j = 0 := by omega
                have hc0 : wr.cell? ⟨b3, o3, none⟩ = some (.int .i64 (m : Int)) := by simpa using hc
                have t4 : decide ((0 : Int) < (0 : Int)) = false := by decide
                clear hj0
                go_upto_region 21 with (fail)
                go_quiet ((go_at_call 72; exact Calls.quiet_of_same ((HIM.out _ (below_drewN HXX.out _)).mono (by rintro e w' ⟨rfl, h⟩; exact ⟨rfl, h.symm⟩))))
                clear d1 hc s0 s1 t1 t2 t3 t4
                go_wp2
                go_roundw
                case rel => exact ⟨1, by omega, by go_num, below_drewN HB4.out _⟩
                case measure => simp [intOf]; omega
            · obtain rfl : j = us.length := by omega
              clear s0 s1
              have HE := Lib.hid (HX2.out _ (HBj.out.trans (HB4.out.mono HBj.out.size)))
              go_wp2
              go_roundw
              case rel => exact ⟨k + 1, by omega, by go_num, HE.out⟩
              case measure => simp [intOf]; omega
    · obtain rfl : k = l.length := by omega
      have HE := Lib.hid HB.out
      clear hio
      go_wp2_with fail
      refine (known_any _).mono ?_
      rintro e x5 ⟨rfl, hb5⟩
      have HB5 := Lib.hid (HS.out _ (HX.out _ _ (HZ1.out _ HE.out) hb5)).2.2.1
      clear hb5 s0 s1
      go_wp2_with fail
      go_returns
      exact ⟨rfl, HB5.out⟩
end Go.Proofs.Ytcechimilefihaa.Sp
