/- The law: of a job that may be an operator's roots are those of its inputs, together, rising. -/
import Derived.Test.YtcechimilefihaaZj
import Derived.Test.YtcechimilefihaaSpP5Y
import Derived.Deep.RegionHeld3
import Derived.Test.YtcechimilefihaaZa

namespace Go.Proofs.Ytcechimilefihaa.Sp
open Go.ChangeShapes Go.WideShapes Go.ChangeAt Go.RowKit M

theorem wrap_pos (n : Int) (h0 : 0 ≤ n) (h1 : n < 9223372036854775808) : IntKind.i64.wrap n = n := by
  have hm : n % 18446744073709551616 = n := by omega
  unfold IntKind.wrap
  simp [IntKind.bits, IntKind.signed, hm]
  omega

set_option maxRecDepth 100000 in
set_option maxHeartbeats 8000000 in
theorem specRoots_any (g : Int) (A : Option Addr) (c : Nat) (l : List OpP) (p : Nat → Option Addr × Nat) (hl : l.length ≤ 9223372036854775807) (w : World) (B : Nat) (hB : B ≤ w.heap.size) (h : IsOps w B A l p) :
    Calls Try.prog 30 #[.agg #[.int .i64 g, .slice A l.length c]] w fun e w' => e = .returned (.bool true) ∧ Below w.heap.size w w' := by
  have HL := Lib.hid (long_any g A c l p hl (w.alloc (.cells #[.int .i64 g, .slice A l.length c] 24)) B (by simp; omega) (h.alloc hB _))
  have HS : Hid (∀ Y, Below (w.heap.size + 1) (w.alloc (.cells #[.int .i64 g, .slice A l.length c] 24)) Y → Y.cell? ⟨w.heap.size, 0, none⟩ = some (.int .i64 g) ∧ Y.cell? ⟨w.heap.size, 1, none⟩ = some (.slice A l.length c) ∧ Below w.heap.size w Y ∧ IsOps Y w.heap.size A l p ∧ w.heap.size + 1 ≤ Y.heap.size) := fun Y hb =>
    ⟨(hb.cell (p := ⟨w.heap.size, 0, none⟩) (by show w.heap.size < _; omega)).trans (by go_simp), (hb.cell (p := ⟨w.heap.size, 1, none⟩) (by show w.heap.size < _; omega)).trans (by go_simp),
      through ((Below.refl _ _).alloc (Nat.le_refl _) _) (Nat.le_refl _) (hb.mono (by simp)), ((h.more hB).alloc (Nat.le_refl _) _).below (hb.mono (by omega)), by have := hb.size; simpa using this⟩
  have HW0 := Lib.hid (show (w.alloc (.cells #[.int .i64 g, .slice A l.length c] 24)).heap.size = w.heap.size + 1 by simp)
  clear h
  cases elong : longB l with
  | true =>
    rw [elong] at HL
    go_enter Try.func30, Try.ntmps30
    go_wp2_with fail
    refine HL.out.mono ?_
    rintro e w1 ⟨rfl, hb1⟩
    have HB1 := Lib.hid (through ((Below.refl _ _).alloc (Nat.le_refl _) _) (Nat.le_refl w.heap.size) hb1)
    clear hb1
    go_wp2_with fail
    refine (known_any _).mono ?_
    rintro e w2 ⟨rfl, hb2⟩
    have HB2 := Lib.hid (through HB1.out (Nat.le_refl _) hb2)
    clear hb2
    go_wp2_with fail
    go_returns
    exact ⟨rfl, HB2.out⟩
  | false =>
  obtain ⟨l20, i20⟩ := long_no elong
  rw [elong] at HL
  clear elong
  have I20 := Lib.hid i20
  clear i20
  go_enter Try.func30, Try.ntmps30
  go_wp2_with fail
  refine HL.out.mono ?_
  rintro e w1 ⟨rfl, hb1⟩
  have HB1 := Lib.hid (by rw [HW0.out] at hb1; exact hb1 : Below (w.heap.size + 1) (w.alloc (.cells #[.int .i64 g, .slice A l.length c] 24)) w1)
  clear hb1
  obtain ⟨s0, s1, -, hio, hsz⟩ := HS.out _ HB1.out
  have HCK := Lib.hid (check_any g A c l p (by omega) w1 _ (by omega) hio)
  clear hio
  cases echk : decide (chkE g l = 0) with
  | false =>
    have hne : chkE g l ≠ 0 := by simpa using echk
    have ht : (chkE g l != 0) = true := by simpa using hne
    generalize chkE g l = z at *
    clear hne echk
    go_wp2_with fail
    refine HCK.out.mono ?_
    rintro e w2 ⟨rfl, hb2⟩
    have HB2 := Lib.hid (through HB1.out (by simp) hb2)
    clear hb2
    go_wp2_with fail
    refine (known_any _).mono ?_
    rintro e w3 ⟨rfl, hb3⟩
    have HB3 := Lib.hid (through HB2.out (by simp) hb3)
    clear hb3
    go_wp2_with fail
    go_returns
    exact ⟨rfl, (HS.out _ HB3.out).2.2.1⟩
  | true =>
  have ez : chkE g l = 0 := by simpa using echk
  have HJ := Lib.hid (ok_of ez)
  rw [ez] at HCK
  clear echk ez
  have l12 := HJ.out.len.2
  -- the contracts, at any later world
  have HR : Hid (∀ (k : Int) Y, Below (w.heap.size + 1) (w.alloc (.cells #[.int .i64 g, .slice A l.length c] 24)) Y → Calls Try.prog 16 #[.agg #[.int .i64 g, .slice A l.length c], .int .i64 k] Y (RetInts Y (rootsF l k))) := fun k Y hY => by
    obtain ⟨-, -, -, hio, hz⟩ := HS.out Y hY
    exact rootsI_any g A c l p HJ.out k Y _ (by omega) hio
  have HSO : Hid (∀ Y, Below (w.heap.size + 1) (w.alloc (.cells #[.int .i64 g, .slice A l.length c] 24)) Y → Calls Try.prog 22 #[.agg #[.int .i64 g, .slice A l.length c]] Y (RetInts Y (kindF l 1))) := fun Y hY => by
    obtain ⟨-, -, -, hio, hz⟩ := HS.out Y hY
    exact sources_any g A c l p Y _ (by omega) hio (by omega)
  have HRL : Hid (∀ k : Int, (rootsF l k).length ≤ 20) := fun k => by have := rootsF_len l k; omega
  have HX : Hid (∀ (X Y : World), Below (w.heap.size + 1) (w.alloc (.cells #[.int .i64 g, .slice A l.length c] 24)) X → Below X.heap.size X Y → Below (w.heap.size + 1) (w.alloc (.cells #[.int .i64 g, .slice A l.length c] 24)) Y) := fun X Y h1 h2 => through h1 (by simp) h2
  go_wp2_with fail
  refine HCK.out.mono ?_
  rintro e y1 ⟨rfl, hb2⟩
  have HY1 := Lib.hid (HX.out _ _ HB1.out hb2)
  clear hb2 s0 s1
  obtain ⟨s0, s1, -, -, hz1⟩ := HS.out _ HY1.out
  go_wp2_with fail
  have HX1 : Hid (∀ (X Y : World), Below y1.heap.size y1 X → Below X.heap.size X Y → Below y1.heap.size y1 Y) := fun X Y h1 h2 => through h1 (Nat.le_refl _) h2
  have HZ1 : Hid (∀ Y, Below y1.heap.size y1 Y → Below (w.heap.size + 1) (w.alloc (.cells #[.int .i64 g, .slice A l.length c] 24)) Y) := fun Y h1 => HX.out _ _ HY1.out h1
  go_loopw [3] (fun q wr => ∃ k : Nat, k ≤ l.length ∧ q = .int .i64 k ∧ Below y1.heap.size y1 wr) (fun q _ => l.length - (intOf q).toNat)
  case atStart => exact ⟨0, by omega, rfl, Below.refl _ _⟩
  case round =>
    obtain ⟨k, hk, rfl, hbl⟩ := hrel
    have HB := Lib.hid hbl
    clear hbl s0 s1
    obtain ⟨s0, s1, -, hio, hsz0⟩ := HS.out _ (HZ1.out _ HB.out)
    by_cases hlt : k < l.length
    · obtain ⟨b, o, rfl, hb, c0, c1, -, -, -, -, -, -, -, hin⟩ := hio.at_ hlt
      have HCC : Hid (∀ Y, Below y1.heap.size y1 Y → Y.cell? ⟨w.heap.size, 0, none⟩ = some (.int .i64 g) ∧ Y.cell? ⟨w.heap.size, 1, none⟩ = some (.slice (some ⟨b, o, none⟩) l.length c) ∧ Y.cell? ⟨b, o + k * 8, none⟩ = some (.int .i64 (kindOf l k)) ∧ Y.cell? ⟨b, o + k * 8 + 1, none⟩ = some (.slice (p k).1 (insOf l k).length (p k).2) ∧ IsInts Y w.heap.size ⟨(p k).1, (p k).2, insOf l k⟩) := fun Y hY => by
        obtain ⟨s0, s1, -, hio, hz⟩ := HS.out _ (HZ1.out _ hY)
        obtain ⟨b', o', e, -, d0, d1, -, -, -, -, -, -, -, hin⟩ := hio.at_ hlt
        simp only [Option.some.injEq, Addr.mk.injEq, and_true] at e
        obtain ⟨rfl, rfl⟩ := e
        exact ⟨s0, s1, d0, d1, hin⟩
      have hrl := HRL.out k
      have hxl := I20.out k hlt
      have HSUM : Hid (kindOf l k ≠ 1 → sumR l k (insOf l k).length = (rootsF l k).length) := fun h => sum_roots HJ.out hlt h
      have HONE : Hid (kindOf l k = 1 → rootsF l k = [(k : Int)]) := fun h => roots_one HJ.out hlt h
      have HRI : Hid (∀ x ∈ insOf l k, ∀ y ∈ rootsF l x, 0 ≤ idxB (rootsF l k) y) := fun x hx y hy => idxB_pos (roots_of_in HJ.out hlt hx hy)
      have HRK : Hid (∀ y ∈ rootsF l k, 0 ≤ idxB (kindF l 1) y) := fun y hy => idxB_pos (roots_kind HJ.out hlt hy)
      have HRR : Hid (∀ i j, i < j → j < (rootsF l k).length → (rootsF l k).getD i 0 < (rootsF l k).getD j 0) := roots_rise l k
      have HSS : Hid (∀ j, sumR l k (j + 1) = sumR l k j + (rootsF l ((insOf l k).getD j 0)).length) := fun j => rfl
      have HS0 : Hid (sumR l k 0 = 0) := rfl
      have HSL : Hid (∀ j, j ≤ 20 → sumR l k j ≤ 400) := fun j hj => by
        have : ∀ j, sumR l k j ≤ 20 * j := by
          intro j
          induction j with
          | zero => exact Nat.le_refl _
          | succ j ih => rw [HSS.out]; have := HRL.out ((insOf l k).getD j 0); omega
        have := this j
        omega
      have HR1 := Lib.hid (HR.out k)
      clear hio c0 c1 hin
      generalize kindOf l k = kd at *
      generalize insOf l k = xs at *
      generalize (p k).1 = pa at *
      generalize (p k).2 = pc at *
      generalize rootsF l (k : Int) = rs at *
      generalize sumR l k = su at *
      go_wp2_with fail
      refine (HR1.out _ (HZ1.out _ HB.out)).mono ?_
      rintro e x1 ⟨Aa, ca, rfl, owna, hx1⟩
      have X1 := Lib.hid (HX1.out _ _ HB.out hx1)
      have OA1 := Lib.hid owna
      clear hx1 owna s0 s1
      go_wp2_with fail
      have HX2 : Hid (∀ Y, Below x1.heap.size x1 Y → Below y1.heap.size y1 Y) := fun Y hY => HX1.out _ _ X1.out hY
      have HX3 : Hid (∀ (X Y : World), Below x1.heap.size x1 X → Below X.heap.size X Y → Below x1.heap.size x1 Y) := fun X Y h1 h2 => through h1 (Nat.le_refl _) h2
      go_loopw [5, 6] (fun nv q wi => ∃ j : Nat, j ≤ xs.length ∧ q = .int .i64 j ∧ nv = .int .i64 (su j : Nat) ∧ Below x1.heap.size x1 wi) (fun _ q _ => xs.length - (intOf q).toNat)
      case atStart => exact ⟨0, by omega, rfl, by rw [HS0.out]; rfl, Below.refl _ _⟩
      case round =>
        obtain ⟨j, hj, rfl, rfl, hbj⟩ := hrel
        have HBj := Lib.hid hbj
        clear hbj
        obtain ⟨s0, s1, -, c1, hin⟩ := HCC.out _ (HX2.out _ HBj.out)
        by_cases hjl : j < xs.length
        · obtain ⟨b2, o2, x, rfl, hb2, HV, -, hc⟩ := ints_at hin hjl
          have HXM : Hid (x ∈ xs) := by show x ∈ xs; rw [← HV.out]; exact getD_mem hjl
          have HRx := Lib.hid (HR.out x)
          have hsl := HSL.out j (by omega)
          have HST : Hid (∀ Y, Below x1.heap.size x1 Y → Y.cell? ⟨w.heap.size, 0, none⟩ = some (.int .i64 g) ∧ Y.cell? ⟨w.heap.size, 1, none⟩ = some (.slice (some ⟨b, o, none⟩) l.length c) ∧ Y.cell? ⟨b, o + k * 8 + 1, none⟩ = some (.slice (some ⟨b2, o2, none⟩) xs.length pc) ∧ Y.cell? ⟨b2, o2 + j, none⟩ = some (.int .i64 x)) := fun Y hY => by
            obtain ⟨d0, d1, -, d2, din⟩ := HCC.out _ (HX2.out _ hY)
            obtain ⟨v, hv, -, hcv⟩ := ints_get din hjl
            have : v = x := hv.out.symm.trans HV.out
            rw [this] at hcv
            exact ⟨d0, d1, d2, hcv⟩
          have HWJ : Hid (∀ Y, Below wr.heap.size wr Y → Below x1.heap.size x1 Y) := fun Y hY => HX3.out _ _ HBj.out hY
          have HXX := Lib.hid (Below.refl wr.heap.size wr)
          have HSJ : Hid (su (j + 1) = su j + (rootsF l x).length) := by show _ = _; rw [HSS.out, HV.out]
          have HRX : Hid (∀ y ∈ rootsF l x, 0 ≤ idxB rs y) := HRI.out x HXM.out
          have hqx := HRL.out x
          clear hin
          generalize rootsF l x = qs at *
          generalize su j = sj at *
          go_upto_region 11 with (fail)
          go_region_held3 (fun w' => w'.cell? ⟨w.heap.size, 0, none⟩ = some (.int .i64 g) ∧ w'.cell? ⟨w.heap.size, 1, none⟩ = some (.slice (some ⟨b, o, none⟩) l.length c) ∧ w'.cell? ⟨b, o + k * 8 + 1, none⟩ = some (.slice (some ⟨b2, o2, none⟩) xs.length pc) ∧ w'.cell? ⟨b2, o2 + j, none⟩ = some (.int .i64 x))
            (first | exact HST.out _ (HWJ.out _ (Below.refl _ _).drew) | exact HST.out _ (HWJ.out _ (Below.refl _ _)) | exact HST.out _ (HWJ.out _ h3))
            ((go_at_call 16; refine (HRx.out _ (HZ1.out _ (HX2.out _ (HWJ.out _ HXX.out.drew)))).mono ?_; rintro e v3 ⟨A3, c3, rfl, o3, hq3⟩; have h3 := of_drew hq3))
          have HE := Lib.hid (HWJ.out _ h3)
          have OQ := Lib.hid o3
          clear h3 hq3 o3 s0 s1 c1 hc
          go_wp2_with fail
          go_loopw [8] (fun q wi => ∃ m : Nat, m ≤ qs.length ∧ q = .int .i64 m ∧ Below v3.heap.size v3 wi) (fun q _ => qs.length - (intOf q).toNat)
          case atStart => exact ⟨0, by omega, rfl, Below.refl _ _⟩
          case round =>
            obtain ⟨m, hm, rfl, hbm⟩ := hrel
            have HBm := Lib.hid hbm
            clear hbm
            by_cases hml : m < qs.length
            · obtain ⟨b3, o3, v, rfl, hb3, HVm, -, hcm⟩ := ints_at (OQ.out.below HBm.out).ints hml
              have hir := HRX.out v (by rw [← HVm.out]; exact getD_mem hml)
              have HA := Lib.hid (at_any Aa ca rs v _ wr (OA1.out.below (HX3.out _ _ HE.out HBm.out)).ints)
              generalize idxB rs v = ir at *
              have t1 : decide (ir < 0) = false := decide_eq_false (by omega)
              clear hir
              go_wp2_with fail
              refine HA.out.mono ?_
              rintro e w5 ⟨rfl, rfl⟩
              go_wp2
              go_roundw
              case rel => exact ⟨m + 1, by omega, by go_num, HBm.out⟩
              case measure => simp [intOf]; omega
            · obtain rfl : m = qs.length := by omega
              go_wp2
              go_roundw
              case rel => exact ⟨j + 1, by omega, by go_num, by rw [HSJ.out]; go_num, HX3.out _ _ HE.out HBm.out⟩
              case measure => simp [intOf]; omega
        · obtain rfl : j = xs.length := by omega
          obtain ⟨x4, hx4⟩ : ∃ x, wr = x := ⟨_, rfl⟩
          rw [hx4] at HBj s0 s1 c1 ⊢
          clear hx4 hin
          have c0 := (HCC.out _ (HX2.out _ HBj.out)).2.2.1
          have hsl := HSL.out _ hxl
          by_cases hk1 : kd = 1
          case' pos =>
            have e1 : (kd == 1) = true := by simp [hk1]
            have e2 : (kd != 1) = false := by simp [hk1]
            have HR2 : Hid (rs = [(k : Int)]) := HONE.out hk1
            have hk64 : In64 (k : Int) := by unfold In64; omega
            have HSA := Lib.hid (sameInts_any Aa (some ⟨x4.heap.size, 0, none⟩) ca 1 rs [(k : Int)] _ _ (x4.alloc (.cells #[.int .i64 (k : Int)] 3)) ((OA1.out.below HBj.out).alloc _).ints (ints_blk (xs := [(k : Int)]) (Blk.new _ _ _) (by simp) (by simpa using hk64)))
            rw [sameB_yes HR2.out] at HSA
            clear hk64 hk1
            go_wp2_with fail
            refine HSA.out.mono ?_
            rintro e x6 ⟨rfl, hb6⟩
            have HY6 := Lib.hid (through ((Below.refl _ _).alloc (Nat.le_refl _) _) (Nat.le_refl _) hb6 : Below x4.heap.size x4 x6)
            clear hb6 s0 s1 c1 c0
            obtain ⟨s0, s1, c0, -⟩ := HCC.out _ (HX2.out _ (HX3.out _ _ HBj.out HY6.out))
            go_wp2_with fail
            clear s0 s1 c0
          case' neg =>
            have e1 : (kd == 1) = false := by simp [hk1]
            have e2 : (kd != 1) = true := by simp [hk1]
            rw [HSUM.out hk1]
            have e3 : ((rs.length : Int) != (rs.length : Int)) = false := by simp
            obtain ⟨x6, hx6⟩ : ∃ x, x4 = x := ⟨_, rfl⟩
            have HY6 := Lib.hid (hx6 ▸ Below.refl x4.heap.size x4 : Below x4.heap.size x4 x6)
            rw [hx6] at s0 s1 c1 c0 ⊢
            clear hk1 hx6
            go_wp2_with fail
            clear s0 s1 c1 c0
          all_goals
            have HZ6 : Hid (∀ Y, Below x6.heap.size x6 Y → Below x1.heap.size x1 Y) := fun Y hY => HX3.out _ _ (HX3.out _ _ HBj.out HY6.out) hY
            go_loopw [9] (fun q wi => ∃ j : Nat, j ≤ rs.length ∧ q = .int .i64 j ∧ Below x6.heap.size x6 wi) (fun q _ => rs.length - (intOf q).toNat)
            case atStart => exact ⟨0, by omega, rfl, Below.refl _ _⟩
            case round =>
              obtain ⟨j, hj, rfl, hbm⟩ := hrel
              have HBm := Lib.hid hbm
              clear hbm
              obtain ⟨s0, s1, -⟩ := HCC.out _ (HX2.out _ (HZ6.out _ HBm.out))
              by_cases hjl : j < rs.length
              · obtain ⟨b4, o4, v, rfl, hb4, HVj, -, hcj⟩ := ints_at (OA1.out.below (HZ6.out _ HBm.out)).ints hjl
                have hia := HRK.out v (by rw [← HVj.out]; exact getD_mem hjl)
                obtain ⟨ia, hiv⟩ : ∃ ia, idxB (kindF l 1) v = ia := ⟨_, rfl⟩
                rw [hiv] at hia
                have HIA := Lib.hid hiv
                have HCJ : Hid (∀ (i : Nat) (u : Int), i < rs.length → rs.getD i 0 = u → ∀ Y, Below x6.heap.size x6 Y → Y.cell? ⟨b4, o4 + i, none⟩ = some (.int .i64 u)) := fun i u hi hu Y hY => by
                  obtain ⟨u', hu', -, hcu⟩ := ints_get (OA1.out.below (HZ6.out _ hY)).ints hi
                  rw [hcu]
                  exact congrArg some (congrArg (Value.int .i64) (hu'.out.symm.trans hu))
                clear hiv
                have HSO2 := HSO
                clear HSO
                have HSO := HSO2
                clear HSO2
                generalize kindF l 1 = ks at *
                have t1 : decide (ia < 0) = false := decide_eq_false (by omega)
                have HXX := Lib.hid (Below.refl wr.heap.size wr)
                have HWJ : Hid (∀ Y, Below wr.heap.size wr Y → Below x6.heap.size x6 Y) := fun Y hY => through HBm.out (Nat.le_refl _) hY
                by_cases hj0 : 0 < j
                · obtain ⟨m, rfl⟩ : ∃ m, j = m + 1 := ⟨j - 1, by omega⟩
                  have t2 : decide ((0 : Int) < (m : Int) + 1) = true := decide_eq_true (by omega)
                  have t8 : IntKind.i64.wrap (m : Int) = (m : Int) := wrap_pos _ (by omega) (by omega)
                  have t9 : (m : Int) < 20 := by omega
                  have t10 : m < rs.length := by omega
                  have t11 : (m : Int) + 1 < (rs.length : Int) := by omega
                  have t12 : (0 : Int) ≤ (m : Int) + 1 := by omega
                  have t13 : ((m : Int) + 1).toNat = m + 1 := by omega
                  obtain ⟨u, hu⟩ : ∃ u, rs.getD m 0 = u := ⟨_, rfl⟩
                  have hr := HRR.out m (m + 1) (by omega) hjl
                  rw [HVj.out, hu] at hr
                  have t4 : decide (v ≤ u) = false := decide_eq_false (by omega)
                  have HCU := Lib.hid (fun Y hY => HCJ.out m u (by omega) hu Y hY)
                  have HST : Hid (∀ Y, Below x6.heap.size x6 Y → Y.cell? ⟨w.heap.size, 0, none⟩ = some (.int .i64 g) ∧ Y.cell? ⟨w.heap.size, 1, none⟩ = some (.slice (some ⟨b, o, none⟩) l.length c) ∧ Y.cell? ⟨b4, o4 + (m + 1), none⟩ = some (.int .i64 v) ∧ Y.cell? ⟨b4, o4 + m, none⟩ = some (.int .i64 u)) := fun Y hY => by
                    obtain ⟨d0, d1, -⟩ := HCC.out _ (HX2.out _ (HZ6.out _ hY))
                    exact ⟨d0, d1, HCJ.out (m + 1) v hjl HVj.out Y hY, HCU.out Y hY⟩
                  clear hr hu hia
                  go_upto_region 23 with (fail)
                  go_region_held3 (fun w' => w'.cell? ⟨w.heap.size, 0, none⟩ = some (.int .i64 g) ∧ w'.cell? ⟨w.heap.size, 1, none⟩ = some (.slice (some ⟨b, o, none⟩) l.length c) ∧ w'.cell? ⟨b4, o4 + (m + 1), none⟩ = some (.int .i64 v) ∧ w'.cell? ⟨b4, o4 + m, none⟩ = some (.int .i64 u))
                    (first | exact HST.out _ (HWJ.out _ (Below.refl _ _).drew) | exact HST.out _ (HWJ.out _ (Below.refl _ _)) | exact HST.out _ (HWJ.out _ h3))
                    ((first
                      | (go_at_call 22; refine (HSO.out _ (HZ1.out _ (HX2.out _ (HZ6.out _ (HWJ.out _ HXX.out.drew))))).mono ?_; rintro e v3 ⟨A3, c3, rfl, o3, hq3⟩; have h3 := of_drew hq3)
                      | (go_at_call 72; refine (at_any A3 c3 ks v _ _ o3.ints).mono ?_; rw [HIA.out]; rintro e v4 ⟨rfl, rfl⟩)))
                  have HE := Lib.hid (HWJ.out _ h3)
                  clear h3 hq3 o3 s0 s1 hcj
                  go_wp2
                  go_roundw
                  case rel => exact ⟨m + 1 + 1, by omega, by go_num, HE.out⟩
                  case measure => simp [intOf]; omega
                · obtain rfl : j = 0 := by omega
                  have t4 : decide ((0 : Int) < (0 : Int)) = false := by decide
                  have HST : Hid (∀ Y, Below x6.heap.size x6 Y → Y.cell? ⟨w.heap.size, 0, none⟩ = some (.int .i64 g) ∧ Y.cell? ⟨w.heap.size, 1, none⟩ = some (.slice (some ⟨b, o, none⟩) l.length c) ∧ Y.cell? ⟨b4, o4, none⟩ = some (.int .i64 v)) := fun Y hY => by
                    obtain ⟨d0, d1, -⟩ := HCC.out _ (HX2.out _ (HZ6.out _ hY))
                    exact ⟨d0, d1, HCJ.out 0 v hjl HVj.out Y hY⟩
                  clear hj0 hia
                  obtain ⟨-, -, hcs⟩ := HST.out _ HBm.out
                  go_upto_region 23 with (fail)
                  refine wp_region_held_drew (S := fun w' => w'.cell? ⟨w.heap.size, 0, none⟩ = some (.int .i64 g) ∧ w'.cell? ⟨w.heap.size, 1, none⟩ = some (.slice (some ⟨b, o, none⟩) l.length c) ∧ w'.cell? ⟨b4, o4, none⟩ = some (.int .i64 v)) (by kernel_rfl) (HST.out _ HBm.out.drew) (fun hHeld => ?_)
                  (refine held_take 0 (by kernel_rfl) (by kernel_rfl) (by kernel_rfl) (by assumption) ?_; simp only [List.getElem?_toArray, List.getElem?_cons_zero]; refine ⟨fun _ _ _ _ h => h, ?_, Or.inl ⟨by kernel_rfl, ?_⟩, ?_⟩; rotate_left; (focus (intro wS hSw; (try dsimp only at hSw); go_simp; try with_reducible rfl)); (try simp only [Act.put, List.setIfInBounds_toArray, List.set_cons_zero, List.set_cons_succ]))
                  (refine held_take 2 (by kernel_rfl) (by kernel_rfl) (by kernel_rfl) (by assumption) ?_; simp only [List.getElem?_toArray, List.getElem?_cons_succ, List.getElem?_cons_zero]; refine ⟨fun _ _ _ _ h => h, ?_, Or.inl ⟨by kernel_rfl, ?_⟩, ?_⟩; rotate_left; (focus (intro wS hSw; (try dsimp only at hSw); go_simp; try with_reducible rfl)); (try simp only [Act.put, List.setIfInBounds_toArray, List.set_cons_zero, List.set_cons_succ]))
                  (refine held_take 3 (by kernel_rfl) (by kernel_rfl) (by kernel_rfl) (by assumption) ?_; simp only [List.getElem?_toArray, List.getElem?_cons_succ, List.getElem?_cons_zero]; refine ⟨fun _ _ _ _ h => h, ?_, Or.inl ⟨by kernel_rfl, ?_⟩, ?_⟩; rotate_left; (focus (intro wS hSw; (try dsimp only at hSw); go_simp; try with_reducible rfl)); (try simp only [Act.put, List.setIfInBounds_toArray, List.set_cons_zero, List.set_cons_succ]))
                  (refine held_take 4 (by kernel_rfl) (by kernel_rfl) (by kernel_rfl) (by assumption) ?_; simp only [List.getElem?_toArray, List.getElem?_cons_succ, List.getElem?_cons_zero]; refine ⟨fun _ _ _ _ h => h, ?_, Or.inl ⟨by kernel_rfl, ?_⟩, ?_⟩; rotate_left; (focus (intro wS hSw; (try dsimp only at hSw); go_simp; try with_reducible rfl)); (try simp only [Act.put, List.setIfInBounds_toArray, List.set_cons_zero, List.set_cons_succ]))
                  (refine held_take 5 (by kernel_rfl) (by kernel_rfl) (by kernel_rfl) (by assumption) ?_; simp only [List.getElem?_toArray, List.getElem?_cons_succ, List.getElem?_cons_zero]; refine ⟨fun _ _ _ _ h => h, ?_, Or.inl ⟨by kernel_rfl, ?_⟩, ?_⟩; rotate_left; (focus (intro wS hSw; (try dsimp only at hSw); go_simp; try with_reducible rfl)); (try simp only [Act.put, List.setIfInBounds_toArray, List.set_cons_zero, List.set_cons_succ]))
                  (refine held_one 1 (by kernel_rfl) ?_; simp only [List.getElem?_toArray, List.getElem?_cons_succ, List.getElem?_cons_zero]; intro K hK; go_simp)
                  refine (HSO.out _ (HZ1.out _ (HX2.out _ (HZ6.out _ (HWJ.out _ HXX.out.drew))))).mono ?_
                  rintro e v3 ⟨A3, c3, rfl, o3, hq3⟩
                  have h3 := of_drew hq3
                  clear hHeld
                  (go_wp2_with fail; refine hK.out _ _ ?_ (fun hHeld => ?_); (focus (exact HST.out _ (HWJ.out _ h3))); clear hK K; (try simp only [Act.put, List.setIfInBounds_toArray, List.set_cons_zero, List.set_cons_succ]))
                  (refine held_one 6 (by kernel_rfl) ?_; simp only [List.getElem?_toArray, List.getElem?_cons_succ, List.getElem?_cons_zero]; intro K hK; go_simp)
                  refine (at_any A3 c3 ks v _ _ o3.ints).mono ?_
                  rw [HIA.out]
                  rintro e v4 ⟨rfl, rfl⟩
                  clear hHeld
                  (go_wp2_with fail; refine hK.out _ _ ?_ (fun hHeld => ?_); (focus (exact HST.out _ (HWJ.out _ h3))); clear hK K; (try simp only [Act.put, List.setIfInBounds_toArray, List.set_cons_zero, List.set_cons_succ]))
                  (refine held_take 7 (by kernel_rfl) (by kernel_rfl) (by kernel_rfl) (by assumption) ?_; simp only [List.getElem?_toArray, List.getElem?_cons_succ, List.getElem?_cons_zero]; refine ⟨fun _ _ _ _ h => h, ?_, Or.inl ⟨by kernel_rfl, ?_⟩, ?_⟩; rotate_left; (focus (intro wS hSw; (try dsimp only at hSw); go_simp; try with_reducible rfl)); (try simp only [Act.put, List.setIfInBounds_toArray, List.set_cons_zero, List.set_cons_succ]))
                  (refine held_take 8 (by kernel_rfl) (by kernel_rfl) (by kernel_rfl) (by assumption) ?_; simp only [List.getElem?_toArray, List.getElem?_cons_succ, List.getElem?_cons_zero]; refine ⟨fun _ _ _ _ h => h, ?_, Or.inl ⟨by kernel_rfl, ?_⟩, ?_⟩; rotate_left; (focus (intro wS hSw; (try dsimp only at hSw); go_simp; try with_reducible rfl)); (try simp only [Act.put, List.setIfInBounds_toArray, List.set_cons_zero, List.set_cons_succ]))
                  (refine held_take 9 (by kernel_rfl) (by kernel_rfl) (by kernel_rfl) (by assumption) ?_; simp only [List.getElem?_toArray, List.getElem?_cons_succ, List.getElem?_cons_zero]; refine ⟨fun _ _ _ _ h => h, ?_, Or.inl ⟨by kernel_rfl, ?_⟩, ?_⟩; rotate_left; (focus (intro wS hSw; (try dsimp only at hSw); go_simp; try with_reducible rfl)); (try simp only [Act.put, List.setIfInBounds_toArray, List.set_cons_zero, List.set_cons_succ]))
                  (refine held_take 10 (by kernel_rfl) (by kernel_rfl) (by kernel_rfl) (by assumption) ?_; simp only [List.getElem?_toArray, List.getElem?_cons_succ, List.getElem?_cons_zero]; refine ⟨fun _ _ _ _ h => h, ?_, Or.inl ⟨by kernel_rfl, ?_⟩, ?_⟩; rotate_left; (focus (intro wS hSw; (try dsimp only at hSw); go_simp; try with_reducible rfl)); (try simp only [Act.put, List.setIfInBounds_toArray, List.set_cons_zero, List.set_cons_succ]))
                  (refine held_take 11 (by kernel_rfl) (by kernel_rfl) (by kernel_rfl) (by assumption) ?_; simp only [List.getElem?_toArray, List.getElem?_cons_succ, List.getElem?_cons_zero]; refine ⟨fun _ _ _ _ h => h, ?_, Or.inl ⟨by kernel_rfl, ?_⟩, ?_⟩; rotate_left; (focus (intro wS hSw; (try dsimp only at hSw); go_simp; try with_reducible rfl)); (try simp only [Act.put, List.setIfInBounds_toArray, List.set_cons_zero, List.set_cons_succ]))
                  (refine held_take 12 (by kernel_rfl) (by kernel_rfl) (by kernel_rfl) (by assumption) ?_; simp only [List.getElem?_toArray, List.getElem?_cons_succ, List.getElem?_cons_zero]; refine ⟨fun _ _ _ _ h => h, undef, Or.inr ⟨by kernel_rfl, rfl⟩, ?_⟩; (try simp only [Act.put, List.setIfInBounds_toArray, List.set_cons_zero, List.set_cons_succ]))
                  (refine held_take 13 (by kernel_rfl) (by kernel_rfl) (by kernel_rfl) (by assumption) ?_; simp only [List.getElem?_toArray, List.getElem?_cons_succ, List.getElem?_cons_zero]; refine ⟨fun _ _ _ _ h => h, undef, Or.inr ⟨by kernel_rfl, rfl⟩, ?_⟩; (try simp only [Act.put, List.setIfInBounds_toArray, List.set_cons_zero, List.set_cons_succ]))
                  (refine held_take 14 (by kernel_rfl) (by kernel_rfl) (by kernel_rfl) (by assumption) ?_; simp only [List.getElem?_toArray, List.getElem?_cons_succ, List.getElem?_cons_zero]; refine ⟨fun _ _ _ _ h => h, undef, Or.inr ⟨by kernel_rfl, rfl⟩, ?_⟩; (try simp only [Act.put, List.setIfInBounds_toArray, List.set_cons_zero, List.set_cons_succ]))
                  (refine held_take 15 (by kernel_rfl) (by kernel_rfl) (by kernel_rfl) (by assumption) ?_; simp only [List.getElem?_toArray, List.getElem?_cons_succ, List.getElem?_cons_zero]; refine ⟨fun _ _ _ _ h => h, undef, Or.inr ⟨by kernel_rfl, rfl⟩, ?_⟩; (try simp only [Act.put, List.setIfInBounds_toArray, List.set_cons_zero, List.set_cons_succ]))
                  (refine held_take 16 (by kernel_rfl) (by kernel_rfl) (by kernel_rfl) (by assumption) ?_; simp only [List.getElem?_toArray, List.getElem?_cons_succ, List.getElem?_cons_zero]; refine ⟨fun _ _ _ _ h => h, undef, Or.inr ⟨by kernel_rfl, rfl⟩, ?_⟩; (try simp only [Act.put, List.setIfInBounds_toArray, List.set_cons_zero, List.set_cons_succ]))
                  (refine held_take 17 (by kernel_rfl) (by kernel_rfl) (by kernel_rfl) (by assumption) ?_; simp only [List.getElem?_toArray, List.getElem?_cons_succ, List.getElem?_cons_zero]; refine ⟨fun _ _ _ _ h => h, undef, Or.inr ⟨by kernel_rfl, rfl⟩, ?_⟩; (try simp only [Act.put, List.setIfInBounds_toArray, List.set_cons_zero, List.set_cons_succ]))
                  (refine held_take 18 (by kernel_rfl) (by kernel_rfl) (by kernel_rfl) (by assumption) ?_; simp only [List.getElem?_toArray, List.getElem?_cons_succ, List.getElem?_cons_zero]; refine ⟨fun _ _ _ _ h => h, undef, Or.inr ⟨by kernel_rfl, rfl⟩, ?_⟩; (try simp only [Act.put, List.setIfInBounds_toArray, List.set_cons_zero, List.set_cons_succ]))
                  (refine held_take 19 (by kernel_rfl) (by kernel_rfl) (by kernel_rfl) (by assumption) ?_; simp only [List.getElem?_toArray, List.getElem?_cons_succ, List.getElem?_cons_zero]; refine ⟨fun _ _ _ _ h => h, undef, Or.inr ⟨by kernel_rfl, rfl⟩, ?_⟩; (try simp only [Act.put, List.setIfInBounds_toArray, List.set_cons_zero, List.set_cons_succ]))
                  (refine held_take 20 (by kernel_rfl) (by kernel_rfl) (by kernel_rfl) (by assumption) ?_; simp only [List.getElem?_toArray, List.getElem?_cons_succ, List.getElem?_cons_zero]; refine ⟨fun _ _ _ _ h => h, undef, Or.inr ⟨by kernel_rfl, rfl⟩, ?_⟩; (try simp only [Act.put, List.setIfInBounds_toArray, List.set_cons_zero, List.set_cons_succ]))
                  (refine held_take 21 (by kernel_rfl) (by kernel_rfl) (by kernel_rfl) (by assumption) ?_; simp only [List.getElem?_toArray, List.getElem?_cons_succ, List.getElem?_cons_zero]; refine ⟨fun _ _ _ _ h => h, undef, Or.inr ⟨by kernel_rfl, rfl⟩, ?_⟩; (try simp only [Act.put, List.setIfInBounds_toArray, List.set_cons_zero, List.set_cons_succ]))
                  (refine held_take 22 (by kernel_rfl) (by kernel_rfl) (by kernel_rfl) (by assumption) ?_; simp only [List.getElem?_toArray, List.getElem?_cons_succ, List.getElem?_cons_zero]; refine ⟨fun _ _ _ _ h => h, ?_, Or.inl ⟨by kernel_rfl, ?_⟩, ?_⟩; rotate_left; (focus (intro wS hSw; (try dsimp only at hSw); go_simp; try with_reducible rfl)); (try simp only [Act.put, List.setIfInBounds_toArray, List.set_cons_zero, List.set_cons_succ]))
                  (refine held_take 23 (by kernel_rfl) (by kernel_rfl) (by kernel_rfl) (by assumption) ?_; simp only [List.getElem?_toArray, List.getElem?_cons_succ, List.getElem?_cons_zero]; refine ⟨fun _ _ _ _ h => h, ?_, Or.inl ⟨by kernel_rfl, ?_⟩, ?_⟩; rotate_left; (focus (intro wS hSw; (try dsimp only at hSw); go_simp; try with_reducible rfl)); (try simp only [Act.put, List.setIfInBounds_toArray, List.set_cons_zero, List.set_cons_succ]))
                  (refine wpAnyH_done (by kernel_rfl) ?_ _)
                  have HE := Lib.hid (HWJ.out _ h3)
                  clear h3 hq3 o3 s0 s1 hcj hcs hHeld
                  go_wp2
                  go_roundw
                  case rel => exact ⟨1, by omega, by go_num, HE.out⟩
                  case measure => simp [intOf]; omega
              · obtain rfl : j = rs.length := by omega
                have HE := Lib.hid (HX2.out _ (HZ6.out _ HBm.out))
                clear s0 s1
                go_wp2
                go_roundw
                case rel => exact ⟨k + 1, by omega, by go_num, HE.out⟩
                case measure => simp [intOf]; omega
    · obtain rfl : k = l.length := by omega
      have HE := Lib.hid HB.out
      clear hio
      go_wp2_with fail
      refine (known_any _).mono ?_
      rintro e x5 ⟨rfl, hb5⟩
      have HB5 := Lib.hid (HS.out _ (HX.out _ _ (HZ1.out _ HE.out) hb5)).2.2.1
      clear hb5 s0 s1
      go_wp2_with fail
      go_returns
      exact ⟨rfl, HB5.out⟩
end Go.Proofs.Ytcechimilefihaa.Sp
