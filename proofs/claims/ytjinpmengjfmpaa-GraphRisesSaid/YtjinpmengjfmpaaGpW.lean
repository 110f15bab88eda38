/- The law: edges stand by tasks, and their inputs. -/
import Derived.Test.YtjinpmengjfmpaaGpU
import Derived.Test.YtjinpmengjfmpaaGpV
import Derived.Deep.RegionHeld3
namespace Go.Proofs.Ytjinpmengjfmpaa.Gp
open Go.ChangeShapes Go.WideShapes Go.ChangeAt Go.RowKit M Sp

set_option maxRecDepth 100000 in
set_option maxHeartbeats 8000000 in
theorem graphRises_any (g : Int) (A P : Option Addr) (c cp : Nat) (l : List OpP) (q : Nat → Option Addr × Nat) (hl : l.length ≤ 9223372036854775807) (xs : List Int) (w : World) (hO : IsOps w w.heap.size A l q) (hI : IsInts w w.heap.size ⟨P, cp, xs⟩) :
    Calls Try.prog 14 #[.agg #[.int .i64 g, .slice A l.length c], .slice P xs.length cp] w fun e w' => e = .returned (.bool true) ∧ Below w.heap.size w w' := by
  obtain ⟨W0, hW0⟩ : ∃ W0, w.alloc (.cells #[.int .i64 g, .slice A l.length c] 35) = W0 := ⟨_, rfl⟩
  have hz0 : W0.heap.size = w.heap.size + 1 := by rw [← hW0]; simp
  have HW : Hid (∀ Y, Below W0.heap.size W0 Y → Y.cell? ⟨w.heap.size, 0, none⟩ = some (.int .i64 g) ∧ Y.cell? ⟨w.heap.size, 1, none⟩ = some (.slice A l.length c) ∧ IsOps Y w.heap.size A l q ∧ IsInts Y w.heap.size ⟨P, cp, xs⟩ ∧ Below w.heap.size w Y) := Lib.hid (fun Y hY => by
    have hb0 : Below w.heap.size w W0 := hW0 ▸ (Below.refl _ _).alloc (Nat.le_refl _) _
    have hk := (hW0 ▸ Blk.new w _ _ : Blk W0 w.heap.size 35 #[.int .i64 g, .slice A l.length c]).below hY (by omega)
    have h1 := hb0.trans (hY.mono (by omega))
    exact ⟨by simpa using hk.cell 0, by simpa using hk.cell 1, hO.below h1, hI.below h1, h1⟩)
  have HX : Hid (∀ X Y, Below W0.heap.size W0 X → Below X.heap.size X Y → Below W0.heap.size W0 Y) := Lib.hid (fun X Y h1 h2 => through h1 (Nat.le_refl _) h2)
  have H0 := Lib.hid (Below.refl W0.heap.size W0)
  have HW0 := Lib.hid hW0
  have HL := Lib.hid (long_any g A c l q hl W0 w.heap.size (by omega) (HW.out _ H0.out).2.2.1)
  have HZ : Hid (∀ Y, Below W0.heap.size W0 Y → w.heap.size ≤ Y.heap.size) := Lib.hid (fun Y hY => by have := hY.size; omega)
  clear hW0 hO hI hz0
  cases elong : longB l with
  | true =>
    rw [elong] at HL
    clear elong
    go_enter Try.func14, Try.ntmps14
    go_wp2_with fail
    rw [HW0.out]
    refine HL.out.mono ?_
    rintro e w1 ⟨rfl, hb⟩
    have B1 := Lib.hid (HX.out _ _ H0.out hb)
    clear hb
    go_wp2_with fail
    refine (known_any _).mono ?_
    rintro e w2 ⟨rfl, hb⟩
    have HB := Lib.hid (HW.out _ (HX.out _ _ B1.out hb)).2.2.2.2
    clear hb
    go_wp2_with fail
    go_returns
    exact ⟨by first | rfl | simp, HB.out⟩
  | false =>
    obtain ⟨l20, i20⟩ := long_no elong
    rw [elong] at HL
    clear elong
    have HC : Hid (∀ Y, Below W0.heap.size W0 Y → Calls Try.prog 38 #[.agg #[.int .i64 g, .slice A l.length c]] Y fun e w' => e = .returned (.int .i64 (chkE g l)) ∧ Below Y.heap.size Y w') := Lib.hid (fun Y hY => check_any g A c l q (by omega) Y w.heap.size (HZ.out Y hY) (HW.out Y hY).2.2.1)
    clear i20
    by_cases hck : chkE g l = 0
    · have hj := ok_of hck
      rw [hck] at HC
      have HJ := Lib.hid hj
      have HIN := Lib.hid (ok_ins hj)
      have hl12 := hj.len.2
      clear hck hj
      have HPA : Hid (∀ Y, Below W0.heap.size W0 Y → Calls Try.prog 25 #[.agg #[.int .i64 g, .slice A l.length c], .slice P xs.length cp] Y (RetInts Y (parsF xs l.length))) := Lib.hid (fun Y hY => pars_any g A P l.length c cp (by omega) xs w.heap.size Y (HZ.out Y hY) (HW.out Y hY).2.2.2.1)
      obtain ⟨par, hpar⟩ : ∃ par, parsF xs l.length = par := ⟨_, rfl⟩
      have HP := Lib.hid (show par.length = l.length by rw [← hpar, parsF_len])
      have HPB := Lib.hid (show ∀ x ∈ par, 1 ≤ x ∧ x ≤ 8 by rw [← hpar]; exact parsF_bd xs l.length)
      rw [hpar] at HPA
      clear hpar
      have HE : Hid (∀ (A1 : Option Addr) (c1 : Nat) (Y : World), Below W0.heap.size W0 Y → IsInts Y Y.heap.size ⟨A1, c1, par⟩ → Calls Try.prog 26 #[.agg #[.int .i64 g, .slice A l.length c], .slice A1 par.length c1] Y (RetPairs 49 Y (edgesP l par))) := Lib.hid (fun A1 c1 Y hY hi => edges_any g A A1 c c1 l q par (by omega) HP.out (fun x hx => (HPB.out x hx).2) HIN.out Y ((HW.out Y hY).2.2.1.more (HZ.out Y hY)) hi)
      have HEL := Lib.hid (edgesP_len HP.out (by omega) (fun x hx => (HPB.out x hx).2) (fun i hi => (HIN.out i hi).1))
      obtain ⟨E, hE⟩ : ∃ E, edgesP l par = E := ⟨_, rfl⟩
      rw [hE] at HE HEL
      have HEE := Lib.hid hE
      clear hE
      go_enter Try.func14, Try.ntmps14
      go_wp2_with fail
      rw [HW0.out]
      refine HL.out.mono ?_
      rintro e w1 ⟨rfl, hb⟩
      have B1 := Lib.hid (HX.out _ _ H0.out hb)
      clear hb
      obtain ⟨s0, s1, -⟩ := HW.out _ B1.out
      go_wp2_with fail
      refine (HC.out _ B1.out).mono ?_
      rintro e w2 ⟨rfl, hb⟩
      have B2 := Lib.hid (HX.out _ _ B1.out hb)
      clear hb s0 s1 B1
      obtain ⟨s0, s1, -⟩ := HW.out _ B2.out
      go_wp2_with fail
      refine (HPA.out _ B2.out).mono ?_
      rintro e w3 ⟨A1, c1, rfl, own, hb⟩
      have B3 := Lib.hid (HX.out _ _ B2.out hb)
      have HI3 := Lib.hid own.ints
      clear hb s0 s1 B2 own
      obtain ⟨s0, s1, -⟩ := HW.out _ B3.out
      go_wp2_with fail
      refine (HE.out _ _ _ B3.out HI3.out).mono ?_
      rintro e w4 ⟨A4, c4, rfl, own, hb⟩
      have B4 := Lib.hid (HX.out _ _ B3.out hb)
      have HQ4 := Lib.hid own.pairs
      have HI4 := Lib.hid (HI3.out.below hb)
      have hE9 := own.pairs.len
      clear s0 s1 own
      have h96 : (spotsN par).length ≤ 96 := (show Few par from ⟨by have := HP.out; omega, fun x hx => (HPB.out x hx).2⟩).len
      have HT := Lib.hid (tasks_any A1 c1 par w4 (by omega) (HI4.out.more hb.size))
      have H96 := Lib.hid h96
      have HZ34 := Lib.hid hb.size
      clear hb h96 B3
      go_wp2_with fail
      refine HT.out.mono ?_
      rintro e w5 ⟨A5, c5, rfl, own, hb⟩
      have HL96 := Lib.hid (show (spotsP par).length ≤ 96 by rw [spotsP_len]; exact H96.out)
      have HQ5 := Lib.hid own.pairs
      have hL9 := own.pairs.len
      obtain ⟨L, hL⟩ : ∃ L, spotsP par = L := ⟨_, rfl⟩
      rw [hL] at HQ5 HL96 hL9 ⊢
      have HLL := Lib.hid hL
      have HKS : Hid (∀ Y, Below w5.heap.size w5 Y → Below W0.heap.size W0 Y ∧ IsInts Y w3.heap.size ⟨A1, c1, par⟩ ∧ IsPairs Y w4.heap.size A4 c4 E ∧ IsPairs Y w5.heap.size A5 c5 L ∧ w5.heap.size ≤ Y.heap.size ∧ w3.heap.size ≤ Y.heap.size ∧ w4.heap.size ≤ Y.heap.size) := Lib.hid (fun Y hY => by
        have h1 := through hb (Nat.le_refl _) hY
        have h2 := h1.size
        have h3 := HZ34.out
        exact ⟨HX.out _ _ B4.out h1, HI4.out.below (h1.mono h3), HQ4.out.below h1, HQ5.out.below hY, hY.size, by omega, h2⟩)
      clear hb own hL HT B4 HI4 HQ5 HQ4 HI3
      go_wp2_with fail
      go_loopw [7, 8] (fun pn qq wr => ∃ k : Nat, k ≤ L.length ∧ qq = .int .i64 k ∧ pn = .int .i64 ((edgesTo l par k).length : Int) ∧ Below w5.heap.size w5 wr) (fun _ qq _ => L.length - (intOf qq).toNat)
      case atStart => exact ⟨0, by omega, rfl, rfl, Below.refl _ _⟩
      case round =>
        obtain ⟨k, hk, rfl, rfl, hb⟩ := hrel
        obtain ⟨wo, rfl⟩ : ∃ wo : World, wo = wr := ⟨_, rfl⟩
        have HB := Lib.hid hb
        clear hb
        by_cases hlt : k < L.length
        · have t1 : decide (k < L.length) = true := decide_eq_true hlt
          obtain ⟨hB0, -, -, hQ5, -⟩ := HKS.out _ HB.out
          obtain ⟨-, s1, hO2, -⟩ := HW.out _ hB0
          obtain ⟨b, o, y, rfl, hbb, HV, -, c0, -⟩ := pairs_at hQ5 hlt
          obtain ⟨m, t, rfl, hm, ht, -⟩ := at_place (par := par) (k := k) (y := y) (by rw [HLL.out]; exact hlt) (by rw [HLL.out]; exact HV.out)
          have hml : m < l.length := by have := HP.out; omega
          obtain ⟨ba, oa, rfl, hba, -, d1, -, -, -, -, -, -, -, hins⟩ := hO2.at_ hml
          have hq := HIN.out m hml
          have HEA : Hid (∀ (i j : Nat) (v : Int), i < (insOf l m).length → (insOf l m).getD i 0 = v → j < (par.getD v.toNat 0).toNat → (edgesTo l par k).length + (edgesK par k (insOf l m) i).length + j < E.length ∧ E.getD ((edgesTo l par k).length + (edgesK par k (insOf l m) i).length + j) (0, 0) = ((((upto par v.toNat).length + j : Nat) : Int), (k : Int))) := Lib.hid (fun i j v h1 h2 h3 => by
            rw [← HEE.out]
            exact edge_at (by rw [HLL.out]; exact hlt) (by rw [HLL.out]; exact HV.out) h1 h2 h3)
          have HSN := Lib.hid (edgesTo_snoc (l := l) (par := par) (i := k) (m := m) (t := t) (by rw [HLL.out]; exact hlt) (by rw [HLL.out]; exact HV.out))
          have HROW := Lib.hid (show insP E (k : Int) = (List.range (edgesK par k (insOf l m) (insOf l m).length).length).map fun s => (((edgesTo l par k).length + s : Nat) : Int) by rw [← HEE.out]; exact ins_row (by rw [HLL.out]; exact hlt) (by rw [HLL.out]; exact HV.out))
          obtain ⟨ins, hi0⟩ : ∃ ins, insOf l m = ins := ⟨_, rfl⟩
          rw [hi0] at d1 hins hq HSN HEA HROW
          obtain ⟨hq12, hqm⟩ := hq
          obtain ⟨qa, hqa⟩ : ∃ qa, q m = qa := ⟨_, rfl⟩
          obtain ⟨qa, qc⟩ := qa
          rw [hqa] at d1 hins
          simp only at d1 hins c0
          have HINS : Hid (∀ Y, Below w5.heap.size w5 Y → IsInts Y w.heap.size ⟨qa, qc, ins⟩) := Lib.hid (fun Y hY => by
            have := ((HW.out _ (HKS.out _ hY).1).2.2.1.at_ hml).choose_spec.choose_spec.2.2.2.2.2.2.2.2.2.2.2
            rw [hi0, hqa] at this
            exact this)
          have HQM := Lib.hid hqm
          have hi9 := ints_len9 hins
          have hl9 : l.length ≤ 9223372036854775807 := by omega
          have HEL2 := Lib.hid (show (edgesTo l par k).length ≤ 9216 by
            have := edgesTo_len (l := l) (par := par) (fun x hx => (HPB.out x hx).2) (fun i hi => (HIN.out i (by have := HP.out; omega)).1) k
            have := HL96.out; omega)
          obtain ⟨n0, hn0⟩ : ∃ n0, (edgesTo l par k).length = n0 := ⟨_, rfl⟩
          have HN0 := Lib.hid hn0
          rw [hn0] at HEA HROW HEL2 ⊢
          clear hqm hi0 hqa hn0 hins hO2 hQ5 ht hbb hB0
          go_wp2_with fail
          go_quiet (fail)
          go_wp2_with fail
          go_loopw [7, 10] (fun pn qq wr => ∃ i : Nat, i ≤ ins.length ∧ qq = .int .i64 i ∧ pn = .int .i64 ((n0 + (edgesK par k ins i).length : Nat) : Int) ∧ Below w5.heap.size w5 wr) (fun _ qq _ => ins.length - (intOf qq).toNat)
          case atStart => exact ⟨0, by omega, rfl, by rw [edgesK_zero]; rfl, below_drewN HB.out _⟩
          case round =>
            obtain ⟨i, hi, rfl, rfl, hb⟩ := hrel
            obtain ⟨wq, rfl⟩ : ∃ wq : World, wq = wr := ⟨_, rfl⟩
            have HB2 := Lib.hid hb
            clear hb
            by_cases hli : i < ins.length
            · have t2 : decide (i < ins.length) = true := decide_eq_true hli
              obtain ⟨b3, o3, rfl⟩ := ints_addr (HINS.out _ HB2.out) (by omega)
              obtain ⟨v, hv⟩ : ∃ v, ins.getD i 0 = v := ⟨_, rfl⟩
              obtain ⟨m2, hvm, hml2⟩ := HQM.out v (by rw [← hv]; exact getD_mem hli)
              subst hvm
              have hmp2 : m2 < par.length := by have := HP.out; omega
              have HSK := Lib.hid (edgesK_snoc (par := par) (n := k) hli hv)
              have HEI : Hid (∀ j : Nat, j < (par.getD m2 0).toNat → n0 + (edgesK par k ins i).length + j < E.length ∧ E.getD (n0 + (edgesK par k ins i).length + j) (0, 0) = ((((upto par m2).length + j : Nat) : Int), (k : Int))) := Lib.hid (fun j hj => HEA.out i j (m2 : Int) hli hv hj)
              have HIC : Hid (∀ Y, Below w5.heap.size w5 Y → Y.cell? ⟨b3, o3 + i, none⟩ = some (.int .i64 (m2 : Int))) := Lib.hid (fun Y hY => hv ▸ ints_get (HINS.out _ hY) hli)
              have HKL := Lib.hid (edgesK_len (par := par) (n := k) (ins := ins) (fun x hx => (HPB.out x hx).2) i)
              obtain ⟨b4, o4, rfl⟩ := ints_addr (HKS.out _ HB2.out).2.1 (by omega)
              have hpm := HPB.out (par.getD m2 0) (getD_mem hmp2)
              obtain ⟨p, hp⟩ : ∃ p, par.getD m2 0 = p := ⟨_, rfl⟩
              rw [hp] at hpm HEI
              rw [show ((m2 : Int)).toNat = m2 by omega, hp] at HSK
              obtain ⟨p1, p8⟩ := hpm
              have HPC : Hid (∀ Y, Below w5.heap.size w5 Y → Y.cell? ⟨b4, o4 + m2, none⟩ = some (.int .i64 p)) := Lib.hid (fun Y hY => hp ▸ ints_get (HKS.out _ hY).2.1 hmp2)
              obtain ⟨n1, hn1⟩ : ∃ n1, n0 + (edgesK par k ins i).length = n1 := ⟨_, rfl⟩
              have HN1 := Lib.hid hn1
              have hn1b : n1 ≤ 9400 := by have := HKL.out; have := HEL2.out; omega
              have HHP := Lib.hid hp
              have hm29 : m2 < 9223372036854775807 := by omega
              rw [hn1] at HEI ⊢
              clear hv hp hn1
              go_wp2_with fail
              go_loopw [7, 11] (fun pn qq wr => ∃ j : Nat, (j : Int) ≤ p ∧ qq = .int .i64 j ∧ pn = .int .i64 ((n1 + j : Nat) : Int) ∧ Below w5.heap.size w5 wr) (fun _ qq _ => p.toNat - (intOf qq).toNat)
              case atStart => exact ⟨0, by omega, rfl, rfl, HB2.out⟩
              case round =>
                obtain ⟨j, hj, rfl, rfl, hb⟩ := hrel
                have HB3 := Lib.hid hb
                clear hb
                have e3 := HIC.out _ HB3.out
                have e4 := HPC.out _ HB3.out
                by_cases hlj : (j : Int) < p
                · have t3 : decide ((j : Int) < p) = true := decide_eq_true hlj
                  obtain ⟨hE1, hE2⟩ := HEI.out j (by omega)
                  obtain ⟨n, hn⟩ : ∃ n, n1 + j = n := ⟨_, rfl⟩
                  rw [hn] at hE1 hE2 ⊢
                  have HN := Lib.hid hn
                  obtain ⟨bE, oE, y, rfl, hbE, HVE, -, f0, f1⟩ := pairs_at (HKS.out _ HB3.out).2.2.1 hE1
                  obtain rfl : y = ((((upto par m2).length + j : Nat) : Int), (k : Int)) := HVE.out.symm.trans hE2
                  obtain ⟨r, hr⟩ : ∃ r : Int, (((upto par m2).length + j : Nat) : Int) = r := ⟨_, rfl⟩
                  rw [hr] at f0
                  have HIX : Hid (∀ Y, Below w5.heap.size w5 Y → Calls Try.prog 20 #[.slice (some ⟨b4, o4, none⟩) par.length c1, .agg #[.int .i64 (m2 : Int), .int .i64 (j : Int)]] Y fun e w' => e = .returned (.int .i64 r) ∧ Below Y.heap.size Y w') := Lib.hid (fun Y hY => by
                    have h2 := index_any (some ⟨b4, o4, none⟩) c1 par ((m2 : Int), (j : Int)) Y (by have := H96.out; omega) ((HKS.out _ hY).2.1.more (HKS.out _ hY).2.2.2.2.2.1)
                    rw [idx_of hmp2 (by rw [HHP.out]; omega), hr] at h2
                    exact h2)
                  have HFC : Hid (∀ Y, Below wr.heap.size wr Y → Y.cell? ⟨bE, oE + n * 2, none⟩ = some (.int .i64 r) ∧ Y.cell? ⟨bE, oE + n * 2 + 1, none⟩ = some (.int .i64 (k : Int)) ∧ Y.cell? ⟨b3, o3 + i, none⟩ = some (.int .i64 (m2 : Int))) := Lib.hid (fun Y hY => by
                    have hz : bE < wr.heap.size := Nat.lt_of_lt_of_le hbE (HKS.out _ HB3.out).2.2.2.2.2.2
                    exact ⟨(hY.cell (p := ⟨bE, oE + n * 2, none⟩) hz).trans f0, (hY.cell (p := ⟨bE, oE + n * 2 + 1, none⟩) hz).trans f1, HIC.out _ (through HB3.out (Nat.le_refl _) hY)⟩)
                  have u1 : decide (E.length ≤ n) = false := decide_eq_false (by omega)
                  have u1' : decide ((E.length : Int) ≤ (n : Int)) = false := decide_eq_false (by omega)
                  have u2 : ((k : Int) != (k : Int)) = false := by simp
                  have u3 : (r != r) = false := by simp
                  have hnb : n ≤ 9500 := by omega
                  clear hE2 hr hn f0 f1 hbE
                  go_wp2_with fail
                  go_region_held3 (fun (w' : World) => w'.cell? ⟨bE, oE + n * 2, none⟩ = some (.int .i64 r) ∧ w'.cell? ⟨bE, oE + n * 2 + 1, none⟩ = some (.int .i64 (k : Int)) ∧ w'.cell? ⟨b3, o3 + i, none⟩ = some (.int .i64 (m2 : Int)))
                    (first | exact HFC.out _ (Below.refl _ _).drew | exact HFC.out _ r6)
                    ((go_at_call 20; refine (HIX.out _ HB3.out.drew).mono ?_; rintro e w6 ⟨rfl, q6⟩; have r6 : Below wr.heap.size wr w6 := (Below.refl _ _).drew.trans q6))
                  have HB6 := Lib.hid (show Below w5.heap.size w5 w6 from through HB3.out (Nat.le_refl _) r6)
                  clear r6 q6 u1 u1' u2 u3 e3 e4
                  go_wp2_with fail
                  go_roundw
                  case rel => exact ⟨j + 1, by omega, by go_num, by have := HN.out; go_num, HB6.out⟩
                  case measure => simp [intOf]; omega
                · have hjp : j = p.toNat := by omega
                  have HJP := Lib.hid hjp
                  clear hjp
                  go_wp2_with fail
                  go_roundw
                  case rel => exact ⟨i + 1, by omega, by go_num, by rw [HSK.out, List.length_append, edgesI_len, ← HJP.out, ← Nat.add_assoc, HN1.out], HB3.out⟩
                  case measure => simp [intOf]; omega
            · obtain rfl : ins.length = i := by omega
              have HIC : Hid (∀ Y, Below w5.heap.size w5 Y → Calls Try.prog 30 #[.slice A4 E.length c4, .int .i64 (k : Int)] Y (RetInts Y (insP E (k : Int)))) := Lib.hid (fun Y hY => ins_any A4 c4 E (k : Int) w4.heap.size Y (HKS.out _ hY).2.2.2.2.2.2 (HKS.out _ hY).2.2.1 (by have := HEL.out; omega))
              have HKL := Lib.hid (edgesK_len (par := par) (n := k) (ins := ins) (fun x hx => (HPB.out x hx).2) ins.length)
              obtain ⟨cnt, hcnt⟩ : ∃ cnt, (edgesK par k ins ins.length).length = cnt := ⟨_, rfl⟩
              rw [hcnt] at HROW HKL ⊢
              rw [HROW.out] at HIC
              have HSL := Lib.hid (show (edgesTo l par (k + 1)).length = n0 + cnt by rw [HSN.out, List.length_append, HN0.out, hcnt])
              clear hcnt
              go_wp2_with fail
              refine (HIC.out _ HB2.out).mono ?_
              rintro e w6 ⟨A6, c6, rfl, own, hb⟩
              have HB6 := Lib.hid (through HB2.out (Nat.le_refl _) hb)
              have HI6 := Lib.hid own.ints
              have hlen6 : ((List.range cnt).map fun s => ((n0 + s : Nat) : Int)).length = cnt := by simp
              rw [hlen6] at ⊢
              have HL6 := Lib.hid hlen6
              clear hb own hlen6
              by_cases hc0 : cnt = 0
              · have u1 : decide ((0 : Int) < (cnt : Int)) = false := decide_eq_false (by omega)
                have u1' : decide (0 < cnt) = false := decide_eq_false (by omega)
                have u1'' : ¬ 0 < cnt := by omega
                clear hc0
                go_wp2_with fail
                go_quiet (fail)
                go_wp2_with fail
                go_roundw
                case rel => exact ⟨k + 1, by omega, by go_num, by rw [HSL.out]; go_num, below_drewN HB6.out _⟩
                case measure => simp [intOf]; omega
              · obtain ⟨d, rfl⟩ : ∃ d, cnt = d + 1 := ⟨cnt - 1, by omega⟩
                have u1 : decide ((0 : Int) < ((d + 1 : Nat) : Int)) = true := decide_eq_true (by omega)
                obtain ⟨b6, o6, rfl⟩ := ints_addr HI6.out (by rw [HL6.out]; omega)
                have g0 := ints_get HI6.out (k := 0) (by rw [HL6.out]; omega)
                have g1 := ints_get HI6.out (k := d) (by rw [HL6.out]; omega)
                simp at g0
                rw [List.getD_eq_getElem?_getD, List.getElem?_map, List.getElem?_range (by omega)] at g1
                simp at g1
                have ew : IntKind.i64.wrap (((d + 1 : Nat) : Int) - 1) = (d : Int) := by rw [IntWalk.i64_in _ (by have := HKL.out; omega)]; omega
                have hn0b : n0 ≤ 9216 := HEL2.out
                have hdb : d ≤ 9216 := by have := HKL.out; omega
                clear hc0
                go_wp2_with fail
                go_quiet (fail)
                go_wp2_with fail
                go_roundw
                case rel => exact ⟨k + 1, by omega, by go_num, by rw [HSL.out]; go_num, below_drewN HB6.out _⟩
                case measure => simp [intOf]; omega
        · obtain rfl : L.length = k := by omega
          have HEQ := Lib.hid (show (edgesTo l par L.length).length = E.length by rw [← HEE.out, ← edgesTo_all, HLL.out])
          rw [HEQ.out]
          go_wp2_with fail
          refine (known_any _).mono ?_
          rintro e w9 ⟨rfl, hb⟩
          have HBF := Lib.hid (HW.out _ (HX.out _ _ (HKS.out _ HB.out).1 hb)).2.2.2.2
          clear hb
          go_wp2_with fail
          go_returns
          exact ⟨by first | rfl | simp, HBF.out⟩
    · have hne : (chkE g l != 0) = true := by simpa using hck
      clear hck
      go_enter Try.func14, Try.ntmps14
      go_wp2_with fail
      rw [HW0.out]
      refine HL.out.mono ?_
      rintro e w1 ⟨rfl, hb⟩
      have B1 := Lib.hid (HX.out _ _ H0.out hb)
      clear hb
      obtain ⟨s0, s1, -⟩ := HW.out _ B1.out
      go_wp2_with fail
      refine (HC.out _ B1.out).mono ?_
      rintro e w2 ⟨rfl, hb⟩
      have B2 := Lib.hid (HX.out _ _ B1.out hb)
      clear hb s0 s1
      go_wp2_with fail
      refine (known_any _).mono ?_
      rintro e w3 ⟨rfl, hb⟩
      have HB := Lib.hid (HW.out _ (HX.out _ _ B2.out hb)).2.2.2.2
      clear hb
      go_wp2_with fail
      go_returns
      exact ⟨by first | rfl | simp, HB.out⟩
end Go.Proofs.Ytjinpmengjfmpaa.Gp
