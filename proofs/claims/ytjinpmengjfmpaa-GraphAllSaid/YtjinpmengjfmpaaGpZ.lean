/- The law: all edges, each once, and from which to which tasks. -/
import Derived.Test.YtjinpmengjfmpaaGpY
import Derived.Deep.RegionHeld3
namespace Go.Proofs.Ytjinpmengjfmpaa.Gp
open Go.ChangeShapes Go.WideShapes Go.ChangeAt Go.RowKit M Sp

set_option maxRecDepth 100000 in
set_option maxHeartbeats 8000000 in
theorem graphAll_any (g : Int) (A P : Option Addr) (c cp : Nat) (l : List OpP) (q : Nat → Option Addr × Nat) (hl : l.length ≤ 9223372036854775807) (xs : List Int) (w : World) (hO : IsOps w w.heap.size A l q) (hI : IsInts w w.heap.size ⟨P, cp, xs⟩) :
    Calls Try.prog 13 #[.agg #[.int .i64 g, .slice A l.length c], .slice P xs.length cp] w fun e w' => e = .returned (.bool true) ∧ Below w.heap.size w w' := by
  obtain ⟨W0, hW0⟩ : ∃ W0, w.alloc (.cells #[.int .i64 g, .slice A l.length c] 35) = W0 := ⟨_, rfl⟩
  have hz0 : W0.heap.size = w.heap.size + 1 := by rw [← hW0]; simp
  have HW : Hid (∀ Y, Below W0.heap.size W0 Y → Y.cell? ⟨w.heap.size, 0, none⟩ = some (.int .i64 g) ∧ Y.cell? ⟨w.heap.size, 1, none⟩ = some (.slice A l.length c) ∧ IsOps Y w.heap.size A l q ∧ IsInts Y w.heap.size ⟨P, cp, xs⟩ ∧ Below w.heap.size w Y) := Lib.hid (fun Y hY => by
    have hb0 : Below w.heap.size w W0 := hW0 ▸ (Below.refl _ _).alloc (Nat.le_refl _) _
    have hk := (hW0 ▸ Blk.new w _ _ : Blk W0 w.heap.size 35 #[.int .i64 g, .slice A l.length c]).below hY (by omega)
    have h1 := hb0.trans (hY.mono (by omega))
    exact ⟨by simpa using hk.cell 0, by simpa using hk.cell 1, hO.below h1, hI.below h1, h1⟩)
  have HX : Hid (∀ X Y, Below W0.heap.size W0 X → Below X.heap.size X Y → Below W0.heap.size W0 Y) := Lib.hid (fun X Y h1 h2 => through h1 (Nat.le_refl _) h2)
  have H0 := Lib.hid (Below.refl W0.heap.size W0)
  have HW0 := Lib.hid hW0
  have HL := Lib.hid (long_any g A c l q hl W0 w.heap.size (by omega) (HW.out _ H0.out).2.2.1)
  have HZ : Hid (∀ Y, Below W0.heap.size W0 Y → w.heap.size ≤ Y.heap.size) := Lib.hid (fun Y hY => by have := hY.size; omega)
  clear hW0 hO hI hz0
  cases elong : longB l with
  | true =>
    rw [elong] at HL
    clear elong
    go_enter Try.func13, Try.ntmps13
    go_wp2_with fail
    rw [HW0.out]
    refine HL.out.mono ?_
    rintro e w1 ⟨rfl, hb⟩
    have B1 := Lib.hid (HX.out _ _ H0.out hb)
    clear hb
    go_wp2_with fail
    refine (known_any _).mono ?_
    rintro e w2 ⟨rfl, hb⟩
    have HB := Lib.hid (HW.out _ (HX.out _ _ B1.out hb)).2.2.2.2
    clear hb
    go_wp2_with fail
    go_returns
    exact ⟨by first | rfl | simp, HB.out⟩
  | false =>
    obtain ⟨l20, i20⟩ := long_no elong
    rw [elong] at HL
    clear elong
    have HC : Hid (∀ Y, Below W0.heap.size W0 Y → Calls Try.prog 38 #[.agg #[.int .i64 g, .slice A l.length c]] Y fun e w' => e = .returned (.int .i64 (chkE g l)) ∧ Below Y.heap.size Y w') := Lib.hid (fun Y hY => check_any g A c l q (by omega) Y w.heap.size (HZ.out Y hY) (HW.out Y hY).2.2.1)
    clear i20
    by_cases hck : chkE g l = 0
    · have hj := ok_of hck
      rw [hck] at HC
      have HJ := Lib.hid hj
      have HIN := Lib.hid (ok_ins hj)
      have hl12 := hj.len.2
      clear hck hj
      have HPA : Hid (∀ Y, Below W0.heap.size W0 Y → Calls Try.prog 25 #[.agg #[.int .i64 g, .slice A l.length c], .slice P xs.length cp] Y (RetInts Y (parsF xs l.length))) := Lib.hid (fun Y hY => pars_any g A P l.length c cp (by omega) xs w.heap.size Y (HZ.out Y hY) (HW.out Y hY).2.2.2.1)
      obtain ⟨par, hpar⟩ : ∃ par, parsF xs l.length = par := ⟨_, rfl⟩
      have HP := Lib.hid (show par.length = l.length by rw [← hpar, parsF_len])
      have HPB := Lib.hid (show ∀ x ∈ par, 1 ≤ x ∧ x ≤ 8 by rw [← hpar]; exact parsF_bd xs l.length)
      rw [hpar] at HPA
      clear hpar
      have HE : Hid (∀ (A1 : Option Addr) (c1 : Nat) (Y : World), Below W0.heap.size W0 Y → IsInts Y Y.heap.size ⟨A1, c1, par⟩ → Calls Try.prog 26 #[.agg #[.int .i64 g, .slice A l.length c], .slice A1 par.length c1] Y (RetPairs 49 Y (edgesP l par))) := Lib.hid (fun A1 c1 Y hY hi => edges_any g A A1 c c1 l q par (by omega) HP.out (fun x hx => (HPB.out x hx).2) HIN.out Y ((HW.out Y hY).2.2.1.more (HZ.out Y hY)) hi)
      have HEL := Lib.hid (edgesP_len HP.out (by omega) (fun x hx => (HPB.out x hx).2) (fun i hi => (HIN.out i hi).1))
      obtain ⟨E, hE⟩ : ∃ E, edgesP l par = E := ⟨_, rfl⟩
      rw [hE] at HE HEL
      have HEE := Lib.hid hE
      clear hE
      go_enter Try.func13, Try.ntmps13
      go_wp2_with fail
      rw [HW0.out]
      refine HL.out.mono ?_
      rintro e w1 ⟨rfl, hb⟩
      have B1 := Lib.hid (HX.out _ _ H0.out hb)
      clear hb
      obtain ⟨s0, s1, -⟩ := HW.out _ B1.out
      go_wp2_with fail
      refine (HC.out _ B1.out).mono ?_
      rintro e w2 ⟨rfl, hb⟩
      have B2 := Lib.hid (HX.out _ _ B1.out hb)
      clear hb s0 s1 B1
      obtain ⟨s0, s1, -⟩ := HW.out _ B2.out
      go_wp2_with fail
      refine (HPA.out _ B2.out).mono ?_
      rintro e w3 ⟨A1, c1, rfl, own, hb⟩
      have B3 := Lib.hid (HX.out _ _ B2.out hb)
      have HI3 := Lib.hid own.ints
      clear hb s0 s1 B2 own
      obtain ⟨s0, s1, -⟩ := HW.out _ B3.out
      go_wp2_with fail
      refine (HE.out _ _ _ B3.out HI3.out).mono ?_
      rintro e w4 ⟨A4, c4, rfl, own, hb⟩
      have B4 := Lib.hid (HX.out _ _ B3.out hb)
      have HQ4 := Lib.hid own.pairs
      have HI4 := Lib.hid (HI3.out.below hb)
      have hE9 := own.pairs.len
      clear s0 s1 own
      have h96 : (spotsN par).length ≤ 96 := (show Few par from ⟨by have := HP.out; omega, fun x hx => (HPB.out x hx).2⟩).len
      have HT := Lib.hid (tasks_any A1 c1 par w4 (by omega) (HI4.out.more hb.size))
      have H96 := Lib.hid h96
      have HZ34 := Lib.hid hb.size
      clear hb h96 B3
      go_wp2_with fail
      refine HT.out.mono ?_
      rintro e w5 ⟨A5, c5, rfl, own, hb⟩
      have HL96 := Lib.hid (show (spotsP par).length ≤ 96 by rw [spotsP_len]; exact H96.out)
      have HQ5 := Lib.hid own.pairs
      have hL9 := own.pairs.len
      obtain ⟨L, hL⟩ : ∃ L, spotsP par = L := ⟨_, rfl⟩
      rw [hL] at HQ5 HL96 hL9 ⊢
      have HLL := Lib.hid hL
      have HKS : Hid (∀ Y, Below w5.heap.size w5 Y → Below W0.heap.size W0 Y ∧ IsInts Y w3.heap.size ⟨A1, c1, par⟩ ∧ IsPairs Y w4.heap.size A4 c4 E ∧ IsPairs Y w5.heap.size A5 c5 L ∧ w5.heap.size ≤ Y.heap.size ∧ w3.heap.size ≤ Y.heap.size ∧ w4.heap.size ≤ Y.heap.size) := Lib.hid (fun Y hY => by
        have h1 := through hb (Nat.le_refl _) hY
        have h2 := h1.size
        have h3 := HZ34.out
        exact ⟨HX.out _ _ B4.out h1, HI4.out.below (h1.mono h3), HQ4.out.below h1, HQ5.out.below hY, hY.size, by omega, h2⟩)
      clear hb own hL HT B4 HI4 HQ5 HQ4 HI3
      obtain ⟨ba, oa, rfl, -, -⟩ := (HW.out _ H0.out).2.2.1.at_ (i := 0) HJ.out.len.1
      obtain ⟨b1, o1, rfl⟩ := ints_addr (HKS.out _ (Below.refl _ _)).2.1 (by have := HP.out; have := HJ.out.len.1; omega)
      have HSC : Hid (∀ Y, Below w5.heap.size w5 Y → Y.cell? ⟨w.heap.size, 1, none⟩ = some (.slice (some ⟨ba, oa, none⟩) l.length c)) := Lib.hid (fun Y hY => (HW.out _ (HKS.out _ hY).1).2.1)
      have HOP : Hid (∀ Y, Below w5.heap.size w5 Y → ∀ i, i < l.length → Y.cell? ⟨ba, oa + i * 8, none⟩ = some (.int .i64 (kindOf l i)) ∧ Y.cell? ⟨ba, oa + i * 8 + 1, none⟩ = some (.slice (q i).1 (insOf l i).length (q i).2) ∧ IsInts Y w.heap.size ⟨(q i).1, (q i).2, insOf l i⟩) := Lib.hid (fun Y hY i hi => ops_get (HW.out _ (HKS.out _ hY).1).2.2.1 hi)
      have HPC : Hid (∀ Y, Below w5.heap.size w5 Y → ∀ i, i < par.length → Y.cell? ⟨b1, o1 + i, none⟩ = some (.int .i64 (par.getD i 0))) := Lib.hid (fun Y hY i hi => ints_get (HKS.out _ hY).2.1 hi)
      have HWL : Hid (∀ i, i ≤ l.length → wantF l par i ≤ 9216) := Lib.hid (fun i hi => wantF_le (fun x hx => (HPB.out x hx).2) (fun i hi => (HIN.out i (by have := HP.out; omega)).1) (by rw [HLL.out]; exact HL96.out) (by have := HP.out; omega))
      have HW5 := Lib.hid (Below.refl w5.heap.size w5)
      have hl9 : l.length ≤ 9223372036854775807 := by omega
      go_wp2_with fail
      go_loopw [7, 8] (fun pn qq wr => ∃ i : Nat, i ≤ l.length ∧ qq = .int .i64 i ∧ pn = .int .i64 ((wantF l par i : Nat) : Int) ∧ Below w5.heap.size w5 wr) (fun _ qq _ => l.length - (intOf qq).toNat)
      case atStart => exact ⟨0, by omega, rfl, by rw [wantF_zero]; rfl, HW5.out⟩
      case round =>
        obtain ⟨i, hi, rfl, rfl, hb⟩ := hrel
        obtain ⟨wo, rfl⟩ : ∃ wo : World, wo = wr := ⟨_, rfl⟩
        have HB := Lib.hid hb
        clear hb
        have s1 := HSC.out _ HB.out
        by_cases hlt : i < l.length
        · --L1
          have t1 : decide (i < l.length) = true := decide_eq_true hlt
          have hip : i < par.length := by have := HP.out; omega
          obtain ⟨T, hT, T1, T8⟩ := par_nat HPB.out hip
          obtain ⟨qa, hqa⟩ : ∃ qa, q i = qa := ⟨_, rfl⟩
          obtain ⟨qa, qc⟩ := qa
          obtain ⟨hq12, hqm⟩ := HIN.out i hlt
          have HWS := Lib.hid (wantF_succ (l := l) hip)
          have HN0 := Lib.hid (HWL.out i hi)
          obtain ⟨n0, hn0⟩ : ∃ n0, wantF l par i = n0 := ⟨_, rfl⟩
          obtain ⟨ins, hi0⟩ : ∃ ins, insOf l i = ins := ⟨_, rfl⟩
          rw [hn0, hi0, hT, show ((T : Int)).toNat = T by omega] at HWS
          rw [hi0] at hq12 hqm
          rw [hn0] at HN0 ⊢
          have HIC : Hid (∀ Y, Below w5.heap.size w5 Y → Y.cell? ⟨ba, oa + i * 8 + 1, none⟩ = some (.slice qa ins.length qc) ∧ IsInts Y w.heap.size ⟨qa, qc, ins⟩ ∧ Y.cell? ⟨b1, o1 + i, none⟩ = some (.int .i64 (T : Int))) := Lib.hid (fun Y hY => by
            have h1 := HOP.out Y hY i hlt
            rw [hqa, hi0] at h1
            exact ⟨h1.2.1, h1.2.2, hT ▸ HPC.out Y hY i hip⟩)
          have HQM := Lib.hid hqm
          have hi9 : ins.length ≤ 9223372036854775807 := by omega
          clear hqm hi0 hn0 hT hqa
          go_wp2_with fail
          go_loopw [7, 9] (fun pn qq wr => ∃ k : Nat, k ≤ ins.length ∧ qq = .int .i64 k ∧ pn = .int .i64 ((n0 + T * cntK par ins k : Nat) : Int) ∧ Below w5.heap.size w5 wr) (fun _ qq _ => ins.length - (intOf qq).toNat)
          case atStart => exact ⟨0, by omega, rfl, by rw [cntK_zero]; rfl, HB.out⟩
          case round =>
            obtain ⟨k, hk, rfl, rfl, hb⟩ := hrel
            obtain ⟨wq, rfl⟩ : ∃ wq : World, wq = wr := ⟨_, rfl⟩
            have HB2 := Lib.hid hb
            clear hb
            have s2 := HSC.out _ HB2.out
            obtain ⟨d1, hI2, p1⟩ := HIC.out _ HB2.out
            by_cases hli : k < ins.length
            · have t2 : decide (k < ins.length) = true := decide_eq_true hli
              obtain ⟨b3, o3, rfl⟩ := ints_addr hI2 (by omega)
              have g1 := ints_get hI2 hli
              obtain ⟨m2, hvm, hm2⟩ := HQM.out _ (getD_mem hli)
              have hmp2 : m2 < par.length := by have := HP.out; omega
              obtain ⟨U, hU, U1, U8⟩ := par_nat HPB.out hmp2
              have g2 := HPC.out _ HB2.out m2 hmp2
              have HCS := Lib.hid (cntK_succ (par := par) hli hvm)
              rw [show ((m2 : Int)).toNat = m2 by omega, hU, show ((U : Int)).toNat = U by omega] at HCS
              rw [hU] at g2
              rw [hvm] at g1
              have hcb := cntK_le (par := par) (fun x hx => (HPB.out x hx).2) ins k
              obtain ⟨cn, hcn⟩ : ∃ cn, cntK par ins k = cn := ⟨_, rfl⟩
              rw [hcn] at HCS hcb ⊢
              have hTc : T * cn ≤ 8 * 96 := Nat.mul_le_mul T8 (by omega)
              have hTU : T * U ≤ 8 * 8 := Nat.mul_le_mul T8 U8
              have hn0b := HN0.out
              have HCQ : Hid (n0 + T * cntK par ins (k + 1) = n0 + T * cn + T * U) := Lib.hid (by rw [HCS.out, Nat.mul_add]; omega)
              obtain ⟨n1, hn1⟩ : ∃ n1, n0 + T * cn = n1 := ⟨_, rfl⟩
              obtain ⟨tu, htu⟩ : ∃ tu, T * U = tu := ⟨_, rfl⟩
              have etu : (T : Int) * (U : Int) = (tu : Int) := by rw [← htu]; simp
              have hn1b : n1 ≤ 10000 := by omega
              rw [hn1, htu] at HCQ
              rw [hn1]
              have htub : tu ≤ 64 := by omega
              have hm29 : m2 < 9223372036854775807 := by omega
              have hU9 : U ≤ 8 := U8
              clear hn1 htu hTc hTU hcb hcn hU hvm hn0b
              go_wp2_with fail
              go_quiet (fail)
              go_wp2_with fail
              go_roundw
              case rel => exact ⟨k + 1, by omega, by go_num, by rw [HCQ.out]; go_num, below_drewN HB2.out _⟩
              case measure => simp [intOf]; omega
            · obtain rfl : ins.length = k := by omega
              clear hI2
              go_wp2_with fail
              go_roundw
              case rel => exact ⟨i + 1, by omega, by go_num, by rw [HWS.out], HB2.out⟩
              case measure => simp [intOf]; omega
          --/L1
        · obtain rfl : l.length = i := by omega
          --L2
          rw [show wantF l par l.length = E.length by rw [← HEE.out, ← wantF_all, HP.out]]
          have u0 : ((E.length : Int) != (E.length : Int)) = false := by simp
          have hEL := HEL.out
          have hNN : L.length * L.length ≤ 96 * 96 := Nat.mul_le_mul HL96.out HL96.out
          obtain ⟨NN, hN2⟩ : ∃ NN, L.length * L.length = NN := ⟨_, rfl⟩
          have HN2 := Lib.hid hN2
          have eNN : (L.length : Int) * (L.length : Int) = (NN : Int) := by rw [← hN2]; simp
          rw [hN2] at hNN
          obtain ⟨i0, hi0, hz0, hz1, hz2⟩ := info_parts infoB
          have wNN : IntKind.i64.wrap (NN : Int) = (NN : Int) := IntWalk.i64_in _ (by omega)
          clear hN2
          go_wp2_with (at_make; refine wpList_make_full _ rfl _ _ 64 rfl wo.heap.size 4 i0 (.bool false) 1 Try.underlying64 hi0 hz0 hz1 .i64 .i64 _ _ NN rfl rfl (by first | rfl | omega | (simp only [eNN, wNN])) (by first | rfl | omega | (simp only [eNN, wNN])) (by rw [hz2]; omega) (by unfold maxLen; omega) (Nat.le_refl _) ?_; intro w8 hown hgrow)
          have HB8 := Lib.hid (through HB.out (Nat.le_refl _) (below_of_only hgrow (Nat.le_refl _) (fun g h => by cases h)))
          have HS8 := Lib.hid ((seen_made hown).congr (f' := seenF L.length E 0) fun q => seenF_zero _ _ _)
          obtain ⟨G, hG⟩ : ∃ G, wo.heap.size = G := ⟨_, rfl⟩
          have HG : Hid (w5.heap.size ≤ G) := Lib.hid (hG ▸ HB.out.size)
          rw [hG] at HS8 ⊢
          have HND : Hid E.Nodup := Lib.hid (by rw [← HEE.out, ← edgesTo_all]; exact edgesTo_nodup (fun i hi x hx => by obtain ⟨j, e, hj⟩ := (HIN.out i (by have := HP.out; omega)).2 x hx; exact ⟨j, e, by have := HP.out; omega⟩) (fun i hi a b => ins_nodup (HJ.out.alone i (by have := HP.out; omega)) a b) _)
          have HIE : Hid (∀ e ∈ E, IsEdge l par e) := Lib.hid (fun e he => edge_is (fun i hi x hx => by obtain ⟨j, e, hj⟩ := (HIN.out i (by have := HP.out; omega)).2 x hx; exact ⟨j, e, by have := HP.out; omega⟩) (by rw [HEE.out]; exact he))
          have HBD : Hid (∀ e ∈ E, 0 ≤ e.1 ∧ e.1 < (L.length : Int) ∧ 0 ≤ e.2 ∧ e.2 < (L.length : Int)) := Lib.hid (fun e he => by have := (HIE.out e he).bd; rw [HLL.out] at this; exact this)
          have hL96 := HL96.out
          clear hown hgrow hG HB s1 u0 hz0 hz1 hz2 hi0
          go_wp2_with fail
          go_loopw [11] (fun qq wr => ∃ i : Nat, i ≤ E.length ∧ qq = .int .i64 i ∧ Below w5.heap.size w5 wr ∧ Seen wr G NN (seenF L.length E i)) (fun qq _ => E.length - (intOf qq).toNat)
          case atStart => exact ⟨0, by omega, rfl, HB8.out, HS8.out⟩
          case round =>
            obtain ⟨i, hi, rfl, hb, hsn⟩ := hrel
            obtain ⟨wv, rfl⟩ : ∃ wv : World, wv = wr := ⟨_, rfl⟩
            have HB := Lib.hid hb
            have HS := Lib.hid hsn
            clear hb hsn
            by_cases hlt : i < E.length
            · --L3
              have t1 : decide (i < E.length) = true := decide_eq_true hlt
              obtain ⟨m, t, j, s, k0, hy, hm, ht, hj, hs, hk0, hv0⟩ := (HIE.out _ (pairs_mem hlt)).ex
              obtain ⟨b4, o4, y, rfl, hb4, HV, -, f0, f1⟩ := pairs_at (HKS.out _ HB.out).2.2.1 hlt
              obtain ⟨e1, l1⟩ := spot_block (par := par) hm ht
              obtain ⟨e2, l2⟩ := spot_block (par := par) hj hs
              rw [HLL.out] at e1 l1 e2 l2
              obtain ⟨fn, hfn⟩ : ∃ fn, (upto par m).length + t = fn := ⟨_, rfl⟩
              obtain ⟨tn, htn⟩ : ∃ tn, (upto par j).length + s = tn := ⟨_, rfl⟩
              rw [hfn, htn] at hy
              rw [hfn] at e1 l1
              rw [htn] at e2 l2
              obtain rfl := HV.out.symm.trans hy
              simp only at f0 f1
              obtain ⟨fq, hfq⟩ : ∃ fq, fn * L.length = fq := ⟨_, rfl⟩
              have ef : (fn : Int) * (L.length : Int) = (fq : Int) := by rw [← hfq]; simp
              have hqN : fq + tn < NN := by rw [← hfq, ← HN2.out]; exact place_nat l1 l2
              have hNNb : NN ≤ 9216 := hNN
              have eq1 : (fn : Int) * (L.length : Int) + (tn : Int) = ((fq + tn : Nat) : Int) := by rw [ef]; simp
              have HSQ := Lib.hid (seenF_succ hlt hy eq1)
              have hsF := seenF_new HND.out (fun e he => ⟨(HBD.out e he).2.2.1, (HBD.out e he).2.2.2⟩) hlt hy eq1
              have hcs := HS.out.cell hqN
              rw [hsF] at hcs
              have hGl := HS.out.lt
              obtain ⟨X, hX⟩ : ∃ X, wv.alloc (.cells #[.int .i64 (fn : Int), .int .i64 (tn : Int)] 49) = X := ⟨_, rfl⟩
              have HBX : Hid (Blk X wv.heap.size 49 #[.int .i64 (fn : Int), .int .i64 (tn : Int)]) := Lib.hid (hX ▸ Blk.new wv _ _)
              have k0 : X.cell? ⟨wv.heap.size, 0, none⟩ = some (.int .i64 (fn : Int)) := by simpa using HBX.out.cell 0
              have k1 : X.cell? ⟨wv.heap.size, 1, none⟩ = some (.int .i64 (tn : Int)) := by simpa using HBX.out.cell 1
              have kS : X.cell? ⟨G, fq + tn, none⟩ = some (.bool false) := by rw [← hX, World.cell?_alloc_lt wv _ ⟨G, fq + tn, none⟩ hGl]; exact hcs
              have HSX : Hid (Seen X G NN (seenF L.length E i)) := Lib.hid (hX ▸ HS.out.alloc _)
              have kF : X.frozen? ⟨G, fq + tn, none⟩ = false := HSX.out.frozen _
              have HXB : Hid (Below w5.heap.size w5 X) := Lib.hid (hX ▸ HB.out.alloc HB.out.size _)
              have u1 : decide ((fn : Int) < 0) = false := decide_eq_false (by omega)
              have u2 : decide (L.length ≤ fn) = false := decide_eq_false (by omega)
              have u3 : decide ((L.length : Int) ≤ (fn : Int)) = false := decide_eq_false (by omega)
              have u4 : decide ((tn : Int) < 0) = false := decide_eq_false (by omega)
              have u5 : decide (L.length ≤ tn) = false := decide_eq_false (by omega)
              have u6 : decide ((L.length : Int) ≤ (tn : Int)) = false := decide_eq_false (by omega)
              have hfqb : fq ≤ 9216 := by omega
              have HE1 := Lib.hid e1
              have HE2 := Lib.hid e2
              have hml : m < l.length := by have := HP.out; omega
              have hjl : j < l.length := by have := HP.out; omega
              have HHN := Lib.hid (hasN_all hk0 hv0)
              have HQM := Lib.hid (HIN.out j hjl)
              obtain ⟨ins, hi0⟩ : ∃ ins, insOf l j = ins := ⟨_, rfl⟩
              obtain ⟨qa, hqa⟩ : ∃ qa, q j = qa := ⟨_, rfl⟩
              obtain ⟨qa, qc⟩ := qa
              have HOJ : Hid (∀ Y, Below w5.heap.size w5 Y → Y.cell? ⟨ba, oa + j * 8 + 1, none⟩ = some (.slice qa ins.length qc) ∧ IsInts Y w.heap.size ⟨qa, qc, ins⟩) := Lib.hid (fun Y hY => by
                have h1 := HOP.out Y hY j hjl
                rw [hqa, hi0] at h1
                exact h1.2)
              rw [hi0] at HHN HQM
              clear hk0 hv0 hi0 hqa e1 e2 hfn htn hy hfq hcs hsF eq1 ht hs hb4 HV
              go_wp2_with fail
              obtain ⟨Y, hY⟩ : ∃ Y, X.setCell ⟨G, fq + tn, none⟩ (.bool true) = Y := ⟨_, rfl⟩
              rw [hY]
              have HYB : Hid (Below w5.heap.size w5 Y) := Lib.hid (hY ▸ HXB.out.setCell HG.out _)
              have HYS : Hid (Seen Y G NN (seenF L.length E (i + 1))) := Lib.hid ((hY ▸ HSX.out.set (fq + tn)).congr fun x => HSQ.out x)
              have HYK : Hid (Blk Y wv.heap.size 49 #[.int .i64 (fn : Int), .int .i64 (tn : Int)]) := Lib.hid (hY ▸ HBX.out.far (p := ⟨G, fq + tn, none⟩) (Nat.ne_of_gt hGl) _)
              have HYZ : Hid (∀ Z, Below Y.heap.size Y Z → Z.cell? ⟨wv.heap.size, 0, none⟩ = some (.int .i64 (fn : Int)) ∧ Z.cell? ⟨wv.heap.size, 1, none⟩ = some (.int .i64 (tn : Int)) ∧ Below w5.heap.size w5 Z ∧ Seen Z G NN (seenF L.length E (i + 1))) := Lib.hid (fun Z hZ => by
                have h1 := HYK.out.below hZ HYK.out.lt
                exact ⟨by simpa using h1.cell 0, by simpa using h1.cell 1, through HYB.out (Nat.le_refl _) hZ, HYS.out.below hZ HYS.out.lt⟩)
              clear k0 k1 kS kF hX hY hGl f0 f1 u1 u2 u3 u4 u5 u6 ef hqN
              obtain ⟨k0, k1, hz, -⟩ := HYZ.out Y (Below.refl _ _)
              have s1 := HSC.out _ hz
              have d1 := (HOJ.out _ hz).1
              obtain ⟨b5, o5, y, rfl, -, HV5, -, g0, -⟩ := pairs_at (HKS.out _ hz).2.2.2.1 l2
              obtain rfl := HV5.out.symm.trans HE2.out
              simp only at g0
              have HLF : Hid (∀ Z, Below w5.heap.size w5 Z → Z.cell? ⟨b5, o5 + fn * 2, none⟩ = some (.int .i64 (m : Int))) := Lib.hid (fun Z hZ => by
                obtain ⟨y, hy, -, h0, -⟩ := pairs_get (HKS.out _ hZ).2.2.2.1 l1
                rw [hy.out.symm.trans HE1.out] at h0
                exact h0)
              have hi9 : ins.length ≤ 9223372036854775807 := by have := HQM.out.1; omega
              have hj9 : j ≤ 9223372036854775807 := by omega
              have hm9 : m ≤ 9223372036854775807 := by omega
              clear hz HV5
              go_wp2_with fail
              go_quiet (fail)
              clear k0 k1 s1 d1 g0
              go_wp2_with fail
              go_loopw [13, 15] (fun pn qq wr => ∃ k : Nat, k ≤ ins.length ∧ qq = .int .i64 k ∧ pn = .bool (hasN ins m k) ∧ Below Y.heap.size Y wr) (fun _ qq _ => ins.length - (intOf qq).toNat)
              case atStart => exact ⟨0, by omega, rfl, by rw [hasN_zero], below_drewN (Below.refl _ _) _⟩
              case round =>
                obtain ⟨k, hk, rfl, rfl, hb⟩ := hrel
                have HBZ := Lib.hid hb
                clear hb
                obtain ⟨k0, k1, hz, -⟩ := HYZ.out _ HBZ.out
                by_cases hlk : k < ins.length
                · have t2 : decide (k < ins.length) = true := decide_eq_true hlk
                  have hI := (HOJ.out _ hz).2
                  obtain ⟨b3, o3, rfl⟩ := ints_addr hI (by omega)
                  have g1 := ints_get hI hlk
                  obtain ⟨xm, hvm, hxm⟩ := HQM.out.2 _ (getD_mem hlk)
                  have g2 := HLF.out _ hz
                  have HNS := Lib.hid (hasN_succ (m := m) hlk hvm)
                  rw [hvm] at g1
                  obtain ⟨hh, hhh⟩ : ∃ hh, hasN ins m k = hh := ⟨_, rfl⟩
                  rw [hhh] at HNS ⊢
                  clear hvm hhh hI hz
                  cases hh with
                  | true =>
                    go_wp2_with fail
                    go_quiet (fail)
                    go_wp2_with fail
                    go_roundw
                    case rel => exact ⟨k + 1, by omega, by go_num, by rw [HNS.out]; rfl, below_drewN HBZ.out _⟩
                    case measure => simp [intOf]; omega
                  | false =>
                    have u7 : ((xm : Int) == (m : Int)) = (xm == m) := by rw [Bool.eq_iff_iff]; simp; omega
                    go_wp2_with fail
                    go_quiet (fail)
                    go_wp2_with fail
                    go_roundw
                    case rel => exact ⟨k + 1, by omega, by go_num, by rw [HNS.out]; simp, below_drewN HBZ.out _⟩
                    case measure => simp [intOf]; omega
                · obtain rfl : ins.length = k := by omega
                  rw [HHN.out]
                  have HF := Lib.hid (HYZ.out _ HBZ.out).2.2
                  clear hz
                  go_wp2_with fail
                  go_roundw
                  case rel => exact ⟨i + 1, by omega, by go_num, HF.out.1, HF.out.2⟩
                  case measure => simp [intOf]; omega
              --/L3
            · obtain rfl : E.length = i := by omega
              --L4
              clear HS hNN eNN wNN HN2 HND HS8 HB8
              go_wp2_with fail
              go_loopw [16, 17, 18] (fun pn pm qq wr => ∃ k : Nat, k ≤ L.length ∧ qq = .int .i64 k ∧ pn = .int .i64 (((edgesTo l par k).length : Nat) : Int) ∧ pm = .int .i64 ((cntF E k : Nat) : Int) ∧ Below w5.heap.size w5 wr) (fun _ _ qq _ => L.length - (intOf qq).toNat)
              case atStart => exact ⟨0, by omega, rfl, rfl, by rw [cntF_zero fun e he => (HBD.out e he).1]; rfl, HB.out⟩
              case round =>
                obtain ⟨k, hk, rfl, rfl, rfl, hb⟩ := hrel
                obtain ⟨wo, rfl⟩ : ∃ wo : World, wo = wr := ⟨_, rfl⟩
                have HB2 := Lib.hid hb
                clear hb
                by_cases hlk : k < L.length
                · --L5
                  have t1 : decide (k < L.length) = true := decide_eq_true hlk
                  obtain ⟨b5, o5, y, rfl, -, HV, -⟩ := pairs_at (HKS.out _ HB2.out).2.2.2.1 hlk
                  obtain ⟨m, t, rfl, hm, ht, hkm⟩ := at_place (par := par) (k := k) (y := y) (by rw [HLL.out]; exact hlk) (by rw [HLL.out]; exact HV.out)
                  have hml : m < l.length := by have := HP.out; omega
                  have HIN2 : Hid (∀ i, i < par.length → ∀ x ∈ insOf l i, ∃ j : Nat, x = j ∧ j < par.length) := Lib.hid (fun i hi x hx => by obtain ⟨j, e, hj⟩ := (HIN.out i (by have := HP.out; omega)).2 x hx; exact ⟨j, e, by have := HP.out; omega⟩)
                  have HSN := edgesTo_snoc (l := l) (par := par) (i := k) (m := m) (t := t) (by rw [HLL.out]; exact hlk) (by rw [HLL.out]; exact HV.out)
                  have hrow : insP E (k : Int) = (List.range (edgesK par k (insOf l m) (insOf l m).length).length).map fun s => (((edgesTo l par k).length + s : Nat) : Int) := by rw [← HEE.out]; exact ins_row (by rw [HLL.out]; exact hlk) (by rw [HLL.out]; exact HV.out)
                  have hrl := congrArg List.length hrow
                  rw [List.length_map, List.length_range] at hrl
                  have HKI : Hid (((insP E (k : Int)).length == 0) = (kindOf l m == 1)) := Lib.hid (by
                    rw [hrl, cntK_any, Bool.eq_iff_iff]
                    simp only [beq_iff_eq]
                    rw [cntK_pos (fun x hx => (HPB.out x hx).1) (HIN2.out m hm)]
                    obtain ⟨h1, h2, h3⟩ := ins_many (HJ.out.alone m hml)
                    constructor
                    · intro e
                      refine Classical.byContradiction fun h4 => ?_
                      by_cases h7 : kindOf l m = 7
                      · have := h2 h7; rw [e] at this; simp at this
                      · have := h3 h4 h7; rw [e] at this; simp at this
                    · exact h1)
                  have HKO : Hid (((outsP E (k : Int)).length == 0) = (kindOf l m == 8)) := Lib.hid (by
                    rw [← HJ.out.fedK hml, Bool.eq_iff_iff, beq_iff_eq, ← HEE.out]
                    exact outs_none (fun x hx => (HPB.out x hx).1) HP.out HIN2.out hkm hm (by omega))
                  have HSL : Hid ((edgesTo l par (k + 1)).length = (edgesTo l par k).length + (insP E (k : Int)).length) := Lib.hid (by rw [HSN, List.length_append, hrl])
                  have HSO := Lib.hid (cntF_succ E k)
                  have HPI : Hid (∀ x, x < (insP E (k : Int)).length → ∃ v : Nat, (insP E (k : Int)).getD x 0 = v ∧ v < E.length ∧ (E.getD v (0, 0)).2 = (k : Int)) := Lib.hid (fun x hx => by
                    obtain ⟨v, h1, h2, h3⟩ := posF_at 0 E x hx
                    exact ⟨v, by rw [show insP E (k : Int) = posF (toF (k : Int)) 0 E from rfl, h1]; simp, h2, by simpa [toF] using h3⟩)
                  have HPO : Hid (∀ x, x < (outsP E (k : Int)).length → ∃ v : Nat, (outsP E (k : Int)).getD x 0 = v ∧ v < E.length ∧ (E.getD v (0, 0)).1 = (k : Int)) := Lib.hid (fun x hx => by
                    obtain ⟨v, h1, h2, h3⟩ := posF_at 0 E x hx
                    exact ⟨v, by rw [show outsP E (k : Int) = posF (fromF (k : Int)) 0 E from rfl, h1]; simp, h2, by simpa [fromF] using h3⟩)
                  have HRI : Hid (∀ x, x + 1 < (insP E (k : Int)).length → (insP E (k : Int)).getD x 0 < (insP E (k : Int)).getD (x + 1) 0) := Lib.hid (fun x hx => posF_next hx)
                  have HRO : Hid (∀ x, x + 1 < (outsP E (k : Int)).length → (outsP E (k : Int)).getD x 0 < (outsP E (k : Int)).getD (x + 1) 0) := Lib.hid (fun x hx => posF_next hx)
                  have hIl : (insP E (k : Int)).length ≤ E.length := by show (posF _ 0 E).length ≤ _; rw [posF_filter]; exact List.length_filter_le _ _
                  have hOl : (outsP E (k : Int)).length ≤ E.length := by show (posF _ 0 E).length ≤ _; rw [posF_filter]; exact List.length_filter_le _ _
                  have hn0 : (edgesTo l par k).length ≤ 9216 := by
                    have := edgesTo_len (l := l) (par := par) (fun x hx => (HPB.out x hx).2) (fun i hi => (HIN.out i (by have := HP.out; omega)).1) k
                    omega
                  have hn1 := cntF_le E k
                  obtain ⟨n0, e0⟩ : ∃ n0, (edgesTo l par k).length = n0 := ⟨_, rfl⟩
                  obtain ⟨n1, e1⟩ : ∃ n1, cntF E k = n1 := ⟨_, rfl⟩
                  rw [e0] at HSL hn0
                  rw [e1] at HSO hn1
                  rw [e0, e1]
                  clear e0 e1 hrow hrl HSN
                  have HIC : Hid (∀ Y, Below w5.heap.size w5 Y → Calls Try.prog 30 #[.slice A4 E.length c4, .int .i64 (k : Int)] Y (RetInts Y (insP E (k : Int)))) := Lib.hid (fun Y hY => ins_any A4 c4 E (k : Int) w4.heap.size Y (HKS.out _ hY).2.2.2.2.2.2 (HKS.out _ hY).2.2.1 (by have := HEL.out; omega))
                  have HOC : Hid (∀ Y, Below w5.heap.size w5 Y → Calls Try.prog 31 #[.slice A4 E.length c4, .int .i64 (k : Int)] Y (RetInts Y (outsP E (k : Int)))) := Lib.hid (fun Y hY => outs_any A4 c4 E (k : Int) w4.heap.size Y (HKS.out _ hY).2.2.2.2.2.2 (HKS.out _ hY).2.2.1 (by have := HEL.out; omega))
                  obtain ⟨I, hI⟩ : ∃ I, insP E (k : Int) = I := ⟨_, rfl⟩
                  obtain ⟨O, hO⟩ : ∃ O, outsP E (k : Int) = O := ⟨_, rfl⟩
                  rw [hI] at HKI HSL HPI HRI HIC hIl
                  rw [hO] at HKO HSO HPO HRO HOC hOl
                  have HKD : Hid (∀ Y, Below w5.heap.size w5 Y → Y.cell? ⟨ba, oa + m * 8, none⟩ = some (.int .i64 (kindOf l m)) ∧ Y.cell? ⟨b5, o5 + k * 2, none⟩ = some (.int .i64 (m : Int))) := Lib.hid (fun Y hY => by
                    refine ⟨(HOP.out Y hY m hml).1, ?_⟩
                    obtain ⟨y, hy, -, h0, -⟩ := pairs_get (HKS.out _ hY).2.2.2.1 hlk
                    rw [hy.out.symm.trans HV.out] at h0
                    exact h0)
                  obtain ⟨kd, hkd⟩ : ∃ kd, kindOf l m = kd := ⟨_, rfl⟩
                  rw [hkd] at HKI HKO HKD
                  clear hI hO hkd hkm ht
                  go_wp2_with fail
                  refine (HIC.out _ HB2.out).mono ?_
                  rintro e w6 ⟨A6, c6, rfl, own, hb⟩
                  have HB6 := Lib.hid (through HB2.out (Nat.le_refl _) hb)
                  have HI6 := Lib.hid own.ints
                  clear hb own
                  go_wp2_with fail
                  refine (HOC.out _ HB6.out).mono ?_
                  rintro e w7 ⟨A7, c7, rfl, own, hb⟩
                  have HB7 := Lib.hid (through HB6.out (Nat.le_refl _) hb)
                  have HI7 := Lib.hid (HI6.out.below hb)
                  have HO7 := Lib.hid own.ints
                  have hz67 := hb.size
                  have HF7 : Hid (∀ Y, Below w7.heap.size w7 Y → Below w5.heap.size w5 Y ∧ IsInts Y w6.heap.size ⟨A6, c6, I⟩ ∧ IsInts Y w7.heap.size ⟨A7, c7, O⟩) := Lib.hid (fun Y hY => ⟨through HB7.out (Nat.le_refl _) hY, HI7.out.below (hY.mono hz67), HO7.out.below hY⟩)
                  clear hb own hz67
                  have s1 := HSC.out _ HB7.out
                  obtain ⟨d0, g0⟩ := HKD.out _ HB7.out
                  obtain ⟨sb, hsb⟩ : ∃ sb, (kd == 1) = sb := ⟨_, rfl⟩
                  obtain ⟨sc, hsc⟩ : ∃ sc, (kd == 8) = sc := ⟨_, rfl⟩
                  have v1 : (I.length == 0) = sb := by rw [HKI.out, hsb]
                  have v2 : (O.length == 0) = sc := by rw [HKO.out, hsc]
                  have v3 : ((I.length : Int) == 0) = sb := by rw [← v1, Bool.eq_iff_iff]; simp
                  have v4 : ((O.length : Int) == 0) = sc := by rw [← v2, Bool.eq_iff_iff]; simp
                  have v5 : (sb != sb) = false := by simp
                  have v6 : (sc != sc) = false := by simp
                  have hm9 : m ≤ 9223372036854775807 := by omega
                  go_wp2_with fail
                  go_quiet (fail)
                  go_wp2_with fail
                  clear s1 d0 g0 v1 v2 v3 v4 v5 v6 hsb hsc
                  go_loopw [22] (fun qq wr => ∃ x : Nat, x ≤ I.length ∧ qq = .int .i64 x ∧ Below w7.heap.size w7 wr) (fun qq _ => I.length - (intOf qq).toNat)
                  case atStart => exact ⟨0, by omega, rfl, below_drewN (Below.refl _ _) _⟩
                  case round =>
                    obtain ⟨x, hx, rfl, hb⟩ := hrel
                    obtain ⟨wq, rfl⟩ : ∃ wq : World, wq = wr := ⟨_, rfl⟩
                    have HBQ := Lib.hid hb
                    clear hb
                    by_cases hlx : x < I.length
                    · have t2 : decide (x < I.length) = true := decide_eq_true hlx
                      obtain ⟨hz, hI, hO⟩ := HF7.out _ HBQ.out
                      obtain ⟨b6, o6, rfl⟩ := ints_addr hI (by omega)
                      have g1 := ints_get hI hlx
                      obtain ⟨v, hv, hvl, hvk⟩ := HPI.out x hlx
                      obtain ⟨b4, o4, y, rfl, -, HV4, -, -, f1⟩ := pairs_at (HKS.out _ hz).2.2.1 hvl
                      rw [HV4.out] at hvk
                      rw [hvk] at f1
                      rw [hv] at g1
                      have u3 : ((k : Int) != (k : Int)) = false := by simp
                      have hv9 : v ≤ 9223372036854775807 := by omega
                      by_cases hx0 : x = 0
                      · have u1 : decide (0 < x) = false := decide_eq_false (by omega)
                        have u2 : decide ((0 : Int) < (x : Int)) = false := decide_eq_false (by omega)
                        have u4 : ¬ 0 < x := by omega
                        clear hx0 hv hvk hI hO hz
                        go_wp2_with fail
                        go_quiet (fail)
                        go_wp2_with fail
                        go_roundw
                        case rel => exact ⟨x + 1, by omega, by go_num, below_drewN HBQ.out _⟩
                        case measure => simp [intOf]; omega
                      · obtain ⟨d, rfl⟩ : ∃ d, x = d + 1 := ⟨x - 1, by omega⟩
                        have hr := HRI.out d hlx
                        obtain ⟨v', hv', hvl', -⟩ := HPI.out d (by omega)
                        have g2 := ints_get hI (k := d) (by omega)
                        rw [hv'] at g2 hr
                        rw [hv] at hr
                        have u1 : decide ((0 : Int) < ((d + 1 : Nat) : Int)) = true := decide_eq_true (by omega)
                        have u4 : decide (v ≤ v') = false := decide_eq_false (by omega)
                        have u5 : decide ((v : Int) ≤ (v' : Int)) = false := decide_eq_false (by omega)
                        have hdb : d ≤ 9216 := by have := HEL.out; omega
                        have ew : IntKind.i64.wrap (((d + 1 : Nat) : Int) - 1) = (d : Int) := by rw [IntWalk.i64_in _ (by omega)]; omega
                        clear hx0 hv hvk hI hO hz hr hv' hvl'
                        go_wp2_with fail
                        go_quiet (fail)
                        go_wp2_with fail
                        go_roundw
                        case rel => exact ⟨d + 1 + 1, by omega, by go_num, below_drewN HBQ.out _⟩
                        case measure => simp [intOf]; omega
                    · obtain rfl : I.length = x := by omega
                      clear t1
                      go_wp2_with fail
                      --L8
                      go_loopw [23] (fun qq wr => ∃ x : Nat, x ≤ O.length ∧ qq = .int .i64 x ∧ Below w7.heap.size w7 wr) (fun qq _ => O.length - (intOf qq).toNat)
                      case atStart => exact ⟨0, by omega, rfl, HBQ.out⟩
                      case round =>
                        obtain ⟨x, hx, rfl, hb⟩ := hrel
                        obtain ⟨wq, rfl⟩ : ∃ wq : World, wq = wr := ⟨_, rfl⟩
                        have HBQ := Lib.hid hb
                        clear hb
                        by_cases hlx : x < O.length
                        · have t2 : decide (x < O.length) = true := decide_eq_true hlx
                          obtain ⟨hz, hI, hO⟩ := HF7.out _ HBQ.out
                          obtain ⟨b6, o6, rfl⟩ := ints_addr hO (by omega)
                          have g1 := ints_get hO hlx
                          obtain ⟨v, hv, hvl, hvk⟩ := HPO.out x hlx
                          obtain ⟨b4, o4, y, rfl, -, HV4, -, f0, -⟩ := pairs_at (HKS.out _ hz).2.2.1 hvl
                          rw [HV4.out] at hvk
                          rw [hvk] at f0
                          rw [hv] at g1
                          have u3 : ((k : Int) != (k : Int)) = false := by simp
                          have hv9 : v ≤ 9223372036854775807 := by omega
                          by_cases hx0 : x = 0
                          · have u1 : decide (0 < x) = false := decide_eq_false (by omega)
                            have u2 : decide ((0 : Int) < (x : Int)) = false := decide_eq_false (by omega)
                            have u4 : ¬ 0 < x := by omega
                            clear hx0 hv hvk hI hO hz
                            go_wp2_with fail
                            go_quiet (fail)
                            go_wp2_with fail
                            go_roundw
                            case rel => exact ⟨x + 1, by omega, by go_num, below_drewN HBQ.out _⟩
                            case measure => simp [intOf]; omega
                          · obtain ⟨d, rfl⟩ : ∃ d, x = d + 1 := ⟨x - 1, by omega⟩
                            have hr := HRO.out d hlx
                            obtain ⟨v', hv', hvl', -⟩ := HPO.out d (by omega)
                            have g2 := ints_get hO (k := d) (by omega)
                            rw [hv'] at g2 hr
                            rw [hv] at hr
                            have u1 : decide ((0 : Int) < ((d + 1 : Nat) : Int)) = true := decide_eq_true (by omega)
                            have u4 : decide (v ≤ v') = false := decide_eq_false (by omega)
                            have u5 : decide ((v : Int) ≤ (v' : Int)) = false := decide_eq_false (by omega)
                            have hdb : d ≤ 9216 := by have := HEL.out; omega
                            have ew : IntKind.i64.wrap (((d + 1 : Nat) : Int) - 1) = (d : Int) := by rw [IntWalk.i64_in _ (by omega)]; omega
                            clear hx0 hv hvk hI hO hz hr hv' hvl'
                            go_wp2_with fail
                            go_quiet (fail)
                            go_wp2_with fail
                            go_roundw
                            case rel => exact ⟨d + 1 + 1, by omega, by go_num, below_drewN HBQ.out _⟩
                            case measure => simp [intOf]; omega
                        · obtain rfl : O.length = x := by omega
                          have HRL := Lib.hid (HF7.out _ HBQ.out).1
                          go_wp2_with fail
                          go_roundw
                          case rel => exact ⟨k + 1, by omega, by go_num, by rw [HSL.out]; go_num, by rw [HSO.out]; go_num, HRL.out⟩
                          case measure => simp [intOf]; omega
                      --/L8
                  --/L5
                · obtain rfl : L.length = k := by omega
                  --L6
                  have HEQ := show (edgesTo l par L.length).length = E.length by rw [← HEE.out, ← edgesTo_all, HLL.out]
                  have HOQ := cntF_all (E := E) (N := L.length) fun e he => (HBD.out e he).2.1
                  rw [HEQ, HOQ]
                  clear HEQ HOQ
                  go_wp2_with fail
                  refine (known_any _).mono ?_
                  rintro e w9 ⟨rfl, hb⟩
                  have HBF := Lib.hid (HW.out _ (HX.out _ _ (HKS.out _ HB2.out).1 hb)).2.2.2.2
                  clear hb
                  go_wp2_with fail
                  go_returns
                  exact ⟨by first | rfl | simp, HBF.out⟩
                  --/L6
              --/L4
          --/L2
    · have hne : (chkE g l != 0) = true := by simpa using hck
      clear hck
      go_enter Try.func13, Try.ntmps13
      go_wp2_with fail
      rw [HW0.out]
      refine HL.out.mono ?_
      rintro e w1 ⟨rfl, hb⟩
      have B1 := Lib.hid (HX.out _ _ H0.out hb)
      clear hb
      obtain ⟨s0, s1, -⟩ := HW.out _ B1.out
      go_wp2_with fail
      refine (HC.out _ B1.out).mono ?_
      rintro e w2 ⟨rfl, hb⟩
      have B2 := Lib.hid (HX.out _ _ B1.out hb)
      clear hb s0 s1
      go_wp2_with fail
      refine (known_any _).mono ?_
      rintro e w3 ⟨rfl, hb⟩
      have HB := Lib.hid (HW.out _ (HX.out _ _ B2.out hb)).2.2.2.2
      clear hb
      go_wp2_with fail
      go_returns
      exact ⟨by first | rfl | simp, HB.out⟩
end Go.Proofs.Ytjinpmengjfmpaa.Gp
