/- The law: tasks have the numbers of their places. -/
import Derived.Test.YtjinpmengjfmpaaGpG
import Derived.Test.YtjinpmengjfmpaaGp8
import Derived.Test.YtjinpmengjfmpaaHeld
import Derived.Deep.RegionHeld3
namespace Go.Proofs.Ytjinpmengjfmpaa.Gp
open Go.ChangeShapes Go.WideShapes Go.ChangeAt Go.RowKit M Sp

set_option maxRecDepth 100000 in
set_option maxHeartbeats 8000000 in
theorem graphNumbers_any (A : Option Addr) (c : Nat) (par : List Int) (s1 s2 : Int) (B : Nat) (w : World) (hB : B ≤ w.heap.size) (h : IsInts w B ⟨A, c, par⟩) :
    Calls Try.prog 5 #[.slice A par.length c, .agg #[.int .i64 s1, .int .i64 s2]] w fun e w' => e = .returned (.bool true) ∧ Below w.heap.size w w' := by
  have hb0 : Below w.heap.size w (w.alloc (.cells #[.int .i64 s1, .int .i64 s2] 24)) := (Below.refl _ _).alloc (Nat.le_refl _) _
  have hl9 := ints_len9 h
  obtain ⟨W0, hW0⟩ : ∃ W0, w.alloc (.cells #[.int .i64 s1, .int .i64 s2] 24) = W0 := ⟨_, rfl⟩
  have hsz : W0.heap.size = w.heap.size + 1 := by rw [← hW0]; simp
  have HW : Hid (∀ Y, Below W0.heap.size W0 Y → Below w.heap.size w Y ∧ IsInts Y w.heap.size ⟨A, c, par⟩ ∧ Y.cell? ⟨w.heap.size, 0, none⟩ = some (.int .i64 s1) ∧ Y.cell? ⟨w.heap.size, 1, none⟩ = some (.int .i64 s2) ∧ w.heap.size ≤ Y.heap.size) := Lib.hid (fun Y hY => by
    have h1 : Below w.heap.size w Y := (hW0 ▸ hb0).trans (hY.mono (by omega))
    have hk := (hW0 ▸ Blk.new w 24 #[.int .i64 s1, .int .i64 s2] : Blk W0 _ _ _).below hY (by omega)
    exact ⟨h1, (h.more hB).below h1, by simpa using hk.cell 0, by simpa using hk.cell 1, h1.size⟩)
  have HX : Hid (∀ X Y, Below W0.heap.size W0 X → Below X.heap.size X Y → Below W0.heap.size W0 Y) := Lib.hid (fun X Y h1 h2 => through h1 (Nat.le_refl _) h2)
  have H0 := Lib.hid (Below.refl W0.heap.size W0)
  have HF := Lib.hid (few_any A c par _ W0 ((HW.out _ H0.out).2.1))
  have HW0 := Lib.hid hW0
  have HSZ := Lib.hid hsz
  clear h hb0 hW0 hsz
  cases hf : fewB par with
  | false =>
    rw [hf] at HF
    clear hf
    go_enter Try.func5, Try.ntmps5
    go_wp2_with fail
    rw [HW0.out]
    refine HF.out.mono ?_
    rintro e w1 ⟨rfl, rfl⟩
    go_wp2_with fail
    refine (known_any _).mono ?_
    rintro e w2 ⟨rfl, hb⟩
    have HB := Lib.hid (HW.out _ (HX.out _ _ H0.out hb)).1
    clear hb
    go_wp2_with fail
    go_returns
    exact ⟨by first | rfl | simp, HB.out⟩
  | true =>
    have hfew := fewB_iff.1 hf
    have hN : (spotsN par).length ≤ 96 := hfew.len
    have HFEW := Lib.hid hfew
    rw [hf] at HF
    clear hf hfew
    have HT : Hid (∀ Y, Below W0.heap.size W0 Y → Calls Try.prog 17 #[.slice A par.length c] Y (RetPairs 24 Y (spotsP par))) := Lib.hid (fun Y hY => tasks_any A c par Y (by omega) ((HW.out Y hY).2.1.more (HW.out Y hY).2.2.2.2))
    have HIX : Hid (∀ (s : Int × Int) (Y : World), Below W0.heap.size W0 Y → Calls Try.prog 20 #[.slice A par.length c, .agg #[.int .i64 s.1, .int .i64 s.2]] Y fun e w' => e = .returned (.int .i64 (idxP (spotsP par) s)) ∧ Below Y.heap.size Y w') := Lib.hid (fun s Y hY => index_any A c par s Y (by omega) ((HW.out Y hY).2.1.more (HW.out Y hY).2.2.2.2))
    have HL := Lib.hid (show (spotsP par).length ≤ 96 by rw [spotsP_len]; exact hN)
    obtain ⟨L, hL⟩ : ∃ L, spotsP par = L := ⟨_, rfl⟩
    rw [hL] at HT HIX HL
    have HLL := Lib.hid hL
    clear hL hN
    go_enter Try.func5, Try.ntmps5
    go_wp2_with fail
    rw [HW0.out]
    refine HF.out.mono ?_
    rintro e w1 ⟨rfl, rfl⟩
    go_wp2_with fail
    refine (HT.out _ H0.out).mono ?_
    rintro e w1 ⟨A1, c1, rfl, own, hb⟩
    have HQ := Lib.hid own.pairs
    have B1 := Lib.hid (HX.out _ _ H0.out hb)
    have hL9 := own.pairs.len
    clear own hb H0 HF HT
    go_wp2_with fail
    go_loop [6, 7] (fun p q => ∃ k : Nat, k ≤ par.length ∧ q = .int .i64 k ∧ p = .int .i64 ((upto par k).length : Int)) (fun _ q => par.length - (intOf q).toNat)
    case atStart => exact ⟨0, by omega, rfl, rfl⟩
    case round =>
      obtain ⟨k, hk, rfl, rfl⟩ := hrel
      by_cases hlt : k < par.length
      · have t1 : decide (k < par.length) = true := decide_eq_true hlt
        obtain ⟨b, o, rfl⟩ := ints_addr (HW.out _ B1.out).2.1 (by omega)
        have hcell := ints_get (HW.out _ B1.out).2.1 hlt
        have hul := upto_len (par := par) k
        have hp8 : par.getD k 0 ≤ 8 := by
          rw [List.getD_eq_getElem?_getD, List.getElem?_eq_getElem hlt]; exact HFEW.out.2 _ (List.getElem_mem hlt)
        have hu96 : (upto par k).length ≤ 96 := by have := upto_le (par := par) (i := k) hk; have := HL.out; rw [← HLL.out, spotsP_len] at this; omega
        obtain ⟨p, hp⟩ : ∃ p, par.getD k 0 = p := ⟨_, rfl⟩
        rw [hp] at hcell hul hp8
        obtain ⟨u, hu⟩ : ∃ u, (upto par k).length = u := ⟨_, rfl⟩
        rw [hu] at hul hu96 ⊢
        have HUL := Lib.hid hul
        clear hul hu hp
        by_cases hpp : 0 < p
        · go_wp2_with fail
          go_round
          case rel => exact ⟨k + 1, by omega, by go_num, by rw [HUL.out]; go_num⟩
          case measure => simp [intOf]; omega
        · go_wp2_with fail
          go_round
          case rel => exact ⟨k + 1, by omega, by go_num, by rw [HUL.out]; go_num⟩
          case measure => simp [intOf]; omega
      · obtain rfl : par.length = k := by omega
        have hlu : (upto par par.length).length = L.length := by rw [← HLL.out, spotsP_len]; rfl
        rw [hlu]
        have t1 : ((L.length : Int) != (L.length : Int)) = false := by simp
        clear hlu
        go_wp2_with fail
        have C1 := Lib.hid (Below.refl w1.heap.size w1)
        have HXC : Hid (∀ Y, Below w1.heap.size w1 Y → Below W0.heap.size W0 Y) := Lib.hid (fun Y hY => HX.out _ _ B1.out hY)
        clear t1 hk hlt
        go_loopw [8] (fun q wr => ∃ k : Nat, k ≤ L.length ∧ q = .int .i64 k ∧ Below w1.heap.size w1 wr) (fun q _ => L.length - (intOf q).toNat)
        case atStart => exact ⟨0, by omega, rfl, C1.out⟩
        case round =>
          obtain ⟨k, hk, rfl, hb⟩ := hrel
          have HB := Lib.hid hb
          clear hb
          by_cases hlt : k < L.length
          · have t1 : decide (k < L.length) = true := decide_eq_true hlt
            obtain ⟨b, o, y, rfl, hbb, HV, -, c0, c1'⟩ := pairs_at (HQ.out.below HB.out) hlt
            obtain ⟨m, t, rfl, hm, ht, -⟩ := at_place (par := par) (k := k) (y := y) (by rw [HLL.out]; exact hlt) (by rw [HLL.out]; exact HV.out)
            have hself := idx_self (par := par) (k := k) (y := ((m : Int), (t : Int))) (by rw [HLL.out]; exact hlt) (by rw [HLL.out]; exact HV.out)
            have HIK : Hid (∀ Y, Below w1.heap.size w1 Y → Calls Try.prog 20 #[.slice A par.length c, .agg #[.int .i64 (m : Int), .int .i64 (t : Int)]] Y fun e w' => e = .returned (.int .i64 (k : Int)) ∧ Below Y.heap.size Y w') := Lib.hid (fun Y hY => by
              have := HIX.out ((m : Int), (t : Int)) Y (HXC.out Y hY)
              rw [← HLL.out, hself] at this
              exact this)
            obtain ⟨b4, o4, rfl⟩ := ints_addr (HW.out _ (HXC.out _ HB.out)).2.1 (by omega)
            obtain ⟨p, hp⟩ : ∃ p, par.getD m 0 = p := ⟨_, rfl⟩
            have HPC : Hid (∀ Y, Below w1.heap.size w1 Y → Y.cell? ⟨b4, o4 + m, none⟩ = some (.int .i64 p)) := Lib.hid (fun Y hY => hp ▸ ints_get (HW.out _ (HXC.out _ hY)).2.1 hm)
            have HC2 : Hid (∀ Y, Below w1.heap.size w1 Y → Y.cell? ⟨b, o + k * 2, none⟩ = some (.int .i64 (m : Int)) ∧ Y.cell? ⟨b, o + k * 2 + 1, none⟩ = some (.int .i64 (t : Int))) := Lib.hid (fun Y hY => by
              obtain ⟨x, HVx, -, d0, d1⟩ := pairs_get (HQ.out.below hY) hlt
              obtain rfl : x = ((m : Int), (t : Int)) := HVx.out.symm.trans HV.out
              exact ⟨d0, d1⟩)
            rw [hp] at ht
            have u1 : ((k : Int) != (k : Int)) = false := by simp
            have u2 : decide ((m : Int) < 0) = false := decide_eq_false (by omega)
            have u3 : decide (par.length ≤ m) = false := decide_eq_false (by omega)
            have u3' : decide ((par.length : Int) ≤ (m : Int)) = false := decide_eq_false (by omega)
            have u4 : decide ((t : Int) < 0) = false := decide_eq_false (by omega)
            have u5 : decide (p ≤ (t : Int)) = false := decide_eq_false (by omega)
            have hm9 : m < 9223372036854775807 := by omega
            clear hp c0 c1' hself hbb ht
            go_upto_region 14 with (fail)
            go_region_held3 (fun (w' : World) => w'.cell? ⟨b, o + k * 2, none⟩ = some (.int .i64 (m : Int)) ∧ w'.cell? ⟨b, o + k * 2 + 1, none⟩ = some (.int .i64 (t : Int)) ∧ w'.cell? ⟨b4, o4 + m, none⟩ = some (.int .i64 p))
              (first | exact ⟨(HC2.out _ q3).1, (HC2.out _ q3).2, HPC.out _ q3⟩ | exact ⟨(HC2.out _ HB.out.drew).1, (HC2.out _ HB.out.drew).2, HPC.out _ HB.out.drew⟩)
              ((go_at_call 20; refine (HIK.out _ HB.out.drew).mono ?_; rintro e v3 ⟨rfl, q3'⟩; have q3 : Below w1.heap.size w1 v3 := through HB.out.drew (Nat.le_refl _) q3'))
            have HB3 := Lib.hid q3
            clear q3 q3' u1 u2 u3 u3' u4 u5
            obtain ⟨c0, c1'⟩ := HC2.out _ HB3.out
            by_cases hk0 : k = 0
            · have t2 : decide (0 < k) = false := decide_eq_false (by omega)
              have t2' : ¬ 0 < k := by omega
              clear hk0
              go_wp2_with fail
              go_quiet (fail)
              go_wp2_with fail
              go_roundw
              case rel => exact ⟨k + 1, by omega, by go_num, below_drewN HB3.out _⟩
              case measure => simp [intOf]; omega
            · obtain ⟨j, rfl⟩ : ∃ j, k = j + 1 := ⟨k - 1, by omega⟩
              have t2 : decide (0 < ((j + 1 : Nat) : Int)) = true := decide_eq_true (by omega)
              obtain ⟨x, HVx, -, d0, d1⟩ := pairs_get (HQ.out.below HB3.out) (k := j) (by omega)
              obtain ⟨n1, n2⟩ := next_place (par := par) (k := j) (x := x) (y := ((m : Int), (t : Int))) (by rw [HLL.out]; exact hlt) (by rw [HLL.out]; exact HVx.out) (by rw [HLL.out]; exact HV.out)
              obtain ⟨xm, xt, rfl, hxm, hxt8, -⟩ := at_place (par := par) (k := j) (y := x) (by rw [HLL.out]; omega) (by rw [HLL.out]; exact HVx.out)
              have h64x := ints_in64 (HW.out _ (HXC.out _ HB3.out)).2.1 xm
              unfold In64 at h64x
              have hxt9 : xt + 1 ≤ 9223372036854775807 := by omega
              clear h64x hxt8
              simp only at n1 n2 d0 d1
              have ew : IntKind.i64.wrap (((j + 1 : Nat) : Int) - 1) = (j : Int) := by rw [IntWalk.i64_in _ (by omega)]; omega
              have u1 : decide (m < xm) = false := decide_eq_false (by omega)
              have u1' : decide ((m : Int) < (xm : Int)) = false := decide_eq_false (by omega)
              by_cases he : (xm : Int) = (m : Int)
              · have hxt := n2 he
                obtain rfl : m = xm := by omega
                obtain rfl : t = xt + 1 := by omega
                clear he hxt n1 n2 hk0
                go_wp2_with fail
                go_quiet (fail)
                go_wp2_with fail
                go_roundw
                case rel => exact ⟨j + 1 + 1, by omega, by go_num, below_drewN HB3.out _⟩
                case measure => simp [intOf]; omega
              · have u2 : ((xm : Int) == (m : Int)) = false := by simpa using he
                have u2' : (xm == m) = false := by simp; omega
                clear he n1 n2 hk0
                go_wp2_with fail
                go_quiet (fail)
                go_wp2_with fail
                go_roundw
                case rel => exact ⟨j + 1 + 1, by omega, by go_num, below_drewN HB3.out _⟩
                case measure => simp [intOf]; omega
          · obtain rfl : L.length = k := by omega
            obtain ⟨-, hIb, q0, q1, -⟩ := HW.out _ (HXC.out _ HB.out)
            have HIB := Lib.hid hIb
            clear hIb
            by_cases hs : isTask par (s1, s2)
            · obtain ⟨m, t, e, hm, ht⟩ := hs
              injection e with e1 e2
              subst e1
              subst e2
              obtain ⟨b4, o4, rfl⟩ := ints_addr HIB.out (by omega)
              have hcp := ints_get HIB.out hm
              obtain ⟨p, hp⟩ : ∃ p, par.getD m 0 = p := ⟨_, rfl⟩
              rw [hp] at hcp ht
              have u1 : decide ((0 : Int) ≤ (m : Int)) = true := decide_eq_true (by omega)
              have u2 : decide (m < par.length) = true := decide_eq_true hm
              have u2' : decide ((m : Int) < (par.length : Int)) = true := decide_eq_true (by omega)
              have u3 : decide ((0 : Int) ≤ (t : Int)) = true := decide_eq_true (by omega)
              have u4 : decide ((t : Int) < p) = true := decide_eq_true ht
              have hm9 : m < 9223372036854775807 := by omega
              have HP := Lib.hid hp
              have HT := Lib.hid ht
              clear hp
              go_wp2_with fail
              go_quiet (fail)
              go_wp2_with fail
              obtain ⟨k, hk, hkL, hki⟩ := idx_yes (par := par) hm (by rw [HP.out]; exact HT.out)
              rw [HLL.out] at hkL hki hk
              have HKI := Lib.hid hki
              have HKL := Lib.hid hkL
              clear hkL hki
              refine (HIX.out ((m : Int), (t : Int)) _ (HXC.out _ (below_drewN HB.out _))).mono ?_
              rintro e w5 ⟨rfl, hb⟩
              rw [HKI.out]
              have HB5 := Lib.hid (through (below_drewN HB.out _) (Nat.le_refl _) hb)
              obtain ⟨b, o, x, rfl, hbb, HV, -, c0, c1'⟩ := pairs_at (HQ.out.below HB5.out) hk
              obtain rfl : x = ((m : Int), (t : Int)) := HV.out.symm.trans HKL.out
              simp only at c0 c1'
              have HSC : Hid (∀ Y, Below w5.heap.size w5 Y → Y.cell? ⟨b, o + k * 2, none⟩ = some (.int .i64 (m : Int)) ∧ Y.cell? ⟨b, o + k * 2 + 1, none⟩ = some (.int .i64 (t : Int)) ∧ Y.cell? ⟨w.heap.size, 0, none⟩ = some (.int .i64 (m : Int)) ∧ Y.cell? ⟨w.heap.size, 1, none⟩ = some (.int .i64 (t : Int))) := Lib.hid (fun Y hY => by
                have h1 := through HB5.out (Nat.le_refl _) hY
                obtain ⟨-, -, d0, d1, -⟩ := HW.out _ (HXC.out _ h1)
                exact ⟨(hY.cell (p := ⟨b, o + k * 2, none⟩) (Nat.lt_of_lt_of_le hbb HB5.out.size)).trans c0, (hY.cell (p := ⟨b, o + k * 2 + 1, none⟩) (Nat.lt_of_lt_of_le hbb HB5.out.size)).trans c1', d0, d1⟩)
              have u5 : decide ((0 : Int) ≤ (k : Int)) = true := decide_eq_true (by omega)
              clear hb c0 c1' u1 u2 u2' u3 u4 q0 q1 hcp hbb
              go_upto_region 20 with (fail)
              go_region_held3 (fun (w' : World) => w'.cell? ⟨b, o + k * 2, none⟩ = some (.int .i64 (m : Int)) ∧ w'.cell? ⟨b, o + k * 2 + 1, none⟩ = some (.int .i64 (t : Int)) ∧ w'.cell? ⟨w.heap.size, 0, none⟩ = some (.int .i64 (m : Int)) ∧ w'.cell? ⟨w.heap.size, 1, none⟩ = some (.int .i64 (t : Int)))
                (first | exact HSC.out _ (Below.refl _ _).drew | exact HSC.out _ r6)
                ((go_at_call 16; refine (known_any _).mono ?_; rintro e w6 ⟨rfl, q6⟩; have r6 : Below w5.heap.size w5 w6 := (Below.refl _ _).drew.trans q6))
              have HB6 := Lib.hid ((HW.out _ (HXC.out _ (through HB5.out (Nat.le_refl _) r6))).1)
              clear r6 q6 u5
              go_wp2_with fail
              go_returns
              exact ⟨by first | rfl | simp, HB6.out⟩
            · have HNO := Lib.hid (show idxP L (s1, s2) = -1 by rw [← HLL.out]; exact idx_no hs)
              by_cases g1 : 0 ≤ s1
              · have u1 : decide ((0 : Int) ≤ s1) = true := decide_eq_true g1
                by_cases g2 : s1 < par.length
                · by_cases g3 : 0 ≤ s2
                  · obtain ⟨m, rfl⟩ : ∃ m : Nat, s1 = (m : Int) := ⟨s1.toNat, by omega⟩
                    have hm : m < par.length := by omega
                    obtain ⟨b4, o4, rfl⟩ := ints_addr HIB.out (by omega)
                    have hcp := ints_get HIB.out hm
                    obtain ⟨p, hp⟩ : ∃ p, par.getD m 0 = p := ⟨_, rfl⟩
                    rw [hp] at hcp
                    have g4 : ¬ s2 < p := fun hc => hs ⟨m, s2.toNat, by rw [show ((s2.toNat : Nat) : Int) = s2 by omega], hm, by rw [hp]; omega⟩
                    have u2 : decide (m < par.length) = true := decide_eq_true hm
                    have u2' : decide ((m : Int) < (par.length : Int)) = true := decide_eq_true (by omega)
                    have u3 : decide ((0 : Int) ≤ s2) = true := decide_eq_true g3
                    have u4 : decide (s2 < p) = false := decide_eq_false g4
                    have hm9 : m < 9223372036854775807 := by omega
                    clear hp g1 g2 g3 g4 hs
                    go_wp2_with fail
                    go_quiet (fail)
                    clear u1 u2 u2' u3 u4 hcp
                    go_wp2_with fail
                    refine (HIX.out (((m : Int)), s2) _ (HXC.out _ (below_drewN HB.out _))).mono ?_
                    rintro e w5 ⟨rfl, hb⟩
                    rw [HNO.out]
                    have HB5 := Lib.hid (through (below_drewN HB.out _) (Nat.le_refl _) hb)
                    clear hb
                    go_upto_region 20 with (fail)
                    refine wp_region_held_drew (S := fun _ => True) (by kernel_rfl) trivial (fun hHeld => ?_)
                    (refine held_take 0 (by kernel_rfl) (by kernel_rfl) (by kernel_rfl) (by assumption) ?_; simp only [List.getElem?_toArray, List.getElem?_cons_succ, List.getElem?_cons_zero]; refine ⟨fun _ _ _ _ h => h, ?_, Or.inl ⟨by kernel_rfl, ?_⟩, ?_⟩; rotate_left; (focus (intro wS hSw; (try dsimp only at hSw); go_simp; try with_reducible rfl)); (try simp only [Act.put, List.setIfInBounds_toArray, List.set_cons_zero, List.set_cons_succ]))
                    (refine held_take 1 (by kernel_rfl) (by kernel_rfl) (by kernel_rfl) (by assumption) ?_; simp only [List.getElem?_toArray, List.getElem?_cons_succ, List.getElem?_cons_zero]; refine ⟨fun _ _ _ _ h => h, ?_, Or.inl ⟨by kernel_rfl, ?_⟩, ?_⟩; rotate_left; (focus (intro wS hSw; (try dsimp only at hSw); go_simp; try with_reducible rfl)); (try simp only [Act.put, List.setIfInBounds_toArray, List.set_cons_zero, List.set_cons_succ]))
                    (refine held_take 2 (by kernel_rfl) (by kernel_rfl) (by kernel_rfl) (by assumption) ?_; simp only [List.getElem?_toArray, List.getElem?_cons_succ, List.getElem?_cons_zero]; refine ⟨fun _ _ _ _ h => h, ?_, Or.inl ⟨by kernel_rfl, ?_⟩, ?_⟩; rotate_left; (focus (intro wS hSw; (try dsimp only at hSw); go_simp; try with_reducible rfl)); (try simp only [Act.put, List.setIfInBounds_toArray, List.set_cons_zero, List.set_cons_succ]))
                    (refine held_take 3 (by kernel_rfl) (by kernel_rfl) (by kernel_rfl) (by assumption) ?_; simp only [List.getElem?_toArray, List.getElem?_cons_succ, List.getElem?_cons_zero]; refine ⟨fun _ _ _ _ h => h, ?_, Or.inl ⟨by kernel_rfl, ?_⟩, ?_⟩; rotate_left; (focus (intro wS hSw; (try dsimp only at hSw); go_simp; try with_reducible rfl)); (try simp only [Act.put, List.setIfInBounds_toArray, List.set_cons_zero, List.set_cons_succ]))
                    (refine held_take 4 (by kernel_rfl) (by kernel_rfl) (by kernel_rfl) (by assumption) ?_; simp only [List.getElem?_toArray, List.getElem?_cons_succ, List.getElem?_cons_zero]; refine ⟨fun _ _ _ _ h => h, ?_, Or.inl ⟨by kernel_rfl, ?_⟩, ?_⟩; rotate_left; (focus (intro wS hSw; (try dsimp only at hSw); go_simp; try with_reducible rfl)); (try simp only [Act.put, List.setIfInBounds_toArray, List.set_cons_zero, List.set_cons_succ]))
                    (refine held_take 5 (by kernel_rfl) (by kernel_rfl) (by kernel_rfl) (by assumption) ?_; simp only [List.getElem?_toArray, List.getElem?_cons_succ, List.getElem?_cons_zero]; refine ⟨fun _ _ _ _ h => h, ?_, Or.inl ⟨by kernel_rfl, ?_⟩, ?_⟩; rotate_left; (focus (intro wS hSw; (try dsimp only at hSw); go_simp; try with_reducible rfl)); (try simp only [Act.put, List.setIfInBounds_toArray, List.set_cons_zero, List.set_cons_succ]))
                    (refine held_take 6 (by kernel_rfl) (by kernel_rfl) (by kernel_rfl) (by assumption) ?_; simp only [List.getElem?_toArray, List.getElem?_cons_succ, List.getElem?_cons_zero]; refine ⟨fun _ _ _ _ h => h, ?_, Or.inl ⟨by kernel_rfl, ?_⟩, ?_⟩; rotate_left; (focus (intro wS hSw; (try dsimp only at hSw); go_simp; try with_reducible rfl)); (try simp only [Act.put, List.setIfInBounds_toArray, List.set_cons_zero, List.set_cons_succ]))
                    (refine held_take 7 (by kernel_rfl) (by kernel_rfl) (by kernel_rfl) (by assumption) ?_; simp only [List.getElem?_toArray, List.getElem?_cons_succ, List.getElem?_cons_zero]; refine ⟨fun _ _ _ _ h => h, ?_, Or.inl ⟨by kernel_rfl, ?_⟩, ?_⟩; rotate_left; (focus (intro wS hSw; (try dsimp only at hSw); go_simp; try with_reducible rfl)); (try simp only [Act.put, List.setIfInBounds_toArray, List.set_cons_zero, List.set_cons_succ]))
                    (refine held_take 8 (by kernel_rfl) (by kernel_rfl) (by kernel_rfl) (by assumption) ?_; simp only [List.getElem?_toArray, List.getElem?_cons_succ, List.getElem?_cons_zero]; refine ⟨fun _ _ _ _ h => h, undef, Or.inr ⟨by kernel_rfl, rfl⟩, ?_⟩; (try simp only [Act.put, List.setIfInBounds_toArray, List.set_cons_zero, List.set_cons_succ]))
                    (refine held_take 9 (by kernel_rfl) (by kernel_rfl) (by kernel_rfl) (by assumption) ?_; simp only [List.getElem?_toArray, List.getElem?_cons_succ, List.getElem?_cons_zero]; refine ⟨fun _ _ _ _ h => h, undef, Or.inr ⟨by kernel_rfl, rfl⟩, ?_⟩; (try simp only [Act.put, List.setIfInBounds_toArray, List.set_cons_zero, List.set_cons_succ]))
                    (refine held_take 10 (by kernel_rfl) (by kernel_rfl) (by kernel_rfl) (by assumption) ?_; simp only [List.getElem?_toArray, List.getElem?_cons_succ, List.getElem?_cons_zero]; refine ⟨fun _ _ _ _ h => h, undef, Or.inr ⟨by kernel_rfl, rfl⟩, ?_⟩; (try simp only [Act.put, List.setIfInBounds_toArray, List.set_cons_zero, List.set_cons_succ]))
                    (refine held_take 11 (by kernel_rfl) (by kernel_rfl) (by kernel_rfl) (by assumption) ?_; simp only [List.getElem?_toArray, List.getElem?_cons_succ, List.getElem?_cons_zero]; refine ⟨fun _ _ _ _ h => h, undef, Or.inr ⟨by kernel_rfl, rfl⟩, ?_⟩; (try simp only [Act.put, List.setIfInBounds_toArray, List.set_cons_zero, List.set_cons_succ]))
                    (refine held_take 12 (by kernel_rfl) (by kernel_rfl) (by kernel_rfl) (by assumption) ?_; simp only [List.getElem?_toArray, List.getElem?_cons_succ, List.getElem?_cons_zero]; refine ⟨fun _ _ _ _ h => h, undef, Or.inr ⟨by kernel_rfl, rfl⟩, ?_⟩; (try simp only [Act.put, List.setIfInBounds_toArray, List.set_cons_zero, List.set_cons_succ]))
                    (refine held_take 13 (by kernel_rfl) (by kernel_rfl) (by kernel_rfl) (by assumption) ?_; simp only [List.getElem?_toArray, List.getElem?_cons_succ, List.getElem?_cons_zero]; refine ⟨fun _ _ _ _ h => h, undef, Or.inr ⟨by kernel_rfl, rfl⟩, ?_⟩; (try simp only [Act.put, List.setIfInBounds_toArray, List.set_cons_zero, List.set_cons_succ]))
                    (refine held_take 14 (by kernel_rfl) (by kernel_rfl) (by kernel_rfl) (by assumption) ?_; simp only [List.getElem?_toArray, List.getElem?_cons_succ, List.getElem?_cons_zero]; refine ⟨fun _ _ _ _ h => h, ?_, Or.inl ⟨by kernel_rfl, ?_⟩, ?_⟩; rotate_left; (focus (intro wS hSw; (try dsimp only at hSw); go_simp; try with_reducible rfl)); (try simp only [Act.put, List.setIfInBounds_toArray, List.set_cons_zero, List.set_cons_succ]))
                    (refine held_take 15 (by kernel_rfl) (by kernel_rfl) (by kernel_rfl) (by assumption) ?_; simp only [List.getElem?_toArray, List.getElem?_cons_succ, List.getElem?_cons_zero]; refine ⟨fun _ _ _ _ h => h, ?_, Or.inl ⟨by kernel_rfl, ?_⟩, ?_⟩; rotate_left; (focus (intro wS hSw; (try dsimp only at hSw); go_simp; try with_reducible rfl)); (try simp only [Act.put, List.setIfInBounds_toArray, List.set_cons_zero, List.set_cons_succ]))
                    (refine held_take 16 (by kernel_rfl) (by kernel_rfl) (by kernel_rfl) (by assumption) ?_; simp only [List.getElem?_toArray, List.getElem?_cons_succ, List.getElem?_cons_zero]; refine ⟨fun _ _ _ _ h => h, ?_, Or.inl ⟨by kernel_rfl, ?_⟩, ?_⟩; rotate_left; (focus (intro wS hSw; (try dsimp only at hSw); go_simp; try with_reducible rfl)); (try simp only [Act.put, List.setIfInBounds_toArray, List.set_cons_zero, List.set_cons_succ]))
                    (refine held_one 17 (by kernel_rfl) ?_; simp only [List.getElem?_toArray, List.getElem?_cons_succ, List.getElem?_cons_zero]; intro K hK; go_simp)
                    refine (known_any _).mono ?_
                    rintro e w6 ⟨rfl, hb⟩
                    have HB6 := Lib.hid ((HW.out _ (HX.out _ _ (HXC.out _ HB5.out.drew) hb)).1)
                    clear hb hHeld
                    (go_wp2_with fail; refine hK.out _ _ ?_ (fun hHeld => ?_); (focus (trivial)); clear hK K; (try simp only [Act.put, List.setIfInBounds_toArray, List.set_cons_zero, List.set_cons_succ]))
                    (refine held_take 18 (by kernel_rfl) (by kernel_rfl) (by kernel_rfl) (by assumption) ?_; simp only [List.getElem?_toArray, List.getElem?_cons_succ, List.getElem?_cons_zero]; refine ⟨fun _ _ _ _ h => h, ?_, Or.inl ⟨by kernel_rfl, ?_⟩, ?_⟩; rotate_left; (focus (intro wS hSw; (try dsimp only at hSw); go_simp; try with_reducible rfl)); (try simp only [Act.put, List.setIfInBounds_toArray, List.set_cons_zero, List.set_cons_succ]))
                    (refine held_take 19 (by kernel_rfl) (by kernel_rfl) (by kernel_rfl) (by assumption) ?_; simp only [List.getElem?_toArray, List.getElem?_cons_succ, List.getElem?_cons_zero]; refine ⟨fun _ _ _ _ h => h, ?_, Or.inl ⟨by kernel_rfl, ?_⟩, ?_⟩; rotate_left; (focus (intro wS hSw; (try dsimp only at hSw); go_simp; try with_reducible rfl)); (try simp only [Act.put, List.setIfInBounds_toArray, List.set_cons_zero, List.set_cons_succ]))
                    (refine wpAnyH_done (by kernel_rfl) ?_ _)
                    clear hHeld
                    go_wp2_with fail
                    go_returns
                    exact ⟨by first | rfl | simp, HB6.out⟩
                  · have u2 : decide (s1 < (par.length : Int)) = true := decide_eq_true g2
                    have u3 : decide ((0 : Int) ≤ s2) = false := decide_eq_false g3
                    clear g1 g2 g3 hs
                    go_wp2_with fail
                    go_quiet (fail)
                    clear u1 u2 u3
                    go_wp2_with fail
                    refine (HIX.out (s1, s2) _ (HXC.out _ (below_drewN HB.out _))).mono ?_
                    rintro e w5 ⟨rfl, hb⟩
                    rw [HNO.out]
                    have HB5 := Lib.hid (through (below_drewN HB.out _) (Nat.le_refl _) hb)
                    clear hb
                    go_upto_region 20 with (fail)
                    refine wp_region_held_drew (S := fun _ => True) (by kernel_rfl) trivial (fun hHeld => ?_)
                    (refine held_take 0 (by kernel_rfl) (by kernel_rfl) (by kernel_rfl) (by assumption) ?_; simp only [List.getElem?_toArray, List.getElem?_cons_succ, List.getElem?_cons_zero]; refine ⟨fun _ _ _ _ h => h, ?_, Or.inl ⟨by kernel_rfl, ?_⟩, ?_⟩; rotate_left; (focus (intro wS hSw; (try dsimp only at hSw); go_simp; try with_reducible rfl)); (try simp only [Act.put, List.setIfInBounds_toArray, List.set_cons_zero, List.set_cons_succ]))
                    (refine held_take 1 (by kernel_rfl) (by kernel_rfl) (by kernel_rfl) (by assumption) ?_; simp only [List.getElem?_toArray, List.getElem?_cons_succ, List.getElem?_cons_zero]; refine ⟨fun _ _ _ _ h => h, ?_, Or.inl ⟨by kernel_rfl, ?_⟩, ?_⟩; rotate_left; (focus (intro wS hSw; (try dsimp only at hSw); go_simp; try with_reducible rfl)); (try simp only [Act.put, List.setIfInBounds_toArray, List.set_cons_zero, List.set_cons_succ]))
                    (refine held_take 2 (by kernel_rfl) (by kernel_rfl) (by kernel_rfl) (by assumption) ?_; simp only [List.getElem?_toArray, List.getElem?_cons_succ, List.getElem?_cons_zero]; refine ⟨fun _ _ _ _ h => h, ?_, Or.inl ⟨by kernel_rfl, ?_⟩, ?_⟩; rotate_left; (focus (intro wS hSw; (try dsimp only at hSw); go_simp; try with_reducible rfl)); (try simp only [Act.put, List.setIfInBounds_toArray, List.set_cons_zero, List.set_cons_succ]))
                    (refine held_take 3 (by kernel_rfl) (by kernel_rfl) (by kernel_rfl) (by assumption) ?_; simp only [List.getElem?_toArray, List.getElem?_cons_succ, List.getElem?_cons_zero]; refine ⟨fun _ _ _ _ h => h, ?_, Or.inl ⟨by kernel_rfl, ?_⟩, ?_⟩; rotate_left; (focus (intro wS hSw; (try dsimp only at hSw); go_simp; try with_reducible rfl)); (try simp only [Act.put, List.setIfInBounds_toArray, List.set_cons_zero, List.set_cons_succ]))
                    (refine held_take 4 (by kernel_rfl) (by kernel_rfl) (by kernel_rfl) (by assumption) ?_; simp only [List.getElem?_toArray, List.getElem?_cons_succ, List.getElem?_cons_zero]; refine ⟨fun _ _ _ _ h => h, ?_, Or.inl ⟨by kernel_rfl, ?_⟩, ?_⟩; rotate_left; (focus (intro wS hSw; (try dsimp only at hSw); go_simp; try with_reducible rfl)); (try simp only [Act.put, List.setIfInBounds_toArray, List.set_cons_zero, List.set_cons_succ]))
                    (refine held_take 5 (by kernel_rfl) (by kernel_rfl) (by kernel_rfl) (by assumption) ?_; simp only [List.getElem?_toArray, List.getElem?_cons_succ, List.getElem?_cons_zero]; refine ⟨fun _ _ _ _ h => h, ?_, Or.inl ⟨by kernel_rfl, ?_⟩, ?_⟩; rotate_left; (focus (intro wS hSw; (try dsimp only at hSw); go_simp; try with_reducible rfl)); (try simp only [Act.put, List.setIfInBounds_toArray, List.set_cons_zero, List.set_cons_succ]))
                    (refine held_take 6 (by kernel_rfl) (by kernel_rfl) (by kernel_rfl) (by assumption) ?_; simp only [List.getElem?_toArray, List.getElem?_cons_succ, List.getElem?_cons_zero]; refine ⟨fun _ _ _ _ h => h, ?_, Or.inl ⟨by kernel_rfl, ?_⟩, ?_⟩; rotate_left; (focus (intro wS hSw; (try dsimp only at hSw); go_simp; try with_reducible rfl)); (try simp only [Act.put, List.setIfInBounds_toArray, List.set_cons_zero, List.set_cons_succ]))
                    (refine held_take 7 (by kernel_rfl) (by kernel_rfl) (by kernel_rfl) (by assumption) ?_; simp only [List.getElem?_toArray, List.getElem?_cons_succ, List.getElem?_cons_zero]; refine ⟨fun _ _ _ _ h => h, ?_, Or.inl ⟨by kernel_rfl, ?_⟩, ?_⟩; rotate_left; (focus (intro wS hSw; (try dsimp only at hSw); go_simp; try with_reducible rfl)); (try simp only [Act.put, List.setIfInBounds_toArray, List.set_cons_zero, List.set_cons_succ]))
                    (refine held_take 8 (by kernel_rfl) (by kernel_rfl) (by kernel_rfl) (by assumption) ?_; simp only [List.getElem?_toArray, List.getElem?_cons_succ, List.getElem?_cons_zero]; refine ⟨fun _ _ _ _ h => h, undef, Or.inr ⟨by kernel_rfl, rfl⟩, ?_⟩; (try simp only [Act.put, List.setIfInBounds_toArray, List.set_cons_zero, List.set_cons_succ]))
                    (refine held_take 9 (by kernel_rfl) (by kernel_rfl) (by kernel_rfl) (by assumption) ?_; simp only [List.getElem?_toArray, List.getElem?_cons_succ, List.getElem?_cons_zero]; refine ⟨fun _ _ _ _ h => h, undef, Or.inr ⟨by kernel_rfl, rfl⟩, ?_⟩; (try simp only [Act.put, List.setIfInBounds_toArray, List.set_cons_zero, List.set_cons_succ]))
                    (refine held_take 10 (by kernel_rfl) (by kernel_rfl) (by kernel_rfl) (by assumption) ?_; simp only [List.getElem?_toArray, List.getElem?_cons_succ, List.getElem?_cons_zero]; refine ⟨fun _ _ _ _ h => h, undef, Or.inr ⟨by kernel_rfl, rfl⟩, ?_⟩; (try simp only [Act.put, List.setIfInBounds_toArray, List.set_cons_zero, List.set_cons_succ]))
                    (refine held_take 11 (by kernel_rfl) (by kernel_rfl) (by kernel_rfl) (by assumption) ?_; simp only [List.getElem?_toArray, List.getElem?_cons_succ, List.getElem?_cons_zero]; refine ⟨fun _ _ _ _ h => h, undef, Or.inr ⟨by kernel_rfl, rfl⟩, ?_⟩; (try simp only [Act.put, List.setIfInBounds_toArray, List.set_cons_zero, List.set_cons_succ]))
                    (refine held_take 12 (by kernel_rfl) (by kernel_rfl) (by kernel_rfl) (by assumption) ?_; simp only [List.getElem?_toArray, List.getElem?_cons_succ, List.getElem?_cons_zero]; refine ⟨fun _ _ _ _ h => h, undef, Or.inr ⟨by kernel_rfl, rfl⟩, ?_⟩; (try simp only [Act.put, List.setIfInBounds_toArray, List.set_cons_zero, List.set_cons_succ]))
                    (refine held_take 13 (by kernel_rfl) (by kernel_rfl) (by kernel_rfl) (by assumption) ?_; simp only [List.getElem?_toArray, List.getElem?_cons_succ, List.getElem?_cons_zero]; refine ⟨fun _ _ _ _ h => h, undef, Or.inr ⟨by kernel_rfl, rfl⟩, ?_⟩; (try simp only [Act.put, List.setIfInBounds_toArray, List.set_cons_zero, List.set_cons_succ]))
                    (refine held_take 14 (by kernel_rfl) (by kernel_rfl) (by kernel_rfl) (by assumption) ?_; simp only [List.getElem?_toArray, List.getElem?_cons_succ, List.getElem?_cons_zero]; refine ⟨fun _ _ _ _ h => h, ?_, Or.inl ⟨by kernel_rfl, ?_⟩, ?_⟩; rotate_left; (focus (intro wS hSw; (try dsimp only at hSw); go_simp; try with_reducible rfl)); (try simp only [Act.put, List.setIfInBounds_toArray, List.set_cons_zero, List.set_cons_succ]))
                    (refine held_take 15 (by kernel_rfl) (by kernel_rfl) (by kernel_rfl) (by assumption) ?_; simp only [List.getElem?_toArray, List.getElem?_cons_succ, List.getElem?_cons_zero]; refine ⟨fun _ _ _ _ h => h, ?_, Or.inl ⟨by kernel_rfl, ?_⟩, ?_⟩; rotate_left; (focus (intro wS hSw; (try dsimp only at hSw); go_simp; try with_reducible rfl)); (try simp only [Act.put, List.setIfInBounds_toArray, List.set_cons_zero, List.set_cons_succ]))
                    (refine held_take 16 (by kernel_rfl) (by kernel_rfl) (by kernel_rfl) (by assumption) ?_; simp only [List.getElem?_toArray, List.getElem?_cons_succ, List.getElem?_cons_zero]; refine ⟨fun _ _ _ _ h => h, ?_, Or.inl ⟨by kernel_rfl, ?_⟩, ?_⟩; rotate_left; (focus (intro wS hSw; (try dsimp only at hSw); go_simp; try with_reducible rfl)); (try simp only [Act.put, List.setIfInBounds_toArray, List.set_cons_zero, List.set_cons_succ]))
                    (refine held_one 17 (by kernel_rfl) ?_; simp only [List.getElem?_toArray, List.getElem?_cons_succ, List.getElem?_cons_zero]; intro K hK; go_simp)
                    refine (known_any _).mono ?_
                    rintro e w6 ⟨rfl, hb⟩
                    have HB6 := Lib.hid ((HW.out _ (HX.out _ _ (HXC.out _ HB5.out.drew) hb)).1)
                    clear hb hHeld
                    (go_wp2_with fail; refine hK.out _ _ ?_ (fun hHeld => ?_); (focus (trivial)); clear hK K; (try simp only [Act.put, List.setIfInBounds_toArray, List.set_cons_zero, List.set_cons_succ]))
                    (refine held_take 18 (by kernel_rfl) (by kernel_rfl) (by kernel_rfl) (by assumption) ?_; simp only [List.getElem?_toArray, List.getElem?_cons_succ, List.getElem?_cons_zero]; refine ⟨fun _ _ _ _ h => h, ?_, Or.inl ⟨by kernel_rfl, ?_⟩, ?_⟩; rotate_left; (focus (intro wS hSw; (try dsimp only at hSw); go_simp; try with_reducible rfl)); (try simp only [Act.put, List.setIfInBounds_toArray, List.set_cons_zero, List.set_cons_succ]))
                    (refine held_take 19 (by kernel_rfl) (by kernel_rfl) (by kernel_rfl) (by assumption) ?_; simp only [List.getElem?_toArray, List.getElem?_cons_succ, List.getElem?_cons_zero]; refine ⟨fun _ _ _ _ h => h, ?_, Or.inl ⟨by kernel_rfl, ?_⟩, ?_⟩; rotate_left; (focus (intro wS hSw; (try dsimp only at hSw); go_simp; try with_reducible rfl)); (try simp only [Act.put, List.setIfInBounds_toArray, List.set_cons_zero, List.set_cons_succ]))
                    (refine wpAnyH_done (by kernel_rfl) ?_ _)
                    clear hHeld
                    go_wp2_with fail
                    go_returns
                    exact ⟨by first | rfl | simp, HB6.out⟩
                · have u2 : decide (s1 < (par.length : Int)) = false := decide_eq_false g2
                  clear g1 g2 hs
                  go_wp2_with fail
                  go_quiet (fail)
                  clear u1 u2
                  go_wp2_with fail
                  refine (HIX.out (s1, s2) _ (HXC.out _ (below_drewN HB.out _))).mono ?_
                  rintro e w5 ⟨rfl, hb⟩
                  rw [HNO.out]
                  have HB5 := Lib.hid (through (below_drewN HB.out _) (Nat.le_refl _) hb)
                  clear hb
                  go_upto_region 20 with (fail)
                  refine wp_region_held_drew (S := fun _ => True) (by kernel_rfl) trivial (fun hHeld => ?_)
                  (refine held_take 0 (by kernel_rfl) (by kernel_rfl) (by kernel_rfl) (by assumption) ?_; simp only [List.getElem?_toArray, List.getElem?_cons_succ, List.getElem?_cons_zero]; refine ⟨fun _ _ _ _ h => h, ?_, Or.inl ⟨by kernel_rfl, ?_⟩, ?_⟩; rotate_left; (focus (intro wS hSw; (try dsimp only at hSw); go_simp; try with_reducible rfl)); (try simp only [Act.put, List.setIfInBounds_toArray, List.set_cons_zero, List.set_cons_succ]))
                  (refine held_take 1 (by kernel_rfl) (by kernel_rfl) (by kernel_rfl) (by assumption) ?_; simp only [List.getElem?_toArray, List.getElem?_cons_succ, List.getElem?_cons_zero]; refine ⟨fun _ _ _ _ h => h, ?_, Or.inl ⟨by kernel_rfl, ?_⟩, ?_⟩; rotate_left; (focus (intro wS hSw; (try dsimp only at hSw); go_simp; try with_reducible rfl)); (try simp only [Act.put, List.setIfInBounds_toArray, List.set_cons_zero, List.set_cons_succ]))
                  (refine held_take 2 (by kernel_rfl) (by kernel_rfl) (by kernel_rfl) (by assumption) ?_; simp only [List.getElem?_toArray, List.getElem?_cons_succ, List.getElem?_cons_zero]; refine ⟨fun _ _ _ _ h => h, ?_, Or.inl ⟨by kernel_rfl, ?_⟩, ?_⟩; rotate_left; (focus (intro wS hSw; (try dsimp only at hSw); go_simp; try with_reducible rfl)); (try simp only [Act.put, List.setIfInBounds_toArray, List.set_cons_zero, List.set_cons_succ]))
                  (refine held_take 3 (by kernel_rfl) (by kernel_rfl) (by kernel_rfl) (by assumption) ?_; simp only [List.getElem?_toArray, List.getElem?_cons_succ, List.getElem?_cons_zero]; refine ⟨fun _ _ _ _ h => h, ?_, Or.inl ⟨by kernel_rfl, ?_⟩, ?_⟩; rotate_left; (focus (intro wS hSw; (try dsimp only at hSw); go_simp; try with_reducible rfl)); (try simp only [Act.put, List.setIfInBounds_toArray, List.set_cons_zero, List.set_cons_succ]))
                  (refine held_take 4 (by kernel_rfl) (by kernel_rfl) (by kernel_rfl) (by assumption) ?_; simp only [List.getElem?_toArray, List.getElem?_cons_succ, List.getElem?_cons_zero]; refine ⟨fun _ _ _ _ h => h, ?_, Or.inl ⟨by kernel_rfl, ?_⟩, ?_⟩; rotate_left; (focus (intro wS hSw; (try dsimp only at hSw); go_simp; try with_reducible rfl)); (try simp only [Act.put, List.setIfInBounds_toArray, List.set_cons_zero, List.set_cons_succ]))
                  (refine held_take 5 (by kernel_rfl) (by kernel_rfl) (by kernel_rfl) (by assumption) ?_; simp only [List.getElem?_toArray, List.getElem?_cons_succ, List.getElem?_cons_zero]; refine ⟨fun _ _ _ _ h => h, ?_, Or.inl ⟨by kernel_rfl, ?_⟩, ?_⟩; rotate_left; (focus (intro wS hSw; (try dsimp only at hSw); go_simp; try with_reducible rfl)); (try simp only [Act.put, List.setIfInBounds_toArray, List.set_cons_zero, List.set_cons_succ]))
                  (refine held_take 6 (by kernel_rfl) (by kernel_rfl) (by kernel_rfl) (by assumption) ?_; simp only [List.getElem?_toArray, List.getElem?_cons_succ, List.getElem?_cons_zero]; refine ⟨fun _ _ _ _ h => h, ?_, Or.inl ⟨by kernel_rfl, ?_⟩, ?_⟩; rotate_left; (focus (intro wS hSw; (try dsimp only at hSw); go_simp; try with_reducible rfl)); (try simp only [Act.put, List.setIfInBounds_toArray, List.set_cons_zero, List.set_cons_succ]))
                  (refine held_take 7 (by kernel_rfl) (by kernel_rfl) (by kernel_rfl) (by assumption) ?_; simp only [List.getElem?_toArray, List.getElem?_cons_succ, List.getElem?_cons_zero]; refine ⟨fun _ _ _ _ h => h, ?_, Or.inl ⟨by kernel_rfl, ?_⟩, ?_⟩; rotate_left; (focus (intro wS hSw; (try dsimp only at hSw); go_simp; try with_reducible rfl)); (try simp only [Act.put, List.setIfInBounds_toArray, List.set_cons_zero, List.set_cons_succ]))
                  (refine held_take 8 (by kernel_rfl) (by kernel_rfl) (by kernel_rfl) (by assumption) ?_; simp only [List.getElem?_toArray, List.getElem?_cons_succ, List.getElem?_cons_zero]; refine ⟨fun _ _ _ _ h => h, undef, Or.inr ⟨by kernel_rfl, rfl⟩, ?_⟩; (try simp only [Act.put, List.setIfInBounds_toArray, List.set_cons_zero, List.set_cons_succ]))
                  (refine held_take 9 (by kernel_rfl) (by kernel_rfl) (by kernel_rfl) (by assumption) ?_; simp only [List.getElem?_toArray, List.getElem?_cons_succ, List.getElem?_cons_zero]; refine ⟨fun _ _ _ _ h => h, undef, Or.inr ⟨by kernel_rfl, rfl⟩, ?_⟩; (try simp only [Act.put, List.setIfInBounds_toArray, List.set_cons_zero, List.set_cons_succ]))
                  (refine held_take 10 (by kernel_rfl) (by kernel_rfl) (by kernel_rfl) (by assumption) ?_; simp only [List.getElem?_toArray, List.getElem?_cons_succ, List.getElem?_cons_zero]; refine ⟨fun _ _ _ _ h => h, undef, Or.inr ⟨by kernel_rfl, rfl⟩, ?_⟩; (try simp only [Act.put, List.setIfInBounds_toArray, List.set_cons_zero, List.set_cons_succ]))
                  (refine held_take 11 (by kernel_rfl) (by kernel_rfl) (by kernel_rfl) (by assumption) ?_; simp only [List.getElem?_toArray, List.getElem?_cons_succ, List.getElem?_cons_zero]; refine ⟨fun _ _ _ _ h => h, undef, Or.inr ⟨by kernel_rfl, rfl⟩, ?_⟩; (try simp only [Act.put, List.setIfInBounds_toArray, List.set_cons_zero, List.set_cons_succ]))
                  (refine held_take 12 (by kernel_rfl) (by kernel_rfl) (by kernel_rfl) (by assumption) ?_; simp only [List.getElem?_toArray, List.getElem?_cons_succ, List.getElem?_cons_zero]; refine ⟨fun _ _ _ _ h => h, undef, Or.inr ⟨by kernel_rfl, rfl⟩, ?_⟩; (try simp only [Act.put, List.setIfInBounds_toArray, List.set_cons_zero, List.set_cons_succ]))
                  (refine held_take 13 (by kernel_rfl) (by kernel_rfl) (by kernel_rfl) (by assumption) ?_; simp only [List.getElem?_toArray, List.getElem?_cons_succ, List.getElem?_cons_zero]; refine ⟨fun _ _ _ _ h => h, undef, Or.inr ⟨by kernel_rfl, rfl⟩, ?_⟩; (try simp only [Act.put, List.setIfInBounds_toArray, List.set_cons_zero, List.set_cons_succ]))
                  (refine held_take 14 (by kernel_rfl) (by kernel_rfl) (by kernel_rfl) (by assumption) ?_; simp only [List.getElem?_toArray, List.getElem?_cons_succ, List.getElem?_cons_zero]; refine ⟨fun _ _ _ _ h => h, ?_, Or.inl ⟨by kernel_rfl, ?_⟩, ?_⟩; rotate_left; (focus (intro wS hSw; (try dsimp only at hSw); go_simp; try with_reducible rfl)); (try simp only [Act.put, List.setIfInBounds_toArray, List.set_cons_zero, List.set_cons_succ]))
                  (refine held_take 15 (by kernel_rfl) (by kernel_rfl) (by kernel_rfl) (by assumption) ?_; simp only [List.getElem?_toArray, List.getElem?_cons_succ, List.getElem?_cons_zero]; refine ⟨fun _ _ _ _ h => h, ?_, Or.inl ⟨by kernel_rfl, ?_⟩, ?_⟩; rotate_left; (focus (intro wS hSw; (try dsimp only at hSw); go_simp; try with_reducible rfl)); (try simp only [Act.put, List.setIfInBounds_toArray, List.set_cons_zero, List.set_cons_succ]))
                  (refine held_take 16 (by kernel_rfl) (by kernel_rfl) (by kernel_rfl) (by assumption) ?_; simp only [List.getElem?_toArray, List.getElem?_cons_succ, List.getElem?_cons_zero]; refine ⟨fun _ _ _ _ h => h, ?_, Or.inl ⟨by kernel_rfl, ?_⟩, ?_⟩; rotate_left; (focus (intro wS hSw; (try dsimp only at hSw); go_simp; try with_reducible rfl)); (try simp only [Act.put, List.setIfInBounds_toArray, List.set_cons_zero, List.set_cons_succ]))
                  (refine held_one 17 (by kernel_rfl) ?_; simp only [List.getElem?_toArray, List.getElem?_cons_succ, List.getElem?_cons_zero]; intro K hK; go_simp)
                  refine (known_any _).mono ?_
                  rintro e w6 ⟨rfl, hb⟩
                  have HB6 := Lib.hid ((HW.out _ (HX.out _ _ (HXC.out _ HB5.out.drew) hb)).1)
                  clear hb hHeld
                  (go_wp2_with fail; refine hK.out _ _ ?_ (fun hHeld => ?_); (focus (trivial)); clear hK K; (try simp only [Act.put, List.setIfInBounds_toArray, List.set_cons_zero, List.set_cons_succ]))
                  (refine held_take 18 (by kernel_rfl) (by kernel_rfl) (by kernel_rfl) (by assumption) ?_; simp only [List.getElem?_toArray, List.getElem?_cons_succ, List.getElem?_cons_zero]; refine ⟨fun _ _ _ _ h => h, ?_, Or.inl ⟨by kernel_rfl, ?_⟩, ?_⟩; rotate_left; (focus (intro wS hSw; (try dsimp only at hSw); go_simp; try with_reducible rfl)); (try simp only [Act.put, List.setIfInBounds_toArray, List.set_cons_zero, List.set_cons_succ]))
                  (refine held_take 19 (by kernel_rfl) (by kernel_rfl) (by kernel_rfl) (by assumption) ?_; simp only [List.getElem?_toArray, List.getElem?_cons_succ, List.getElem?_cons_zero]; refine ⟨fun _ _ _ _ h => h, ?_, Or.inl ⟨by kernel_rfl, ?_⟩, ?_⟩; rotate_left; (focus (intro wS hSw; (try dsimp only at hSw); go_simp; try with_reducible rfl)); (try simp only [Act.put, List.setIfInBounds_toArray, List.set_cons_zero, List.set_cons_succ]))
                  (refine wpAnyH_done (by kernel_rfl) ?_ _)
                  clear hHeld
                  go_wp2_with fail
                  go_returns
                  exact ⟨by first | rfl | simp, HB6.out⟩
              · have u1 : decide ((0 : Int) ≤ s1) = false := decide_eq_false g1
                clear g1 hs
                go_wp2_with fail
                go_quiet (fail)
                clear u1
                go_wp2_with fail
                refine (HIX.out (s1, s2) _ (HXC.out _ (below_drewN HB.out _))).mono ?_
                rintro e w5 ⟨rfl, hb⟩
                rw [HNO.out]
                have HB5 := Lib.hid (through (below_drewN HB.out _) (Nat.le_refl _) hb)
                clear hb
                go_upto_region 20 with (fail)
                refine wp_region_held_drew (S := fun _ => True) (by kernel_rfl) trivial (fun hHeld => ?_)
                (refine held_take 0 (by kernel_rfl) (by kernel_rfl) (by kernel_rfl) (by assumption) ?_; simp only [List.getElem?_toArray, List.getElem?_cons_succ, List.getElem?_cons_zero]; refine ⟨fun _ _ _ _ h => h, ?_, Or.inl ⟨by kernel_rfl, ?_⟩, ?_⟩; rotate_left; (focus (intro wS hSw; (try dsimp only at hSw); go_simp; try with_reducible rfl)); (try simp only [Act.put, List.setIfInBounds_toArray, List.set_cons_zero, List.set_cons_succ]))
                (refine held_take 1 (by kernel_rfl) (by kernel_rfl) (by kernel_rfl) (by assumption) ?_; simp only [List.getElem?_toArray, List.getElem?_cons_succ, List.getElem?_cons_zero]; refine ⟨fun _ _ _ _ h => h, ?_, Or.inl ⟨by kernel_rfl, ?_⟩, ?_⟩; rotate_left; (focus (intro wS hSw; (try dsimp only at hSw); go_simp; try with_reducible rfl)); (try simp only [Act.put, List.setIfInBounds_toArray, List.set_cons_zero, List.set_cons_succ]))
                (refine held_take 2 (by kernel_rfl) (by kernel_rfl) (by kernel_rfl) (by assumption) ?_; simp only [List.getElem?_toArray, List.getElem?_cons_succ, List.getElem?_cons_zero]; refine ⟨fun _ _ _ _ h => h, ?_, Or.inl ⟨by kernel_rfl, ?_⟩, ?_⟩; rotate_left; (focus (intro wS hSw; (try dsimp only at hSw); go_simp; try with_reducible rfl)); (try simp only [Act.put, List.setIfInBounds_toArray, List.set_cons_zero, List.set_cons_succ]))
                (refine held_take 3 (by kernel_rfl) (by kernel_rfl) (by kernel_rfl) (by assumption) ?_; simp only [List.getElem?_toArray, List.getElem?_cons_succ, List.getElem?_cons_zero]; refine ⟨fun _ _ _ _ h => h, ?_, Or.inl ⟨by kernel_rfl, ?_⟩, ?_⟩; rotate_left; (focus (intro wS hSw; (try dsimp only at hSw); go_simp; try with_reducible rfl)); (try simp only [Act.put, List.setIfInBounds_toArray, List.set_cons_zero, List.set_cons_succ]))
                (refine held_take 4 (by kernel_rfl) (by kernel_rfl) (by kernel_rfl) (by assumption) ?_; simp only [List.getElem?_toArray, List.getElem?_cons_succ, List.getElem?_cons_zero]; refine ⟨fun _ _ _ _ h => h, ?_, Or.inl ⟨by kernel_rfl, ?_⟩, ?_⟩; rotate_left; (focus (intro wS hSw; (try dsimp only at hSw); go_simp; try with_reducible rfl)); (try simp only [Act.put, List.setIfInBounds_toArray, List.set_cons_zero, List.set_cons_succ]))
                (refine held_take 5 (by kernel_rfl) (by kernel_rfl) (by kernel_rfl) (by assumption) ?_; simp only [List.getElem?_toArray, List.getElem?_cons_succ, List.getElem?_cons_zero]; refine ⟨fun _ _ _ _ h => h, ?_, Or.inl ⟨by kernel_rfl, ?_⟩, ?_⟩; rotate_left; (focus (intro wS hSw; (try dsimp only at hSw); go_simp; try with_reducible rfl)); (try simp only [Act.put, List.setIfInBounds_toArray, List.set_cons_zero, List.set_cons_succ]))
                (refine held_take 6 (by kernel_rfl) (by kernel_rfl) (by kernel_rfl) (by assumption) ?_; simp only [List.getElem?_toArray, List.getElem?_cons_succ, List.getElem?_cons_zero]; refine ⟨fun _ _ _ _ h => h, ?_, Or.inl ⟨by kernel_rfl, ?_⟩, ?_⟩; rotate_left; (focus (intro wS hSw; (try dsimp only at hSw); go_simp; try with_reducible rfl)); (try simp only [Act.put, List.setIfInBounds_toArray, List.set_cons_zero, List.set_cons_succ]))
                (refine held_take 7 (by kernel_rfl) (by kernel_rfl) (by kernel_rfl) (by assumption) ?_; simp only [List.getElem?_toArray, List.getElem?_cons_succ, List.getElem?_cons_zero]; refine ⟨fun _ _ _ _ h => h, ?_, Or.inl ⟨by kernel_rfl, ?_⟩, ?_⟩; rotate_left; (focus (intro wS hSw; (try dsimp only at hSw); go_simp; try with_reducible rfl)); (try simp only [Act.put, List.setIfInBounds_toArray, List.set_cons_zero, List.set_cons_succ]))
                (refine held_take 8 (by kernel_rfl) (by kernel_rfl) (by kernel_rfl) (by assumption) ?_; simp only [List.getElem?_toArray, List.getElem?_cons_succ, List.getElem?_cons_zero]; refine ⟨fun _ _ _ _ h => h, undef, Or.inr ⟨by kernel_rfl, rfl⟩, ?_⟩; (try simp only [Act.put, List.setIfInBounds_toArray, List.set_cons_zero, List.set_cons_succ]))
                (refine held_take 9 (by kernel_rfl) (by kernel_rfl) (by kernel_rfl) (by assumption) ?_; simp only [List.getElem?_toArray, List.getElem?_cons_succ, List.getElem?_cons_zero]; refine ⟨fun _ _ _ _ h => h, undef, Or.inr ⟨by kernel_rfl, rfl⟩, ?_⟩; (try simp only [Act.put, List.setIfInBounds_toArray, List.set_cons_zero, List.set_cons_succ]))
                (refine held_take 10 (by kernel_rfl) (by kernel_rfl) (by kernel_rfl) (by assumption) ?_; simp only [List.getElem?_toArray, List.getElem?_cons_succ, List.getElem?_cons_zero]; refine ⟨fun _ _ _ _ h => h, undef, Or.inr ⟨by kernel_rfl, rfl⟩, ?_⟩; (try simp only [Act.put, List.setIfInBounds_toArray, List.set_cons_zero, List.set_cons_succ]))
                (refine held_take 11 (by kernel_rfl) (by kernel_rfl) (by kernel_rfl) (by assumption) ?_; simp only [List.getElem?_toArray, List.getElem?_cons_succ, List.getElem?_cons_zero]; refine ⟨fun _ _ _ _ h => h, undef, Or.inr ⟨by kernel_rfl, rfl⟩, ?_⟩; (try simp only [Act.put, List.setIfInBounds_toArray, List.set_cons_zero, List.set_cons_succ]))
                (refine held_take 12 (by kernel_rfl) (by kernel_rfl) (by kernel_rfl) (by assumption) ?_; simp only [List.getElem?_toArray, List.getElem?_cons_succ, List.getElem?_cons_zero]; refine ⟨fun _ _ _ _ h => h, undef, Or.inr ⟨by kernel_rfl, rfl⟩, ?_⟩; (try simp only [Act.put, List.setIfInBounds_toArray, List.set_cons_zero, List.set_cons_succ]))
                (refine held_take 13 (by kernel_rfl) (by kernel_rfl) (by kernel_rfl) (by assumption) ?_; simp only [List.getElem?_toArray, List.getElem?_cons_succ, List.getElem?_cons_zero]; refine ⟨fun _ _ _ _ h => h, undef, Or.inr ⟨by kernel_rfl, rfl⟩, ?_⟩; (try simp only [Act.put, List.setIfInBounds_toArray, List.set_cons_zero, List.set_cons_succ]))
                (refine held_take 14 (by kernel_rfl) (by kernel_rfl) (by kernel_rfl) (by assumption) ?_; simp only [List.getElem?_toArray, List.getElem?_cons_succ, List.getElem?_cons_zero]; refine ⟨fun _ _ _ _ h => h, ?_, Or.inl ⟨by kernel_rfl, ?_⟩, ?_⟩; rotate_left; (focus (intro wS hSw; (try dsimp only at hSw); go_simp; try with_reducible rfl)); (try simp only [Act.put, List.setIfInBounds_toArray, List.set_cons_zero, List.set_cons_succ]))
                (refine held_take 15 (by kernel_rfl) (by kernel_rfl) (by kernel_rfl) (by assumption) ?_; simp only [List.getElem?_toArray, List.getElem?_cons_succ, List.getElem?_cons_zero]; refine ⟨fun _ _ _ _ h => h, ?_, Or.inl ⟨by kernel_rfl, ?_⟩, ?_⟩; rotate_left; (focus (intro wS hSw; (try dsimp only at hSw); go_simp; try with_reducible rfl)); (try simp only [Act.put, List.setIfInBounds_toArray, List.set_cons_zero, List.set_cons_succ]))
                (refine held_take 16 (by kernel_rfl) (by kernel_rfl) (by kernel_rfl) (by assumption) ?_; simp only [List.getElem?_toArray, List.getElem?_cons_succ, List.getElem?_cons_zero]; refine ⟨fun _ _ _ _ h => h, ?_, Or.inl ⟨by kernel_rfl, ?_⟩, ?_⟩; rotate_left; (focus (intro wS hSw; (try dsimp only at hSw); go_simp; try with_reducible rfl)); (try simp only [Act.put, List.setIfInBounds_toArray, List.set_cons_zero, List.set_cons_succ]))
                (refine held_one 17 (by kernel_rfl) ?_; simp only [List.getElem?_toArray, List.getElem?_cons_succ, List.getElem?_cons_zero]; intro K hK; go_simp)
                refine (known_any _).mono ?_
                rintro e w6 ⟨rfl, hb⟩
                have HB6 := Lib.hid ((HW.out _ (HX.out _ _ (HXC.out _ HB5.out.drew) hb)).1)
                clear hb hHeld
                (go_wp2_with fail; refine hK.out _ _ ?_ (fun hHeld => ?_); (focus (trivial)); clear hK K; (try simp only [Act.put, List.setIfInBounds_toArray, List.set_cons_zero, List.set_cons_succ]))
                (refine held_take 18 (by kernel_rfl) (by kernel_rfl) (by kernel_rfl) (by assumption) ?_; simp only [List.getElem?_toArray, List.getElem?_cons_succ, List.getElem?_cons_zero]; refine ⟨fun _ _ _ _ h => h, ?_, Or.inl ⟨by kernel_rfl, ?_⟩, ?_⟩; rotate_left; (focus (intro wS hSw; (try dsimp only at hSw); go_simp; try with_reducible rfl)); (try simp only [Act.put, List.setIfInBounds_toArray, List.set_cons_zero, List.set_cons_succ]))
                (refine held_take 19 (by kernel_rfl) (by kernel_rfl) (by kernel_rfl) (by assumption) ?_; simp only [List.getElem?_toArray, List.getElem?_cons_succ, List.getElem?_cons_zero]; refine ⟨fun _ _ _ _ h => h, ?_, Or.inl ⟨by kernel_rfl, ?_⟩, ?_⟩; rotate_left; (focus (intro wS hSw; (try dsimp only at hSw); go_simp; try with_reducible rfl)); (try simp only [Act.put, List.setIfInBounds_toArray, List.set_cons_zero, List.set_cons_succ]))
                (refine wpAnyH_done (by kernel_rfl) ?_ _)
                clear hHeld
                go_wp2_with fail
                go_returns
                exact ⟨by first | rfl | simp, HB6.out⟩
end Go.Proofs.Ytjinpmengjfmpaa.Gp
