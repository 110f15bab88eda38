/- Jobs: what is wrong with one, as the program has it. -/
import Derived.Test.YtaodbjgcidkpkaaSp12
namespace Go.Proofs.Ytaodbjgcidkpkaa.Sp
open Go.ChangeShapes Go.WideShapes Go.ChangeAt Go.RowKit M

theorem apart_yes' {r : List Int} {rs : List (List Int)} {S : List Int} (h : (r.any fun x => hasB S x) = false) : apartGo (r :: rs) S = apartGo rs (S ++ r) := by rw [apartGo, h]; rfl
theorem apart_no' {r : List Int} {rs : List (List Int)} {S : List Int} (h : (r.any fun x => hasB S x) = true) : apartGo (r :: rs) S = false := by rw [apartGo, h]; rfl

set_option maxHeartbeats 4000000 in
theorem check_any (g : Int) (A : Option Addr) (c : Nat) (l : List OpP) (p : Nat → Option Addr × Nat) (hl : l.length ≤ 1000) (w : World) (B : Nat) (hB : B ≤ w.heap.size) (h : IsOps w B A l p) :
    Calls Try.prog 27 #[.agg #[.int .i64 g, .slice A l.length c]] w fun e w' => e = .returned (.int .i64 (chkE g l)) ∧ Below w.heap.size w w' := by
  have HH := Lib.hid h
  clear h
  cases hg : btw g 1 64 with
  | false =>
    have E := Lib.hid (chk_g (g := g) (l := l) hg)
    go_enter Try.func27, Try.ntmps27
    go_wp2_with (go_at_call 51; refine (between_any _ _ _ _).mono ?_; rintro e w' ⟨rfl, rfl⟩)
    go_returns
    exact ⟨ret_int E.out.symm, by go_grown⟩
  | true =>
  cases hn : btw (l.length : Int) 1 12 with
  | false =>
    have E := Lib.hid (chk_n (g := g) (l := l) hg hn)
    go_enter Try.func27, Try.ntmps27
    go_wp2_with (go_at_call 51; refine (between_any _ _ _ _).mono ?_; rintro e w' ⟨rfl, rfl⟩)
    go_returns
    exact ⟨ret_int E.out.symm, by go_grown⟩
  | true =>
  have hl12 : l.length ≤ 12 := by unfold btw at hn; simp at hn; omega
  go_enter Try.func27, Try.ntmps27
  go_wp2_with (go_at_call 51; refine (between_any _ _ _ _).mono ?_; rintro e w' ⟨rfl, rfl⟩)
  have EG := Lib.hid hg
  have EN := Lib.hid hn
  clear hg hn
  have HS : Hid (∀ wr, Below (w.heap.size + 1) (w.alloc (.cells #[.int .i64 g, .slice A l.length c] 24)) wr → wr.cell? ⟨w.heap.size, 0, none⟩ = some (.int .i64 g) ∧ wr.cell? ⟨w.heap.size, 1, none⟩ = some (.slice A l.length c) ∧ Below w.heap.size w wr ∧ IsOps wr w.heap.size A l p ∧ w.heap.size + 1 ≤ wr.heap.size) := fun wr hb =>
    ⟨(hb.cell (p := ⟨w.heap.size, 0, none⟩) (by show w.heap.size < _; omega)).trans (by go_simp), (hb.cell (p := ⟨w.heap.size, 1, none⟩) (by show w.heap.size < _; omega)).trans (by go_simp),
      through ((Below.refl _ _).alloc (Nat.le_refl _) _) (Nat.le_refl _) (hb.mono (by simp)), ((HH.out.more hB).alloc (Nat.le_refl _) _).below (hb.mono (by omega)), by have := hb.size; simpa using this⟩
  go_loopw [27] (fun q wr => ∃ k : Nat, k ≤ l.length ∧ q = .int .i64 k ∧ Below (w.heap.size + 1) (w.alloc (.cells #[.int .i64 g, .slice A l.length c] 24)) wr ∧ ∀ j, j < k → aloneE l j = 0) (fun q _ => l.length - (intOf q).toNat)
  case atStart => exact ⟨0, by omega, rfl, Below.refl _ _, fun j hj => absurd hj (by omega)⟩
  case round =>
    obtain ⟨k, hk, rfl, hbl, hno⟩ := hrel
    have HB := Lib.hid hbl
    have HN := Lib.hid hno
    obtain ⟨s0, s1, hbw, hio, hsz⟩ := HS.out wr hbl
    clear hbl hno
    by_cases hlt : k < l.length
    · have HC := Lib.hid (alone_any g A c l p k wr w.heap.size (by omega) hio hlt (by omega))
      have HCA : Hid (aloneE l k ≠ 0 → chkE g l = aloneE l k) := fun h => chk_a EG.out EN.out hlt h HN.out
      have HCN : Hid (aloneE l k = 0 → ∀ j, j < k + 1 → aloneE l j = 0) := fun h j hj => by
        rcases (show j < k ∨ j = k by omega) with h1 | rfl
        · exact HN.out j h1
        · exact h
      have HBK : Hid (∀ w2, Below wr.heap.size wr w2 → Below (w.heap.size + 1) (w.alloc (.cells #[.int .i64 g, .slice A l.length c] 24)) w2) := fun w2 h2 => through HB.out (by simp) h2
      clear hbw hio
      generalize aloneE l k = z at *
      by_cases hz : z = 0
      · have E := Lib.hid (HCN.out hz)
        subst hz
        go_wp2_with (go_at_call 61; refine HC.out.mono ?_; rintro e w2 ⟨rfl, h2⟩; have HB2 := Lib.hid (HBK.out _ h2); clear h2)
        go_roundw
        case rel => exact ⟨k + 1, by omega, by go_num, HB2.out, E.out⟩
        case measure => simp [intOf]; omega
      · have E := Lib.hid (HCA.out hz)
        have hz1 : (z != 0) = true := by simp [hz]
        clear hz
        go_wp2_with (go_at_call 61; refine HC.out.mono ?_; rintro e w2 ⟨rfl, h2⟩; have HB2 := Lib.hid (HBK.out _ h2); clear h2)
        go_returns
        exact ⟨ret_int E.out.symm, (HS.out _ HB2.out).2.2.1⟩
    · obtain rfl : k = l.length := by omega
      clear hbw hio
      have HAL := Lib.hid HN.out
      clear HN
      go_wp2_with fail
      have HB0 := HB
      clear HB s0 s1
      go_loopw [40] (fun q wr => ∃ k : Nat, k ≤ l.length ∧ q = .int .i64 k ∧ Below (w.heap.size + 1) (w.alloc (.cells #[.int .i64 g, .slice A l.length c] 24)) wr ∧ ∀ j, j < k → fedB l j = true) (fun q _ => l.length - (intOf q).toNat)
      case atStart => exact ⟨0, by omega, rfl, HB0.out, fun j hj => absurd hj (by omega)⟩
      case round =>
        obtain ⟨k, hk, rfl, hbl, hno⟩ := hrel
        have HB := Lib.hid hbl
        have HN := Lib.hid hno
        obtain ⟨s0, s1, hbw, hio, hsz⟩ := HS.out _ hbl
        clear hbl hno
        by_cases hlt : k < l.length
        · obtain ⟨b, o, rfl, hb, c0, c1, c2, c3, c4, c5, c6, c7, -⟩ := hio.at_ hlt
          have HC : Hid (∀ w0, Below w.heap.size w w0 → Calls Try.prog 14 #[.agg #[.int .i64 g, .slice (some ⟨b, o, none⟩) l.length c], .int .i64 k] w0 (RetInts w0 (usersF l k))) := fun w0 h0 =>
            users_any g _ c l p k w0 B (Nat.le_trans hB h0.size) (HH.out.below (h0.mono hB)) (by omega)
          have HFE := Lib.hid (fun z h => fedB_of (l := l) (i := k) (z := z) h)
          have HCF : Hid (fedB l k = false → chkE g l = 8) := fun h => chk_f EG.out EN.out HAL.out hlt h
          have HCN : Hid (fedB l k = true → ∀ j, j < k + 1 → fedB l j = true) := fun h j hj => by
            rcases (show j < k ∨ j = k by omega) with h1 | rfl
            · exact HN.out j h1
            · exact h
          have HU := Lib.hid (len_empty (xs := usersF l k))
          have HFZ := Lib.hid (HFE.out _ rfl)
          have hul : ((usersF l k).length : Int) ≤ 1000 := by have := whichF_len (fun i => hasB (insOf l i) k) l.length; have e : usersF l k = whichF (fun i => hasB (insOf l i) k) l.length := rfl; rw [e]; omega
          have hbl : b < wr.heap.size := by omega
          clear hio HFE
          unfold kindOf at HFZ
          unfold kindOf at c0
          unfold insOf at c1
          generalize opOf l k = O at *
          generalize p k = a at *
          generalize usersF l (k : Int) = us at *
          obtain ⟨z, hz⟩ : ∃ z, us.isEmpty = z := ⟨_, rfl⟩
          obtain ⟨y, hy⟩ : ∃ y, (O.kind == 8) = y := ⟨_, rfl⟩
          rw [hz] at HU HFZ
          rw [hy] at HFZ
          have hu := HU.out
          clear hz HU
          go_upto_region 15 with (fail)
          obtain ⟨X, hX⟩ : ∃ X, (wr.alloc (.cells #[.int .i64 O.kind, .slice a.1 O.ins.length a.2, .int .i64 O.fo, .int .i64 O.fa, .int .i64 O.fb, .int .i64 O.parts, .int .i64 O.rate, .int .i64 O.cost] 40)) = X := ⟨_, rfl⟩
          have kO : Blk X wr.heap.size 40 (opArr O a) := hX ▸ Blk.new wr _ _
          have kX : X.heap.size = wr.heap.size + 1 := hX ▸ (by simp)
          have t0 : X.cell? ⟨w.heap.size, 0, none⟩ = some (.int .i64 g) := hX ▸ ((World.cell?_alloc_lt wr _ ⟨w.heap.size, 0, none⟩ (by show w.heap.size < _; omega)).trans s0)
          have t1 : X.cell? ⟨w.heap.size, 1, none⟩ = some (.slice (some ⟨b, o, none⟩) l.length c) := hX ▸ ((World.cell?_alloc_lt wr _ ⟨w.heap.size, 1, none⟩ (by show w.heap.size < _; omega)).trans s1)
          have HBX := Lib.hid (hX ▸ HB.out.alloc hsz _ : Below (w.heap.size + 1) (w.alloc (.cells #[.int .i64 g, .slice (some ⟨b, o, none⟩) l.length c] 24)) X)
          have HBWX := Lib.hid (hX ▸ hbw.alloc (by omega) _ : Below w.heap.size w X)
          rw [hX]
          clear hX s0 s1 c0 c1 c2 c3 c4 c5 c6 c7 hbw
          obtain ⟨o0, -⟩ := op_blk kO
          have HZ : Hid (∀ w2, Below X.heap.size X w2 → w2.cell? ⟨w.heap.size, 0, none⟩ = some (.int .i64 g) ∧ w2.cell? ⟨w.heap.size, 1, none⟩ = some (.slice (some ⟨b, o, none⟩) l.length c) ∧ w2.cell? ⟨wr.heap.size, 0, none⟩ = some (.int .i64 O.kind)) := fun w2 h2 =>
            ⟨(h2.cell (p := ⟨w.heap.size, 0, none⟩) (by show w.heap.size < _; omega)).trans t0, (h2.cell (p := ⟨w.heap.size, 1, none⟩) (by show w.heap.size < _; omega)).trans t1, (h2.cell (p := ⟨wr.heap.size, 0, none⟩) (by show wr.heap.size < _; omega)).trans o0⟩
          have HBK : Hid (∀ w2, Below X.heap.size X w2 → Below (w.heap.size + 1) (w.alloc (.cells #[.int .i64 g, .slice (some ⟨b, o, none⟩) l.length c] 24)) w2) := fun w2 h2 => through HBX.out (by simp) h2
          clear kO kX o0 t0 t1
          have T0 := HZ.out _ (Below.refl _ _)
          cases z <;> cases y
          all_goals
            go_region_held3 (fun w' => w'.cell? ⟨w.heap.size, 0, none⟩ = some (.int .i64 g) ∧ w'.cell? ⟨w.heap.size, 1, none⟩ = some (.slice (some ⟨b, o, none⟩) l.length c) ∧ w'.cell? ⟨wr.heap.size, 0, none⟩ = some (.int .i64 O.kind))
              (first | exact HZ.out _ (Below.refl _ _).drew | exact HZ.out _ (Below.refl _ _) | exact HZ.out _ (of_drew hb3))
              ((go_at_call 14; refine (HC.out _ HBWX.out.drew).mono ?_; rintro e w1 ⟨Ar, cr, rfl, -, hb3⟩))
            have HB1 := Lib.hid (HBK.out _ (of_drew hb3))
            clear hb3 T0
            first
            | (have E := Lib.hid (HCN.out HFZ.out)
               go_wp2_with fail
               go_roundw
               case rel => exact ⟨k + 1, by omega, by go_num, HB1.out, E.out⟩
               case measure => simp [intOf]; omega)
            | (have E := Lib.hid (HCF.out HFZ.out)
               go_wp2_with fail
               go_returns
               exact ⟨ret_int E.out.symm, (HS.out _ HB1.out).2.2.1⟩)
        · obtain rfl : k = l.length := by omega
          have HFA := Lib.hid HN.out
          have HBW := Lib.hid hbw
          have HC : Hid (∀ w0, Below w.heap.size w w0 → Calls Try.prog 20 #[.agg #[.int .i64 g, .slice A l.length c]] w0 (RetInts w0 (orderF l))) := fun w0 h0 =>
            order_any g _ c l p w0 B (Nat.le_trans hB h0.size) (HH.out.below (h0.mono hB)) (by omega)
          have HZ : Hid (∀ w2, Below wr.heap.size wr w2 → w2.cell? ⟨w.heap.size, 0, none⟩ = some (.int .i64 g) ∧ w2.cell? ⟨w.heap.size, 1, none⟩ = some (.slice A l.length c)) := fun w2 h2 =>
            ⟨(h2.cell (p := ⟨w.heap.size, 0, none⟩) (by show w.heap.size < _; omega)).trans s0, (h2.cell (p := ⟨w.heap.size, 1, none⟩) (by show w.heap.size < _; omega)).trans s1⟩
          have HBK : Hid (∀ w2, Below wr.heap.size wr w2 → Below (w.heap.size + 1) (w.alloc (.cells #[.int .i64 g, .slice A l.length c] 24)) w2) := fun w2 h2 => through HB.out (by simp) h2
          have hol : ((orderF l).length : Int) ≤ 1000 := by have := ordSt_len l l.length; have e : orderF l = ordSt l l.length := rfl; rw [e]; omega
          have HCO : Hid (¬ l.length ≤ (orderF l).length → chkE g l = 9) := fun h => chk_o EG.out EN.out HAL.out HFA.out h
          have HCK : Hid (l.length ≤ (orderF l).length → (∃ rank, Ranked l rank) ∧ (∀ k, k < l.length → apartB l k = false → chkE g l = 10) ∧ ((∀ j, j < l.length → apartB l j = true) → chkE g l = 0)) := fun h =>
            ⟨ranked_of HAL.out h, fun k hk h6 => chk_k EG.out EN.out HAL.out HFA.out h hk h6, fun h6 => chk_ok EG.out EN.out HAL.out HFA.out h h6⟩
          have HPU : Hid (Pure l) := fun i hi h1 => (ins_many (HAL.out i hi)).1 h1
          clear HN hbw hio
          generalize orderF l = os at *
          by_cases ho : l.length ≤ os.length
          · obtain ⟨⟨rank, hr⟩, hk10, hk0⟩ := HCK.out ho
            have HR := Lib.hid hr
            have HK10 := Lib.hid hk10
            have HK0 := Lib.hid hk0
            have ht : decide (os.length < l.length) = false := decide_eq_false (by omega)
            have ht2 : decide ((os.length : Int) < (l.length : Int)) = false := decide_eq_false (by omega)
            clear hr hk10 hk0 HCK HCO
            go_upto_region 18 with (fail)
            go_region_held3 (fun w' => w'.cell? ⟨w.heap.size, 0, none⟩ = some (.int .i64 g) ∧ w'.cell? ⟨w.heap.size, 1, none⟩ = some (.slice A l.length c))
              (first | exact HZ.out _ (Below.refl _ _).drew | exact HZ.out _ (Below.refl _ _) | exact HZ.out _ (of_drew hb3))
              ((go_at_call 20; refine (HC.out _ HBW.out.drew).mono ?_; rintro e w1 ⟨Ar, cr, rfl, -, hb3⟩))
            have HB1 := Lib.hid (HBK.out _ (of_drew hb3))
            obtain ⟨s0', s1'⟩ := HZ.out _ (of_drew hb3)
            clear hb3 s0 s1
            go_wp2_with fail
            clear s0' s1'
            go_loopw [65] (fun q wr => ∃ k : Nat, k ≤ l.length ∧ q = .int .i64 k ∧ Below (w.heap.size + 1) (w.alloc (.cells #[.int .i64 g, .slice A l.length c] 24)) wr ∧ ∀ j, j < k → apartB l j = true) (fun q _ => l.length - (intOf q).toNat)
            case atStart => exact ⟨0, by omega, rfl, HB1.out, fun j hj => absurd hj (by omega)⟩
            case round =>
              obtain ⟨k, hk, rfl, hbl, hno⟩ := hrel
              obtain ⟨wo, rfl⟩ : ∃ wo : World, wo = wr := ⟨_, rfl⟩
              have HB := Lib.hid hbl
              have HN := Lib.hid hno
              obtain ⟨s0, s1, hbw, hio, hsz⟩ := HS.out _ hbl
              clear hbl hno
              by_cases hlt : k < l.length
              · obtain ⟨b, o, rfl, hb, c0, c1, c2, c3, c4, c5, c6, c7, -, hin⟩ := hio.at_ hlt
                have HC : Hid (∀ (j : Nat) w0, j < l.length → Below w.heap.size w w0 → Calls Try.prog 52 #[.agg #[.int .i64 g, .slice (some ⟨b, o, none⟩) l.length c], .int .i64 j] w0 fun e w' => e = .returned (.int .u64 (bitsN l.length l j)) ∧ Below w0.heap.size w0 w') := fun j w0 hj h0 =>
                  pRoots_any g _ c l p rank HR.out hl12 j hj w0 B (Nat.le_trans hB h0.size) (HH.out.below (h0.mono hB))
                have HCF : Hid (apartB l k = false → chkE g l = 10) := fun h => HK10.out k hlt h
                have HCN : Hid (apartB l k = true → ∀ j, j < k + 1 → apartB l j = true) := fun h j hj => by
                  rcases (show j < k ∨ j = k by omega) with h1 | rfl
                  · exact HN.out j h1
                  · exact h
                have EA : Hid (apartB l k = apartGo (((insOf l k).drop 0).map (rootsF l)) []) := rfl
                have HIN := Lib.hid ((HR.out k hlt).2)
                have HI := Lib.hid hin
                have hlen : (insOf l k).length ≤ 9223372036854775807 := by have := hin.2.1; have := hin.2.2.1; unfold maxLen at this; simp only at *; omega
                have HBT : Hid (∀ j, j < l.length → bitsN l.length l j < 4096 ∧ MaskOf (bitsN l.length l j) (rootsF l j)) := fun j hj =>
                  ⟨lt_12 hl12 (bitsN_lt HR.out l.length j hj (Nat.le_of_lt (HR.out j hj).1)), mask_roots HR.out HPU.out hj⟩
                have hbl : b < wo.heap.size := by omega
                clear hio hin
                generalize apartB l k = res at *
                have hko : kindOf l k = (opOf l k).kind := rfl
                have hio2 : insOf l k = (opOf l k).ins := rfl
                rw [hko] at c0
                rw [hio2] at c1 EA HIN HI hlen
                clear hko hio2
                generalize opOf l k = O at *
                generalize p k = a at *
                go_upto_region 23 with (fail)
                obtain ⟨X, hX⟩ : ∃ X, (wo.alloc (.cells #[.int .i64 O.kind, .slice a.1 O.ins.length a.2, .int .i64 O.fo, .int .i64 O.fa, .int .i64 O.fb, .int .i64 O.parts, .int .i64 O.rate, .int .i64 O.cost] 40)) = X := ⟨_, rfl⟩
                have kO : Blk X wo.heap.size 40 (opArr O a) := hX ▸ Blk.new wo _ _
                have kX : X.heap.size = wo.heap.size + 1 := hX ▸ (by simp)
                have HBX := Lib.hid (hX ▸ HB.out.alloc hsz _ : Below (w.heap.size + 1) (w.alloc (.cells #[.int .i64 g, .slice (some ⟨b, o, none⟩) l.length c] 24)) X)
                rw [hX]
                clear hX s0 s1 c0 c1 c2 c3 c4 c5 c6 c7 hbw
                obtain ⟨-, o1, -⟩ := op_blk kO
                obtain ⟨pa, pc⟩ := a
                obtain ⟨xs, hxs⟩ : ∃ xs, O.ins = xs := ⟨_, rfl⟩
                rw [hxs] at o1 EA HIN HI hlen
                simp only at o1 HI
                clear hxs kO kX
                go_wp2_with fail
                clear o1
                go_loopw [9, 72] (fun sv q wr => ∃ (j m : Nat) (S : List Int), j ≤ xs.length ∧ q = .int .i64 j ∧ sv = .int .u64 m ∧ m < 4096 ∧ Hid (MaskOf m S) ∧ Below (w.heap.size + 1) (w.alloc (.cells #[.int .i64 g, .slice (some ⟨b, o, none⟩) l.length c] 24)) wr ∧ Hid (res = apartGo ((xs.drop j).map (rootsF l)) S)) (fun _ q _ => xs.length - (intOf q).toNat)
                case atStart => exact ⟨0, 0, [], by omega, rfl, rfl, by omega, MaskOf.zero, HBX.out, EA.out⟩
                case round =>
                  obtain ⟨j, m, S, hj, rfl, rfl, hm, HM, hbl, HRES⟩ := hrel
                  have HBI := Lib.hid hbl
                  obtain ⟨s0, s1, hbw, -, hszr⟩ := HS.out _ hbl
                  have HBW := Lib.hid hbw
                  clear hbl hbw
                  by_cases hjl : j < xs.length
                  · obtain ⟨b2, o2, v, rfl, hb2, HV, -, hc0⟩ := ints_at HI.out hjl
                    have hw : wo.heap.size ≤ wo.heap.size := Nat.le_refl _
                    obtain ⟨y, ey, hy, hry⟩ := HIN.out v (by rw [← HV.out]; exact getD_mem hjl)
                    subst ey
                    obtain ⟨hu, hmu⟩ := HBT.out y hy
                    have HCY := Lib.hid (HC.out y _ hy HBW.out)
                    have HRS : Hid (res = apartGo (rootsF l y :: (xs.drop (j + 1)).map (rootsF l)) S) := by
                      show res = _
                      rw [HRES.out, drop_at hjl HV.out]; rfl
                    have HAND := Lib.hid (HM.out.and hmu)
                    have HOR := Lib.hid (HM.out.or hmu)
                    have HBK : Hid (∀ w2, Below wr.heap.size wr w2 → Below (w.heap.size + 1) (w.alloc (.cells #[.int .i64 g, .slice (some ⟨b, o, none⟩) l.length c] 24)) w2) := fun w2 h2 => through HBI.out (by simp) h2
                    clear hmu HRES
                    generalize rootsF l (y : Int) = r at *
                    generalize bitsN l.length l y = u at *
                    have EAND : Hid (bits .and .u64 (m : Int) (u : Int) = ((m &&& u : Nat) : Int)) := bits_and_u64_nat m u (by omega) (by omega)
                    have EOR : Hid (bits .or .u64 (m : Int) (u : Int) = ((m ||| u : Nat) : Int)) := bits_or_u64_nat m u (by omega) (by omega)
                    have hmu2 : m ||| u < 4096 := Nat.or_lt_two_pow (n := 12) hm hu
                    have hcell : wr.cell? ⟨b2, o2 + j, none⟩ = some (.int .i64 (y : Int)) := (HBI.out.cell (p := ⟨b2, o2 + j, none⟩) (by show b2 < _; omega)).trans ((HB.out.cell (p := ⟨b2, o2 + j, none⟩) (by show b2 < _; omega)).symm.trans hc0)
                    by_cases hz : m &&& u = 0
                    · have E : Hid (res = apartGo ((xs.drop (j + 1)).map (rootsF l)) (S ++ r)) := by
                        show res = _
                        rw [HRS.out]; exact apart_yes' (by rw [HAND.out]; simp [hz])
                      have ht : (bits .and .u64 (m : Int) (u : Int) != 0) = false := by rw [EAND.out, hz]; rfl
                      clear hz hc0
                      go_wp2_with (go_at_call 52; refine HCY.out.mono ?_; rintro e w2 ⟨rfl, h2⟩; have HB2 := Lib.hid (HBK.out _ h2); clear h2)
                      go_roundw
                      case rel => exact ⟨j + 1, m ||| u, S ++ r, by omega, by go_num, by rw [EOR.out], hmu2, HOR, HB2.out, E⟩
                      case measure => simp [intOf]; omega
                    · have E := Lib.hid (HCF.out (by rw [HRS.out]; exact apart_no' (by rw [HAND.out]; simp [hz])))
                      have ht : (bits .and .u64 (m : Int) (u : Int) != 0) = true := by rw [EAND.out]; simp; omega
                      clear hz hc0
                      go_wp2_with (go_at_call 52; refine HCY.out.mono ?_; rintro e w2 ⟨rfl, h2⟩; have HB2 := Lib.hid (HBK.out _ h2); clear h2)
                      go_returns
                      exact ⟨ret_int E.out.symm, (HS.out _ HB2.out).2.2.1⟩
                  · obtain rfl : j = xs.length := by omega
                    have E := Lib.hid (HCN.out (by rw [HRES.out, List.drop_length]; rfl))
                    go_wp2_with fail
                    go_roundw
                    case rel => exact ⟨k + 1, by omega, by go_num, HBI.out, E.out⟩
                    case measure => simp [intOf]; omega
              · obtain rfl : k = l.length := by omega
                have E := Lib.hid (HK0.out HN.out)
                have HBW := Lib.hid hbw
                clear hbw hio
                go_wp2_with fail
                go_returns
                exact ⟨ret_int E.out.symm, HBW.out⟩
          · have E := Lib.hid (HCO.out ho)
            have ht : decide (os.length < l.length) = true := decide_eq_true (by omega)
            have ht2 : decide ((os.length : Int) < (l.length : Int)) = true := decide_eq_true (by omega)
            clear HCK HCO
            go_upto_region 18 with (fail)
            go_region_held3 (fun w' => w'.cell? ⟨w.heap.size, 0, none⟩ = some (.int .i64 g) ∧ w'.cell? ⟨w.heap.size, 1, none⟩ = some (.slice A l.length c))
              (first | exact HZ.out _ (Below.refl _ _).drew | exact HZ.out _ (Below.refl _ _) | exact HZ.out _ (of_drew hb3))
              ((go_at_call 20; refine (HC.out _ HBW.out.drew).mono ?_; rintro e w1 ⟨Ar, cr, rfl, -, hb3⟩))
            have HB1 := Lib.hid (HBK.out _ (of_drew hb3))
            clear hb3 s0 s1
            go_wp2_with fail
            go_returns
            exact ⟨ret_int E.out.symm, (HS.out _ HB1.out).2.2.1⟩
end Go.Proofs.Ytaodbjgcidkpkaa.Sp
