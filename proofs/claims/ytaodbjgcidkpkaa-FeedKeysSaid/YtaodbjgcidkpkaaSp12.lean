/- Jobs: what is wrong with one, as the document has it. -/
import Derived.Test.YtaodbjgcidkpkaaSpP3
import Derived.Test.YtaodbjgcidkpkaaSp3b
import Derived.Test.YtaodbjgcidkpkaaSp5
import Derived.Test.YtaodbjgcidkpkaaSp7
namespace Go.Proofs.Ytaodbjgcidkpkaa.Sp
open Go.ChangeShapes Go.WideShapes Go.ChangeAt Go.RowKit M

theorem fedB_of {l : List OpP} {i : Nat} {z : Bool} (h : (usersF l i).isEmpty = z) : fedB l i = (z == (kindOf l i == 8)) := by unfold fedB; rw [h]
theorem len_empty {xs : List Int} : ((xs.length : Int) == 0) = xs.isEmpty := by cases xs <;> simp; omega
theorem len_empty2 {xs : List Int} : decide ((xs.length : Int) = 0) = xs.isEmpty := by cases xs <;> simp; omega

set_option maxHeartbeats 4000000 in
theorem refCheck_any (g : Int) (A : Option Addr) (c : Nat) (l : List OpP) (p : Nat → Option Addr × Nat) (hl : l.length ≤ 1000) (hil : ∀ i, i < l.length → (insOf l i).length ≤ 1000) (w : World) (B : Nat) (hB : B ≤ w.heap.size) (h : IsOps w B A l p) :
    Calls Try.prog 12 #[.agg #[.int .i64 g, .slice A l.length c]] w fun e w' => e = .returned (.int .i64 (chkE g l)) ∧ Below w.heap.size w w' := by
  have HH := Lib.hid h
  have HIL := Lib.hid hil
  clear h hil
  rcases (show g < 1 ∨ (¬ g < 1 ∧ 64 < g) ∨ (¬ g < 1 ∧ ¬ 64 < g) by omega) with hg | ⟨hg, hg2⟩ | ⟨hg, hg2⟩
  · have E := Lib.hid (chk_g (g := g) (l := l) (btw_no (by omega)))
    have d1 : decide (g < 1) = true := decide_eq_true hg
    go_enter Try.func12, Try.ntmps12
    go_wp2_with fail
    go_returns
    exact ⟨ret_int E.out.symm, by go_grown⟩
  · have E := Lib.hid (chk_g (g := g) (l := l) (btw_no (by omega)))
    have d1 : decide (g < 1) = false := decide_eq_false hg
    have d2 : decide (64 < g) = true := decide_eq_true hg2
    go_enter Try.func12, Try.ntmps12
    go_wp2_with fail
    go_returns
    exact ⟨ret_int E.out.symm, by go_grown⟩
  have EG := Lib.hid (btw_yes (n := g) (lo := 1) (hi := 64) (by omega) (by omega))
  have d1 : decide (g < 1) = false := decide_eq_false hg
  have d2 : decide (64 < g) = false := decide_eq_false hg2
  rcases (show (l.length : Int) < 1 ∨ (¬ (l.length : Int) < 1 ∧ 12 < (l.length : Int)) ∨ (¬ (l.length : Int) < 1 ∧ ¬ 12 < (l.length : Int)) by omega) with hn | ⟨hn, hn2⟩ | ⟨hn, hn2⟩
  · have E := Lib.hid (chk_n (l := l) EG.out (btw_no (by omega)))
    have d3 : decide ((l.length : Int) < 1) = true := decide_eq_true hn
    go_enter Try.func12, Try.ntmps12
    go_wp2_with fail
    go_returns
    exact ⟨ret_int E.out.symm, by go_grown⟩
  · have E := Lib.hid (chk_n (l := l) EG.out (btw_no (by omega)))
    have d3 : decide ((l.length : Int) < 1) = false := decide_eq_false hn
    have d4 : decide (12 < (l.length : Int)) = true := decide_eq_true hn2
    go_enter Try.func12, Try.ntmps12
    go_wp2_with fail
    go_returns
    exact ⟨ret_int E.out.symm, by go_grown⟩
  have EN := Lib.hid (btw_yes (n := (l.length : Int)) (lo := 1) (hi := 12) (by omega) (by omega))
  have d3 : decide ((l.length : Int) < 1) = false := decide_eq_false hn
  have d4 : decide (12 < (l.length : Int)) = false := decide_eq_false hn2
  go_enter Try.func12, Try.ntmps12
  go_wp2_with fail
  clear d1 d2 d3 d4
  have HS : Hid (∀ wr, Below (w.heap.size + 1) (w.alloc (.cells #[.int .i64 g, .slice A l.length c] 24)) wr → wr.cell? ⟨w.heap.size, 0, none⟩ = some (.int .i64 g) ∧ wr.cell? ⟨w.heap.size, 1, none⟩ = some (.slice A l.length c) ∧ Below w.heap.size w wr ∧ IsOps wr w.heap.size A l p ∧ w.heap.size + 1 ≤ wr.heap.size) := fun wr hb =>
    ⟨(hb.cell (p := ⟨w.heap.size, 0, none⟩) (by show w.heap.size < _; omega)).trans (by go_simp), (hb.cell (p := ⟨w.heap.size, 1, none⟩) (by show w.heap.size < _; omega)).trans (by go_simp),
      through ((Below.refl _ _).alloc (Nat.le_refl _) _) (Nat.le_refl _) (hb.mono (by simp)), ((HH.out.more hB).alloc (Nat.le_refl _) _).below (hb.mono (by omega)), by have := hb.size; simpa using this⟩
  go_loopw [3] (fun q wr => ∃ k : Nat, k ≤ l.length ∧ q = .int .i64 k ∧ Below (w.heap.size + 1) (w.alloc (.cells #[.int .i64 g, .slice A l.length c] 24)) wr ∧ ∀ j, j < k → aloneE l j = 0) (fun q _ => l.length - (intOf q).toNat)
  case atStart => exact ⟨0, by omega, rfl, Below.refl _ _, fun j hj => absurd hj (by omega)⟩
  case round =>
    obtain ⟨k, hk, rfl, hbl, hno⟩ := hrel
    have HB := Lib.hid hbl
    have HN := Lib.hid hno
    obtain ⟨s0, s1, hbw, hio, hsz⟩ := HS.out wr hbl
    clear hbl hno
    by_cases hlt : k < l.length
    · have HC := Lib.hid (refAlone_any g A c l p k wr w.heap.size (by omega) hio hlt (by omega))
      have HCA : Hid (aloneE l k ≠ 0 → chkE g l = aloneE l k) := fun h => chk_a EG.out EN.out hlt h HN.out
      have HCN : Hid (aloneE l k = 0 → ∀ j, j < k + 1 → aloneE l j = 0) := fun h j hj => by
        rcases (show j < k ∨ j = k by omega) with h1 | rfl
        · exact HN.out j h1
        · exact h
      have HBK : Hid (∀ w2, Below wr.heap.size wr w2 → Below (w.heap.size + 1) (w.alloc (.cells #[.int .i64 g, .slice A l.length c] 24)) w2) := fun w2 h2 => through HB.out (by simp) h2
      clear hbw hio
      generalize aloneE l k = z at *
      by_cases hz : z = 0
      · have E := Lib.hid (HCN.out hz)
        subst hz
        go_wp2_with (go_at_call 46; refine HC.out.mono ?_; rintro e w2 ⟨rfl, h2⟩; have HB2 := Lib.hid (HBK.out _ h2); clear h2)
        go_roundw
        case rel => exact ⟨k + 1, by omega, by go_num, HB2.out, E.out⟩
        case measure => simp [intOf]; omega
      · have E := Lib.hid (HCA.out hz)
        have hz1 : (z != 0) = true := by simp [hz]
        clear hz
        go_wp2_with (go_at_call 46; refine HC.out.mono ?_; rintro e w2 ⟨rfl, h2⟩; have HB2 := Lib.hid (HBK.out _ h2); clear h2)
        go_returns
        exact ⟨ret_int E.out.symm, (HS.out _ HB2.out).2.2.1⟩
    · obtain rfl : k = l.length := by omega
      clear hbw hio
      have HAL := Lib.hid HN.out
      clear HN
      go_wp2_with fail
      have HB0 := HB
      clear HB s0 s1
      go_loopw [5] (fun q wr => ∃ k : Nat, k ≤ l.length ∧ q = .int .i64 k ∧ Below (w.heap.size + 1) (w.alloc (.cells #[.int .i64 g, .slice A l.length c] 24)) wr ∧ ∀ j, j < k → fedB l j = true) (fun q _ => l.length - (intOf q).toNat)
      case atStart => exact ⟨0, by omega, rfl, HB0.out, fun j hj => absurd hj (by omega)⟩
      case round =>
        obtain ⟨k, hk, rfl, hbl, hno⟩ := hrel
        have HB := Lib.hid hbl
        have HN := Lib.hid hno
        obtain ⟨s0, s1, hbw, hio, hsz⟩ := HS.out _ hbl
        clear hbl hno
        by_cases hlt : k < l.length
        · obtain ⟨b, o, rfl, hb, c0, -⟩ := hio.at_ hlt
          have HBW := Lib.hid hbw
          have HC : Hid (∀ w0, Below w.heap.size w w0 → Calls Try.prog 17 #[.agg #[.int .i64 g, .slice (some ⟨b, o, none⟩) l.length c], .int .i64 k] w0 (RetInts w0 (usersF l k))) := fun w0 h0 =>
            refUsers_any g _ c l p k w0 B (Nat.le_trans hB h0.size) (HH.out.below (h0.mono hB)) (by omega)
          have HFE := Lib.hid (fun z h => fedB_of (l := l) (i := k) (z := z) h)
          have HCF : Hid (fedB l k = false → chkE g l = 8) := fun h => chk_f EG.out EN.out HAL.out hlt h
          have HCN : Hid (fedB l k = true → ∀ j, j < k + 1 → fedB l j = true) := fun h j hj => by
            rcases (show j < k ∨ j = k by omega) with h1 | rfl
            · exact HN.out j h1
            · exact h
          have HZ : Hid (∀ w2, Below wr.heap.size wr w2 → w2.cell? ⟨w.heap.size, 0, none⟩ = some (.int .i64 g) ∧ w2.cell? ⟨w.heap.size, 1, none⟩ = some (.slice (some ⟨b, o, none⟩) l.length c) ∧ w2.cell? ⟨b, o + k * 8, none⟩ = some (.int .i64 (kindOf l k))) := fun w2 h2 =>
            ⟨(h2.cell (p := ⟨w.heap.size, 0, none⟩) (by show w.heap.size < _; omega)).trans s0, (h2.cell (p := ⟨w.heap.size, 1, none⟩) (by show w.heap.size < _; omega)).trans s1, (h2.cell (p := ⟨b, o + k * 8, none⟩) (by show b < _; omega)).trans c0⟩
          have HBK : Hid (∀ w2, Below wr.heap.size wr w2 → Below (w.heap.size + 1) (w.alloc (.cells #[.int .i64 g, .slice (some ⟨b, o, none⟩) l.length c] 24)) w2) := fun w2 h2 => through HB.out (by simp) h2
          have HU := Lib.hid (len_empty (xs := usersF l k))
          have HFZ := Lib.hid (HFE.out _ rfl)
          have hul : ((usersF l k).length : Int) ≤ 1000 := by have := whichF_len (fun i => hasB (insOf l i) k) l.length; have e : usersF l k = whichF (fun i => hasB (insOf l i) k) l.length := rfl; rw [e]; omega
          clear hbw hio HFE
          generalize kindOf l k = kd at *
          generalize usersF l (k : Int) = us at *
          obtain ⟨z, hz⟩ : ∃ z, us.isEmpty = z := ⟨_, rfl⟩
          obtain ⟨y, hy⟩ : ∃ y, (kd == 8) = y := ⟨_, rfl⟩
          rw [hz] at HU HFZ
          rw [hy] at HFZ
          have hu := HU.out
          clear hz HU
          cases z <;> cases y
          · go_upto_region 14 with (fail)
            go_region_held3 (fun w' => w'.cell? ⟨w.heap.size, 0, none⟩ = some (.int .i64 g) ∧ w'.cell? ⟨w.heap.size, 1, none⟩ = some (.slice (some ⟨b, o, none⟩) l.length c) ∧ w'.cell? ⟨b, o + k * 8, none⟩ = some (.int .i64 kd))
              (first | exact HZ.out _ (Below.refl _ _).drew | exact HZ.out _ (Below.refl _ _) | exact HZ.out _ (of_drew hb3))
              ((go_at_call 17; refine (HC.out _ HBW.out.drew).mono ?_; rintro e w1 ⟨Ar, cr, rfl, -, hb3⟩))
            have HB1 := Lib.hid (HBK.out _ (of_drew hb3))
            clear hb3 s0 s1 c0
            have E := Lib.hid (HCN.out HFZ.out)
            go_wp2_with fail
            go_roundw
            case rel => exact ⟨k + 1, by omega, by go_num, HB1.out, E.out⟩
            case measure => simp [intOf]; omega
          · go_upto_region 14 with (fail)
            go_region_held3 (fun w' => w'.cell? ⟨w.heap.size, 0, none⟩ = some (.int .i64 g) ∧ w'.cell? ⟨w.heap.size, 1, none⟩ = some (.slice (some ⟨b, o, none⟩) l.length c) ∧ w'.cell? ⟨b, o + k * 8, none⟩ = some (.int .i64 kd))
              (first | exact HZ.out _ (Below.refl _ _).drew | exact HZ.out _ (Below.refl _ _) | exact HZ.out _ (of_drew hb3))
              ((go_at_call 17; refine (HC.out _ HBW.out.drew).mono ?_; rintro e w1 ⟨Ar, cr, rfl, -, hb3⟩))
            have HB1 := Lib.hid (HBK.out _ (of_drew hb3))
            clear hb3 s0 s1 c0
            have E := Lib.hid (HCF.out HFZ.out)
            go_wp2_with fail
            go_returns
            exact ⟨ret_int E.out.symm, (HS.out _ HB1.out).2.2.1⟩
          · go_upto_region 14 with (fail)
            go_region_held3 (fun w' => w'.cell? ⟨w.heap.size, 0, none⟩ = some (.int .i64 g) ∧ w'.cell? ⟨w.heap.size, 1, none⟩ = some (.slice (some ⟨b, o, none⟩) l.length c) ∧ w'.cell? ⟨b, o + k * 8, none⟩ = some (.int .i64 kd))
              (first | exact HZ.out _ (Below.refl _ _).drew | exact HZ.out _ (Below.refl _ _) | exact HZ.out _ (of_drew hb3))
              ((go_at_call 17; refine (HC.out _ HBW.out.drew).mono ?_; rintro e w1 ⟨Ar, cr, rfl, -, hb3⟩))
            have HB1 := Lib.hid (HBK.out _ (of_drew hb3))
            clear hb3 s0 s1 c0
            have E := Lib.hid (HCF.out HFZ.out)
            go_wp2_with fail
            go_returns
            exact ⟨ret_int E.out.symm, (HS.out _ HB1.out).2.2.1⟩
          · go_upto_region 14 with (fail)
            go_region_held3 (fun w' => w'.cell? ⟨w.heap.size, 0, none⟩ = some (.int .i64 g) ∧ w'.cell? ⟨w.heap.size, 1, none⟩ = some (.slice (some ⟨b, o, none⟩) l.length c) ∧ w'.cell? ⟨b, o + k * 8, none⟩ = some (.int .i64 kd))
              (first | exact HZ.out _ (Below.refl _ _).drew | exact HZ.out _ (Below.refl _ _) | exact HZ.out _ (of_drew hb3))
              ((go_at_call 17; refine (HC.out _ HBW.out.drew).mono ?_; rintro e w1 ⟨Ar, cr, rfl, -, hb3⟩))
            have HB1 := Lib.hid (HBK.out _ (of_drew hb3))
            clear hb3 s0 s1 c0
            have E := Lib.hid (HCN.out HFZ.out)
            go_wp2_with fail
            go_roundw
            case rel => exact ⟨k + 1, by omega, by go_num, HB1.out, E.out⟩
            case measure => simp [intOf]; omega
        · obtain rfl : k = l.length := by omega
          have HFA := Lib.hid HN.out
          have HBW := Lib.hid hbw
          have HC : Hid (∀ w0, Below w.heap.size w w0 → Calls Try.prog 23 #[.agg #[.int .i64 g, .slice A l.length c]] w0 (RetInts w0 (orderF l))) := fun w0 h0 =>
            refOrder_any g _ c l p w0 B (Nat.le_trans hB h0.size) (HH.out.below (h0.mono hB)) (by omega)
          have HZ : Hid (∀ w2, Below wr.heap.size wr w2 → w2.cell? ⟨w.heap.size, 0, none⟩ = some (.int .i64 g) ∧ w2.cell? ⟨w.heap.size, 1, none⟩ = some (.slice A l.length c)) := fun w2 h2 =>
            ⟨(h2.cell (p := ⟨w.heap.size, 0, none⟩) (by show w.heap.size < _; omega)).trans s0, (h2.cell (p := ⟨w.heap.size, 1, none⟩) (by show w.heap.size < _; omega)).trans s1⟩
          have HBK : Hid (∀ w2, Below wr.heap.size wr w2 → Below (w.heap.size + 1) (w.alloc (.cells #[.int .i64 g, .slice A l.length c] 24)) w2) := fun w2 h2 => through HB.out (by simp) h2
          have hol : ((orderF l).length : Int) ≤ 1000 := by have := ordSt_len l l.length; have e : orderF l = ordSt l l.length := rfl; rw [e]; omega
          have HCO : Hid (¬ l.length ≤ (orderF l).length → chkE g l = 9) := fun h => chk_o EG.out EN.out HAL.out HFA.out h
          have HCK : Hid (l.length ≤ (orderF l).length → (∃ rank, Ranked l rank) ∧ (∀ k, k < l.length → apartB l k = false → chkE g l = 10) ∧ ((∀ j, j < l.length → apartB l j = true) → chkE g l = 0)) := fun h =>
            ⟨ranked_of HAL.out h, fun k hk h6 => chk_k EG.out EN.out HAL.out HFA.out h hk h6, fun h6 => chk_ok EG.out EN.out HAL.out HFA.out h h6⟩
          clear HN hbw hio
          generalize orderF l = os at *
          by_cases ho : l.length ≤ os.length
          · obtain ⟨⟨rank, hr⟩, hk10, hk0⟩ := HCK.out ho
            have HR := Lib.hid hr
            have HK10 := Lib.hid hk10
            have HK0 := Lib.hid hk0
            have ht : decide (os.length < l.length) = false := decide_eq_false (by omega)
            have ht2 : decide ((os.length : Int) < (l.length : Int)) = false := decide_eq_false (by omega)
            clear hr hk10 hk0 HCK HCO
            go_upto_region 16 with (fail)
            go_region_held3 (fun w' => w'.cell? ⟨w.heap.size, 0, none⟩ = some (.int .i64 g) ∧ w'.cell? ⟨w.heap.size, 1, none⟩ = some (.slice A l.length c))
              (first | exact HZ.out _ (Below.refl _ _).drew | exact HZ.out _ (Below.refl _ _) | exact HZ.out _ (of_drew hb3))
              ((go_at_call 23; refine (HC.out _ HBW.out.drew).mono ?_; rintro e w1 ⟨Ar, cr, rfl, -, hb3⟩))
            have HB1 := Lib.hid (HBK.out _ (of_drew hb3))
            clear hb3 s0 s1
            go_wp2_with fail
            go_loopw [6] (fun q wr => ∃ k : Nat, k ≤ l.length ∧ q = .int .i64 k ∧ Below (w.heap.size + 1) (w.alloc (.cells #[.int .i64 g, .slice A l.length c] 24)) wr ∧ ∀ j, j < k → apartB l j = true) (fun q _ => l.length - (intOf q).toNat)
            case atStart => exact ⟨0, by omega, rfl, HB1.out, fun j hj => absurd hj (by omega)⟩
            case round =>
              obtain ⟨k, hk, rfl, hbl, hno⟩ := hrel
              have HB := Lib.hid hbl
              have HN := Lib.hid hno
              obtain ⟨s0, s1, hbw, hio, hsz⟩ := HS.out _ hbl
              clear hbl hno
              by_cases hlt : k < l.length
              · have HC : Hid (∀ w0, Below w.heap.size w w0 → Calls Try.prog 47 #[.agg #[.int .i64 g, .slice A l.length c], .int .i64 k] w0 fun e w' => e = .returned (.bool (apartB l k)) ∧ Below w0.heap.size w0 w') := fun w0 h0 =>
                  refApart_any g A c l p rank HR.out (by omega) k hlt (HIL.out k hlt) w0 B (Nat.le_trans hB h0.size) (HH.out.below (h0.mono hB))
                obtain ⟨b, o, rfl, hb, c0, -⟩ := hio.at_ hlt
                have HM := Lib.hid (ins_many (HAL.out k hlt))
                have HONE : Hid (¬ kindOf l k = 7 → apartB l k = true) := fun h7 => apart_one (by
                  obtain ⟨m1, m2, m3⟩ := HM.out
                  by_cases h1 : kindOf l k = 1
                  · rw [m1 h1]; simp
                  · rw [m3 h1 h7]; exact Nat.le_refl _)
                have HCF : Hid (apartB l k = false → chkE g l = 10) := fun h => HK10.out k hlt h
                have HCN : Hid (apartB l k = true → ∀ j, j < k + 1 → apartB l j = true) := fun h j hj => by
                  rcases (show j < k ∨ j = k by omega) with h1 | rfl
                  · exact HN.out j h1
                  · exact h
                have HBW := Lib.hid hbw
                have HBK : Hid (∀ w2, Below wr.heap.size wr w2 → Below (w.heap.size + 1) (w.alloc (.cells #[.int .i64 g, .slice (some ⟨b, o, none⟩) l.length c] 24)) w2) := fun w2 h2 => through HB.out (by simp) h2
                clear hbw hio HM
                generalize kindOf l k = kd at *
                generalize apartB l k = z at *
                cases e7 : (kd == 7) with
                | true =>
                  cases z with
                  | true =>
                    have E := Lib.hid (HCN.out rfl)
                    go_wp2_with (go_at_call 47; refine (HC.out _ HBW.out).mono ?_; rintro e w2 ⟨rfl, h2⟩; have HB2 := Lib.hid (HBK.out _ h2); clear h2)
                    go_roundw
                    case rel => exact ⟨k + 1, by omega, by go_num, HB2.out, E.out⟩
                    case measure => simp [intOf]; omega
                  | false =>
                    have E := Lib.hid (HCF.out rfl)
                    go_wp2_with (go_at_call 47; refine (HC.out _ HBW.out).mono ?_; rintro e w2 ⟨rfl, h2⟩; have HB2 := Lib.hid (HBK.out _ h2); clear h2)
                    go_returns
                    exact ⟨ret_int E.out.symm, (HS.out _ HB2.out).2.2.1⟩
                | false =>
                  have E := Lib.hid (HCN.out (HONE.out (by simpa using e7)))
                  go_wp2_with fail
                  go_roundw
                  case rel => exact ⟨k + 1, by omega, by go_num, HB.out, E.out⟩
                  case measure => simp [intOf]; omega
              · obtain rfl : k = l.length := by omega
                have E := Lib.hid (HK0.out HN.out)
                have HBW := Lib.hid hbw
                clear hbw hio
                go_wp2_with fail
                go_returns
                exact ⟨ret_int E.out.symm, HBW.out⟩
          · have E := Lib.hid (HCO.out ho)
            have ht : decide (os.length < l.length) = true := decide_eq_true (by omega)
            have ht2 : decide ((os.length : Int) < (l.length : Int)) = true := decide_eq_true (by omega)
            clear HCK HCO
            go_upto_region 16 with (fail)
            go_region_held3 (fun w' => w'.cell? ⟨w.heap.size, 0, none⟩ = some (.int .i64 g) ∧ w'.cell? ⟨w.heap.size, 1, none⟩ = some (.slice A l.length c))
              (first | exact HZ.out _ (Below.refl _ _).drew | exact HZ.out _ (Below.refl _ _) | exact HZ.out _ (of_drew hb3))
              ((go_at_call 23; refine (HC.out _ HBW.out.drew).mono ?_; rintro e w1 ⟨Ar, cr, rfl, -, hb3⟩))
            have HB1 := Lib.hid (HBK.out _ (of_drew hb3))
            clear hb3 s0 s1
            go_wp2_with fail
            go_returns
            exact ⟨ret_int E.out.symm, (HS.out _ HB1.out).2.2.1⟩
end Go.Proofs.Ytaodbjgcidkpkaa.Sp
