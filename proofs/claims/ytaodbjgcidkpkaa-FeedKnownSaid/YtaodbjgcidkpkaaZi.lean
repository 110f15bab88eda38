/- Jobs: what is wrong with one, as the document has it. Jobs: what is wrong with one, as the program has it. Lists of numbers: held against one another, copied, written over, looked through. Jobs: the known ones. Jobs: what the known ones answer. -/
import Derived.Test.YtaodbjgcidkpkaaZh
import Derived.Test.YtaodbjgcidkpkaaZf
import Derived.Test.YtaodbjgcidkpkaaZg

namespace Go.Proofs.Ytaodbjgcidkpkaa.Sp
open Go.ChangeShapes Go.WideShapes Go.ChangeAt Go.RowKit M

theorem fedB_of {l : List OpP} {i : Nat} {z : Bool} (h : (usersF l i).isEmpty = z) : fedB l i = (z == (kindOf l i == 8)) := by unfold fedB; rw [h]
theorem len_empty {xs : List Int} : ((xs.length : Int) == 0) = xs.isEmpty := by cases xs <;> simp; omega
theorem len_empty2 {xs : List Int} : decide ((xs.length : Int) = 0) = xs.isEmpty := by cases xs <;> simp; omega

set_option maxHeartbeats 4000000 in
theorem refCheck_any (g : Int) (A : Option Addr) (c : Nat) (l : List OpP) (p : Nat → Option Addr × Nat) (hl : l.length ≤ 1000) (hil : ∀ i, i < l.length → (insOf l i).length ≤ 1000) (w : World) (B : Nat) (hB : B ≤ w.heap.size) (h : IsOps w B A l p) :
    Calls Try.prog 12 #[.agg #[.int .i64 g, .slice A l.length c]] w fun e w' => e = .returned (.int .i64 (chkE g l)) ∧ Below w.heap.size w w' := by
  have HH := Lib.hid h
  have HIL := Lib.hid hil
  clear h hil
  rcases (show g < 1 ∨ (¬ g < 1 ∧ 64 < g) ∨ (¬ g < 1 ∧ ¬ 64 < g) by omega) with hg | ⟨hg, hg2⟩ | ⟨hg, hg2⟩
  · have E := Lib.hid (chk_g (g := g) (l := l) (btw_no (by omega)))
    have d1 : decide (g < 1) = true := decide_eq_true hg
    go_enter Try.func12, Try.ntmps12
    go_wp2_with fail
    go_returns
    exact ⟨ret_int E.out.symm, by go_grown⟩
  · have E := Lib.hid (chk_g (g := g) (l := l) (btw_no (by omega)))
    have d1 : decide (g < 1) = false := decide_eq_false hg
    have d2 : decide (64 < g) = true := decide_eq_true hg2
    go_enter Try.func12, Try.ntmps12
    go_wp2_with fail
    go_returns
    exact ⟨ret_int E.out.symm, by go_grown⟩
  have EG := Lib.hid (btw_yes (n := g) (lo := 1) (hi := 64) (by omega) (by omega))
  have d1 : decide (g < 1) = false := decide_eq_false hg
  have d2 : decide (64 < g) = false := decide_eq_false hg2
  rcases (show (l.length : Int) < 1 ∨ (¬ (l.length : Int) < 1 ∧ 12 < (l.length : Int)) ∨ (¬ (l.length : Int) < 1 ∧ ¬ 12 < (l.length : Int)) by omega) with hn | ⟨hn, hn2⟩ | ⟨hn, hn2⟩
  · have E := Lib.hid (chk_n (l := l) EG.out (btw_no (by omega)))
    have d3 : decide ((l.length : Int) < 1) = true := decide_eq_true hn
    go_enter Try.func12, Try.ntmps12
    go_wp2_with fail
    go_returns
    exact ⟨ret_int E.out.symm, by go_grown⟩
  · have E := Lib.hid (chk_n (l := l) EG.out (btw_no (by omega)))
    have d3 : decide ((l.length : Int) < 1) = false := decide_eq_false hn
    have d4 : decide (12 < (l.length : Int)) = true := decide_eq_true hn2
    go_enter Try.func12, Try.ntmps12
    go_wp2_with fail
    go_returns
    exact ⟨ret_int E.out.symm, by go_grown⟩
  have EN := Lib.hid (btw_yes (n := (l.length : Int)) (lo := 1) (hi := 12) (by omega) (by omega))
  have d3 : decide ((l.length : Int) < 1) = false := decide_eq_false hn
  have d4 : decide (12 < (l.length : Int)) = false := decide_eq_false hn2
  go_enter Try.func12, Try.ntmps12
  go_wp2_with fail
  clear d1 d2 d3 d4
  have HS : Hid (∀ wr, Below (w.heap.size + 1) (w.alloc (.cells #[.int .i64 g, .slice A l.length c] 24)) wr → wr.cell? ⟨w.heap.size, 0, none⟩ = some (.int .i64 g) ∧ wr.cell? ⟨w.heap.size, 1, none⟩ = some (.slice A l.length c) ∧ Below w.heap.size w wr ∧ IsOps wr w.heap.size A l p ∧ w.heap.size + 1 ≤ wr.heap.size) := fun wr hb =>
    ⟨(hb.cell (p := ⟨w.heap.size, 0, none⟩) (by show w.heap.size < _; omega)).trans (by go_simp), (hb.cell (p := ⟨w.heap.size, 1, none⟩) (by show w.heap.size < _; omega)).trans (by go_simp),
      through ((Below.refl _ _).alloc (Nat.le_refl _) _) (Nat.le_refl _) (hb.mono (by simp)), ((HH.out.more hB).alloc (Nat.le_refl _) _).below (hb.mono (by omega)), by have := hb.size; simpa using this⟩
  go_loopw [3] (fun q wr => ∃ k : Nat, k ≤ l.length ∧ q = .int .i64 k ∧ Below (w.heap.size + 1) (w.alloc (.cells #[.int .i64 g, .slice A l.length c] 24)) wr ∧ ∀ j, j < k → aloneE l j = 0) (fun q _ => l.length - (intOf q).toNat)
  case atStart => exact ⟨0, by omega, rfl, Below.refl _ _, fun j hj => absurd hj (by omega)⟩
  case round =>
    obtain ⟨k, hk, rfl, hbl, hno⟩ := hrel
    have HB := Lib.hid hbl
    have HN := Lib.hid hno
    obtain ⟨s0, s1, hbw, hio, hsz⟩ := HS.out wr hbl
    clear hbl hno
    by_cases hlt : k < l.length
    · have HC := Lib.hid (refAlone_any g A c l p k wr w.heap.size (by omega) hio hlt (by omega))
      have HCA : Hid (aloneE l k ≠ 0 → chkE g l = aloneE l k) := fun h => chk_a EG.out EN.out hlt h HN.out
      have HCN : Hid (aloneE l k = 0 → ∀ j, j < k + 1 → aloneE l j = 0) := fun h j hj => by
        rcases (show j < k ∨ j = k by omega) with h1 | rfl
        · exact HN.out j h1
        · exact h
      have HBK : Hid (∀ w2, Below wr.heap.size wr w2 → Below (w.heap.size + 1) (w.alloc (.cells #[.int .i64 g, .slice A l.length c] 24)) w2) := fun w2 h2 => through HB.out (by simp) h2
      clear hbw hio
      generalize aloneE l k = z at *
      by_cases hz : z = 0
      · have E := Lib.hid (HCN.out hz)
        subst hz
        go_wp2_with (go_at_call 46; refine HC.out.mono ?_; rintro e w2 ⟨rfl, h2⟩; have HB2 := Lib.hid (HBK.out _ h2); clear h2)
        go_roundw
        case rel => exact ⟨k + 1, by omega, by go_num, HB2.out, E.out⟩
        case measure => simp [intOf]; omega
      · have E := Lib.hid (HCA.out hz)
        have hz1 : (z != 0) = true := by simp [hz]
        clear hz
        go_wp2_with (go_at_call 46; refine HC.out.mono ?_; rintro e w2 ⟨rfl, h2⟩; have HB2 := Lib.hid (HBK.out _ h2); clear h2)
        go_returns
        exact ⟨ret_int E.out.symm, (HS.out _ HB2.out).2.2.1⟩
    · obtain rfl : k = l.length := by omega
      clear hbw hio
      have HAL := Lib.hid HN.out
      clear HN
      go_wp2_with fail
      have HB0 := HB
      clear HB s0 s1
      go_loopw [5] (fun q wr => ∃ k : Nat, k ≤ l.length ∧ q = .int .i64 k ∧ Below (w.heap.size + 1) (w.alloc (.cells #[.int .i64 g, .slice A l.length c] 24)) wr ∧ ∀ j, j < k → fedB l j = true) (fun q _ => l.length - (intOf q).toNat)
      case atStart => exact ⟨0, by omega, rfl, HB0.out, fun j hj => absurd hj (by omega)⟩
      case round =>
        obtain ⟨k, hk, rfl, hbl, hno⟩ := hrel
        have HB := Lib.hid hbl
        have HN := Lib.hid hno
        obtain ⟨s0, s1, hbw, hio, hsz⟩ := HS.out _ hbl
        clear hbl hno
        by_cases hlt : k < l.length
        · obtain ⟨b, o, rfl, hb, c0, -⟩ := hio.at_ hlt
          have HBW := Lib.hid hbw
          have HC : Hid (∀ w0, Below w.heap.size w w0 → Calls Try.prog 17 #[.agg #[.int .i64 g, .slice (some ⟨b, o, none⟩) l.length c], .int .i64 k] w0 (RetInts w0 (usersF l k))) := fun w0 h0 =>
            refUsers_any g _ c l p k w0 B (Nat.le_trans hB h0.size) (HH.out.below (h0.mono hB)) (by omega)
          have HFE := Lib.hid (fun z h => fedB_of (l := l) (i := k) (z := z) h)
          have HCF : Hid (fedB l k = false → chkE g l = 8) := fun h => chk_f EG.out EN.out HAL.out hlt h
          have HCN : Hid (fedB l k = true → ∀ j, j < k + 1 → fedB l j = true) := fun h j hj => by
            rcases (show j < k ∨ j = k by omega) with h1 | rfl
            · exact HN.out j h1
            · exact h
          have HZ : Hid (∀ w2, Below wr.heap.size wr w2 → w2.cell? ⟨w.heap.size, 0, none⟩ = some (.int .i64 g) ∧ w2.cell? ⟨w.heap.size, 1, none⟩ = some (.slice (some ⟨b, o, none⟩) l.length c) ∧ w2.cell? ⟨b, o + k * 8, none⟩ = some (.int .i64 (kindOf l k))) := fun w2 h2 =>
            ⟨(h2.cell (p := ⟨w.heap.size, 0, none⟩) (by show w.heap.size < _; omega)).trans s0, (h2.cell (p := ⟨w.heap.size, 1, none⟩) (by show w.heap.size < _; omega)).trans s1, (h2.cell (p := ⟨b, o + k * 8, none⟩) (by show b < _; omega)).trans c0⟩
          have HBK : Hid (∀ w2, Below wr.heap.size wr w2 → Below (w.heap.size + 1) (w.alloc (.cells #[.int .i64 g, .slice (some ⟨b, o, none⟩) l.length c] 24)) w2) := fun w2 h2 => through HB.out (by simp) h2
          have HU := Lib.hid (len_empty (xs := usersF l k))
          have HFZ := Lib.hid (HFE.out _ rfl)
          have hul : ((usersF l k).length : Int) ≤ 1000 := by have := whichF_len (fun i => hasB (insOf l i) k) l.length; have e : usersF l k = whichF (fun i => hasB (insOf l i) k) l.length := rfl; rw [e]; omega
          clear hbw hio HFE
          generalize kindOf l k = kd at *
          generalize usersF l (k : Int) = us at *
          obtain ⟨z, hz⟩ : ∃ z, us.isEmpty = z := ⟨_, rfl⟩
          obtain ⟨y, hy⟩ : ∃ y, (kd == 8) = y := ⟨_, rfl⟩
          rw [hz] at HU HFZ
          rw [hy] at HFZ
          have hu := HU.out
          clear hz HU
          cases z <;> cases y
          · go_upto_region 14 with (fail)
            go_region_held3 (fun w' => w'.cell? ⟨w.heap.size, 0, none⟩ = some (.int .i64 g) ∧ w'.cell? ⟨w.heap.size, 1, none⟩ = some (.slice (some ⟨b, o, none⟩) l.length c) ∧ w'.cell? ⟨b, o + k * 8, none⟩ = some (.int .i64 kd))
              (first | exact HZ.out _ (Below.refl _ _).drew | exact HZ.out _ (Below.refl _ _) | exact HZ.out _ (of_drew hb3))
              ((go_at_call 17; refine (HC.out _ HBW.out.drew).mono ?_; rintro e w1 ⟨Ar, cr, rfl, -, hb3⟩))
            have HB1 := Lib.hid (HBK.out _ (of_drew hb3))
            clear hb3 s0 s1 c0
            have E := Lib.hid (HCN.out HFZ.out)
            go_wp2_with fail
            go_roundw
            case rel => exact ⟨k + 1, by omega, by go_num, HB1.out, E.out⟩
            case measure => simp [intOf]; omega
          · go_upto_region 14 with (fail)
            go_region_held3 (fun w' => w'.cell? ⟨w.heap.size, 0, none⟩ = some (.int .i64 g) ∧ w'.cell? ⟨w.heap.size, 1, none⟩ = some (.slice (some ⟨b, o, none⟩) l.length c) ∧ w'.cell? ⟨b, o + k * 8, none⟩ = some (.int .i64 kd))
              (first | exact HZ.out _ (Below.refl _ _).drew | exact HZ.out _ (Below.refl _ _) | exact HZ.out _ (of_drew hb3))
              ((go_at_call 17; refine (HC.out _ HBW.out.drew).mono ?_; rintro e w1 ⟨Ar, cr, rfl, -, hb3⟩))
            have HB1 := Lib.hid (HBK.out _ (of_drew hb3))
            clear hb3 s0 s1 c0
            have E := Lib.hid (HCF.out HFZ.out)
            go_wp2_with fail
            go_returns
            exact ⟨ret_int E.out.symm, (HS.out _ HB1.out).2.2.1⟩
          · go_upto_region 14 with (fail)
            go_region_held3 (fun w' => w'.cell? ⟨w.heap.size, 0, none⟩ = some (.int .i64 g) ∧ w'.cell? ⟨w.heap.size, 1, none⟩ = some (.slice (some ⟨b, o, none⟩) l.length c) ∧ w'.cell? ⟨b, o + k * 8, none⟩ = some (.int .i64 kd))
              (first | exact HZ.out _ (Below.refl _ _).drew | exact HZ.out _ (Below.refl _ _) | exact HZ.out _ (of_drew hb3))
              ((go_at_call 17; refine (HC.out _ HBW.out.drew).mono ?_; rintro e w1 ⟨Ar, cr, rfl, -, hb3⟩))
            have HB1 := Lib.hid (HBK.out _ (of_drew hb3))
            clear hb3 s0 s1 c0
            have E := Lib.hid (HCF.out HFZ.out)
            go_wp2_with fail
            go_returns
            exact ⟨ret_int E.out.symm, (HS.out _ HB1.out).2.2.1⟩
          · go_upto_region 14 with (fail)
            go_region_held3 (fun w' => w'.cell? ⟨w.heap.size, 0, none⟩ = some (.int .i64 g) ∧ w'.cell? ⟨w.heap.size, 1, none⟩ = some (.slice (some ⟨b, o, none⟩) l.length c) ∧ w'.cell? ⟨b, o + k * 8, none⟩ = some (.int .i64 kd))
              (first | exact HZ.out _ (Below.refl _ _).drew | exact HZ.out _ (Below.refl _ _) | exact HZ.out _ (of_drew hb3))
              ((go_at_call 17; refine (HC.out _ HBW.out.drew).mono ?_; rintro e w1 ⟨Ar, cr, rfl, -, hb3⟩))
            have HB1 := Lib.hid (HBK.out _ (of_drew hb3))
            clear hb3 s0 s1 c0
            have E := Lib.hid (HCN.out HFZ.out)
            go_wp2_with fail
            go_roundw
            case rel => exact ⟨k + 1, by omega, by go_num, HB1.out, E.out⟩
            case measure => simp [intOf]; omega
        · obtain rfl : k = l.length := by omega
          have HFA := Lib.hid HN.out
          have HBW := Lib.hid hbw
          have HC : Hid (∀ w0, Below w.heap.size w w0 → Calls Try.prog 23 #[.agg #[.int .i64 g, .slice A l.length c]] w0 (RetInts w0 (orderF l))) := fun w0 h0 =>
            refOrder_any g _ c l p w0 B (Nat.le_trans hB h0.size) (HH.out.below (h0.mono hB)) (by omega)
          have HZ : Hid (∀ w2, Below wr.heap.size wr w2 → w2.cell? ⟨w.heap.size, 0, none⟩ = some (.int .i64 g) ∧ w2.cell? ⟨w.heap.size, 1, none⟩ = some (.slice A l.length c)) := fun w2 h2 =>
            ⟨(h2.cell (p := ⟨w.heap.size, 0, none⟩) (by show w.heap.size < _; omega)).trans s0, (h2.cell (p := ⟨w.heap.size, 1, none⟩) (by show w.heap.size < _; omega)).trans s1⟩
          have HBK : Hid (∀ w2, Below wr.heap.size wr w2 → Below (w.heap.size + 1) (w.alloc (.cells #[.int .i64 g, .slice A l.length c] 24)) w2) := fun w2 h2 => through HB.out (by simp) h2
          have hol : ((orderF l).length : Int) ≤ 1000 := by have := ordSt_len l l.length; have e : orderF l = ordSt l l.length := rfl; rw [e]; omega
          have HCO : Hid (¬ l.length ≤ (orderF l).length → chkE g l = 9) := fun h => chk_o EG.out EN.out HAL.out HFA.out h
          have HCK : Hid (l.length ≤ (orderF l).length → (∃ rank, Ranked l rank) ∧ (∀ k, k < l.length → apartB l k = false → chkE g l = 10) ∧ ((∀ j, j < l.length → apartB l j = true) → chkE g l = 0)) := fun h =>
            ⟨ranked_of HAL.out h, fun k hk h6 => chk_k EG.out EN.out HAL.out HFA.out h hk h6, fun h6 => chk_ok EG.out EN.out HAL.out HFA.out h h6⟩
          clear HN hbw hio
          generalize orderF l = os at *
          by_cases ho : l.length ≤ os.length
          · obtain ⟨⟨rank, hr⟩, hk10, hk0⟩ := HCK.out ho
            have HR := Lib.hid hr
            have HK10 := Lib.hid hk10
            have HK0 := Lib.hid hk0
            have ht : decide (os.length < l.length) = false := decide_eq_false (by omega)
            have ht2 : decide ((os.length : Int) < (l.length : Int)) = false := decide_eq_false (by omega)
            clear hr hk10 hk0 HCK HCO
            go_upto_region 16 with (fail)
            go_region_held3 (fun w' => w'.cell? ⟨w.heap.size, 0, none⟩ = some (.int .i64 g) ∧ w'.cell? ⟨w.heap.size, 1, none⟩ = some (.slice A l.length c))
              (first | exact HZ.out _ (Below.refl _ _).drew | exact HZ.out _ (Below.refl _ _) | exact HZ.out _ (of_drew hb3))
              ((go_at_call 23; refine (HC.out _ HBW.out.drew).mono ?_; rintro e w1 ⟨Ar, cr, rfl, -, hb3⟩))
            have HB1 := Lib.hid (HBK.out _ (of_drew hb3))
            clear hb3 s0 s1
            go_wp2_with fail
            go_loopw [6] (fun q wr => ∃ k : Nat, k ≤ l.length ∧ q = .int .i64 k ∧ Below (w.heap.size + 1) (w.alloc (.cells #[.int .i64 g, .slice A l.length c] 24)) wr ∧ ∀ j, j < k → apartB l j = true) (fun q _ => l.length - (intOf q).toNat)
            case atStart => exact ⟨0, by omega, rfl, HB1.out, fun j hj => absurd hj (by omega)⟩
            case round =>
              obtain ⟨k, hk, rfl, hbl, hno⟩ := hrel
              have HB := Lib.hid hbl
              have HN := Lib.hid hno
              obtain ⟨s0, s1, hbw, hio, hsz⟩ := HS.out _ hbl
              clear hbl hno
              by_cases hlt : k < l.length
              · have HC : Hid (∀ w0, Below w.heap.size w w0 → Calls Try.prog 47 #[.agg #[.int .i64 g, .slice A l.length c], .int .i64 k] w0 fun e w' => e = .returned (.bool (apartB l k)) ∧ Below w0.heap.size w0 w') := fun w0 h0 =>
                  refApart_any g A c l p rank HR.out (by omega) k hlt (HIL.out k hlt) w0 B (Nat.le_trans hB h0.size) (HH.out.below (h0.mono hB))
                obtain ⟨b, o, rfl, hb, c0, -⟩ := hio.at_ hlt
                have HM := Lib.hid (ins_many (HAL.out k hlt))
                have HONE : Hid (¬ kindOf l k = 7 → apartB l k = true) := fun h7 => apart_one (by
                  obtain ⟨m1, m2, m3⟩ := HM.out
                  by_cases h1 : kindOf l k = 1
                  · rw [m1 h1]; simp
                  · rw [m3 h1 h7]; exact Nat.le_refl _)
                have HCF : Hid (apartB l k = false → chkE g l = 10) := fun h => HK10.out k hlt h
                have HCN : Hid (apartB l k = true → ∀ j, j < k + 1 → apartB l j = true) := fun h j hj => by
                  rcases (show j < k ∨ j = k by omega) with h1 | rfl
                  · exact HN.out j h1
                  · exact h
                have HBW := Lib.hid hbw
                have HBK : Hid (∀ w2, Below wr.heap.size wr w2 → Below (w.heap.size + 1) (w.alloc (.cells #[.int .i64 g, .slice (some ⟨b, o, none⟩) l.length c] 24)) w2) := fun w2 h2 => through HB.out (by simp) h2
                clear hbw hio HM
                generalize kindOf l k = kd at *
                generalize apartB l k = z at *
                cases e7 : (kd == 7) with
                | true =>
                  cases z with
                  | true =>
                    have E := Lib.hid (HCN.out rfl)
                    go_wp2_with (go_at_call 47; refine (HC.out _ HBW.out).mono ?_; rintro e w2 ⟨rfl, h2⟩; have HB2 := Lib.hid (HBK.out _ h2); clear h2)
                    go_roundw
                    case rel => exact ⟨k + 1, by omega, by go_num, HB2.out, E.out⟩
                    case measure => simp [intOf]; omega
                  | false =>
                    have E := Lib.hid (HCF.out rfl)
                    go_wp2_with (go_at_call 47; refine (HC.out _ HBW.out).mono ?_; rintro e w2 ⟨rfl, h2⟩; have HB2 := Lib.hid (HBK.out _ h2); clear h2)
                    go_returns
                    exact ⟨ret_int E.out.symm, (HS.out _ HB2.out).2.2.1⟩
                | false =>
                  have E := Lib.hid (HCN.out (HONE.out (by simpa using e7)))
                  go_wp2_with fail
                  go_roundw
                  case rel => exact ⟨k + 1, by omega, by go_num, HB.out, E.out⟩
                  case measure => simp [intOf]; omega
              · obtain rfl : k = l.length := by omega
                have E := Lib.hid (HK0.out HN.out)
                have HBW := Lib.hid hbw
                clear hbw hio
                go_wp2_with fail
                go_returns
                exact ⟨ret_int E.out.symm, HBW.out⟩
          · have E := Lib.hid (HCO.out ho)
            have ht : decide (os.length < l.length) = true := decide_eq_true (by omega)
            have ht2 : decide ((os.length : Int) < (l.length : Int)) = true := decide_eq_true (by omega)
            clear HCK HCO
            go_upto_region 16 with (fail)
            go_region_held3 (fun w' => w'.cell? ⟨w.heap.size, 0, none⟩ = some (.int .i64 g) ∧ w'.cell? ⟨w.heap.size, 1, none⟩ = some (.slice A l.length c))
              (first | exact HZ.out _ (Below.refl _ _).drew | exact HZ.out _ (Below.refl _ _) | exact HZ.out _ (of_drew hb3))
              ((go_at_call 23; refine (HC.out _ HBW.out.drew).mono ?_; rintro e w1 ⟨Ar, cr, rfl, -, hb3⟩))
            have HB1 := Lib.hid (HBK.out _ (of_drew hb3))
            clear hb3 s0 s1
            go_wp2_with fail
            go_returns
            exact ⟨ret_int E.out.symm, (HS.out _ HB1.out).2.2.1⟩
end Go.Proofs.Ytaodbjgcidkpkaa.Sp

namespace Go.Proofs.Ytaodbjgcidkpkaa.Sp
open Go.ChangeShapes Go.WideShapes Go.ChangeAt Go.RowKit M

theorem apart_yes' {r : List Int} {rs : List (List Int)} {S : List Int} (h : (r.any fun x => hasB S x) = false) : apartGo (r :: rs) S = apartGo rs (S ++ r) := by rw [apartGo, h]; rfl
theorem apart_no' {r : List Int} {rs : List (List Int)} {S : List Int} (h : (r.any fun x => hasB S x) = true) : apartGo (r :: rs) S = false := by rw [apartGo, h]; rfl

set_option maxHeartbeats 4000000 in
theorem check_any (g : Int) (A : Option Addr) (c : Nat) (l : List OpP) (p : Nat → Option Addr × Nat) (hl : l.length ≤ 1000) (w : World) (B : Nat) (hB : B ≤ w.heap.size) (h : IsOps w B A l p) :
    Calls Try.prog 27 #[.agg #[.int .i64 g, .slice A l.length c]] w fun e w' => e = .returned (.int .i64 (chkE g l)) ∧ Below w.heap.size w w' := by
  have HH := Lib.hid h
  clear h
  cases hg : btw g 1 64 with
  | false =>
    have E := Lib.hid (chk_g (g := g) (l := l) hg)
    go_enter Try.func27, Try.ntmps27
    go_wp2_with (go_at_call 51; refine (between_any _ _ _ _).mono ?_; rintro e w' ⟨rfl, rfl⟩)
    go_returns
    exact ⟨ret_int E.out.symm, by go_grown⟩
  | true =>
  cases hn : btw (l.length : Int) 1 12 with
  | false =>
    have E := Lib.hid (chk_n (g := g) (l := l) hg hn)
    go_enter Try.func27, Try.ntmps27
    go_wp2_with (go_at_call 51; refine (between_any _ _ _ _).mono ?_; rintro e w' ⟨rfl, rfl⟩)
    go_returns
    exact ⟨ret_int E.out.symm, by go_grown⟩
  | true =>
  have hl12 : l.length ≤ 12 := by unfold btw at hn; simp at hn; omega
  go_enter Try.func27, Try.ntmps27
  go_wp2_with (go_at_call 51; refine (between_any _ _ _ _).mono ?_; rintro e w' ⟨rfl, rfl⟩)
  have EG := Lib.hid hg
  have EN := Lib.hid hn
  clear hg hn
  have HS : Hid (∀ wr, Below (w.heap.size + 1) (w.alloc (.cells #[.int .i64 g, .slice A l.length c] 24)) wr → wr.cell? ⟨w.heap.size, 0, none⟩ = some (.int .i64 g) ∧ wr.cell? ⟨w.heap.size, 1, none⟩ = some (.slice A l.length c) ∧ Below w.heap.size w wr ∧ IsOps wr w.heap.size A l p ∧ w.heap.size + 1 ≤ wr.heap.size) := fun wr hb =>
    ⟨(hb.cell (p := ⟨w.heap.size, 0, none⟩) (by show w.heap.size < _; omega)).trans (by go_simp), (hb.cell (p := ⟨w.heap.size, 1, none⟩) (by show w.heap.size < _; omega)).trans (by go_simp),
      through ((Below.refl _ _).alloc (Nat.le_refl _) _) (Nat.le_refl _) (hb.mono (by simp)), ((HH.out.more hB).alloc (Nat.le_refl _) _).below (hb.mono (by omega)), by have := hb.size; simpa using this⟩
  go_loopw [27] (fun q wr => ∃ k : Nat, k ≤ l.length ∧ q = .int .i64 k ∧ Below (w.heap.size + 1) (w.alloc (.cells #[.int .i64 g, .slice A l.length c] 24)) wr ∧ ∀ j, j < k → aloneE l j = 0) (fun q _ => l.length - (intOf q).toNat)
  case atStart => exact ⟨0, by omega, rfl, Below.refl _ _, fun j hj => absurd hj (by omega)⟩
  case round =>
    obtain ⟨k, hk, rfl, hbl, hno⟩ := hrel
    have HB := Lib.hid hbl
    have HN := Lib.hid hno
    obtain ⟨s0, s1, hbw, hio, hsz⟩ := HS.out wr hbl
    clear hbl hno
    by_cases hlt : k < l.length
    · have HC := Lib.hid (alone_any g A c l p k wr w.heap.size (by omega) hio hlt (by omega))
      have HCA : Hid (aloneE l k ≠ 0 → chkE g l = aloneE l k) := fun h => chk_a EG.out EN.out hlt h HN.out
      have HCN : Hid (aloneE l k = 0 → ∀ j, j < k + 1 → aloneE l j = 0) := fun h j hj => by
        rcases (show j < k ∨ j = k by omega) with h1 | rfl
        · exact HN.out j h1
        · exact h
      have HBK : Hid (∀ w2, Below wr.heap.size wr w2 → Below (w.heap.size + 1) (w.alloc (.cells #[.int .i64 g, .slice A l.length c] 24)) w2) := fun w2 h2 => through HB.out (by simp) h2
      clear hbw hio
      generalize aloneE l k = z at *
      by_cases hz : z = 0
      · have E := Lib.hid (HCN.out hz)
        subst hz
        go_wp2_with (go_at_call 61; refine HC.out.mono ?_; rintro e w2 ⟨rfl, h2⟩; have HB2 := Lib.hid (HBK.out _ h2); clear h2)
        go_roundw
        case rel => exact ⟨k + 1, by omega, by go_num, HB2.out, E.out⟩
        case measure => simp [intOf]; omega
      · have E := Lib.hid (HCA.out hz)
        have hz1 : (z != 0) = true := by simp [hz]
        clear hz
        go_wp2_with (go_at_call 61; refine HC.out.mono ?_; rintro e w2 ⟨rfl, h2⟩; have HB2 := Lib.hid (HBK.out _ h2); clear h2)
        go_returns
        exact ⟨ret_int E.out.symm, (HS.out _ HB2.out).2.2.1⟩
    · obtain rfl : k = l.length := by omega
      clear hbw hio
      have HAL := Lib.hid HN.out
      clear HN
      go_wp2_with fail
      have HB0 := HB
      clear HB s0 s1
      go_loopw [40] (fun q wr => ∃ k : Nat, k ≤ l.length ∧ q = .int .i64 k ∧ Below (w.heap.size + 1) (w.alloc (.cells #[.int .i64 g, .slice A l.length c] 24)) wr ∧ ∀ j, j < k → fedB l j = true) (fun q _ => l.length - (intOf q).toNat)
      case atStart => exact ⟨0, by omega, rfl, HB0.out, fun j hj => absurd hj (by omega)⟩
      case round =>
        obtain ⟨k, hk, rfl, hbl, hno⟩ := hrel
        have HB := Lib.hid hbl
        have HN := Lib.hid hno
        obtain ⟨s0, s1, hbw, hio, hsz⟩ := HS.out _ hbl
        clear hbl hno
        by_cases hlt : k < l.length
        · obtain ⟨b, o, rfl, hb, c0, c1, c2, c3, c4, c5, c6, c7, -⟩ := hio.at_ hlt
          have HC : Hid (∀ w0, Below w.heap.size w w0 → Calls Try.prog 14 #[.agg #[.int .i64 g, .slice (some ⟨b, o, none⟩) l.length c], .int .i64 k] w0 (RetInts w0 (usersF l k))) := fun w0 h0 =>
            users_any g _ c l p k w0 B (Nat.le_trans hB h0.size) (HH.out.below (h0.mono hB)) (by omega)
          have HFE := Lib.hid (fun z h => fedB_of (l := l) (i := k) (z := z) h)
          have HCF : Hid (fedB l k = false → chkE g l = 8) := fun h => chk_f EG.out EN.out HAL.out hlt h
          have HCN : Hid (fedB l k = true → ∀ j, j < k + 1 → fedB l j = true) := fun h j hj => by
            rcases (show j < k ∨ j = k by omega) with h1 | rfl
            · exact HN.out j h1
            · exact h
          have HU := Lib.hid (len_empty (xs := usersF l k))
          have HFZ := Lib.hid (HFE.out _ rfl)
          have hul : ((usersF l k).length : Int) ≤ 1000 := by have := whichF_len (fun i => hasB (insOf l i) k) l.length; have e : usersF l k = whichF (fun i => hasB (insOf l i) k) l.length := rfl; rw [e]; omega
          have hbl : b < wr.heap.size := by omega
          clear hio HFE
          unfold kindOf at HFZ
          unfold kindOf at c0
          unfold insOf at c1
          generalize opOf l k = O at *
          generalize p k = a at *
          generalize usersF l (k : Int) = us at *
          obtain ⟨z, hz⟩ : ∃ z, us.isEmpty = z := ⟨_, rfl⟩
          obtain ⟨y, hy⟩ : ∃ y, (O.kind == 8) = y := ⟨_, rfl⟩
          rw [hz] at HU HFZ
          rw [hy] at HFZ
          have hu := HU.out
          clear hz HU
          go_upto_region 15 with (fail)
          obtain ⟨X, hX⟩ : ∃ X, (wr.alloc (.cells #[.int .i64 O.kind, .slice a.1 O.ins.length a.2, .int .i64 O.fo, .int .i64 O.fa, .int .i64 O.fb, .int .i64 O.parts, .int .i64 O.rate, .int .i64 O.cost] 40)) = X := ⟨_, rfl⟩
          have kO : Blk X wr.heap.size 40 (opArr O a) := hX ▸ Blk.new wr _ _
          have kX : X.heap.size = wr.heap.size + 1 := hX ▸ (by simp)
          have t0 : X.cell? ⟨w.heap.size, 0, none⟩ = some (.int .i64 g) := hX ▸ ((World.cell?_alloc_lt wr _ ⟨w.heap.size, 0, none⟩ (by show w.heap.size < _; omega)).trans s0)
          have t1 : X.cell? ⟨w.heap.size, 1, none⟩ = some (.slice (some ⟨b, o, none⟩) l.length c) := hX ▸ ((World.cell?_alloc_lt wr _ ⟨w.heap.size, 1, none⟩ (by show w.heap.size < _; omega)).trans s1)
          have HBX := Lib.hid (hX ▸ HB.out.alloc hsz _ : Below (w.heap.size + 1) (w.alloc (.cells #[.int .i64 g, .slice (some ⟨b, o, none⟩) l.length c] 24)) X)
          have HBWX := Lib.hid (hX ▸ hbw.alloc (by omega) _ : Below w.heap.size w X)
          rw [hX]
          clear hX s0 s1 c0 c1 c2 c3 c4 c5 c6 c7 hbw
          obtain ⟨o0, -⟩ := op_blk kO
          have HZ : Hid (∀ w2, Below X.heap.size X w2 → w2.cell? ⟨w.heap.size, 0, none⟩ = some (.int .i64 g) ∧ w2.cell? ⟨w.heap.size, 1, none⟩ = some (.slice (some ⟨b, o, none⟩) l.length c) ∧ w2.cell? ⟨wr.heap.size, 0, none⟩ = some (.int .i64 O.kind)) := fun w2 h2 =>
            ⟨(h2.cell (p := ⟨w.heap.size, 0, none⟩) (by show w.heap.size < _; omega)).trans t0, (h2.cell (p := ⟨w.heap.size, 1, none⟩) (by show w.heap.size < _; omega)).trans t1, (h2.cell (p := ⟨wr.heap.size, 0, none⟩) (by show wr.heap.size < _; omega)).trans o0⟩
          have HBK : Hid (∀ w2, Below X.heap.size X w2 → Below (w.heap.size + 1) (w.alloc (.cells #[.int .i64 g, .slice (some ⟨b, o, none⟩) l.length c] 24)) w2) := fun w2 h2 => through HBX.out (by simp) h2
          clear kO kX o0 t0 t1
          have T0 := HZ.out _ (Below.refl _ _)
          cases z <;> cases y
          all_goals
            go_region_held3 (fun w' => w'.cell? ⟨w.heap.size, 0, none⟩ = some (.int .i64 g) ∧ w'.cell? ⟨w.heap.size, 1, none⟩ = some (.slice (some ⟨b, o, none⟩) l.length c) ∧ w'.cell? ⟨wr.heap.size, 0, none⟩ = some (.int .i64 O.kind))
              (first | exact HZ.out _ (Below.refl _ _).drew | exact HZ.out _ (Below.refl _ _) | exact HZ.out _ (of_drew hb3))
              ((go_at_call 14; refine (HC.out _ HBWX.out.drew).mono ?_; rintro e w1 ⟨Ar, cr, rfl, -, hb3⟩))
            have HB1 := Lib.hid (HBK.out _ (of_drew hb3))
            clear hb3 T0
            first
            | (have E := Lib.hid (HCN.out HFZ.out)
               go_wp2_with fail
               go_roundw
               case rel => exact ⟨k + 1, by omega, by go_num, HB1.out, E.out⟩
               case measure => simp [intOf]; omega)
            | (have E := Lib.hid (HCF.out HFZ.out)
               go_wp2_with fail
               go_returns
               exact ⟨ret_int E.out.symm, (HS.out _ HB1.out).2.2.1⟩)
        · obtain rfl : k = l.length := by omega
          have HFA := Lib.hid HN.out
          have HBW := Lib.hid hbw
          have HC : Hid (∀ w0, Below w.heap.size w w0 → Calls Try.prog 20 #[.agg #[.int .i64 g, .slice A l.length c]] w0 (RetInts w0 (orderF l))) := fun w0 h0 =>
            order_any g _ c l p w0 B (Nat.le_trans hB h0.size) (HH.out.below (h0.mono hB)) (by omega)
          have HZ : Hid (∀ w2, Below wr.heap.size wr w2 → w2.cell? ⟨w.heap.size, 0, none⟩ = some (.int .i64 g) ∧ w2.cell? ⟨w.heap.size, 1, none⟩ = some (.slice A l.length c)) := fun w2 h2 =>
            ⟨(h2.cell (p := ⟨w.heap.size, 0, none⟩) (by show w.heap.size < _; omega)).trans s0, (h2.cell (p := ⟨w.heap.size, 1, none⟩) (by show w.heap.size < _; omega)).trans s1⟩
          have HBK : Hid (∀ w2, Below wr.heap.size wr w2 → Below (w.heap.size + 1) (w.alloc (.cells #[.int .i64 g, .slice A l.length c] 24)) w2) := fun w2 h2 => through HB.out (by simp) h2
          have hol : ((orderF l).length : Int) ≤ 1000 := by have := ordSt_len l l.length; have e : orderF l = ordSt l l.length := rfl; rw [e]; omega
          have HCO : Hid (¬ l.length ≤ (orderF l).length → chkE g l = 9) := fun h => chk_o EG.out EN.out HAL.out HFA.out h
          have HCK : Hid (l.length ≤ (orderF l).length → (∃ rank, Ranked l rank) ∧ (∀ k, k < l.length → apartB l k = false → chkE g l = 10) ∧ ((∀ j, j < l.length → apartB l j = true) → chkE g l = 0)) := fun h =>
            ⟨ranked_of HAL.out h, fun k hk h6 => chk_k EG.out EN.out HAL.out HFA.out h hk h6, fun h6 => chk_ok EG.out EN.out HAL.out HFA.out h h6⟩
          have HPU : Hid (Pure l) := fun i hi h1 => (ins_many (HAL.out i hi)).1 h1
          clear HN hbw hio
          generalize orderF l = os at *
          by_cases ho : l.length ≤ os.length
          · obtain ⟨⟨rank, hr⟩, hk10, hk0⟩ := HCK.out ho
            have HR := Lib.hid hr
            have HK10 := Lib.hid hk10
            have HK0 := Lib.hid hk0
            have ht : decide (os.length < l.length) = false := decide_eq_false (by omega)
            have ht2 : decide ((os.length : Int) < (l.length : Int)) = false := decide_eq_false (by omega)
            clear hr hk10 hk0 HCK HCO
            go_upto_region 18 with (fail)
            go_region_held3 (fun w' => w'.cell? ⟨w.heap.size, 0, none⟩ = some (.int .i64 g) ∧ w'.cell? ⟨w.heap.size, 1, none⟩ = some (.slice A l.length c))
              (first | exact HZ.out _ (Below.refl _ _).drew | exact HZ.out _ (Below.refl _ _) | exact HZ.out _ (of_drew hb3))
              ((go_at_call 20; refine (HC.out _ HBW.out.drew).mono ?_; rintro e w1 ⟨Ar, cr, rfl, -, hb3⟩))
            have HB1 := Lib.hid (HBK.out _ (of_drew hb3))
            obtain ⟨s0', s1'⟩ := HZ.out _ (of_drew hb3)
            clear hb3 s0 s1
            go_wp2_with fail
            clear s0' s1'
            go_loopw [65] (fun q wr => ∃ k : Nat, k ≤ l.length ∧ q = .int .i64 k ∧ Below (w.heap.size + 1) (w.alloc (.cells #[.int .i64 g, .slice A l.length c] 24)) wr ∧ ∀ j, j < k → apartB l j = true) (fun q _ => l.length - (intOf q).toNat)
            case atStart => exact ⟨0, by omega, rfl, HB1.out, fun j hj => absurd hj (by omega)⟩
            case round =>
              obtain ⟨k, hk, rfl, hbl, hno⟩ := hrel
              obtain ⟨wo, rfl⟩ : ∃ wo : World, wo = wr := ⟨_, rfl⟩
              have HB := Lib.hid hbl
              have HN := Lib.hid hno
              obtain ⟨s0, s1, hbw, hio, hsz⟩ := HS.out _ hbl
              clear hbl hno
              by_cases hlt : k < l.length
              · obtain ⟨b, o, rfl, hb, c0, c1, c2, c3, c4, c5, c6, c7, -, hin⟩ := hio.at_ hlt
                have HC : Hid (∀ (j : Nat) w0, j < l.length → Below w.heap.size w w0 → Calls Try.prog 52 #[.agg #[.int .i64 g, .slice (some ⟨b, o, none⟩) l.length c], .int .i64 j] w0 fun e w' => e = .returned (.int .u64 (bitsN l.length l j)) ∧ Below w0.heap.size w0 w') := fun j w0 hj h0 =>
                  pRoots_any g _ c l p rank HR.out hl12 j hj w0 B (Nat.le_trans hB h0.size) (HH.out.below (h0.mono hB))
                have HCF : Hid (apartB l k = false → chkE g l = 10) := fun h => HK10.out k hlt h
                have HCN : Hid (apartB l k = true → ∀ j, j < k + 1 → apartB l j = true) := fun h j hj => by
                  rcases (show j < k ∨ j = k by omega) with h1 | rfl
                  · exact HN.out j h1
                  · exact h
                have EA : Hid (apartB l k = apartGo (((insOf l k).drop 0).map (rootsF l)) []) := rfl
                have HIN := Lib.hid ((HR.out k hlt).2)
                have HI := Lib.hid hin
                have hlen : (insOf l k).length ≤ 9223372036854775807 := by have := hin.2.1; have := hin.2.2.1; unfold maxLen at this; simp only at *; omega
                have HBT : Hid (∀ j, j < l.length → bitsN l.length l j < 4096 ∧ MaskOf (bitsN l.length l j) (rootsF l j)) := fun j hj =>
                  ⟨lt_12 hl12 (bitsN_lt HR.out l.length j hj (Nat.le_of_lt (HR.out j hj).1)), mask_roots HR.out HPU.out hj⟩
                have hbl : b < wo.heap.size := by omega
                clear hio hin
                generalize apartB l k = res at *
                have hko : kindOf l k = (opOf l k).kind := rfl
                have hio2 : insOf l k = (opOf l k).ins := rfl
                rw [hko] at c0
                rw [hio2] at c1 EA HIN HI hlen
                clear hko hio2
                generalize opOf l k = O at *
                generalize p k = a at *
                go_upto_region 23 with (fail)
                obtain ⟨X, hX⟩ : ∃ X, (wo.alloc (.cells #[.int .i64 O.kind, .slice a.1 O.ins.length a.2, .int .i64 O.fo, .int .i64 O.fa, .int .i64 O.fb, .int .i64 O.parts, .int .i64 O.rate, .int .i64 O.cost] 40)) = X := ⟨_, rfl⟩
                have kO : Blk X wo.heap.size 40 (opArr O a) := hX ▸ Blk.new wo _ _
                have kX : X.heap.size = wo.heap.size + 1 := hX ▸ (by simp)
                have HBX := Lib.hid (hX ▸ HB.out.alloc hsz _ : Below (w.heap.size + 1) (w.alloc (.cells #[.int .i64 g, .slice (some ⟨b, o, none⟩) l.length c] 24)) X)
                rw [hX]
                clear hX s0 s1 c0 c1 c2 c3 c4 c5 c6 c7 hbw
                obtain ⟨-, o1, -⟩ := op_blk kO
                obtain ⟨pa, pc⟩ := a
                obtain ⟨xs, hxs⟩ : ∃ xs, O.ins = xs := ⟨_, rfl⟩
                rw [hxs] at o1 EA HIN HI hlen
                simp only at o1 HI
                clear hxs kO kX
                go_wp2_with fail
                clear o1
                go_loopw [9, 72] (fun sv q wr => ∃ (j m : Nat) (S : List Int), j ≤ xs.length ∧ q = .int .i64 j ∧ sv = .int .u64 m ∧ m < 4096 ∧ Hid (MaskOf m S) ∧ Below (w.heap.size + 1) (w.alloc (.cells #[.int .i64 g, .slice (some ⟨b, o, none⟩) l.length c] 24)) wr ∧ Hid (res = apartGo ((xs.drop j).map (rootsF l)) S)) (fun _ q _ => xs.length - (intOf q).toNat)
                case atStart => exact ⟨0, 0, [], by omega, rfl, rfl, by omega, MaskOf.zero, HBX.out, EA.out⟩
                case round =>
                  obtain ⟨j, m, S, hj, rfl, rfl, hm, HM, hbl, HRES⟩ := hrel
                  have HBI := Lib.hid hbl
                  obtain ⟨s0, s1, hbw, -, hszr⟩ := HS.out _ hbl
                  have HBW := Lib.hid hbw
                  clear hbl hbw
                  by_cases hjl : j < xs.length
                  · obtain ⟨b2, o2, v, rfl, hb2, HV, -, hc0⟩ := ints_at HI.out hjl
                    have hw : wo.heap.size ≤ wo.heap.size := Nat.le_refl _
                    obtain ⟨y, ey, hy, hry⟩ := HIN.out v (by rw [← HV.out]; exact getD_mem hjl)
                    subst ey
                    obtain ⟨hu, hmu⟩ := HBT.out y hy
                    have HCY := Lib.hid (HC.out y _ hy HBW.out)
                    have HRS : Hid (res = apartGo (rootsF l y :: (xs.drop (j + 1)).map (rootsF l)) S) := by
                      show res = _
                      rw [HRES.out, drop_at hjl HV.out]; rfl
                    have HAND := Lib.hid (HM.out.and hmu)
                    have HOR := Lib.hid (HM.out.or hmu)
                    have HBK : Hid (∀ w2, Below wr.heap.size wr w2 → Below (w.heap.size + 1) (w.alloc (.cells #[.int .i64 g, .slice (some ⟨b, o, none⟩) l.length c] 24)) w2) := fun w2 h2 => through HBI.out (by simp) h2
                    clear hmu HRES
                    generalize rootsF l (y : Int) = r at *
                    generalize bitsN l.length l y = u at *
                    have EAND : Hid (bits .and .u64 (m : Int) (u : Int) = ((m &&& u : Nat) : Int)) := bits_and_u64_nat m u (by omega) (by omega)
                    have EOR : Hid (bits .or .u64 (m : Int) (u : Int) = ((m ||| u : Nat) : Int)) := bits_or_u64_nat m u (by omega) (by omega)
                    have hmu2 : m ||| u < 4096 := Nat.or_lt_two_pow (n := 12) hm hu
                    have hcell : wr.cell? ⟨b2, o2 + j, none⟩ = some (.int .i64 (y : Int)) := (HBI.out.cell (p := ⟨b2, o2 + j, none⟩) (by show b2 < _; omega)).trans ((HB.out.cell (p := ⟨b2, o2 + j, none⟩) (by show b2 < _; omega)).symm.trans hc0)
                    by_cases hz : m &&& u = 0
                    · have E : Hid (res = apartGo ((xs.drop (j + 1)).map (rootsF l)) (S ++ r)) := by
                        show res = _
                        rw [HRS.out]; exact apart_yes' (by rw [HAND.out]; simp [hz])
                      have ht : (bits .and .u64 (m : Int) (u : Int) != 0) = false := by rw [EAND.out, hz]; rfl
                      clear hz hc0
                      go_wp2_with (go_at_call 52; refine HCY.out.mono ?_; rintro e w2 ⟨rfl, h2⟩; have HB2 := Lib.hid (HBK.out _ h2); clear h2)
                      go_roundw
                      case rel => exact ⟨j + 1, m ||| u, S ++ r, by omega, by go_num, by rw [EOR.out], hmu2, HOR, HB2.out, E⟩
                      case measure => simp [intOf]; omega
                    · have E := Lib.hid (HCF.out (by rw [HRS.out]; exact apart_no' (by rw [HAND.out]; simp [hz])))
                      have ht : (bits .and .u64 (m : Int) (u : Int) != 0) = true := by rw [EAND.out]; simp; omega
                      clear hz hc0
                      go_wp2_with (go_at_call 52; refine HCY.out.mono ?_; rintro e w2 ⟨rfl, h2⟩; have HB2 := Lib.hid (HBK.out _ h2); clear h2)
                      go_returns
                      exact ⟨ret_int E.out.symm, (HS.out _ HB2.out).2.2.1⟩
                  · obtain rfl : j = xs.length := by omega
                    have E := Lib.hid (HCN.out (by rw [HRES.out, List.drop_length]; rfl))
                    go_wp2_with fail
                    go_roundw
                    case rel => exact ⟨k + 1, by omega, by go_num, HBI.out, E.out⟩
                    case measure => simp [intOf]; omega
              · obtain rfl : k = l.length := by omega
                have E := Lib.hid (HK0.out HN.out)
                have HBW := Lib.hid hbw
                clear hbw hio
                go_wp2_with fail
                go_returns
                exact ⟨ret_int E.out.symm, HBW.out⟩
          · have E := Lib.hid (HCO.out ho)
            have ht : decide (os.length < l.length) = true := decide_eq_true (by omega)
            have ht2 : decide ((os.length : Int) < (l.length : Int)) = true := decide_eq_true (by omega)
            clear HCK HCO
            go_upto_region 18 with (fail)
            go_region_held3 (fun w' => w'.cell? ⟨w.heap.size, 0, none⟩ = some (.int .i64 g) ∧ w'.cell? ⟨w.heap.size, 1, none⟩ = some (.slice A l.length c))
              (first | exact HZ.out _ (Below.refl _ _).drew | exact HZ.out _ (Below.refl _ _) | exact HZ.out _ (of_drew hb3))
              ((go_at_call 20; refine (HC.out _ HBW.out.drew).mono ?_; rintro e w1 ⟨Ar, cr, rfl, -, hb3⟩))
            have HB1 := Lib.hid (HBK.out _ (of_drew hb3))
            clear hb3 s0 s1
            go_wp2_with fail
            go_returns
            exact ⟨ret_int E.out.symm, (HS.out _ HB1.out).2.2.1⟩
end Go.Proofs.Ytaodbjgcidkpkaa.Sp

namespace Go.Proofs.Ytaodbjgcidkpkaa.Sp
open Go.ChangeShapes Go.WideShapes Go.ChangeAt Go.RowKit M

theorem eq_of_get {xs ys : List Int} (hl : xs.length = ys.length) (h : ∀ j, j < xs.length → xs.getD j 0 = ys.getD j 0) : xs = ys := by
  apply List.ext_getElem hl
  intro i h1 h2
  have := h i h1
  rw [List.getD_eq_getElem?_getD, List.getD_eq_getElem?_getD, List.getElem?_eq_getElem h1, List.getElem?_eq_getElem h2] at this
  exact this

/-- are two lists the same? -/
def sameB (xs ys : List Int) : Bool := decide (xs = ys)
theorem sameB_yes {xs ys : List Int} (h : xs = ys) : sameB xs ys = true := by unfold sameB; simp [h]
theorem sameB_no {xs ys : List Int} (h : xs ≠ ys) : sameB xs ys = false := by unfold sameB; simp [h]
theorem sameB_iff {xs ys : List Int} : sameB xs ys = true ↔ xs = ys := by unfold sameB; simp

/-- nothing has turned but the tape -/
def Same (w w' : World) : Prop := ∃ n, w' = w.drewN n

theorem sameInts_any (A D : Option Addr) (c d : Nat) (xs ys : List Int) (B B2 : Nat) (w : World) (h : IsInts w B ⟨A, c, xs⟩) (k : IsInts w B2 ⟨D, d, ys⟩) :
    Calls Try.prog 16 #[.slice A xs.length c, .slice D ys.length d] w fun e w' => e = .returned (.bool (sameB xs ys)) ∧ Below w.heap.size w w' := by
  have hlen : xs.length ≤ 9223372036854775807 := by have := h.2.1; have := h.2.2.1; unfold maxLen at this; simp only at *; omega
  have HX := Lib.hid h
  have HY := Lib.hid k
  clear h k
  by_cases hl : xs.length = ys.length
  · have HL := Lib.hid hl
    have ht : ((xs.length : Int) != (ys.length : Int)) = false := by rw [hl]; simp
    clear hl
    go_enter Try.func16, Try.ntmps16
    go_wp2_with fail
    go_loopw [5] (fun q wr => ∃ k : Nat, k ≤ xs.length ∧ q = .int .i64 k ∧ Below w.heap.size w wr ∧ (∀ p : Addr, wr.cell? p = w.cell? p) ∧ ∀ j, j < k → xs.getD j 0 = ys.getD j 0) (fun q _ => xs.length - (intOf q).toNat)
    case atStart => exact ⟨0, by omega, rfl, Below.refl _ _, fun _ => rfl, fun j hj => absurd hj (by omega)⟩
    case round =>
      obtain ⟨k, hk, rfl, hbl, hcl, hno⟩ := hrel
      have HB := Lib.hid hbl
      have HC := Lib.hid hcl
      have HN := Lib.hid hno
      clear hbl hcl hno
      by_cases hlt : k < xs.length
      · obtain ⟨b, o, v, rfl, hb, HV, -, c0⟩ := ints_at HX.out hlt
        obtain ⟨b2, o2, u, rfl, hb2, HU, -, d0⟩ := ints_at HY.out (show k < ys.length by have := HL.out; omega)
        have c1 := (HC.out ⟨b, o + k, none⟩).trans c0
        have d1 := (HC.out ⟨b2, o2 + k, none⟩).trans d0
        have hky : k < ys.length := by have := HL.out; omega
        clear c0 d0
        by_cases hv : v = u
        · have HVU := Lib.hid hv
          have ht2 : (v != u) = false := by simp [hv]
          clear hv
          go_wp2_with fail
          go_quiet (fail)
          go_wp2_with fail
          go_roundw
          case rel => exact ⟨k + 1, by omega, by go_num, below_drewN HB.out _, HC.out, fun j hj => by
            rcases (show j < k ∨ j = k by omega) with h | rfl
            · exact HN.out j h
            · rw [HV.out, HU.out, HVU.out]⟩
          case measure => simp [intOf]; omega
        · have E := Lib.hid (sameB_no (xs := xs) (ys := ys) (fun e => hv (by rw [← HV.out, ← HU.out, e])))
          have ht2 : (v != u) = true := by simp [hv]
          clear hv
          go_wp2_with fail
          go_quiet (fail)
          go_wp2_with fail
          go_returns
          exact ⟨ret_bool E.out.symm, below_drewN HB.out _⟩
      · obtain rfl : k = xs.length := by omega
        have E := Lib.hid (sameB_yes (eq_of_get HL.out HN.out))
        go_wp2_with fail
        go_returns
        exact ⟨ret_bool E.out.symm, HB.out⟩
  · have E := Lib.hid (sameB_no (xs := xs) (ys := ys) (fun e => hl (by rw [e])))
    have ht : ((xs.length : Int) != (ys.length : Int)) = true := by simp; omega
    clear hl
    go_enter Try.func16, Try.ntmps16
    go_wp2_with fail
    go_returns
    exact ⟨ret_bool E.out.symm, Below.refl _ _⟩

theorem take_snoc {xs : List Int} {k : Nat} {v : Int} (hk : k < xs.length) (hv : xs.getD k 0 = v) : xs.take (k + 1) = xs.take k ++ [v] := by
  rw [List.take_add_one, List.getElem?_eq_getElem hk]
  have : xs[k] = v := by rw [← hv, List.getD_eq_getElem?_getD, List.getElem?_eq_getElem hk]; rfl
  rw [this]; rfl

theorem copyInts_any (A : Option Addr) (c : Nat) (xs : List Int) (B : Nat) (w : World) (hB : B ≤ w.heap.size) (h : IsInts w B ⟨A, c, xs⟩) (hl : xs.length ≤ 1000000) :
    Calls Try.prog 79 #[.slice A xs.length c] w (RetInts w xs) := by
  have HX := Lib.hid h
  clear h
  go_enter Try.func79, Try.ntmps79
  go_wp2_with fail
  go_loopw [3, 4] (fun v q wr => ∃ k : Nat, k ≤ xs.length ∧ q = .int .i64 k ∧ OwnI wr w.heap.size v (xs.take k) ∧ Below w.heap.size w wr) (fun _ q _ => xs.length - (intOf q).toNat)
  case atStart => exact ⟨0, by omega, rfl, OwnI.nil _ _, Below.refl _ _⟩
  case round =>
    obtain ⟨k, hk, rfl, hown, hbl⟩ := hrel
    have HB := Lib.hid hbl
    have HOW := Lib.hid hown
    clear hown hbl
    by_cases hlt : k < xs.length
    · obtain ⟨b, o, v, rfl, hb, HV, h64, c0⟩ := ints_at HX.out hlt
      have c1 := (HB.out.cell (p := ⟨b, o + k, none⟩) (by show b < _; omega)).trans c0
      have ET := Lib.hid (take_snoc hlt HV.out)
      have HU := Lib.hid h64
      have HL := Lib.hid (show (xs.take k).length < 1000000000 by rw [List.length_take]; omega)
      have HZ := Lib.hid HB.out.size
      clear c0 h64
      go_wp2_with (at_builtin; refine app_new rfl _ _ rfl w.heap.size HOW.out rfl HU.out rfl HL.out HZ.out ?_)
      intro v' w2 hown2 hgr
      have HO2 := Lib.hid hown2
      have HB2 := Lib.hid (HB.out.trans hgr)
      clear hown2 hgr
      go_wp2
      go_roundw
      case rel => exact ⟨k + 1, by omega, by go_num, by rw [ET.out]; exact HO2.out, HB2.out⟩
      case measure => simp [intOf]; omega
    · obtain rfl : k = xs.length := by omega
      have HO2 : Hid (OwnI wr w.heap.size u3 xs) := by have := HOW.out; rw [List.take_length] at this; exact this
      go_wp2_with fail
      go_returns
      exact ret_ints HO2.out HB.out

/-- what a number is written over with -/
theorem mark_any (i : Int) (w : World) (h : 0 ≤ i) (h2 : i ≤ 1000000000) :
    Calls Try.prog 55 #[.int .i64 i] w fun e w' => e = .returned (.int .i64 (7001 + 13 * i)) ∧ w = w' := by
  go_enter Try.func55, Try.ntmps55
  go_wp2
  go_returns
  exact ⟨by first | rfl | simp, rfl⟩

/-- only block g has turned -/
theorem spoil_any (A : Option Addr) (c : Nat) (xs : List Int) (B : Nat) (w : World) (h : OwnI w B (.slice A xs.length c) xs) (hl : xs.length ≤ 1000000) :
    Calls Try.prog 19 #[.slice A xs.length c] w fun e w' => e = .returned (.tuple #[]) ∧ w.grownBy w' (Value.slice A xs.length c).ownBlock := by
  go_enter Try.func19, Try.ntmps19
  go_wp2_with fail
  go_loopw [2] (fun q wr => ∃ (k : Nat) (ys : List Int), k ≤ xs.length ∧ q = .int .i64 k ∧ ys.length = xs.length ∧ OwnI wr B (.slice A xs.length c) ys ∧ w.grownBy wr (Value.slice A xs.length c).ownBlock) (fun q _ => xs.length - (intOf q).toNat)
  case atStart => exact ⟨0, xs, by omega, rfl, rfl, h, World.grownBy.refl _ _⟩
  case round =>
    obtain ⟨k, ys, hk, rfl, hyl, hown, hg⟩ := hrel
    have HG := Lib.hid hg
    have HYL := Lib.hid hyl
    clear hg
    by_cases hlt : k < xs.length
    · have HOW := Lib.hid hown
      obtain ⟨b, o, v, rfl, hb, HV, h64, c0⟩ := ints_at hown.ints (show k < ys.length by omega)
      obtain ⟨-, rfl, -⟩ := hown.ints_own rfl
      have hf : wr.frozen? ⟨b, k, none⟩ = false := by
        have h1 := hown.1
        rw [← hyl] at h1
        exact World.ownsRow.frozenAt h1 k
      have HM := Lib.hid (mark_any ((k : Int) + 7) wr (by omega) (by omega))
      have HG2 : Hid (∀ u, w.grownBy (wr.setCell ⟨b, k, none⟩ u) (some b)) := fun u => only_setCell HG.out (p := ⟨b, k, none⟩) (.inl rfl) u
      have HO2 : Hid (OwnI (wr.setCell ⟨b, k, none⟩ (.int .i64 (7001 + 13 * ((k : Int) + 7)))) B (.slice (some ⟨b, 0, none⟩) xs.length c) (ys.set k (7001 + 13 * ((k : Int) + 7)))) := by
        have h1 := hown.1
        rw [← hyl] at h1
        have h2 := World.ownsRow.stored h1 k (.int .i64 (7001 + 13 * ((k : Int) + 7)))
        refine ⟨?_, fun x hx => ?_⟩
        · rw [List.length_set, ← hyl, List.map_set]; exact h2.1
        · rcases List.mem_or_eq_of_mem_set hx with h | h
          · exact hown.2 x h
          · rw [h]; unfold In64; omega
      simp only [Nat.zero_add] at c0
      clear hown hyl
      go_wp2_with (go_at_call 55; refine HM.out.mono ?_; rintro e w' ⟨rfl, rfl⟩)
      go_roundw
      case rel => exact ⟨k + 1, _, by omega, by go_num, by rw [List.length_set]; exact HYL.out, HO2.out, HG2.out _⟩
      case measure => simp [intOf]; omega
    · obtain rfl : k = xs.length := by omega
      clear hown hyl
      go_wp2_with fail
      go_returns
      exact ⟨rfl, HG.out⟩

theorem at_any (A : Option Addr) (c : Nat) (xs : List Int) (n : Int) (B : Nat) (w : World) (h : IsInts w B ⟨A, c, xs⟩) :
    Calls Try.prog 62 #[.slice A xs.length c, .int .i64 n] w fun e w' => e = .returned (.int .i64 (idxB xs n)) ∧ w = w' := by
  have hlen : xs.length ≤ 9223372036854775807 := by have := h.2.1; have := h.2.2.1; unfold maxLen at this; simp only at *; omega
  have H := Lib.hid h
  clear h
  go_enter Try.func62, Try.ntmps62
  go_wp2
  go_loop [5] (fun i => ∃ k : Nat, k ≤ xs.length ∧ i = .int .i64 k ∧ ∀ j, j < k → xs.getD j 0 ≠ n) (fun i => xs.length - (intOf i).toNat)
  case atStart => exact ⟨0, by omega, rfl, fun j hj => absurd hj (by omega)⟩
  case round =>
    obtain ⟨k, hk, rfl, hno⟩ := hrel
    have HN := Lib.hid hno
    clear hno
    by_cases hlt : k < xs.length
    · obtain ⟨b, o, v, rfl, hb, HV, -, hc⟩ := ints_at H.out hlt
      by_cases hx : v = n
      · have E := Lib.hid (idxB_at hlt (HV.out.trans hx) HN.out)
        have hq : (v == n) = true := beq_iff_eq.2 hx
        clear hx
        go_wp2
        go_returns
        exact ⟨ret_int E.out.symm, rfl⟩
      · have hq : (v == n) = false := beq_eq_false_iff_ne.2 hx
        have HX := Lib.hid hx
        clear hx
        go_wp2
        go_round
        case rel => exact ⟨k + 1, by omega, by go_num, fun j hj => by
          rcases (show j < k ∨ j = k by omega) with h | rfl
          · exact HN.out j h
          · exact fun e => HX.out (HV.out.symm.trans e)⟩
        case measure => simp [intOf]; omega
    · obtain rfl : k = xs.length := by omega
      have E := Lib.hid (idxB_none HN.out)
      go_wp2
      go_returns
      exact ⟨ret_int E.out.symm, rfl⟩
end Go.Proofs.Ytaodbjgcidkpkaa.Sp

namespace Go.Proofs.Ytaodbjgcidkpkaa.Sp
open Go.ChangeShapes Go.WideShapes Go.ChangeAt Go.RowKit M

/-- a source, and a sink of it -/
def twoL : List OpP := [⟨1, [], 0, 0, 0, 1, 1, 1⟩, ⟨8, [0], 0, 0, 0, 0, 0, 1⟩]

set_option maxHeartbeats 2000000 in
theorem two_any (w : World) :
    Calls Try.prog 31 #[] w fun e w' => e = .returned (.agg #[.int .i64 4, .slice (some ⟨w.heap.size + 2, 0, none⟩) 2 2]) ∧ Below w.heap.size w w' ∧ w'.heap.size = w.heap.size + 3 ∧
      Blk w' (w.heap.size + 1) 3 #[.int .i64 0] ∧
      Blk w' (w.heap.size + 2) 40 #[.int .i64 1, .slice none 0 0, .int .i64 0, .int .i64 0, .int .i64 0, .int .i64 1, .int .i64 1, .int .i64 1, .int .i64 8, .slice (some ⟨w.heap.size + 1, 0, none⟩) 1 1, .int .i64 0, .int .i64 0, .int .i64 0, .int .i64 0, .int .i64 0, .int .i64 1] := by
  go_enter Try.func31, Try.ntmps31
  go_wp2_with fail
  go_returns
  refine ⟨rfl, ((((Below.refl _ _).alloc (Nat.le_refl _) _).alloc (by simp) _).alloc (by simp; omega) _), by simp, ?_, ?_⟩
  · have := (Blk.new (w.alloc (.cells #[.int .i64 4, .slice (some ⟨w.heap.size + 1 + 1, 0, none⟩) 2 2] 24)) 3 #[.int .i64 0]).alloc (.cells #[.int .i64 1, .slice none 0 0, .int .i64 0, .int .i64 0, .int .i64 0, .int .i64 1, .int .i64 1, .int .i64 1, .int .i64 8, .slice (some ⟨w.heap.size + 1, 0, none⟩) 1 1, .int .i64 0, .int .i64 0, .int .i64 0, .int .i64 0, .int .i64 0, .int .i64 1] 40)
    simpa using this
  · have := Blk.new ((w.alloc (.cells #[.int .i64 4, .slice (some ⟨w.heap.size + 1 + 1, 0, none⟩) 2 2] 24)).alloc (.cells #[.int .i64 0] 3)) 40 #[.int .i64 1, .slice none 0 0, .int .i64 0, .int .i64 0, .int .i64 0, .int .i64 1, .int .i64 1, .int .i64 1, .int .i64 8, .slice (some ⟨w.heap.size + 1, 0, none⟩) 1 1, .int .i64 0, .int .i64 0, .int .i64 0, .int .i64 0, .int .i64 0, .int .i64 1]
    simpa using this

theorem ops_blk {w : World} {g : Nat} {T : TypeId} {cs : Array Value} {l : List OpP} {p : Nat → Option Addr × Nat} (h : Blk w g T cs) (hc : ∀ i, i < l.length → ∀ j, j < 8 → cs[i * 8 + j]? = some (cellsOp (opOf l i) (p i) j))
    (hin : ∀ i, i < l.length → OpIn (opOf l i) ∧ IsInts w w.heap.size ⟨(p i).1, (p i).2, insOf l i⟩) : IsOps w w.heap.size (some ⟨g, 0, none⟩) l p := ⟨(h.lies hc).more h.lt, hin⟩
theorem ints_nil {w : World} {B : Nat} (A : Option Addr) (c : Nat) (hc : c ≤ maxLen) : IsInts w B ⟨A, c, []⟩ := ⟨Lies.zero _ _, Nat.zero_le _, hc, fun x hx => absurd hx (by simp)⟩
theorem ints_blk {w : World} {g : Nat} {T : TypeId} {xs : List Int} (h : Blk w g T (xs.map (Value.int .i64)).toArray) (hl : xs.length ≤ 1000000) (h64 : ∀ x ∈ xs, In64 x) : IsInts w w.heap.size ⟨some ⟨g, 0, none⟩, xs.length, xs⟩ := by
  refine ⟨(h.lies fun i hi j hj => ?_).more h.lt, Nat.le_refl _, by unfold maxLen; simp only; omega, h64⟩
  obtain rfl : j = 0 := by omega
  have hi' : i < xs.length := hi
  simp [hi', List.getD_eq_getElem?_getD]
def twoP (q : Nat) (i : Nat) : Option Addr × Nat := if i = 1 then (some ⟨q, 0, none⟩, 1) else (none, 0)
theorem two_ops {w : World} {q g : Nat} (h1 : Blk w q 3 #[.int .i64 0]) (h2 : Blk w g 40 #[.int .i64 1, .slice none 0 0, .int .i64 0, .int .i64 0, .int .i64 0, .int .i64 1, .int .i64 1, .int .i64 1, .int .i64 8, .slice (some ⟨q, 0, none⟩) 1 1, .int .i64 0, .int .i64 0, .int .i64 0, .int .i64 0, .int .i64 0, .int .i64 1]) :
    IsOps w w.heap.size (some ⟨g, 0, none⟩) twoL (twoP q) := by
  refine ops_blk h2 (fun i hi j hj => ?_) (fun i hi => ?_)
  · have hi' : i < 2 := hi
    rcases (show i = 0 ∨ i = 1 by omega) with rfl | rfl <;> rcases (show j = 0 ∨ j = 1 ∨ j = 2 ∨ j = 3 ∨ j = 4 ∨ j = 5 ∨ j = 6 ∨ j = 7 by omega) with rfl | rfl | rfl | rfl | rfl | rfl | rfl | rfl <;> rfl
  · have hi' : i < 2 := hi
    rcases (show i = 0 ∨ i = 1 by omega) with rfl | rfl
    · exact ⟨by unfold OpIn In64; decide, ints_nil _ _ (Nat.zero_le _)⟩
    · exact ⟨by unfold OpIn In64; decide, ints_blk (xs := [0]) h1 (by decide) (by simp [In64])⟩
theorem IsOps.less {w : World} {B : Nat} {A : Option Addr} {l : List OpP} {p : Nat → Option Addr × Nat} (h : IsOps w B A l p) (m : Nat) (hm : m ≤ l.length) : IsOps w B A (l.take m) p := by
  have hl : (l.take m).length = m := by rw [List.length_take]; omega
  have he : ∀ i, i < m → opOf (l.take m) i = opOf l i := fun i hi => by
    unfold opOf; rw [List.getD_eq_getElem?_getD, List.getD_eq_getElem?_getD, List.getElem?_take_of_lt hi]
  refine ⟨?_, fun i hi => ?_⟩
  · rw [hl]; exact (h.1.less hm).congr fun i hi j _ => by rw [he i hi]
  · rw [hl] at hi
    have := h.2 i (by omega)
    unfold insOf at *
    rw [he i hi]; exact this


theorem known_chk : chkE 4 twoL = 0 := by decide +kernel
theorem known_chk1 : chkE 4 (twoL.take 1) = 8 := by decide +kernel
theorem known_ord : orderF twoL = [0, 1] := by decide +kernel
theorem known_root : rootsF twoL 1 = [0] := by decide +kernel
theorem two_al : ∀ j, j < twoL.length → aloneE twoL j = 0 := by decide +kernel
theorem two_rank : ∃ rank, Ranked twoL rank := ranked_of two_al (by decide +kernel)
theorem two_bits : bitsL (bitsN twoL.length twoL 1) twoL.length = [0] := by decide +kernel

def longB (l : List OpP) : Bool := decide (20 < l.length) || !(allB (fun i => decide ((insOf l i).length ≤ 20)) l.length)
theorem long_no {l : List OpP} (h : longB l = false) : l.length ≤ 20 ∧ ∀ i, i < l.length → (insOf l i).length ≤ 20 := by
  unfold longB at h
  simp only [Bool.or_eq_false_iff, decide_eq_false_iff_not, Bool.not_eq_false', allB_iff, decide_eq_true_eq] at h
  exact ⟨by omega, h.2⟩

theorem long_any (g : Int) (A : Option Addr) (c : Nat) (l : List OpP) (p : Nat → Option Addr × Nat) (hl : l.length ≤ 9223372036854775807) (w : World) (B : Nat) (hB : B ≤ w.heap.size) (h : IsOps w B A l p) :
    Calls Try.prog 11 #[.agg #[.int .i64 g, .slice A l.length c]] w fun e w' => e = .returned (.bool (longB l)) ∧ Below w.heap.size w w' := by
  have HH := Lib.hid h
  clear h
  have EL := Lib.hid (show longB l = (decide (20 < l.length) || !(allB (fun i => decide ((insOf l i).length ≤ 20)) l.length)) from rfl)
  by_cases h20 : 20 < l.length
  · have E := Lib.hid (show longB l = true by rw [EL.out]; simp [h20])
    have ht : decide (20 < (l.length : Int)) = true := decide_eq_true (by omega)
    go_enter Try.func11, Try.ntmps11
    go_wp2_with fail
    go_returns
    exact ⟨ret_bool E.out.symm, by go_grown⟩
  · have E0 := Lib.hid (show longB l = !(allB (fun i => decide ((insOf l i).length ≤ 20)) l.length) by rw [EL.out]; simp [h20])
    have ht : decide (20 < (l.length : Int)) = false := decide_eq_false (by omega)
    go_enter Try.func11, Try.ntmps11
    go_wp2_with fail
    go_loop [3] (fun q => ∃ k : Nat, k ≤ l.length ∧ q = .int .i64 k ∧ ∀ j, j < k → decide ((insOf l j).length ≤ 20) = true) (fun q => l.length - (intOf q).toNat)
    case atStart => exact ⟨0, by omega, rfl, fun j hj => absurd hj (by omega)⟩
    case round =>
      obtain ⟨k, hk, rfl, hno⟩ := hrel
      have HN := Lib.hid hno
      clear hno
      by_cases hlt : k < l.length
      · obtain ⟨b, o, rfl, hb, -, c1, -, -, -, -, -, -, -, hin⟩ := HH.out.at_ hlt
        have hbw : b < w.heap.size := by omega
        have hxl : (insOf l k).length ≤ 9223372036854775807 := by have := hin.2.1; have := hin.2.2.1; unfold maxLen at this; simp only at *; omega
        by_cases hx : (insOf l k).length ≤ 20
        · have E := Lib.hid (show decide ((insOf l k).length ≤ 20) = true by simpa using hx)
          have ht2 : decide (20 < ((insOf l k).length : Int)) = false := decide_eq_false (by omega)
          clear hin
          go_wp2_with fail
          go_round
          case rel => exact ⟨k + 1, by omega, by go_num, fun j hj => by
            rcases (show j < k ∨ j = k by omega) with h | rfl
            · exact HN.out j h
            · exact E.out⟩
          case measure => simp [intOf]; omega
        · have E := Lib.hid (show longB l = true by rw [E0.out, allB_no hlt (by simpa using hx)]; rfl)
          have ht2 : decide (20 < ((insOf l k).length : Int)) = true := decide_eq_true (by omega)
          clear hin
          go_wp2_with fail
          go_returns
          exact ⟨ret_bool E.out.symm, by go_grown⟩
      · obtain rfl : k = l.length := by omega
        have E := Lib.hid (show longB l = false by rw [E0.out, allB_iff.2 HN.out]; rfl)
        go_wp2_with fail
        go_returns
        exact ⟨ret_bool E.out.symm, by go_grown⟩
end Go.Proofs.Ytaodbjgcidkpkaa.Sp

namespace Go.Proofs.Ytaodbjgcidkpkaa.Sp
open Go.ChangeShapes Go.WideShapes Go.ChangeAt Go.RowKit M

set_option maxHeartbeats 4000000 in
theorem known_any (w : World) : Calls Try.prog 13 #[] w fun e w' => e = .returned (.bool true) ∧ Below w.heap.size w w' := by
  have H2 := Lib.hid (two_any w)
  go_enter Try.func13, Try.ntmps13
  go_wp2_with fail
  refine H2.out.mono ?_
  rintro e w1 ⟨rfl, hb1, hs1, hi1, ho1⟩
  have HO := Lib.hid (two_ops hi1 ho1)
  have HB1 := Lib.hid hb1
  have HS1 := Lib.hid hs1
  clear hb1 hs1 hi1 ho1
  obtain ⟨G, hG⟩ : ∃ G, w.heap.size + 2 = G := ⟨_, rfl⟩
  rw [hG] at HO ⊢
  clear hG
  go_upto_region 3 with (fail)
  obtain ⟨X, hX⟩ : ∃ X, ((w1.alloc (.cells #[.int .i64 4, .slice (some ⟨G, 0, none⟩) 2 2] 24)).alloc (.cells #[.int .i64 4, .slice (some ⟨G, 0, none⟩) 1 2] 24)) = X := ⟨_, rfl⟩
  have k1 : Blk X w1.heap.size 24 #[.int .i64 4, .slice (some ⟨G, 0, none⟩) 2 2] := hX ▸ (Blk.new w1 _ _).alloc _
  have k2 : Blk X (w1.heap.size + 1) 24 #[.int .i64 4, .slice (some ⟨G, 0, none⟩) 1 2] := hX ▸ (by have := Blk.new (w1.alloc (.cells #[.int .i64 4, .slice (some ⟨G, 0, none⟩) 2 2] 24)) 24 #[.int .i64 4, .slice (some ⟨G, 0, none⟩) 1 2]; simpa using this)
  have k3 : Below w1.heap.size w1 X := hX ▸ (((Below.refl _ _).alloc (Nat.le_refl _) _).alloc (by simp) _)
  have k4 : X.heap.size = w1.heap.size + 1 + 1 := hX ▸ (by simp)
  (try rw [hX])
  clear hX
  have HF : Hid (∀ Y, Below X.heap.size X Y → (Y.cell? ⟨w1.heap.size, 0, none⟩ = some (.int .i64 4) ∧ Y.cell? ⟨w1.heap.size, 1, none⟩ = some (.slice (some ⟨G, 0, none⟩) 2 2) ∧ Y.cell? ⟨w1.heap.size + 1, 0, none⟩ = some (.int .i64 4) ∧ Y.cell? ⟨w1.heap.size + 1, 1, none⟩ = some (.slice (some ⟨G, 0, none⟩) 1 2)) ∧ IsOps Y w1.heap.size (some ⟨G, 0, none⟩) twoL (twoP (w.heap.size + 1)) ∧ w1.heap.size ≤ Y.heap.size ∧ Below w.heap.size w Y) := fun Y hY => by
    obtain ⟨a0, a1⟩ := spec_blk (k1.below hY (by omega))
    obtain ⟨a2, a3⟩ := spec_blk (k2.below hY (by omega))
    exact ⟨⟨a0, a1, a2, a3⟩, HO.out.below (k3.trans (hY.mono (by omega))), by have := hY.size; omega, through (through HB1.out (Nat.le_refl _) k3) (by have := HB1.out.size; have := k3.size; omega) hY⟩
  clear k1 k2 k3 k4
  obtain ⟨⟨a0, a1, a2, a3⟩, hio, hsz, -⟩ := HF.out X (Below.refl _ _)
  have HC1 := Lib.hid (check_any 4 (some ⟨G, 0, none⟩) 2 twoL _ (by decide) X w1.heap.size hsz hio)
  rw [known_chk] at HC1
  clear hio
  go_wp2_with fail
  refine HC1.out.mono ?_
  rintro e w2 ⟨rfl, hb2⟩
  have HB2 := Lib.hid hb2
  clear hb2 a0 a1 a2 a3 hsz
  obtain ⟨⟨a0, a1, a2, a3⟩, hio, hsz, -⟩ := HF.out w2 HB2.out
  have HC2 := Lib.hid (check_any 4 (some ⟨G, 0, none⟩) 2 (twoL.take 1) _ (by decide) w2 w1.heap.size hsz (hio.less 1 (by decide)))
  rw [known_chk1] at HC2
  have HC3 : Hid (∀ Y, Below X.heap.size X Y → Calls Try.prog 20 #[.agg #[.int .i64 4, .slice (some ⟨G, 0, none⟩) 2 2]] Y (RetInts Y [0, 1])) := fun Y hY => by
    obtain ⟨-, hio, hsz, -⟩ := HF.out Y hY
    have := order_any 4 (some ⟨G, 0, none⟩) 2 twoL _ Y w1.heap.size hsz hio (by decide)
    rw [known_ord] at this
    exact this
  have HC4 : Hid (∀ Y, Below X.heap.size X Y → Calls Try.prog 15 #[.agg #[.int .i64 4, .slice (some ⟨G, 0, none⟩) 2 2], .int .i64 1] Y (RetInts Y [0])) := fun Y hY => by
    obtain ⟨-, hio, hsz, -⟩ := HF.out Y hY
    obtain ⟨rank, hr⟩ := two_rank
    have := roots_any 4 (some ⟨G, 0, none⟩) 2 twoL _ rank hr (by decide) 1 (by decide) Y w1.heap.size hsz hio
    rw [two_bits] at this
    exact this
  clear hio
  go_wp2_with fail
  refine HC2.out.mono ?_
  rintro e w3 ⟨rfl, hb3⟩
  have HB3 := Lib.hid (HB2.out.trans (hb3.mono HB2.out.size))
  clear hb3 a0 a1 a2 a3 hsz
  obtain ⟨⟨a0, a1, a2, a3⟩, -, hsz, -⟩ := HF.out w3 HB3.out
  go_wp2_with fail
  refine (HC3.out _ HB3.out).mono ?_
  rintro e w4 ⟨A4, c4, rfl, hown4, hb4⟩
  have HB4 := Lib.hid (HB3.out.trans (hb4.mono HB3.out.size))
  clear hb4 a0 a1 a2 a3 hsz
  obtain ⟨⟨a0, a1, a2, a3⟩, -, hsz, -⟩ := HF.out w4 HB4.out
  have HS1 := Lib.hid (sameInts_any A4 (some ⟨w4.heap.size, 0, none⟩) c4 2 [0, 1] [0, 1] _ _ (w4.alloc (.cells #[.int .i64 0, .int .i64 1] 3)) (hown4.alloc _).ints (ints_blk (Blk.new _ _ _) (by decide) (by simp [In64])))
  rw [sameB_yes rfl] at HS1
  clear hown4
  go_wp2_with fail
  refine HS1.out.mono ?_
  rintro e w5 ⟨rfl, hb5⟩
  have HB5 := Lib.hid (through (HB4.out.alloc HB4.out.size _) (by simp) hb5)
  clear hb5 a0 a1 a2 a3 hsz
  obtain ⟨⟨a0, a1, a2, a3⟩, -, hsz, -⟩ := HF.out w5 HB5.out
  go_wp2_with fail
  refine (HC4.out _ HB5.out).mono ?_
  rintro e w6 ⟨A6, c6, rfl, hown6, hb6⟩
  have HB6 := Lib.hid (HB5.out.trans (hb6.mono HB5.out.size))
  have HS2 := Lib.hid (sameInts_any A6 (some ⟨w6.heap.size, 0, none⟩) c6 1 [0] [0] _ _ (w6.alloc (.cells #[.int .i64 0] 3)) (hown6.alloc _).ints (ints_blk (Blk.new _ _ _) (by decide) (by simp [In64])))
  rw [sameB_yes rfl] at HS2
  clear hown6 hb6 a0 a1 a2 a3 hsz
  go_wp2_with fail
  refine HS2.out.mono ?_
  rintro e w7 ⟨rfl, hb7⟩
  have HB7 := Lib.hid (through (HB6.out.alloc HB6.out.size _) (by simp) hb7)
  clear hb7
  go_wp2_with fail
  go_returns
  exact ⟨rfl, (HF.out _ HB7.out).2.2.2⟩
end Go.Proofs.Ytaodbjgcidkpkaa.Sp
