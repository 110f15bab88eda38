/- Jobs: roots, as the document has them; what has no roots. -/
import Derived.Test.YtaodbjgcidkpkaaSp8
import Derived.Test.YtaodbjgcidkpkaaSp9
namespace Go.Proofs.Ytaodbjgcidkpkaa.Sp
open Go.ChangeShapes Go.WideShapes Go.ChangeAt Go.RowKit M

theorem roots_no (g : Int) (A : Option Addr) (c : Nat) (l : List OpP) (op : Int) (hop : op < 0 ∨ (l.length : Int) ≤ op) (hl : l.length ≤ 1000000) (w : World) :
    Calls Try.prog 15 #[.agg #[.int .i64 g, .slice A l.length c], .int .i64 op] w (RetInts w []) := by
  have EB : Hid (btw op 0 ((l.length : Int) - 1) = false) := btw_no (by omega)
  clear hop
  go_enter Try.func15, Try.ntmps15
  go_wp2_with (go_at_call 51; refine (between_any _ _ _ _).mono ?_; rw [EB.out]; rintro e w' ⟨rfl, rfl⟩)
  go_returns
  exact ret_ints (OwnI.nil _ _) (by go_grown)

theorem rootsF_no {l : List OpP} {op : Int} (hop : op < 0 ∨ (l.length : Int) ≤ op) : rootsF l op = [] := if_neg (by omega)
theorem rootsF_at {l : List OpP} {i : Nat} (hi : i < l.length) : rootsF l i = (kindF l 1).filter fun r => comesF l.length l i r := by
  unfold rootsF; rw [if_pos (by omega)]; simp

theorem filt_yes {f : Int → Bool} {xs : List Int} {k : Nat} {v : Int} (hk : k < xs.length) (hv : xs.getD k 0 = v) (h : f v = true) : (xs.take (k + 1)).filter f = (xs.take k).filter f ++ [v] := by
  rw [List.take_add_one, List.getElem?_eq_getElem hk]
  have : xs[k] = v := by rw [← hv, List.getD_eq_getElem?_getD, List.getElem?_eq_getElem hk]; rfl
  rw [this]; simp [List.filter_append, h]
theorem filt_no {f : Int → Bool} {xs : List Int} {k : Nat} {v : Int} (hk : k < xs.length) (hv : xs.getD k 0 = v) (h : f v = false) : (xs.take (k + 1)).filter f = (xs.take k).filter f := by
  rw [List.take_add_one, List.getElem?_eq_getElem hk]
  have : xs[k] = v := by rw [← hv, List.getD_eq_getElem?_getD, List.getElem?_eq_getElem hk]; rfl
  rw [this]; simp [List.filter_append, h]

theorem refRoots_no (g : Int) (A : Option Addr) (c : Nat) (l : List OpP) (p : Nat → Option Addr × Nat) (op : Int) (hop : op < 0 ∨ (l.length : Int) ≤ op) (hl : l.length ≤ 1000000) (w : World) (B : Nat) (hB : B ≤ w.heap.size) (h : IsOps w B A l p) :
    Calls Try.prog 18 #[.agg #[.int .i64 g, .slice A l.length c], .int .i64 op] w (RetInts w []) := by
  have HS := Lib.hid (refSources_any g A c l p (w.alloc (.cells #[.int .i64 g, .slice A l.length c] 24)) B (by simp; omega) (h.alloc hB _) hl)
  clear h
  go_enter Try.func18, Try.ntmps18
  go_wp2_with fail
  refine HS.out.mono ?_
  rintro e w1 ⟨A1, c1, rfl, hown, hb1⟩
  have HB1 := Lib.hid hb1
  have hg : w1.cell? ⟨w.heap.size, 1, none⟩ = some (.slice A l.length c) := (hb1.cell (p := ⟨w.heap.size, 1, none⟩) (by show w.heap.size < _; simp)).trans (by go_simp)
  clear hown hb1
  go_wp2_with fail
  refine wp_loop_rounds 1 ?_
  rw [rounds_succ]
  rcases hop with hop | hop
  · have d1 : decide (0 ≤ op) = false := decide_eq_false (by omega)
    go_wp2_with fail
    all_goals go_returns
    all_goals exact ret_ints (OwnI.nil _ _) (through ((Below.refl _ _).alloc (Nat.le_refl _) _) (Nat.le_refl _) HB1.out)
  · have d1 : decide (0 ≤ op) = true := decide_eq_true (by omega)
    have d2 : decide (op < (l.length : Int)) = false := decide_eq_false (by omega)
    go_wp2_with fail
    all_goals go_returns
    all_goals exact ret_ints (OwnI.nil _ _) (through ((Below.refl _ _).alloc (Nat.le_refl _) _) (Nat.le_refl _) HB1.out)

set_option maxHeartbeats 2000000 in
theorem refRoots_any (g : Int) (A : Option Addr) (c : Nat) (l : List OpP) (p : Nat → Option Addr × Nat) (rank : Nat → Nat) (hr : Ranked l rank) (hl : l.length ≤ 1000000) (i : Nat) (hi : i < l.length) (w : World) (B : Nat) (hB : B ≤ w.heap.size) (h : IsOps w B A l p) :
    Calls Try.prog 18 #[.agg #[.int .i64 g, .slice A l.length c], .int .i64 i] w (RetInts w (rootsF l i)) := by
  have HH := Lib.hid h
  have ER := Lib.hid (rootsF_at hi)
  have HS := Lib.hid (refSources_any g A c l p (w.alloc (.cells #[.int .i64 g, .slice A l.length c] 24)) B (by simp; omega) (h.alloc hB _) hl)
  have HCO : Hid (∀ r w0, Below w.heap.size w w0 → Calls Try.prog 54 #[.agg #[.int .i64 g, .slice A l.length c], .int .i64 i, .int .i64 r] w0 fun e w' => e = .returned (.bool (comesF l.length l i r)) ∧ Below w0.heap.size w0 w') := fun r w0 h0 =>
    comes_any g A c l p rank hr hl r l.length i w0 B (Nat.le_trans hB h0.size) (h.below (h0.mono hB)) hi (Nat.le_of_lt (hr i hi).1)
  have HKL := Lib.hid (whichF_len (fun i => kindOf l i == 1) l.length)
  have EK := Lib.hid (show kindF l 1 = whichF (fun i => kindOf l i == 1) l.length from rfl)
  clear h
  obtain ⟨F, hF⟩ : ∃ F : Int → Bool, (fun r => comesF l.length l i r) = F := ⟨_, rfl⟩
  have HFE : Hid (∀ r, comesF l.length l i r = F r) := fun r => by rw [← hF]
  rw [hF] at ER
  clear hF
  have hkl : (kindF l 1).length ≤ l.length := by rw [EK.out]; exact HKL.out
  clear HKL EK
  generalize kindF l 1 = ks at *
  go_enter Try.func18, Try.ntmps18
  go_wp2_with fail
  refine HS.out.mono ?_
  rintro e w1 ⟨A1, c1, rfl, hown, hb1⟩
  have HB1 := Lib.hid hb1
  have HI := Lib.hid hown.ints
  have HW1 := Lib.hid (through ((Below.refl _ _).alloc (Nat.le_refl _) _) (Nat.le_refl w.heap.size) hb1)
  have hsz1 : w.heap.size + 1 ≤ w1.heap.size := by have := hb1.size; simpa using this
  have HG : Hid (∀ w2, Below w1.heap.size w1 w2 → w2.cell? ⟨w.heap.size, 0, none⟩ = some (.int .i64 g) ∧ w2.cell? ⟨w.heap.size, 1, none⟩ = some (.slice A l.length c)) := fun w2 h2 =>
    ⟨((h2.cell (p := ⟨w.heap.size, 0, none⟩) (by show w.heap.size < _; omega)).trans (hb1.cell (p := ⟨w.heap.size, 0, none⟩) (by show w.heap.size < _; simp))).trans (by go_simp),
     ((h2.cell (p := ⟨w.heap.size, 1, none⟩) (by show w.heap.size < _; omega)).trans (hb1.cell (p := ⟨w.heap.size, 1, none⟩) (by show w.heap.size < _; simp))).trans (by go_simp)⟩
  clear hown hb1
  go_wp2_with fail
  go_loopw [5, 7] (fun v q wr => ∃ k : Nat, k ≤ ks.length ∧ q = .int .i64 k ∧ OwnI wr w1.heap.size v ((ks.take k).filter F) ∧ Below w1.heap.size w1 wr) (fun _ q _ => ks.length - (intOf q).toNat)
  case atStart => exact ⟨0, by omega, rfl, OwnI.nil _ _, Below.refl _ _⟩
  case round =>
    obtain ⟨k, hk, rfl, hown, hbl⟩ := hrel
    have HB := Lib.hid hbl
    have HOW := Lib.hid hown
    obtain ⟨s0, s1⟩ := HG.out wr hbl
    clear hown hbl
    by_cases hlt : k < ks.length
    · obtain ⟨b2, o2, v, rfl, hb2, HV, h64, hc0⟩ := ints_at HI.out hlt
      have s3 : wr.cell? ⟨b2, o2 + k, none⟩ = some (.int .i64 v) := (HB.out.cell (p := ⟨b2, o2 + k, none⟩) hb2).trans hc0
      have HC := Lib.hid (HCO.out v)
      have EY : Hid (F v = true → (ks.take (k + 1)).filter F = (ks.take k).filter F ++ [v]) := filt_yes hlt HV.out
      have EN : Hid (F v = false → (ks.take (k + 1)).filter F = (ks.take k).filter F) := filt_no hlt HV.out
      rw [HFE.out v] at HC
      have hszr : w1.heap.size ≤ wr.heap.size := HB.out.size
      have HWR := Lib.hid (through HW1.out (by omega) HB.out)
      have hleF : ((ks.take k).filter F).length ≤ k := Nat.le_trans (List.length_filter_le _ _) (List.length_take_le _ _)
      have HZ : Hid (∀ w2, Below wr.heap.size wr w2 → w2.cell? ⟨w.heap.size, 0, none⟩ = some (.int .i64 g) ∧ w2.cell? ⟨w.heap.size, 1, none⟩ = some (.slice A l.length c) ∧ w2.cell? ⟨b2, o2 + k, none⟩ = some (.int .i64 v)) := fun w2 h2 =>
        ⟨(h2.cell (p := ⟨w.heap.size, 0, none⟩) (by show w.heap.size < _; omega)).trans s0, (h2.cell (p := ⟨w.heap.size, 1, none⟩) (by show w.heap.size < _; omega)).trans s1, (h2.cell (p := ⟨b2, o2 + k, none⟩) (by show b2 < _; omega)).trans s3⟩
      have HX : Hid (∀ w2, Below wr.heap.size wr w2 → Below w1.heap.size w1 w2 ∧ OwnI w2 w1.heap.size u5 ((ks.take k).filter F)) := fun w2 h2 => ⟨through HB.out (Nat.le_refl _) h2, HOW.out.below h2⟩
      clear hc0
      generalize F v = z at *
      go_upto_region 6 with (fail)
      go_region_held3 (fun w' => w'.cell? ⟨w.heap.size, 0, none⟩ = some (.int .i64 g) ∧ w'.cell? ⟨w.heap.size, 1, none⟩ = some (.slice A l.length c) ∧ w'.cell? ⟨b2, o2 + k, none⟩ = some (.int .i64 v))
        (first | exact HZ.out _ (Below.refl _ _).drew | exact HZ.out _ (Below.refl _ _) | exact HZ.out _ (of_drew hb2'))
        ((go_at_call 54; refine (HC.out _ HWR.out.drew).mono ?_; rintro e w2 ⟨rfl, hb2'⟩))
      obtain ⟨hx1, hx2⟩ := HX.out _ (of_drew hb2')
      obtain ⟨-, -, s3'⟩ := HZ.out _ (of_drew hb2')
      have HX1 := Lib.hid hx1
      have HX2 := Lib.hid hx2
      clear hx1 hx2 hb2' s0 s1 s3
      cases z with
      | true =>
        have EW := Lib.hid (EY.out rfl)
        have HU := Lib.hid h64
        have HLn := Lib.hid (show ((ks.take k).filter F).length < 1000000000 by omega)
        have HZ := Lib.hid HX1.out.size
        clear EY EN
        go_wp2_with (at_builtin; refine app_new rfl _ _ rfl w1.heap.size HX2.out rfl HU.out rfl HLn.out HZ.out ?_)
        intro v' w3 hown2 hgr
        have HO2 := Lib.hid hown2
        have HB2 := Lib.hid (HX1.out.trans hgr)
        clear hown2 hgr
        go_wp2
        go_roundw
        case rel => exact ⟨k + 1, by omega, by go_num, by rw [EW.out]; exact HO2.out, HB2.out⟩
        case measure => simp [intOf]; omega
      | false =>
        have EW := Lib.hid (EN.out rfl)
        clear EY EN
        go_wp2_with fail
        go_roundw
        case rel => exact ⟨k + 1, by omega, by go_num, by rw [EW.out]; exact HX2.out, HX1.out⟩
        case measure => simp [intOf]; omega
    · obtain rfl : k = ks.length := by omega
      go_wp2_with fail
      go_returns
      exact ret_ints (by rw [ER.out, ← List.take_length (l := ks)]; exact HOW.out.mono (by omega)) (through HW1.out (by omega) HB.out)
end Go.Proofs.Ytaodbjgcidkpkaa.Sp
