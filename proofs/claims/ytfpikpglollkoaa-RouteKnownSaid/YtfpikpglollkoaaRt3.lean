/- Where an operator's records go, by the program and by the document. -/
import Derived.Test.YtfpikpglollkoaaRt1
import Derived.Test.YtfpikpglollkoaaSpP4
namespace Go.Proofs.Ytfpikpglollkoaa.Rt
open Go.ChangeShapes Go.WideShapes Go.ChangeAt Go.RowKit M Sp

def targF (g : Int) (l : List OpP) (par : List Int) (op key : Int) : List (Int × Int) := tasksF g par (Gr.ofG key g) (usersF l op)
theorem users_in {l : List OpP} {par : List Int} (hp : par.length = l.length) (op : Int) : ∀ u ∈ usersF l op, ∃ m : Nat, u = m ∧ m < par.length := fun u hu => by
  obtain ⟨k, e, hk, -⟩ := users_mem.1 hu
  exact ⟨k, e, by omega⟩
theorem users_len (l : List OpP) (op : Int) : (usersF l op).length ≤ l.length := whichF_len (fun i => hasB (insOf l i) op) l.length

set_option maxHeartbeats 2000000 in
theorem targets_any (g : Int) (A P : Option Addr) (c cp : Nat) (l : List OpP) (q : Nat → Option Addr × Nat) (par : List Int) (hp : par.length = l.length) (hl : l.length ≤ 1000) (op key : Int) (w : World) (B B2 : Nat) (hB : B ≤ w.heap.size) (hB2 : B2 ≤ w.heap.size) (h : IsOps w B A l q) (hpar : IsInts w B2 ⟨P, cp, par⟩) :
    Calls Try.prog 40 #[.agg #[.int .i64 g, .slice A l.length c], .slice P par.length cp, .int .i64 op, .int .i64 key] w (RetPairs 54 w (targF g l par op key)) := by
  obtain ⟨X, hX⟩ : ∃ X, (w.alloc (.cells #[.int .i64 g, .slice A l.length c] 24)) = X := ⟨_, rfl⟩
  have kB : Below w.heap.size w X := hX ▸ ((Below.refl _ _).alloc (Nat.le_refl _) _)
  have kX : X.heap.size = w.heap.size + 1 := hX ▸ (by simp)
  have kK : Blk X w.heap.size 24 #[.int .i64 g, .slice A l.length c] := hX ▸ Blk.new _ _ _
  have HS : Hid (∀ Y, Below X.heap.size X Y → (fun (w' : World) => w'.cell? ⟨w.heap.size, 0, none⟩ = some (.int .i64 g) ∧ w'.cell? ⟨w.heap.size, 1, none⟩ = some (.slice A l.length c) ∧ Below X.heap.size X w') Y) := fun Y hY => by
    obtain ⟨t0, t1⟩ := spec_blk (kK.below hY (by omega))
    exact ⟨t0, t1, hY⟩
  have H5 : Hid (∀ Z Y, Below Z.heap.size Z Y → Below X.heap.size X Z → Below X.heap.size X Y) := fun Z Y h1 h2 => through h2 (Nat.le_refl _) h1
  have HU : Hid (∀ Y, Below X.heap.size X Y → Calls Try.prog 21 #[.agg #[.int .i64 g, .slice A l.length c], .int .i64 op] Y (RetInts Y (usersF l op))) := fun Y hY =>
    users_any g A c l q op Y B (by have := hY.size; omega) ((h.below (kB.mono hB)).below (hY.mono (by omega))) (by omega)
  have HSP : Hid (∀ Y A2 c2, Below X.heap.size X Y → IsInts Y Y.heap.size ⟨A2, c2, usersF l op⟩ → Calls Try.prog 67 #[.int .i64 (Gr.ofG key g), .int .i64 g, .slice P par.length cp, .slice A2 (usersF l op).length c2] Y (RetPairs 54 Y (targF g l par op key))) := fun Y A2 c2 hY hu =>
    spots_any _ g P A2 cp c2 par _ (users_in hp op) (by have := users_len l op; omega) Y B2 Y.heap.size (by have := hY.size; omega) (Nat.le_refl _) ((hpar.below (kB.mono hB2)).below (hY.mono (by omega))) hu
  have HE : Hid (∀ Y, Below X.heap.size X Y → Below w.heap.size w Y ∧ w.heap.size ≤ Y.heap.size) := fun Y hY => ⟨through kB (Nat.le_refl _) hY, by have := hY.size; omega⟩
  have HX := Lib.hid hX
  have HOF : Hid (∀ Y, Calls Try.prog 45 #[.int .i64 key, .int .i64 g] Y fun e w' => e = .returned (.int .i64 (Gr.ofG key g)) ∧ Y = w') := fun Y => Gr.of_any key g Y
  generalize targF g l par op key = res at *
  generalize usersF l op = us at *
  generalize Gr.ofG key g = gg at *
  clear hX kB kX kK h hpar hp
  go_enter Try.func40, Try.ntmps40
  go_upto_region 1 with (fail)
  rw [HX.out]
  go_region_held3 (fun (w' : World) => w'.cell? ⟨w.heap.size, 0, none⟩ = some (.int .i64 g) ∧ w'.cell? ⟨w.heap.size, 1, none⟩ = some (.slice A l.length c) ∧ Below X.heap.size X w')
    (first | assumption | exact HS.out _ (Below.refl _ _).drew | exact HS.out _ (H5.out _ _ (by assumption) (And.right (And.right (by assumption)))))
    ((first
      | (go_at_call 45; refine (HOF.out _).mono ?_; rintro e v1 ⟨rfl, rfl⟩)
      | (go_at_call 21; refine (HU.out _ (And.right (And.right (by assumption)))).mono ?_; rintro e v2 ⟨A2, c2, rfl, o2, q2⟩)
      | (go_at_call 67; refine (HSP.out _ _ _ (And.right (And.right (by assumption))) o2.ints).mono ?_; rintro e v3 ⟨A3, c3, rfl, o3, q3⟩)))
  have HF := Lib.hid (HE.out _ (show Below X.heap.size X v3 from (And.right (And.right (by assumption)))))
  have HG := Lib.hid (HE.out _ (H5.out _ _ q2 (Below.refl _ _).drew))
  have HO := Lib.hid o3
  clear o2 q2 o3 q3
  go_wp2
  go_returns
  exact ret_pairs (HO.out.mono HG.out.2) HF.out.1

set_option maxHeartbeats 2000000 in
theorem refTargets_any (g : Int) (A P : Option Addr) (c cp : Nat) (l : List OpP) (q : Nat → Option Addr × Nat) (par : List Int) (hp : par.length = l.length) (hl : l.length ≤ 1000) (op key : Int) (w : World) (B BB : Nat) (hB : B ≤ w.heap.size) (hB2 : BB ≤ w.heap.size) (h : IsOps w B A l q) (hpar : IsInts w BB ⟨P, cp, par⟩) :
    Calls Try.prog 42 #[.agg #[.int .i64 g, .slice A l.length c], .slice P par.length cp, .int .i64 op, .int .i64 key] w (RetPairs 54 w (targF g l par op key)) := by
  obtain ⟨X, hX⟩ : ∃ X, (w.alloc (.cells #[.int .i64 g, .slice A l.length c] 24)) = X := ⟨_, rfl⟩
  have kB : Below w.heap.size w X := hX ▸ ((Below.refl _ _).alloc (Nat.le_refl _) _)
  have kX : X.heap.size = w.heap.size + 1 := hX ▸ (by simp)
  have kK : Blk X w.heap.size 24 #[.int .i64 g, .slice A l.length c] := hX ▸ Blk.new _ _ _
  have HU : Hid (Calls Try.prog 26 #[.agg #[.int .i64 g, .slice A l.length c], .int .i64 op] X (RetInts X (usersF l op))) :=
    refUsers_any g A c l q op X B (by omega) (h.below (kB.mono hB)) (by omega)
  have HIN := Lib.hid (users_in hp op)
  have HUL := Lib.hid (users_len l op)
  have hul := users_len l op
  have ER : Hid (targF g l par op key = tasksF g par (Gr.ofG key g) (usersF l op)) := rfl
  have HOF := Lib.hid (Gr.refOf_any key g X)
  have HPX := Lib.hid (hpar.below (kB.mono hB2))
  have HKX := Lib.hid kX
  have HX := Lib.hid hX
  have HKB := Lib.hid kB
  have HKK := Lib.hid kK
  obtain ⟨k0, k1⟩ := spec_blk kK
  clear hX kB kX kK h hpar hp
  generalize targF g l par op key = res at *
  generalize usersF l op = us at *
  generalize Gr.ofG key g = gg at *
  go_enter Try.func42, Try.ntmps42
  go_upto_region 2 with (fail)
  rw [HX.out]
  go_wp2_with fail
  refine HOF.out.mono ?_
  rintro e w1 ⟨rfl, rfl⟩
  go_wp2_with fail
  refine HU.out.mono ?_
  rintro e w2 ⟨A2, c2, rfl, own2, hb2⟩
  have HO2 := Lib.hid own2
  have HB2 := Lib.hid hb2
  have hsz2 : w.heap.size + 1 ≤ w2.heap.size := by have := hb2.size; rw [HKX.out] at this; exact this
  clear own2 hb2 k0 k1
  go_wp2_with fail
  go_loopw [9, 12] (fun v i wr => ∃ k : Nat, k ≤ us.length ∧ i = .int .i64 k ∧ OwnP 54 wr w2.heap.size v (tasksF g par gg (us.take k)) ∧ Below w2.heap.size w2 wr) (fun _ i _ => us.length - (intOf i).toNat)
  case atStart => exact ⟨0, by omega, rfl, OwnP.nil _ _ _, Below.refl _ _⟩
  case round =>
    obtain ⟨k, hk, rfl, hown, hbl⟩ := hrel
    have HB := Lib.hid hbl
    have HOW := Lib.hid hown
    clear hown hbl
    by_cases hlt : k < us.length
    · obtain ⟨b, o, v, rfl, hb, HV, -, c0⟩ := Sp.ints_at HO2.out.ints hlt
      obtain ⟨m, em, hm⟩ := HIN.out v (by rw [← HV.out]; exact getD_mem hlt)
      subst em
      obtain ⟨b2, o2, p, rfl, hb2, HPV, -, d0⟩ := Sp.ints_at (HPX.out.below (HB2.out.mono (by rw [HKX.out]; omega))) hm
      have HST : Hid (∀ Y, Below w2.heap.size w2 Y → (fun (w' : World) => w'.cell? ⟨w.heap.size, 0, none⟩ = some (.int .i64 g) ∧ w'.cell? ⟨b, o + k, none⟩ = some (.int .i64 (m : Int)) ∧ w'.cell? ⟨b2, o2 + m, none⟩ = some (.int .i64 p)) Y) := fun Y hY => by
        obtain ⟨t0, -⟩ := spec_blk ((HKK.out.below HB2.out (by rw [HKX.out]; omega)).below hY (by omega))
        exact ⟨t0, (hY.cell (p := ⟨b, o + k, none⟩) (by show b < _; omega)).trans c0, (hY.cell (p := ⟨b2, o2 + m, none⟩) (by show b2 < _; omega)).trans d0⟩
      have HT := Lib.hid (tasks_snoc (g := g) (h := gg) hlt HV.out HPV.out)
      have HL := Lib.hid (show (tasksF g par gg (us.take k)).length < 1000000000 by rw [tasks_len, List.length_take]; have := HUL.out; omega)
      have HZ := Lib.hid HB.out.size
      have ob := Gr.ownerG_bd gg p g
      have hm64 : (m : Int) ≤ 9223372036854775807 := by have h1 := HPX.out.2.1; have h2 := HPX.out.2.2.1; unfold maxLen at h2; simp only at *; omega
      have HI2 := Lib.hid (show In2 ((m : Int), Gr.ownerG gg p g) from ⟨by unfold In64; omega, by unfold In64; simp only; omega⟩)
      have HOWN : Hid (∀ Y, Calls Try.prog 69 #[.int .i64 gg, .int .i64 p, .int .i64 g] Y fun e w' => e = .returned (.int .i64 (Gr.ownerG gg p g)) ∧ Y = w') := fun Y => Gr.refOwner_any gg p g Y
      clear c0 d0
      generalize Gr.ownerG gg p g = ow at *
      have HN := Lib.hid ((Blk.new wr 54 #[.int .i64 (m : Int), .int .i64 ow]).drew)
      have HOW2 := Lib.hid ((HOW.out.alloc (.cells #[.int .i64 (m : Int), .int .i64 ow] 54)).drew)
      have HAP : Hid (∀ w', (wr.alloc (.cells #[.int .i64 (m : Int), .int .i64 ow] 54)).drew.grownBy w' (Value.ownBlock u9) → Below w2.heap.size w2 w') := fun w' hg =>
        ((HB.out.alloc HZ.out _).drew).grown hg (by have := HZ.out; simp; omega) (fun z hz => (HOW.out.blk z hz).1)
      go_upto_region 7 with (fail)
      go_region_held3 (fun (w' : World) => w'.cell? ⟨w.heap.size, 0, none⟩ = some (.int .i64 g) ∧ w'.cell? ⟨b, o + k, none⟩ = some (.int .i64 (m : Int)) ∧ w'.cell? ⟨b2, o2 + m, none⟩ = some (.int .i64 p))
        (first | assumption | exact HST.out _ HB.out.drew | exact HST.out _ ((HB.out.alloc HZ.out _).drew) | exact HST.out _ hap)
        ((first
          | (go_at_call 69; refine (HOWN.out _).mono ?_; rintro e v1 ⟨rfl, rfl⟩)
          | (rw [if_pos (by kernel_rfl)]; refine wp_pair ptSpot (.tmp 26) (.tmp 43) rfl w2.heap.size (by rfl) HOW2.out HI2.out ⟨wr.heap.size, 0, none⟩ (by rfl) (HN.out.cell 0) (HN.out.cell 1) HL.out (by have h9 := HZ.out; simp; omega) ?_; intro A3 c3 w3 h3 g3; have hap := HAP.out _ g3)))
      have HN2 := Lib.hid h3
      have HB3 := Lib.hid hap
      clear h3 g3 hap
      go_wp2
      go_roundw
      case rel => exact ⟨k + 1, by omega, by go_num, by rw [HT.out]; exact HN2.out, HB3.out⟩
      case measure => simp [intOf]; omega
    · obtain rfl : k = us.length := by omega
      have HO3 : Hid (OwnP 54 wr w2.heap.size u9 res) := by have := HOW.out; rw [List.take_length, ← ER.out] at this; exact this
      go_wp2_with fail
      go_returns
      exact ret_pairs (HO3.out.mono (by omega)) (through HKB.out (Nat.le_refl _) (through HB2.out (Nat.le_refl _) HB.out))
end Go.Proofs.Ytfpikpglollkoaa.Rt
