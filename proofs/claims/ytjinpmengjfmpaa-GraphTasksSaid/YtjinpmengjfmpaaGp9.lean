/- The law: all tasks, and their numbers. -/
import Derived.Test.YtjinpmengjfmpaaGp8
import Derived.Deep.RegionHeld3
namespace Go.Proofs.Ytjinpmengjfmpaa.Gp
open Go.ChangeShapes Go.WideShapes Go.ChangeAt Go.RowKit M Sp

set_option maxHeartbeats 4000000 in
theorem graphTasks_any (A : Option Addr) (c : Nat) (par : List Int) (s1 s2 : Int) (B : Nat) (w : World) (hB : B ≤ w.heap.size) (h : IsInts w B ⟨A, c, par⟩) :
    Calls Try.prog 3 #[.slice A par.length c, .agg #[.int .i64 s1, .int .i64 s2]] w fun e w' => e = .returned (.bool true) ∧ Below w.heap.size w w' := by
  have hb0 : Below w.heap.size w (w.alloc (.cells #[.int .i64 s1, .int .i64 s2] 24)) := (Below.refl _ _).alloc (Nat.le_refl _) _
  have HW : Hid (∀ Y, Below (w.heap.size + 1) (w.alloc (.cells #[.int .i64 s1, .int .i64 s2] 24)) Y → Below w.heap.size w Y ∧ IsInts Y Y.heap.size ⟨A, c, par⟩ ∧ Y.cell? ⟨w.heap.size, 0, none⟩ = some (.int .i64 s1) ∧ Y.cell? ⟨w.heap.size, 1, none⟩ = some (.int .i64 s2) ∧ w.heap.size + 1 ≤ Y.heap.size) := Lib.hid (fun Y hY => by
    have h1 : Below w.heap.size w Y := hb0.trans (hY.mono (by omega))
    have hk := (Blk.new w 24 #[.int .i64 s1, .int .i64 s2]).below hY (by omega)
    exact ⟨h1, ((h.more hB).below h1).more h1.size, by simpa using hk.cell 0, by simpa using hk.cell 1, by have := hY.size; simpa using this⟩)
  have HX : Hid (∀ X Y, Below (w.heap.size + 1) (w.alloc (.cells #[.int .i64 s1, .int .i64 s2] 24)) X → Below X.heap.size X Y → Below (w.heap.size + 1) (w.alloc (.cells #[.int .i64 s1, .int .i64 s2] 24)) Y) := Lib.hid (fun X Y h1 h2 => through h1 (by simp) h2)
  have H0 := Lib.hid (Below.refl (w.heap.size + 1) (w.alloc (.cells #[.int .i64 s1, .int .i64 s2] 24)))
  have HF := Lib.hid (few_any A c par _ (w.alloc (.cells #[.int .i64 s1, .int .i64 s2] 24)) (h.below (hb0.mono hB)))
  clear h hb0
  cases hf : fewB par with
  | false =>
    rw [hf] at HF
    clear hf
    go_enter Try.func3, Try.ntmps3
    go_wp2_with fail
    refine HF.out.mono ?_
    rintro e w1 ⟨rfl, rfl⟩
    go_wp2_with fail
    refine (known_any _).mono ?_
    rintro e w2 ⟨rfl, hb⟩
    have HB := Lib.hid (HW.out _ (HX.out _ _ H0.out hb)).1
    clear hb
    go_wp2_with fail
    go_returns
    exact ⟨by first | rfl | simp, HB.out⟩
  | true =>
    have hN : (spotsN par).length ≤ 96 := (fewB_iff.1 hf).len
    rw [hf] at HF
    clear hf
    have HT : Hid (∀ Y, Below (w.heap.size + 1) (w.alloc (.cells #[.int .i64 s1, .int .i64 s2] 24)) Y → Calls Try.prog 17 #[.slice A par.length c] Y (RetPairs 24 Y (spotsP par))) := Lib.hid (fun Y hY => tasks_any A c par Y (by omega) (HW.out Y hY).2.1)
    have HRT : Hid (∀ Y, Below (w.heap.size + 1) (w.alloc (.cells #[.int .i64 s1, .int .i64 s2] 24)) Y → Calls Try.prog 19 #[.slice A par.length c] Y (RetPairs 24 Y (spotsP par))) := Lib.hid (fun Y hY => refTasks_any A c par _ Y (Nat.le_refl _) (by omega) (HW.out Y hY).2.1)
    have HIX : Hid (∀ Y, Below (w.heap.size + 1) (w.alloc (.cells #[.int .i64 s1, .int .i64 s2] 24)) Y → Calls Try.prog 20 #[.slice A par.length c, .agg #[.int .i64 s1, .int .i64 s2]] Y fun e w' => e = .returned (.int .i64 (idxP (spotsP par) (s1, s2))) ∧ Below Y.heap.size Y w') := Lib.hid (fun Y hY => index_any A c par (s1, s2) Y (by omega) (HW.out Y hY).2.1)
    have HRX : Hid (∀ Y, Below (w.heap.size + 1) (w.alloc (.cells #[.int .i64 s1, .int .i64 s2] 24)) Y → Calls Try.prog 21 #[.slice A par.length c, .agg #[.int .i64 s1, .int .i64 s2]] Y fun e w' => e = .returned (.int .i64 (idxP (spotsP par) (s1, s2))) ∧ Below Y.heap.size Y w') := Lib.hid (fun Y hY => refIndex_any A c par (s1, s2) _ Y (Nat.le_refl _) (by omega) (HW.out Y hY).2.1)
    obtain ⟨r, hr⟩ : ∃ r, idxP (spotsP par) (s1, s2) = r := ⟨_, rfl⟩
    rw [hr] at HIX HRX
    have HL := Lib.hid (show (spotsP par).length ≤ 96 by rw [spotsP_len]; exact hN)
    obtain ⟨L, hL⟩ : ∃ L, spotsP par = L := ⟨_, rfl⟩
    rw [hL] at HT HRT HL
    clear hr hL hN
    have HS : Hid (∀ Y, Below (w.heap.size + 1) (w.alloc (.cells #[.int .i64 s1, .int .i64 s2] 24)) Y → Y.cell? ⟨w.heap.size, 0, none⟩ = some (.int .i64 s1) ∧ Y.cell? ⟨w.heap.size, 1, none⟩ = some (.int .i64 s2) ∧ Below (w.heap.size + 1) (w.alloc (.cells #[.int .i64 s1, .int .i64 s2] 24)) Y) := Lib.hid (fun Y hY => ⟨(HW.out Y hY).2.2.1, (HW.out Y hY).2.2.2.1, hY⟩)
    go_enter Try.func3, Try.ntmps3
    go_wp2_with fail
    refine HF.out.mono ?_
    rintro e w1 ⟨rfl, rfl⟩
    go_wp2_with fail
    refine (HT.out _ H0.out).mono ?_
    rintro e w1 ⟨A1, c1, rfl, own, hb⟩
    have HO1 := Lib.hid own
    have B1 := Lib.hid (HX.out _ _ H0.out hb)
    clear own hb H0
    go_upto_region 4 with (fail)
    have tr : (r == r) = true := by simp
    go_region_held3 (fun (w' : World) => w'.cell? ⟨w.heap.size, 0, none⟩ = some (.int .i64 s1) ∧ w'.cell? ⟨w.heap.size, 1, none⟩ = some (.int .i64 s2) ∧ Below (w.heap.size + 1) (w.alloc (.cells #[.int .i64 s1, .int .i64 s2] 24)) w')
      (first | exact HS.out _ r6 | exact HS.out _ r5 | exact HS.out _ r4 | exact HS.out _ r3 | exact HS.out _ B1.out.drew | exact HS.out _ B1.out)
      ((first
        | (go_at_call 19; refine (HRT.out _ B1.out.drew).mono ?_; rintro e v3 ⟨A3, c3, rfl, o3, q3⟩; have r3 := HX.out _ _ B1.out.drew q3)
        | (go_at_call 18; refine (sameSpots_any A1 A3 c1 c3 L _ _ v3 (HO1.out.drew.below q3).pairs o3.pairs).mono ?_; rintro e v4 ⟨rfl, q4⟩; have r4 := HX.out _ _ r3 q4)
        | (go_at_call 20; refine (HIX.out _ r4).mono ?_; rintro e v5 ⟨rfl, q5⟩; have r5 := HX.out _ _ r4 q5)
        | (go_at_call 21; refine (HRX.out _ r5).mono ?_; rintro e v6 ⟨rfl, q6⟩; have r6 := HX.out _ _ r5 q6)))
    have B6 := Lib.hid r6
    have HO6 := Lib.hid ((((HO1.out.drew.below q3).below q4).below q5).below q6)
    clear q3 q4 q5 q6 r3 r4 r5 r6 o3 HO1 B1 tr
    go_wp2_with fail
    refine (spoilSpots_any A1 c1 L _ v6 HO6.out (by have := HL.out; omega)).mono ?_
    rintro e w7 ⟨rfl, hg⟩
    have B7 := Lib.hid (show Below (w.heap.size + 1) (w.alloc (.cells #[.int .i64 s1, .int .i64 s2] 24)) w7 from B6.out.grown hg (by have := B6.out.size; simpa using this) (fun g hv => by have := (HO6.out.blk g hv).1; simpa using this))
    clear hg HO6 B6
    go_wp2_with fail
    refine (HT.out _ B7.out).mono ?_
    rintro e w8 ⟨A8, c8, rfl, own, hb⟩
    have HO8 := Lib.hid own
    have B8 := Lib.hid (HX.out _ _ B7.out hb)
    clear own hb B7
    go_wp2_with fail
    refine (HRT.out _ B8.out).mono ?_
    rintro e w9 ⟨A9, c9, rfl, own, hb⟩
    have HO9 := Lib.hid own.pairs
    have HO8' := Lib.hid (HO8.out.below hb).pairs
    have B9 := Lib.hid (HX.out _ _ B8.out hb)
    clear own hb B8 HO8
    go_wp2_with fail
    refine (sameSpots_any A8 A9 c8 c9 L _ _ w9 HO8'.out HO9.out).mono ?_
    rintro e w10 ⟨rfl, hb⟩
    have B10 := Lib.hid (HX.out _ _ B9.out hb)
    clear hb B9
    go_wp2_with fail
    refine (known_any _).mono ?_
    rintro e w11 ⟨rfl, hb⟩
    have HB := Lib.hid (HW.out _ (HX.out _ _ B10.out hb)).1
    clear hb
    go_wp2_with fail
    go_returns
    exact ⟨by first | rfl | simp, HB.out⟩
end Go.Proofs.Ytjinpmengjfmpaa.Gp
