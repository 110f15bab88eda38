/- Jobs: two that are the same. -/
import Derived.Test.YtfpikpglollkoaaSp16
namespace Go.Proofs.Ytfpikpglollkoaa.Sp
open Go.ChangeShapes Go.WideShapes Go.ChangeAt Go.RowKit M

set_option maxHeartbeats 2000000 in
theorem sameOp_any (o : OpP) (a1 a2 : Option Addr × Nat) (B : Nat) (w : World) (hB : B ≤ w.heap.size) (h1 : IsInts w B ⟨a1.1, a1.2, o.ins⟩) (h2 : IsInts w B ⟨a2.1, a2.2, o.ins⟩) :
    Calls Try.prog 54 #[.agg #[.int .i64 o.kind, .slice a1.1 o.ins.length a1.2, .int .i64 o.fo, .int .i64 o.fa, .int .i64 o.fb, .int .i64 o.parts, .int .i64 o.rate, .int .i64 o.cost], .agg #[.int .i64 o.kind, .slice a2.1 o.ins.length a2.2, .int .i64 o.fo, .int .i64 o.fa, .int .i64 o.fb, .int .i64 o.parts, .int .i64 o.rate, .int .i64 o.cost]] w fun e w' => e = .returned (.bool true) ∧ Below w.heap.size w w' := by
  obtain ⟨X, hX⟩ : ∃ X, ((w.alloc (.cells #[.int .i64 o.kind, .slice a1.1 o.ins.length a1.2, .int .i64 o.fo, .int .i64 o.fa, .int .i64 o.fb, .int .i64 o.parts, .int .i64 o.rate, .int .i64 o.cost] 38)).alloc (.cells #[.int .i64 o.kind, .slice a2.1 o.ins.length a2.2, .int .i64 o.fo, .int .i64 o.fa, .int .i64 o.fb, .int .i64 o.parts, .int .i64 o.rate, .int .i64 o.cost] 38)) = X := ⟨_, rfl⟩
  have k1 : Blk X w.heap.size 38 (opArr o a1) := hX ▸ (Blk.new w _ _).alloc _
  have k2 : Blk X (w.heap.size + 1) 38 #[.int .i64 o.kind, .slice a2.1 o.ins.length a2.2, .int .i64 o.fo, .int .i64 o.fa, .int .i64 o.fb, .int .i64 o.parts, .int .i64 o.rate, .int .i64 o.cost] := hX ▸ (by have := Blk.new (w.alloc (.cells #[.int .i64 o.kind, .slice a1.1 o.ins.length a1.2, .int .i64 o.fo, .int .i64 o.fa, .int .i64 o.fb, .int .i64 o.parts, .int .i64 o.rate, .int .i64 o.cost] 38)) 38 #[.int .i64 o.kind, .slice a2.1 o.ins.length a2.2, .int .i64 o.fo, .int .i64 o.fa, .int .i64 o.fb, .int .i64 o.parts, .int .i64 o.rate, .int .i64 o.cost]; simpa using this)
  have k3 : Below w.heap.size w X := hX ▸ (((Below.refl _ _).alloc (Nat.le_refl _) _).alloc (by simp) _)
  have k4 : X.heap.size = w.heap.size + 1 + 1 := hX ▸ (by simp)
  have HS := Lib.hid (sameInts_any a1.1 a2.1 a1.2 a2.2 o.ins o.ins B B X (h1.below (k3.mono hB)) (h2.below (k3.mono hB)))
  rw [sameB_yes rfl] at HS
  have HF : Hid (∀ Y, Below X.heap.size X Y → Blk Y w.heap.size 38 (opArr o a1) ∧ Blk Y (w.heap.size + 1) 38 (opArr o a2) ∧ Below w.heap.size w Y) := fun Y hY => ⟨k1.below hY (by omega), k2.below hY (by omega), through k3 (Nat.le_refl _) hY⟩
  have HX := Lib.hid hX
  clear hX k1 k2 k3 k4 h1 h2
  go_enter Try.func54, Try.ntmps54
  go_upto_region 1 with (fail)
  rw [HX.out]
  obtain ⟨e1, e2, -⟩ := HF.out X (Below.refl _ _)
  obtain ⟨x0, x1, -⟩ := op_blk e1
  obtain ⟨y0, y1, -⟩ := op_blk e2
  clear e1 e2
  go_wp2_with fail
  refine HS.out.mono ?_
  rintro e w1 ⟨rfl, hb1⟩
  obtain ⟨e1, e2, e3⟩ := HF.out w1 hb1
  have HB := Lib.hid e3
  clear x0 x1 y0 y1 hb1 e3
  obtain ⟨-, -, x2, x3, x4, x5, x6, x7⟩ := op_blk e1
  obtain ⟨-, -, y2, y3, y4, y5, y6, y7⟩ := op_blk e2
  clear e1 e2
  go_wp2_with fail
  go_returns
  exact ⟨by first | rfl | simp, HB.out⟩

set_option maxHeartbeats 4000000 in
theorem sameSpec_any (g : Int) (A D : Option Addr) (c d : Nat) (l : List OpP) (p1 p2 : Nat → Option Addr × Nat) (hl : l.length ≤ 1000) (w : World) (B : Nat) (hB : B ≤ w.heap.size) (h1 : IsOps w B A l p1) (h2 : IsOps w B D l p2) :
    Calls Try.prog 19 #[.agg #[.int .i64 g, .slice A l.length c], .agg #[.int .i64 g, .slice D l.length d]] w fun e w' => e = .returned (.bool true) ∧ Below w.heap.size w w' := by
  have HH1 := Lib.hid h1
  have HH2 := Lib.hid h2
  clear h1 h2
  have tg : (g != g) = false := by simp
  have tl : ((l.length : Int) != (l.length : Int)) = false := by simp
  go_enter Try.func19, Try.ntmps19
  go_wp2_with fail
  clear tg tl
  go_loopw [5] (fun q wr => ∃ k : Nat, k ≤ l.length ∧ q = .int .i64 k ∧ Below w.heap.size w wr ∧ Blk wr w.heap.size 24 #[.int .i64 g, .slice A l.length c] ∧ Blk wr (w.heap.size + 1) 24 #[.int .i64 g, .slice D l.length d]) (fun q _ => l.length - (intOf q).toNat)
  case atStart =>
    refine ⟨0, by omega, rfl, ((Below.refl _ _).alloc (Nat.le_refl _) _).alloc (by simp) _, (Blk.new w _ _).alloc _, ?_⟩
    have := Blk.new (w.alloc (.cells #[.int .i64 g, .slice A l.length c] 24)) 24 #[.int .i64 g, .slice D l.length d]
    simpa using this
  case round =>
    obtain ⟨k, hk, rfl, hbl, hb1, hb2⟩ := hrel
    have HB := Lib.hid hbl
    have HB1 := Lib.hid hb1
    have HB2 := Lib.hid hb2
    have hsz : w.heap.size + 2 ≤ wr.heap.size := by have := hb2.lt; omega
    have s1 := (spec_blk hb1).2
    have s2 := (spec_blk hb2).2
    by_cases hlt : k < l.length
    · obtain ⟨b, o, rfl, hb, c0, c1, c2, c3, c4, c5, c6, c7, -, hin1⟩ := (HH1.out.below (hbl.mono hB)).at_ hlt
      obtain ⟨b', o', rfl, hb', d0, d1, d2, d3, d4, d5, d6, d7, -, hin2⟩ := (HH2.out.below (hbl.mono hB)).at_ hlt
      unfold kindOf at c0 d0
      unfold insOf at c1 d1 hin1 hin2
      have HIN1 := Lib.hid hin1
      have HIN2 := Lib.hid hin2
      clear hbl hb1 hb2 hin1 hin2
      generalize opOf l k = O at *
      generalize p1 k = a1 at *
      generalize p2 k = a2 at *
      have HC : Hid (∀ Y, Below wr.heap.size wr Y → Calls Try.prog 54 #[.agg #[.int .i64 O.kind, .slice a1.1 O.ins.length a1.2, .int .i64 O.fo, .int .i64 O.fa, .int .i64 O.fb, .int .i64 O.parts, .int .i64 O.rate, .int .i64 O.cost], .agg #[.int .i64 O.kind, .slice a2.1 O.ins.length a2.2, .int .i64 O.fo, .int .i64 O.fa, .int .i64 O.fb, .int .i64 O.parts, .int .i64 O.rate, .int .i64 O.cost]] Y fun e w' => e = .returned (.bool true) ∧ Below Y.heap.size Y w') := fun Y hY =>
        sameOp_any O a1 a2 B Y (by have := hY.size; omega) (HIN1.out.below (hY.mono (by omega))) (HIN2.out.below (hY.mono (by omega)))
      have HWR := Lib.hid (Below.refl wr.heap.size wr)
      have HBK : Hid (∀ w2, Below wr.heap.size wr w2 → Below w.heap.size w w2 ∧ Blk w2 w.heap.size 24 #[.int .i64 g, .slice (some ⟨b, o, none⟩) l.length c] ∧ Blk w2 (w.heap.size + 1) 24 #[.int .i64 g, .slice (some ⟨b', o', none⟩) l.length d]) := fun w2 h2 =>
        ⟨through HB.out (by omega) h2, HB1.out.below h2 (by omega), HB2.out.below h2 (by omega)⟩
      go_upto_region 6 with (fail)
      go_region_with ((first | (go_at_call 54; refine (HC.out _ (by first | exact HWR.out | exact HWR.out.drew | exact below_drewN HWR.out _)).mono ?_; rintro e w3 ⟨rfl, hb3⟩)))
      all_goals
        obtain ⟨n1, n2, n3⟩ := HBK.out _ (by first | exact hb3 | exact of_drew hb3)
        have N1 := Lib.hid n1
        have N2 := Lib.hid n2
        have N3 := Lib.hid n3
        clear hb3 n1 n2 n3 s1 s2 c0 c1 c2 c3 c4 c5 c6 c7 d0 d1 d2 d3 d4 d5 d6 d7
        go_wp2
        go_roundw
        case rel => exact ⟨k + 1, by omega, by go_num, N1.out, N2.out, N3.out⟩
        case measure => simp [intOf]; omega
    · obtain rfl : k = l.length := by omega
      clear hbl hb1 hb2
      go_wp2_with fail
      go_returns
      exact ⟨rfl, HB.out⟩
end Go.Proofs.Ytfpikpglollkoaa.Sp
