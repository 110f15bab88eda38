/- Jobs turned: the program's own making of them. -/
import Derived.Test.YtcechimilefihaaZj
import Derived.Test.YtcechimilefihaaSpP6Y

namespace Go.Proofs.Ytcechimilefihaa.Sp
open Go.ChangeShapes Go.WideShapes Go.ChangeAt Go.RowKit M

theorem turn_take {l : List OpP} {k : Nat} (hk : k < l.length) : (turnL l).take (k + 1) = (turnL l).take k ++ [turnO l.length (opOf l (l.length - 1 - k))] := by
  rw [opTake (by rw [turnL_len]; exact hk), turn_op hk]
theorem map_take {n : Nat} {xs : List Int} {k : Nat} {v : Int} (hk : k < xs.length) (hv : xs.getD k 0 = v) : (xs.take (k + 1)).map (sig n) = (xs.take k).map (sig n) ++ [(n : Int) - 1 - v] := by
  rw [List.take_add_one, List.getElem?_eq_getElem hk, List.map_append]
  rw [List.getD_eq_getElem?_getD, List.getElem?_eq_getElem hk] at hv
  have hv' : xs[k] = v := hv
  simp [hv', sig]

set_option maxHeartbeats 4000000 in
theorem turned_any (g : Int) (A : Option Addr) (c : Nat) (l : List OpP) (p : Nat → Option Addr × Nat) (hl : l.length ≤ 1000) (hil : ∀ i, i < l.length → (insOf l i).length ≤ 1000)
    (hix : ∀ i, i < l.length → ∀ x ∈ insOf l i, 0 ≤ x ∧ x < l.length) (w : World) (B : Nat) (hB : B ≤ w.heap.size) (h : IsOps w B A l p) :
    Calls Try.prog 73 #[.agg #[.int .i64 g, .slice A l.length c]] w (RetSpec w g (turnL l)) := by
  have HH := Lib.hid h
  have HIL := Lib.hid hil
  have HIX := Lib.hid hix
  clear h hil hix
  go_enter Try.func73, Try.ntmps73
  go_wp2_with fail
  go_loopw [5] (fun q wr => ∃ (k : Nat) (A2 : Option Addr) (c2 : Nat) (p2 : Nat → Option Addr × Nat), k ≤ l.length ∧ q = .int .i64 ((l.length : Int) - 1 - k) ∧ Below (w.heap.size + 1) (w.alloc (.cells #[.int .i64 g, .slice A l.length c] 24)) wr ∧
      Blk wr (w.heap.size + 1) 24 #[.int .i64 0, .slice none 0 0] ∧ Blk wr (w.heap.size + 1 + 1) 24 #[.int .i64 g, .slice A2 k c2] ∧ OwnOps wr (w.heap.size + 3) (.slice A2 k c2) ((turnL l).take k) p2) (fun q _ => (intOf q + 1).toNat)
  case atStart =>
    refine ⟨0, none, 0, fun _ => (none, 0), by omega, by go_num, ((Below.refl _ _).alloc (by simp) _).alloc (by simp) _, ?_, ?_, OwnOps.nil _ _ _⟩
    · have := (Blk.new (w.alloc (.cells #[.int .i64 g, .slice A l.length c] 24)) 24 #[.int .i64 0, .slice none 0 0]).alloc (.cells #[.int .i64 g, .slice none 0 0] 24)
      simpa using this
    · have := Blk.new ((w.alloc (.cells #[.int .i64 g, .slice A l.length c] 24)).alloc (.cells #[.int .i64 0, .slice none 0 0] 24)) 24 #[.int .i64 g, .slice none 0 0]
      simpa using this
  case round =>
    obtain ⟨k, A2, c2, p2, hk, rfl, hbl, hb1, hb2, hown⟩ := hrel
    obtain ⟨wo, rfl⟩ : ∃ wo : World, wo = wr := ⟨_, rfl⟩
    have HB := Lib.hid hbl
    have HB1 := Lib.hid hb1
    have HB2 := Lib.hid hb2
    have HOW := Lib.hid hown
    have hsz : w.heap.size + 3 ≤ wo.heap.size := by have := hb2.lt; omega
    have s1 : wo.cell? ⟨w.heap.size, 1, none⟩ = some (.slice A l.length c) := (hbl.cell (p := ⟨w.heap.size, 1, none⟩) (by show w.heap.size < _; omega)).trans (by go_simp)
    clear hbl hb1 hb2 hown
    by_cases hlt : k < l.length
    · obtain ⟨i, hi⟩ : ∃ i : Nat, l.length - 1 - k = i := ⟨_, rfl⟩
      have hil : i < l.length := by omega
      obtain ⟨b, o, rfl, hb, c0, c1, c2', c3, c4, c5, c6, c7, hoi, hin⟩ := (((HH.out.more hB).alloc (Nat.le_refl _) (.cells #[.int .i64 g, .slice A l.length c] 24)).below (HB.out.mono (by omega))).at_ hil
      have HT := Lib.hid (turn_take hlt)
      rw [hi] at HT
      have HLN : Hid (((turnL l).take k).length = k) := by show _ = _; rw [List.length_take, turnL_len]; omega
      have hxl := HIL.out i hil
      have HXB := Lib.hid (HIX.out i hil)
      have HOI := Lib.hid hoi
      have HIN := Lib.hid hin
      have hii : (l.length : Int) - 1 - (k : Int) = (i : Int) := by omega
      have HI := Lib.hid (show i + k + 1 = l.length by omega)
      unfold kindOf at c0
      unfold insOf at c1 hxl HIN HXB
      clear hoi hin hi
      rw [hii]
      clear hii
      generalize opOf l i = O at *
      generalize p i = a at *
      generalize turnL l = T at *
      have hbw : b < wo.heap.size := by omega
      go_upto_region 7 with (fail)
      obtain ⟨X, hX⟩ : ∃ X, (wo.alloc (.cells #[.int .i64 O.kind, .slice a.1 O.ins.length a.2, .int .i64 O.fo, .int .i64 O.fa, .int .i64 O.fb, .int .i64 O.parts, .int .i64 O.rate, .int .i64 O.cost] 40)) = X := ⟨_, rfl⟩
      have kO : Blk X wo.heap.size 40 (opArr O a) := hX ▸ Blk.new wo _ _
      have kX : X.heap.size = wo.heap.size + 1 := hX ▸ (by simp)
      have kB : Below wo.heap.size wo X := hX ▸ ((Below.refl _ _).alloc (Nat.le_refl _) _)
      (try rw [hX])
      clear hX c0 c1 c2' c3 c4 c5 c6 c7 s1
      have HO := Lib.hid kO
      have HKX := Lib.hid kX
      have HKB := Lib.hid kB
      clear kO kX kB
      go_upto_region 9 with (fail)
      go_loopw [7, 8] (fun v q wi => ∃ m : Nat, m ≤ O.ins.length ∧ q = .int .i64 m ∧ OwnI wi X.heap.size v ((O.ins.take m).map (sig l.length)) ∧ Below X.heap.size X wi) (fun _ q _ => O.ins.length - (intOf q).toNat)
      case atStart => exact ⟨0, by omega, rfl, OwnI.nil _ _, Below.refl _ _⟩
      case round =>
        obtain ⟨m, hm, rfl, hownm, hbm⟩ := hrel
        have HM := Lib.hid hownm
        have HBM := Lib.hid hbm
        have hsx : wo.heap.size + 1 ≤ wr.heap.size := by have := hbm.size; rw [HKX.out] at this; omega
        have kOm : Blk wr wo.heap.size 40 (opArr O a) := HO.out.below hbm (by rw [HKX.out]; omega)
        have HOm := Lib.hid kOm
        obtain ⟨-, o1, -⟩ := op_blk kOm
        clear hownm hbm kOm
        by_cases hml : m < O.ins.length
        · obtain ⟨b2, o2, v, ea, hb2, HV, -, hc⟩ := ints_at (HIN.out.below ((HKB.out.mono (by omega)).trans (HBM.out.mono (by rw [HKX.out]; omega)))) hml
          rw [ea] at o1
          obtain ⟨hv0, hv1⟩ := HXB.out v (by rw [← HV.out]; exact getD_mem hml)
          have HMT := Lib.hid (map_take (n := l.length) hml HV.out)
          clear ea
          go_wp2_with (at_builtin; refine app_new (u := (l.length : Int) - 1 - v) rfl _ _ rfl X.heap.size HM.out rfl (by unfold In64; omega) rfl (by rw [List.length_map, List.length_take]; omega) (by rw [HKX.out]; omega) ?_)
          intro v' w2 hown2 hb2
          have HO2 := Lib.hid hown2
          have HB2 := Lib.hid (HBM.out.trans hb2)
          clear hown2 hb2
          go_wp2
          go_roundw
          case rel => exact ⟨m + 1, by omega, by go_num, by rw [HMT.out, List.map_take]; exact HO2.out, HB2.out⟩
          case measure => simp [intOf]; omega
        · obtain rfl : m = O.ins.length := by omega
          obtain ⟨w2, hw2⟩ : ∃ x, wr = x := ⟨_, rfl⟩
          rw [hw2] at HM HBM HOm hsx o1 ⊢
          clear hw2
          have hmi := HM.out
          rw [List.take_length] at hmi
          have HMI := Lib.hid (show OwnI w2 X.heap.size _ (turnO l.length O).ins from hmi)
          clear hmi
          obtain ⟨A5, c5, rfl⟩ := HMI.out.form
          have kO2 := HOm.out
          obtain ⟨W3, hW3⟩ : ∃ W, w2.setCell ⟨wo.heap.size, 1, none⟩ (.slice A5 (turnO l.length O).ins.length c5) = W := ⟨_, rfl⟩
          have kO3 : Blk W3 wo.heap.size 40 (opArr (turnO l.length O) (A5, c5)) := hW3 ▸ kO2.set_ 1 (.slice A5 (turnO l.length O).ins.length c5)
          have hB3 : Below wo.heap.size wo W3 := hW3 ▸ ((HKB.out.trans (HBM.out.mono (by rw [HKX.out]; omega))).setCell (by simp) _)
          have hown3 : OwnI W3 (w.heap.size + 3) (.slice A5 (turnO l.length O).ins.length c5) (turnO l.length O).ins := hW3 ▸ ((HMI.out.far (fun e => by have h9 := (HMI.out.blk _ e).1; rw [HKX.out] at h9; exact absurd h9 (Nat.not_succ_le_self _)) _).mono (by rw [HKX.out]; omega))
          have hoi3 : OpIn (turnO l.length O) := HOI.out
          have HOP := Lib.hid (HOW.out.below hB3)
          have HW1 := Lib.hid (HB1.out.below hB3 (by omega))
          have HW2 := Lib.hid (HB2.out.below hB3 (by omega))
          have HBW := Lib.hid (through HB.out (by simp) hB3)
          have hsz3 : wo.heap.size ≤ W3.heap.size := hB3.size
          have HOWN3 := Lib.hid hown3
          have HOI3 := Lib.hid hoi3
          have HSET := Lib.hid hW3
          have hfr := kO2.frozen 1
          obtain ⟨x0, x1, x2, x3, x4, x5, x6, x7⟩ := op_blk kO2
          clear HMI HM
          generalize turnO l.length O = O2 at *
          obtain ⟨o0', o1', o2', o3', o4', o5', o6', o7'⟩ := op_blk kO3
          obtain ⟨-, e1⟩ := spec_blk HW2.out
          have hf2 := HW2.out.frozen 1
          clear kO2 kO3 hB3 hown3 o1 hW3 hoi3
          go_upto_region 13 with (fail)
          rw [HSET.out]
          have HLL := Lib.hid (show (T.take k).length < 1000000 by rw [HLN.out]; omega)
          have HZ := Lib.hid (show w.heap.size + 3 ≤ W3.heap.size by omega)
          clear x0 x1 x2 x3 x4 x5 x6 x7 hfr HSET
          have ha1 : ∀ w4, Below (w.heap.size + 3) W3 w4 → Blk w4 (w.heap.size + 1 + 1) 24 #[.int .i64 g, .slice A2 k c2] := fun w4 h4 => HW2.out.below h4 (by omega)
          have HA1 := Lib.hid ha1
          clear ha1
          go_wp2_with (at_builtin; refine app_op (o := O2) (q := (A5, c5)) rfl _ _ rfl (w.heap.size + 3) HOP.out rfl HOI3.out HOWN3.out rfl HLL.out HZ.out ?_)
          intro v' w4 hown4 hb4
          obtain ⟨A4, c4, rfl⟩ := hown4.form
          have HO4 := Lib.hid hown4
          have HB4 := Lib.hid hb4
          obtain ⟨n4, hn4⟩ : ∃ n, (T.take k ++ [O2]).length = n := ⟨_, rfl⟩
          rw [hn4] at HO4 ⊢
          have HN4 := Lib.hid (show n4 = k + 1 by rw [← hn4, List.length_append, HLN.out]; rfl)
          have kk := HA1.out w4 hb4
          have kc := (spec_blk kk).2
          have kf := kk.frozen 1
          have HKK := Lib.hid kk
          clear hown4 hb4 hn4 kk
          go_wp2
          go_roundw
          case rel =>
            refine ⟨k + 1, A4, c4, updP p2 k (A5, c5), by omega, (by have h9 := HI.out; go_num), ((HBW.out.trans (HB4.out.mono (by omega))).setCell (by simp) _), ?_, ?_, ?_⟩
            · exact (HW1.out.below HB4.out (by omega)).far (by simp) _
            · have := HKK.out.set_ 1 (.slice A4 n4 c4)
              rw [HN4.out] at this ⊢
              exact this
            · rw [HT.out]
              have := HO4.out.low (a := ⟨w.heap.size + 1 + 1, 1, none⟩) (by show w.heap.size + 1 + 1 < _; omega) (.slice A4 n4 c4)
              rw [HN4.out] at this ⊢
              rw [show min k T.length = k from (by have h9 := HLN.out; rw [List.length_take] at h9; exact h9)] at this
              exact this
          case measure => first | (simp [intOf]; done) | (simp [intOf]; omega)
    · obtain rfl : k = l.length := by omega
      have hii : (l.length : Int) - 1 - (l.length : Int) = -1 := by omega
      rw [hii]
      clear hii
      have r0 := HB1.out.cell 0
      have r1 := HB1.out.cell 1
      have f0 := HB1.out.frozen 0
      have f1 := HB1.out.frozen 1
      obtain ⟨q0, q1⟩ := spec_blk HB2.out
      have HT : Hid ((turnL l).take l.length = turnL l) := List.take_of_length_le (by rw [turnL_len]; exact Nat.le_refl _)
      have HTL : Hid ((turnL l).length = l.length) := turnL_len l
      have HRB := Lib.hid (show Below w.heap.size w ((wo.setCell ⟨w.heap.size + 1, 0, none⟩ (.int .i64 g)).setCell ⟨w.heap.size + 1, 1, none⟩ (.slice A2 l.length c2)) from ((through ((Below.refl _ _).alloc (Nat.le_refl _) _) (Nat.le_refl _) (HB.out.mono (by simp))).setCell (by simp) _).setCell (by simp) _)
      have HRO := Lib.hid (show OwnOps ((wo.setCell ⟨w.heap.size + 1, 0, none⟩ (.int .i64 g)).setCell ⟨w.heap.size + 1, 1, none⟩ (.slice A2 l.length c2)) (w.heap.size + 3) (.slice A2 (turnL l).length c2) (turnL l) p2 by
        have := (HOW.out.low (a := ⟨w.heap.size + 1, 0, none⟩) (by show w.heap.size + 1 < _; omega) (.int .i64 g)).low (a := ⟨w.heap.size + 1, 1, none⟩) (by show w.heap.size + 1 < _; omega) (.slice A2 l.length c2)
        rw [HT.out] at this; rw [HTL.out]; exact this)
      have HR1 := Lib.hid ((HB1.out.set_ 0 (.int .i64 g)).set_ 1 (.slice A2 l.length c2))
      go_wp2_with fail
      have q0' := HR1.out.cell 0
      have q1' := HR1.out.cell 1
      refine bodyPost_ret (v := .agg #[.int .i64 g, .slice A2 l.length c2]) (by simp [results, Try.results73, go_sem, q0', q1']; try rfl) rfl ⟨A2, c2, p2, ?_, HRO.out.mono (by omega), HRB.out⟩
      rw [HTL.out]
end Go.Proofs.Ytcechimilefihaa.Sp
