/- The edges that lead to a task, and from it, by the program and by the document. -/
import Derived.Test.YtjinpmengjfmpaaGpF
import Derived.Test.YtjinpmengjfmpaaGp4
namespace Go.Proofs.Ytjinpmengjfmpaa.Gp
open Go.ChangeShapes Go.WideShapes Go.ChangeAt Go.RowKit M

set_option maxHeartbeats 1000000 in
theorem ins1_any (task : Int) (y : Int × Int) (Bt : Nat) (w : World) (hc : w.cell? ⟨Bt, 0, none⟩ = some (.int .i64 task)) (hlt : Bt < w.heap.size) :
    Calls Try.prog 61 #[.agg #[.int .i64 y.1, .int .i64 y.2], .pointer (some ⟨Bt, 0, none⟩)] w fun e w' => e = .returned (.bool (toF task y)) ∧ Below w.heap.size w w' := by
  obtain ⟨y1, y2⟩ := y
  unfold toF
  simp only
  go_enter Try.func61, Try.ntmps61
  go_wp2_with fail
  go_returns
  exact ⟨by first | rfl | simp, by go_grown⟩

set_option maxHeartbeats 4000000 in
theorem placesIns_any (A : Option Addr) (c : Nat) (L : List (Int × Int)) (task : Int) (Bt B : Nat) (w : World) (hB : B ≤ w.heap.size) (h : IsPairs w B A c L) (hl : L.length ≤ 1000000) (hc : w.cell? ⟨Bt, 0, none⟩ = some (.int .i64 task)) (hlt : Bt < w.heap.size) :
    Calls Try.prog 60 #[.slice A L.length c, .func (.func 61) #[] #[.pointer (some ⟨Bt, 0, none⟩)]] w (RetInts w (insP L task)) := by
  have HX := Lib.hid (h.more hB)
  have HC := Lib.hid hc
  clear h hc
  go_enter Try.func60, Try.ntmps60
  go_wp2_with fail
  go_loopw [5, 9] (fun v q wr => ∃ k : Nat, k ≤ L.length ∧ q = .int .i64 k ∧ OwnI wr w.heap.size v (posF (toF task) 0 (L.take k)) ∧ Below w.heap.size w wr) (fun _ q _ => L.length - (intOf q).toNat)
  case atStart => exact ⟨0, by omega, rfl, OwnI.nil _ _, Below.refl _ _⟩
  case round =>
    obtain ⟨k, hk, rfl, hown, hb⟩ := hrel
    have HO := Lib.hid hown
    have HB := Lib.hid hb
    clear hown hb
    by_cases hlk : k < L.length
    · have t1 : decide (k < L.length) = true := decide_eq_true hlk
      obtain ⟨b, o, y, rfl, hbb, HV, -, c0, c1⟩ := pairs_at (HX.out.below HB.out) hlk
      have HSN := Lib.hid (posF_snoc (f := toF task) hlk HV.out)
      have HIN := Lib.hid (ins1_any task y Bt wr ((HB.out.cell (p := ⟨Bt, 0, none⟩) hlt).trans HC.out) (Nat.lt_of_lt_of_le hlt HB.out.size))
      have HL := Lib.hid (show (posF (toF task) 0 (L.take k)).length < 1000000000 by have := posF_len (f := toF task) 0 (L.take k); rw [List.length_take] at this; omega)
      have HU := Lib.hid (show In64 (k : Int) by unfold In64; omega)
      cases hf : toF task y with
      | true =>
        rw [hf] at HIN HSN
        clear hf
        go_wp2_with fail
        refine HIN.out.mono ?_
        rintro e w1 ⟨rfl, hb⟩
        have HB1 := Lib.hid (through HB.out (Nat.le_refl _) hb)
        have HO1 := Lib.hid (HO.out.below hb)
        clear hb c0 c1
        go_wp2_with (at_builtin; refine app_new rfl _ _ rfl w.heap.size HO1.out rfl HU.out rfl HL.out HB1.out.size ?_; intro v2 w2 ho2 hb2; have HO2 := Lib.hid ho2; have HB2 := Lib.hid hb2; clear ho2 hb2)
        go_roundw
        case rel => exact ⟨k + 1, by omega, by go_num, by rw [HSN.out]; exact HO2.out, HB1.out.trans HB2.out⟩
        case measure => simp [intOf]; omega
      | false =>
        rw [hf] at HIN HSN
        clear hf
        go_wp2_with fail
        refine HIN.out.mono ?_
        rintro e w1 ⟨rfl, hb⟩
        have HB1 := Lib.hid (through HB.out (Nat.le_refl _) hb)
        have HO1 := Lib.hid (HO.out.below hb)
        clear hb c0 c1
        go_wp2_with fail
        go_roundw
        case rel => exact ⟨k + 1, by omega, by go_num, by rw [HSN.out]; simpa using HO1.out, HB1.out⟩
        case measure => simp [intOf]; omega
    · obtain rfl : k = L.length := by omega
      have e := HO.out
      rw [List.take_length] at e
      have HE := Lib.hid e
      clear e
      go_wp2_with fail
      go_returns
      exact ret_ints HE.out HB.out

set_option maxHeartbeats 1000000 in
theorem ins_any (A : Option Addr) (c : Nat) (L : List (Int × Int)) (task : Int) (B : Nat) (w : World) (hB : B ≤ w.heap.size) (h : IsPairs w B A c L) (hl : L.length ≤ 1000000) :
    Calls Try.prog 30 #[.slice A L.length c, .int .i64 task] w (RetInts w (insP L task)) := by
  have hb : Below w.heap.size w (w.alloc (.cells #[.int .i64 task] 3)) := (Below.refl _ _).alloc (Nat.le_refl _) _
  have HP := Lib.hid (placesIns_any A c L task w.heap.size B (w.alloc (.cells #[.int .i64 task] 3)) (by simp; omega) (h.below (hb.mono hB)) hl (by rw [(Blk.new w _ _).cell]; rfl) (by simp))
  have HB := Lib.hid hb
  clear h hb
  go_enter Try.func30, Try.ntmps30
  go_wp2_with fail
  refine HP.out.mono ?_
  rintro e w1 ⟨A1, c1, rfl, own, hb1⟩
  have HO := Lib.hid (own.mono (by simp) : OwnI w1 w.heap.size _ _)
  have HB1 := Lib.hid (HB.out.trans (hb1.mono (by simp)))
  clear own hb1
  go_wp2_with fail
  go_returns
  exact ret_ints HO.out HB1.out

set_option maxHeartbeats 4000000 in
theorem refIns_any (A : Option Addr) (c : Nat) (L : List (Int × Int)) (task : Int) (B : Nat) (w : World) (hB : B ≤ w.heap.size) (h : IsPairs w B A c L) (hl : L.length ≤ 1000000) :
    Calls Try.prog 33 #[.slice A L.length c, .int .i64 task] w (RetInts w (insP L task)) := by
  have HX := Lib.hid (h.more hB)
  clear h
  go_enter Try.func33, Try.ntmps33
  go_wp2_with fail
  go_loopw [5, 6] (fun v q wr => ∃ k : Nat, k ≤ L.length ∧ q = .int .i64 k ∧ OwnI wr w.heap.size v (posF (toF task) 0 (L.take k)) ∧ Below w.heap.size w wr) (fun _ q _ => L.length - (intOf q).toNat)
  case atStart => exact ⟨0, by omega, rfl, OwnI.nil _ _, Below.refl _ _⟩
  case round =>
    obtain ⟨k, hk, rfl, hown, hb⟩ := hrel
    have HO := Lib.hid hown
    have HB := Lib.hid hb
    clear hown hb
    by_cases hlk : k < L.length
    · have t1 : decide (k < L.length) = true := decide_eq_true hlk
      obtain ⟨b, o, y, rfl, hbb, HV, -, c0, c1⟩ := pairs_at (HX.out.below HB.out) hlk
      have HSN := Lib.hid (posF_snoc (f := toF task) hlk HV.out)
      have HL := Lib.hid (show (posF (toF task) 0 (L.take k)).length < 1000000000 by have := posF_len (f := toF task) 0 (L.take k); rw [List.length_take] at this; omega)
      have HU := Lib.hid (show In64 (k : Int) by unfold In64; omega)
      obtain ⟨y1, y2⟩ := y
      simp only at c0 c1
      cases hf : (y2 == task) with
      | true =>
        have hf2 : toF task (y1, y2) = true := hf
        rw [hf2] at HSN
        clear hf2
        go_wp2_with (at_builtin; refine app_new rfl _ _ rfl w.heap.size HO.out rfl HU.out rfl HL.out HB.out.size ?_; intro v2 w2 ho2 hb2; have HO2 := Lib.hid ho2; have HB2 := Lib.hid hb2; clear ho2 hb2)
        go_roundw
        case rel => exact ⟨k + 1, by omega, by go_num, by rw [HSN.out]; exact HO2.out, HB.out.trans HB2.out⟩
        case measure => simp [intOf]; omega
      | false =>
        have hf2 : toF task (y1, y2) = false := hf
        rw [hf2] at HSN
        clear hf2
        go_wp2_with fail
        go_roundw
        case rel => exact ⟨k + 1, by omega, by go_num, by rw [HSN.out]; simpa using HO.out, HB.out⟩
        case measure => simp [intOf]; omega
    · obtain rfl : k = L.length := by omega
      have e := HO.out
      rw [List.take_length] at e
      have HE := Lib.hid e
      clear e
      go_wp2_with fail
      go_returns
      exact ret_ints HE.out HB.out

set_option maxHeartbeats 1000000 in
theorem outs1_any (task : Int) (y : Int × Int) (Bt : Nat) (w : World) (hc : w.cell? ⟨Bt, 0, none⟩ = some (.int .i64 task)) (hlt : Bt < w.heap.size) :
    Calls Try.prog 62 #[.agg #[.int .i64 y.1, .int .i64 y.2], .pointer (some ⟨Bt, 0, none⟩)] w fun e w' => e = .returned (.bool (fromF task y)) ∧ Below w.heap.size w w' := by
  obtain ⟨y1, y2⟩ := y
  unfold fromF
  simp only
  go_enter Try.func62, Try.ntmps62
  go_wp2_with fail
  go_returns
  exact ⟨by first | rfl | simp, by go_grown⟩

set_option maxHeartbeats 4000000 in
theorem placesOuts_any (A : Option Addr) (c : Nat) (L : List (Int × Int)) (task : Int) (Bt B : Nat) (w : World) (hB : B ≤ w.heap.size) (h : IsPairs w B A c L) (hl : L.length ≤ 1000000) (hc : w.cell? ⟨Bt, 0, none⟩ = some (.int .i64 task)) (hlt : Bt < w.heap.size) :
    Calls Try.prog 60 #[.slice A L.length c, .func (.func 62) #[] #[.pointer (some ⟨Bt, 0, none⟩)]] w (RetInts w (outsP L task)) := by
  have HX := Lib.hid (h.more hB)
  have HC := Lib.hid hc
  clear h hc
  go_enter Try.func60, Try.ntmps60
  go_wp2_with fail
  go_loopw [5, 9] (fun v q wr => ∃ k : Nat, k ≤ L.length ∧ q = .int .i64 k ∧ OwnI wr w.heap.size v (posF (fromF task) 0 (L.take k)) ∧ Below w.heap.size w wr) (fun _ q _ => L.length - (intOf q).toNat)
  case atStart => exact ⟨0, by omega, rfl, OwnI.nil _ _, Below.refl _ _⟩
  case round =>
    obtain ⟨k, hk, rfl, hown, hb⟩ := hrel
    have HO := Lib.hid hown
    have HB := Lib.hid hb
    clear hown hb
    by_cases hlk : k < L.length
    · have t1 : decide (k < L.length) = true := decide_eq_true hlk
      obtain ⟨b, o, y, rfl, hbb, HV, -, c0, c1⟩ := pairs_at (HX.out.below HB.out) hlk
      have HSN := Lib.hid (posF_snoc (f := fromF task) hlk HV.out)
      have HIN := Lib.hid (outs1_any task y Bt wr ((HB.out.cell (p := ⟨Bt, 0, none⟩) hlt).trans HC.out) (Nat.lt_of_lt_of_le hlt HB.out.size))
      have HL := Lib.hid (show (posF (fromF task) 0 (L.take k)).length < 1000000000 by have := posF_len (f := fromF task) 0 (L.take k); rw [List.length_take] at this; omega)
      have HU := Lib.hid (show In64 (k : Int) by unfold In64; omega)
      cases hf : fromF task y with
      | true =>
        rw [hf] at HIN HSN
        clear hf
        go_wp2_with fail
        refine HIN.out.mono ?_
        rintro e w1 ⟨rfl, hb⟩
        have HB1 := Lib.hid (through HB.out (Nat.le_refl _) hb)
        have HO1 := Lib.hid (HO.out.below hb)
        clear hb c0 c1
        go_wp2_with (at_builtin; refine app_new rfl _ _ rfl w.heap.size HO1.out rfl HU.out rfl HL.out HB1.out.size ?_; intro v2 w2 ho2 hb2; have HO2 := Lib.hid ho2; have HB2 := Lib.hid hb2; clear ho2 hb2)
        go_roundw
        case rel => exact ⟨k + 1, by omega, by go_num, by rw [HSN.out]; exact HO2.out, HB1.out.trans HB2.out⟩
        case measure => simp [intOf]; omega
      | false =>
        rw [hf] at HIN HSN
        clear hf
        go_wp2_with fail
        refine HIN.out.mono ?_
        rintro e w1 ⟨rfl, hb⟩
        have HB1 := Lib.hid (through HB.out (Nat.le_refl _) hb)
        have HO1 := Lib.hid (HO.out.below hb)
        clear hb c0 c1
        go_wp2_with fail
        go_roundw
        case rel => exact ⟨k + 1, by omega, by go_num, by rw [HSN.out]; simpa using HO1.out, HB1.out⟩
        case measure => simp [intOf]; omega
    · obtain rfl : k = L.length := by omega
      have e := HO.out
      rw [List.take_length] at e
      have HE := Lib.hid e
      clear e
      go_wp2_with fail
      go_returns
      exact ret_ints HE.out HB.out

set_option maxHeartbeats 1000000 in
theorem outs_any (A : Option Addr) (c : Nat) (L : List (Int × Int)) (task : Int) (B : Nat) (w : World) (hB : B ≤ w.heap.size) (h : IsPairs w B A c L) (hl : L.length ≤ 1000000) :
    Calls Try.prog 31 #[.slice A L.length c, .int .i64 task] w (RetInts w (outsP L task)) := by
  have hb : Below w.heap.size w (w.alloc (.cells #[.int .i64 task] 3)) := (Below.refl _ _).alloc (Nat.le_refl _) _
  have HP := Lib.hid (placesOuts_any A c L task w.heap.size B (w.alloc (.cells #[.int .i64 task] 3)) (by simp; omega) (h.below (hb.mono hB)) hl (by rw [(Blk.new w _ _).cell]; rfl) (by simp))
  have HB := Lib.hid hb
  clear h hb
  go_enter Try.func31, Try.ntmps31
  go_wp2_with fail
  refine HP.out.mono ?_
  rintro e w1 ⟨A1, c1, rfl, own, hb1⟩
  have HO := Lib.hid (own.mono (by simp) : OwnI w1 w.heap.size _ _)
  have HB1 := Lib.hid (HB.out.trans (hb1.mono (by simp)))
  clear own hb1
  go_wp2_with fail
  go_returns
  exact ret_ints HO.out HB1.out

set_option maxHeartbeats 4000000 in
theorem refOuts_any (A : Option Addr) (c : Nat) (L : List (Int × Int)) (task : Int) (B : Nat) (w : World) (hB : B ≤ w.heap.size) (h : IsPairs w B A c L) (hl : L.length ≤ 1000000) :
    Calls Try.prog 34 #[.slice A L.length c, .int .i64 task] w (RetInts w (outsP L task)) := by
  have HX := Lib.hid (h.more hB)
  clear h
  go_enter Try.func34, Try.ntmps34
  go_wp2_with fail
  go_loopw [5, 6] (fun v q wr => ∃ k : Nat, k ≤ L.length ∧ q = .int .i64 k ∧ OwnI wr w.heap.size v (posF (fromF task) 0 (L.take k)) ∧ Below w.heap.size w wr) (fun _ q _ => L.length - (intOf q).toNat)
  case atStart => exact ⟨0, by omega, rfl, OwnI.nil _ _, Below.refl _ _⟩
  case round =>
    obtain ⟨k, hk, rfl, hown, hb⟩ := hrel
    have HO := Lib.hid hown
    have HB := Lib.hid hb
    clear hown hb
    by_cases hlk : k < L.length
    · have t1 : decide (k < L.length) = true := decide_eq_true hlk
      obtain ⟨b, o, y, rfl, hbb, HV, -, c0, c1⟩ := pairs_at (HX.out.below HB.out) hlk
      have HSN := Lib.hid (posF_snoc (f := fromF task) hlk HV.out)
      have HL := Lib.hid (show (posF (fromF task) 0 (L.take k)).length < 1000000000 by have := posF_len (f := fromF task) 0 (L.take k); rw [List.length_take] at this; omega)
      have HU := Lib.hid (show In64 (k : Int) by unfold In64; omega)
      obtain ⟨y1, y2⟩ := y
      simp only at c0 c1
      cases hf : (y1 == task) with
      | true =>
        have hf2 : fromF task (y1, y2) = true := hf
        rw [hf2] at HSN
        clear hf2
        go_wp2_with (at_builtin; refine app_new rfl _ _ rfl w.heap.size HO.out rfl HU.out rfl HL.out HB.out.size ?_; intro v2 w2 ho2 hb2; have HO2 := Lib.hid ho2; have HB2 := Lib.hid hb2; clear ho2 hb2)
        go_roundw
        case rel => exact ⟨k + 1, by omega, by go_num, by rw [HSN.out]; exact HO2.out, HB.out.trans HB2.out⟩
        case measure => simp [intOf]; omega
      | false =>
        have hf2 : fromF task (y1, y2) = false := hf
        rw [hf2] at HSN
        clear hf2
        go_wp2_with fail
        go_roundw
        case rel => exact ⟨k + 1, by omega, by go_num, by rw [HSN.out]; simpa using HO.out, HB.out⟩
        case measure => simp [intOf]; omega
    · obtain rfl : k = L.length := by omega
      have e := HO.out
      rw [List.take_length] at e
      have HE := Lib.hid e
      clear e
      go_wp2_with fail
      go_returns
      exact ret_ints HE.out HB.out
end Go.Proofs.Ytjinpmengjfmpaa.Gp
