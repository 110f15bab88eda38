/- Jobs: the program's users, sources, sinks: one function with three closures. -/
import Derived.Test.YtaodbjgcidkpkaaSp3
import Derived.Test.YtaodbjgcidkpkaaSp4
namespace Go.Proofs.Ytaodbjgcidkpkaa.Sp
open Go.ChangeShapes Go.WideShapes Go.ChangeAt Go.RowKit M

theorem users1_any (o : OpP) (a : Option Addr × Nat) (op : Int) (q B : Nat) (w : World) (hin : IsInts w B ⟨a.1, a.2, o.ins⟩) (hB : B ≤ w.heap.size) (hq : q < w.heap.size) (hc : w.cell? ⟨q, 0, none⟩ = some (.int .i64 op)) :
    Calls Try.prog 49 #[.agg #[.int .i64 o.kind, .slice a.1 o.ins.length a.2, .int .i64 o.fo, .int .i64 o.fa, .int .i64 o.fb, .int .i64 o.parts, .int .i64 o.rate, .int .i64 o.cost], .pointer (some ⟨q, 0, none⟩)] w fun e w' => e = .returned (.bool (hasB o.ins op)) ∧ Below w.heap.size w w' := by
  have HC := Lib.hid (fun w0 hw => contains_any a.1 a.2 o.ins op B w0 hw)
  have HI := Lib.hid (fun ob => hin.keep (w' := w.alloc ob) fun q hq => World.cell?_alloc_lt w _ q (by omega))
  clear hin
  go_enter Try.func49, Try.ntmps49
  go_wp2_with fail
  refine (HC.out _ (HI.out _)).mono ?_
  rintro e w' ⟨rfl, rfl⟩
  go_wp2
  go_returns
  exact ⟨rfl, by go_grown⟩

theorem sources1_any (o : OpP) (a : Option Addr × Nat) (w : World) :
    Calls Try.prog 58 #[.agg #[.int .i64 o.kind, .slice a.1 o.ins.length a.2, .int .i64 o.fo, .int .i64 o.fa, .int .i64 o.fb, .int .i64 o.parts, .int .i64 o.rate, .int .i64 o.cost]] w fun e w' => e = .returned (.bool (o.kind == 1)) ∧ Below w.heap.size w w' := by
  cases h : (o.kind == 1) <;> (go_enter Try.func58, Try.ntmps58; go_wp2; go_returns; exact ⟨by first | rfl | simp_all, by go_grown⟩)
theorem sinks1_any (o : OpP) (a : Option Addr × Nat) (w : World) :
    Calls Try.prog 59 #[.agg #[.int .i64 o.kind, .slice a.1 o.ins.length a.2, .int .i64 o.fo, .int .i64 o.fa, .int .i64 o.fb, .int .i64 o.parts, .int .i64 o.rate, .int .i64 o.cost]] w fun e w' => e = .returned (.bool (o.kind == 8)) ∧ Below w.heap.size w w' := by
  cases h : (o.kind == 8) <;> (go_enter Try.func59, Try.ntmps59; go_wp2; go_returns; exact ⟨by first | rfl | simp_all, by go_grown⟩)

theorem which_users (g : Int) (A : Option Addr) (c : Nat) (l : List OpP) (p : Nat → Option Addr × Nat) (op : Int) (q : Nat) (w : World) (B : Nat) (hB : B ≤ w.heap.size) (h : IsOps w B A l p) (hl : l.length ≤ 1000000) (hq : q < w.heap.size) (hc : w.cell? ⟨q, 0, none⟩ = some (.int .i64 op)) :
    Calls Try.prog 48 #[.agg #[.int .i64 g, .slice A l.length c], .func (.func 49) #[] #[.pointer (some ⟨q, 0, none⟩)]] w (RetInts w (whichF (fun i => hasB (insOf l i) op) l.length)) := by
  have HH := Lib.hid h
  have HF : Hid (∀ k, k < l.length → ∀ w0, Below w.heap.size w w0 → Calls Try.prog 49 #[.agg #[.int .i64 (opOf l k).kind, .slice (p k).1 (opOf l k).ins.length (p k).2, .int .i64 (opOf l k).fo, .int .i64 (opOf l k).fa, .int .i64 (opOf l k).fb, .int .i64 (opOf l k).parts, .int .i64 (opOf l k).rate, .int .i64 (opOf l k).cost], .pointer (some ⟨q, 0, none⟩)] w0 fun e w' => e = .returned (.bool ((fun i => hasB (insOf l i) op) k)) ∧ Below w0.heap.size w0 w') := by
    intro k hk w0 hb0
    exact users1_any (opOf l k) (p k) op q B w0 ((h.2 k hk).2.below (hb0.mono hB)) (Nat.le_trans hB hb0.size) (Nat.lt_of_lt_of_le hq hb0.size) ((hb0.cell (p := ⟨q, 0, none⟩) hq).trans hc)
  obtain ⟨f, hf⟩ : ∃ f : Nat → Bool, (fun i => hasB (insOf l i) op) = f := ⟨_, rfl⟩
  rw [hf] at HF ⊢
  clear h hf hc hq
  go_enter Try.func48, Try.ntmps48
  go_wp2
  go_loopw [5, 11] (fun v q wr => ∃ k : Nat, k ≤ l.length ∧ q = .int .i64 k ∧ OwnI wr (w.heap.size + 1) v (whichF f k) ∧ Below (w.heap.size + 1) (w.alloc (.cells #[.int .i64 g, .slice A l.length c] 24)) wr) (fun _ q _ => l.length - (intOf q).toNat)
  case atStart => exact ⟨0, by omega, rfl, OwnI.nil _ _, Below.refl _ _⟩
  case round =>
    obtain ⟨k, hk, rfl, hown, hbl⟩ := hrel
    have HB := Lib.hid hbl
    have HOW := Lib.hid hown
    clear hown hbl
    by_cases hlt : k < l.length
    · have HK := Lib.hid (HF.out k hlt)
      obtain ⟨b, o, rfl, hb, c0, c1, c2, c3, c4, c5, c6, c7, -⟩ := (HH.out.alloc hB (.cells #[.int .i64 g, .slice A l.length c] 24)).at_ hlt
      unfold kindOf at c0
      unfold insOf at c1
      generalize opOf l k = O at *
      generalize p k = a at *
      have hbw : b < wr.heap.size := by have := HB.out.size; simp at this; omega
      have k0 := (HB.out.cell (p := ⟨b, o + k * 8, none⟩) (by show b < _; omega)).trans c0
      have k1 := (HB.out.cell (p := ⟨b, o + k * 8 + 1, none⟩) (by show b < _; omega)).trans c1
      have k2 := (HB.out.cell (p := ⟨b, o + k * 8 + 2, none⟩) (by show b < _; omega)).trans c2
      have k3 := (HB.out.cell (p := ⟨b, o + k * 8 + 3, none⟩) (by show b < _; omega)).trans c3
      have k4 := (HB.out.cell (p := ⟨b, o + k * 8 + 4, none⟩) (by show b < _; omega)).trans c4
      have k5 := (HB.out.cell (p := ⟨b, o + k * 8 + 5, none⟩) (by show b < _; omega)).trans c5
      have k6 := (HB.out.cell (p := ⟨b, o + k * 8 + 6, none⟩) (by show b < _; omega)).trans c6
      have k7 := (HB.out.cell (p := ⟨b, o + k * 8 + 7, none⟩) (by show b < _; omega)).trans c7
      clear c0 c1 c2 c3 c4 c5 c6 c7
      have hsz : w.heap.size + 1 ≤ wr.heap.size := by have := HB.out.size; simpa using this
      have HX : Hid (∀ ob w2, Below (wr.alloc ob).heap.size (wr.alloc ob) w2 → Below (w.heap.size + 1) (w.alloc (.cells #[.int .i64 g, .slice (some ⟨b, o, none⟩) l.length c] 24)) w2 ∧ OwnI w2 (w.heap.size + 1) u5 (whichF f k) ∧ w.heap.size + 1 ≤ w2.heap.size) := fun ob w2 h2 =>
        ⟨through (HB.out.alloc hsz ob) (by simp) h2, (HOW.out.alloc ob).below h2, by have := h2.size; simp at this; omega⟩
      have HW : Hid (∀ ob, Below w.heap.size w (wr.alloc ob)) := fun ob => (through ((Below.refl _ _).alloc (Nat.le_refl _) _) (Nat.le_refl _) (HB.out.mono (by simp))).alloc (by omega) ob
      have hle := whichF_len f k
      have EY := Lib.hid (fun e => whichF_yes (f := f) (n := k) e)
      have EN := Lib.hid (fun e => whichF_no (f := f) (n := k) e)
      generalize f k = z at *
      cases z with
      | true =>
        have EW := Lib.hid (EY.out rfl)
        go_wp2_with fail
        refine (HK.out _ (HW.out _)).mono ?_
        rintro e w2 ⟨rfl, h2⟩
        obtain ⟨hx1, hx2, hx3⟩ := HX.out _ _ h2
        have HX1 := Lib.hid hx1
        have HX2 := Lib.hid hx2
        clear h2 hx1 hx2 k0 k1 k2 k3 k4 k5 k6 k7
        go_wp2_with (at_builtin; refine app_int rfl _ _ rfl (w.heap.size + 1) rfl (HX2.out.alloc _) (u := (k : Int)) ?hu ⟨w2.heap.size, 0, none⟩ rfl ?hc ?hn ?hs ?_)
        case hu => unfold In64; omega
        case hc => go_simp
        case hn => omega
        case hs => simp; omega
        intro v' w3 hown2 hgr
        have HO2 := Lib.hid hown2
        have HB2 := Lib.hid (grown_below HX1.out HX2.out hgr hx3)
        clear hown2 hgr
        go_wp2
        go_roundw
        case rel => exact ⟨k + 1, by omega, by go_num, by rw [EW.out]; exact HO2.out, HB2.out⟩
        case measure => simp [intOf]; omega
      | false =>
        have EW := Lib.hid (EN.out rfl)
        go_wp2_with fail
        refine (HK.out _ (HW.out _)).mono ?_
        rintro e w2 ⟨rfl, h2⟩
        obtain ⟨hx1, hx2, hx3⟩ := HX.out _ _ h2
        have HX1 := Lib.hid hx1
        have HX2 := Lib.hid hx2
        clear h2 hx1 hx2 k0 k1 k2 k3 k4 k5 k6 k7
        go_wp2
        go_roundw
        case rel => exact ⟨k + 1, by omega, by go_num, by rw [EW.out]; exact HX2.out, HX1.out⟩
        case measure => simp [intOf]; omega
    · obtain rfl : k = l.length := by omega
      go_wp2
      go_returns
      exact ret_ints (HOW.out.mono (by omega)) (through ((Below.refl _ _).alloc (Nat.le_refl _) _) (Nat.le_refl _) (HB.out.mono (by simp)))

theorem which_sources (g : Int) (A : Option Addr) (c : Nat) (l : List OpP) (p : Nat → Option Addr × Nat) (w : World) (B : Nat) (hB : B ≤ w.heap.size) (h : IsOps w B A l p) (hl : l.length ≤ 1000000) :
    Calls Try.prog 48 #[.agg #[.int .i64 g, .slice A l.length c], .func (.func 58) #[] #[]] w (RetInts w (whichF (fun i => kindOf l i == 1) l.length)) := by
  have HH := Lib.hid h
  have HF : Hid (∀ k, k < l.length → ∀ w0, Below w.heap.size w w0 → Calls Try.prog 58 #[.agg #[.int .i64 (opOf l k).kind, .slice (p k).1 (opOf l k).ins.length (p k).2, .int .i64 (opOf l k).fo, .int .i64 (opOf l k).fa, .int .i64 (opOf l k).fb, .int .i64 (opOf l k).parts, .int .i64 (opOf l k).rate, .int .i64 (opOf l k).cost]] w0 fun e w' => e = .returned (.bool ((fun i => kindOf l i == 1) k)) ∧ Below w0.heap.size w0 w') := by
    intro k hk w0 hb0
    exact sources1_any (opOf l k) (p k) w0
  obtain ⟨f, hf⟩ : ∃ f : Nat → Bool, (fun i => kindOf l i == 1) = f := ⟨_, rfl⟩
  rw [hf] at HF ⊢
  clear h hf
  go_enter Try.func48, Try.ntmps48
  go_wp2
  go_loopw [5, 11] (fun v q wr => ∃ k : Nat, k ≤ l.length ∧ q = .int .i64 k ∧ OwnI wr (w.heap.size + 1) v (whichF f k) ∧ Below (w.heap.size + 1) (w.alloc (.cells #[.int .i64 g, .slice A l.length c] 24)) wr) (fun _ q _ => l.length - (intOf q).toNat)
  case atStart => exact ⟨0, by omega, rfl, OwnI.nil _ _, Below.refl _ _⟩
  case round =>
    obtain ⟨k, hk, rfl, hown, hbl⟩ := hrel
    have HB := Lib.hid hbl
    have HOW := Lib.hid hown
    clear hown hbl
    by_cases hlt : k < l.length
    · have HK := Lib.hid (HF.out k hlt)
      obtain ⟨b, o, rfl, hb, c0, c1, c2, c3, c4, c5, c6, c7, -⟩ := (HH.out.alloc hB (.cells #[.int .i64 g, .slice A l.length c] 24)).at_ hlt
      unfold kindOf at c0
      unfold insOf at c1
      generalize opOf l k = O at *
      generalize p k = a at *
      have hbw : b < wr.heap.size := by have := HB.out.size; simp at this; omega
      have k0 := (HB.out.cell (p := ⟨b, o + k * 8, none⟩) (by show b < _; omega)).trans c0
      have k1 := (HB.out.cell (p := ⟨b, o + k * 8 + 1, none⟩) (by show b < _; omega)).trans c1
      have k2 := (HB.out.cell (p := ⟨b, o + k * 8 + 2, none⟩) (by show b < _; omega)).trans c2
      have k3 := (HB.out.cell (p := ⟨b, o + k * 8 + 3, none⟩) (by show b < _; omega)).trans c3
      have k4 := (HB.out.cell (p := ⟨b, o + k * 8 + 4, none⟩) (by show b < _; omega)).trans c4
      have k5 := (HB.out.cell (p := ⟨b, o + k * 8 + 5, none⟩) (by show b < _; omega)).trans c5
      have k6 := (HB.out.cell (p := ⟨b, o + k * 8 + 6, none⟩) (by show b < _; omega)).trans c6
      have k7 := (HB.out.cell (p := ⟨b, o + k * 8 + 7, none⟩) (by show b < _; omega)).trans c7
      clear c0 c1 c2 c3 c4 c5 c6 c7
      have hsz : w.heap.size + 1 ≤ wr.heap.size := by have := HB.out.size; simpa using this
      have HX : Hid (∀ ob w2, Below (wr.alloc ob).heap.size (wr.alloc ob) w2 → Below (w.heap.size + 1) (w.alloc (.cells #[.int .i64 g, .slice (some ⟨b, o, none⟩) l.length c] 24)) w2 ∧ OwnI w2 (w.heap.size + 1) u5 (whichF f k) ∧ w.heap.size + 1 ≤ w2.heap.size) := fun ob w2 h2 =>
        ⟨through (HB.out.alloc hsz ob) (by simp) h2, (HOW.out.alloc ob).below h2, by have := h2.size; simp at this; omega⟩
      have HW : Hid (∀ ob, Below w.heap.size w (wr.alloc ob)) := fun ob => (through ((Below.refl _ _).alloc (Nat.le_refl _) _) (Nat.le_refl _) (HB.out.mono (by simp))).alloc (by omega) ob
      have hle := whichF_len f k
      have EY := Lib.hid (fun e => whichF_yes (f := f) (n := k) e)
      have EN := Lib.hid (fun e => whichF_no (f := f) (n := k) e)
      generalize f k = z at *
      cases z with
      | true =>
        have EW := Lib.hid (EY.out rfl)
        go_wp2_with fail
        refine (HK.out _ (HW.out _)).mono ?_
        rintro e w2 ⟨rfl, h2⟩
        obtain ⟨hx1, hx2, hx3⟩ := HX.out _ _ h2
        have HX1 := Lib.hid hx1
        have HX2 := Lib.hid hx2
        clear h2 hx1 hx2 k0 k1 k2 k3 k4 k5 k6 k7
        go_wp2_with (at_builtin; refine app_int rfl _ _ rfl (w.heap.size + 1) rfl (HX2.out.alloc _) (u := (k : Int)) ?hu ⟨w2.heap.size, 0, none⟩ rfl ?hc ?hn ?hs ?_)
        case hu => unfold In64; omega
        case hc => go_simp
        case hn => omega
        case hs => simp; omega
        intro v' w3 hown2 hgr
        have HO2 := Lib.hid hown2
        have HB2 := Lib.hid (grown_below HX1.out HX2.out hgr hx3)
        clear hown2 hgr
        go_wp2
        go_roundw
        case rel => exact ⟨k + 1, by omega, by go_num, by rw [EW.out]; exact HO2.out, HB2.out⟩
        case measure => simp [intOf]; omega
      | false =>
        have EW := Lib.hid (EN.out rfl)
        go_wp2_with fail
        refine (HK.out _ (HW.out _)).mono ?_
        rintro e w2 ⟨rfl, h2⟩
        obtain ⟨hx1, hx2, hx3⟩ := HX.out _ _ h2
        have HX1 := Lib.hid hx1
        have HX2 := Lib.hid hx2
        clear h2 hx1 hx2 k0 k1 k2 k3 k4 k5 k6 k7
        go_wp2
        go_roundw
        case rel => exact ⟨k + 1, by omega, by go_num, by rw [EW.out]; exact HX2.out, HX1.out⟩
        case measure => simp [intOf]; omega
    · obtain rfl : k = l.length := by omega
      go_wp2
      go_returns
      exact ret_ints (HOW.out.mono (by omega)) (through ((Below.refl _ _).alloc (Nat.le_refl _) _) (Nat.le_refl _) (HB.out.mono (by simp)))

theorem which_sinks (g : Int) (A : Option Addr) (c : Nat) (l : List OpP) (p : Nat → Option Addr × Nat) (w : World) (B : Nat) (hB : B ≤ w.heap.size) (h : IsOps w B A l p) (hl : l.length ≤ 1000000) :
    Calls Try.prog 48 #[.agg #[.int .i64 g, .slice A l.length c], .func (.func 59) #[] #[]] w (RetInts w (whichF (fun i => kindOf l i == 8) l.length)) := by
  have HH := Lib.hid h
  have HF : Hid (∀ k, k < l.length → ∀ w0, Below w.heap.size w w0 → Calls Try.prog 59 #[.agg #[.int .i64 (opOf l k).kind, .slice (p k).1 (opOf l k).ins.length (p k).2, .int .i64 (opOf l k).fo, .int .i64 (opOf l k).fa, .int .i64 (opOf l k).fb, .int .i64 (opOf l k).parts, .int .i64 (opOf l k).rate, .int .i64 (opOf l k).cost]] w0 fun e w' => e = .returned (.bool ((fun i => kindOf l i == 8) k)) ∧ Below w0.heap.size w0 w') := by
    intro k hk w0 hb0
    exact sinks1_any (opOf l k) (p k) w0
  obtain ⟨f, hf⟩ : ∃ f : Nat → Bool, (fun i => kindOf l i == 8) = f := ⟨_, rfl⟩
  rw [hf] at HF ⊢
  clear h hf
  go_enter Try.func48, Try.ntmps48
  go_wp2
  go_loopw [5, 11] (fun v q wr => ∃ k : Nat, k ≤ l.length ∧ q = .int .i64 k ∧ OwnI wr (w.heap.size + 1) v (whichF f k) ∧ Below (w.heap.size + 1) (w.alloc (.cells #[.int .i64 g, .slice A l.length c] 24)) wr) (fun _ q _ => l.length - (intOf q).toNat)
  case atStart => exact ⟨0, by omega, rfl, OwnI.nil _ _, Below.refl _ _⟩
  case round =>
    obtain ⟨k, hk, rfl, hown, hbl⟩ := hrel
    have HB := Lib.hid hbl
    have HOW := Lib.hid hown
    clear hown hbl
    by_cases hlt : k < l.length
    · have HK := Lib.hid (HF.out k hlt)
      obtain ⟨b, o, rfl, hb, c0, c1, c2, c3, c4, c5, c6, c7, -⟩ := (HH.out.alloc hB (.cells #[.int .i64 g, .slice A l.length c] 24)).at_ hlt
      unfold kindOf at c0
      unfold insOf at c1
      generalize opOf l k = O at *
      generalize p k = a at *
      have hbw : b < wr.heap.size := by have := HB.out.size; simp at this; omega
      have k0 := (HB.out.cell (p := ⟨b, o + k * 8, none⟩) (by show b < _; omega)).trans c0
      have k1 := (HB.out.cell (p := ⟨b, o + k * 8 + 1, none⟩) (by show b < _; omega)).trans c1
      have k2 := (HB.out.cell (p := ⟨b, o + k * 8 + 2, none⟩) (by show b < _; omega)).trans c2
      have k3 := (HB.out.cell (p := ⟨b, o + k * 8 + 3, none⟩) (by show b < _; omega)).trans c3
      have k4 := (HB.out.cell (p := ⟨b, o + k * 8 + 4, none⟩) (by show b < _; omega)).trans c4
      have k5 := (HB.out.cell (p := ⟨b, o + k * 8 + 5, none⟩) (by show b < _; omega)).trans c5
      have k6 := (HB.out.cell (p := ⟨b, o + k * 8 + 6, none⟩) (by show b < _; omega)).trans c6
      have k7 := (HB.out.cell (p := ⟨b, o + k * 8 + 7, none⟩) (by show b < _; omega)).trans c7
      clear c0 c1 c2 c3 c4 c5 c6 c7
      have hsz : w.heap.size + 1 ≤ wr.heap.size := by have := HB.out.size; simpa using this
      have HX : Hid (∀ ob w2, Below (wr.alloc ob).heap.size (wr.alloc ob) w2 → Below (w.heap.size + 1) (w.alloc (.cells #[.int .i64 g, .slice (some ⟨b, o, none⟩) l.length c] 24)) w2 ∧ OwnI w2 (w.heap.size + 1) u5 (whichF f k) ∧ w.heap.size + 1 ≤ w2.heap.size) := fun ob w2 h2 =>
        ⟨through (HB.out.alloc hsz ob) (by simp) h2, (HOW.out.alloc ob).below h2, by have := h2.size; simp at this; omega⟩
      have HW : Hid (∀ ob, Below w.heap.size w (wr.alloc ob)) := fun ob => (through ((Below.refl _ _).alloc (Nat.le_refl _) _) (Nat.le_refl _) (HB.out.mono (by simp))).alloc (by omega) ob
      have hle := whichF_len f k
      have EY := Lib.hid (fun e => whichF_yes (f := f) (n := k) e)
      have EN := Lib.hid (fun e => whichF_no (f := f) (n := k) e)
      generalize f k = z at *
      cases z with
      | true =>
        have EW := Lib.hid (EY.out rfl)
        go_wp2_with fail
        refine (HK.out _ (HW.out _)).mono ?_
        rintro e w2 ⟨rfl, h2⟩
        obtain ⟨hx1, hx2, hx3⟩ := HX.out _ _ h2
        have HX1 := Lib.hid hx1
        have HX2 := Lib.hid hx2
        clear h2 hx1 hx2 k0 k1 k2 k3 k4 k5 k6 k7
        go_wp2_with (at_builtin; refine app_int rfl _ _ rfl (w.heap.size + 1) rfl (HX2.out.alloc _) (u := (k : Int)) ?hu ⟨w2.heap.size, 0, none⟩ rfl ?hc ?hn ?hs ?_)
        case hu => unfold In64; omega
        case hc => go_simp
        case hn => omega
        case hs => simp; omega
        intro v' w3 hown2 hgr
        have HO2 := Lib.hid hown2
        have HB2 := Lib.hid (grown_below HX1.out HX2.out hgr hx3)
        clear hown2 hgr
        go_wp2
        go_roundw
        case rel => exact ⟨k + 1, by omega, by go_num, by rw [EW.out]; exact HO2.out, HB2.out⟩
        case measure => simp [intOf]; omega
      | false =>
        have EW := Lib.hid (EN.out rfl)
        go_wp2_with fail
        refine (HK.out _ (HW.out _)).mono ?_
        rintro e w2 ⟨rfl, h2⟩
        obtain ⟨hx1, hx2, hx3⟩ := HX.out _ _ h2
        have HX1 := Lib.hid hx1
        have HX2 := Lib.hid hx2
        clear h2 hx1 hx2 k0 k1 k2 k3 k4 k5 k6 k7
        go_wp2
        go_roundw
        case rel => exact ⟨k + 1, by omega, by go_num, by rw [EW.out]; exact HX2.out, HX1.out⟩
        case measure => simp [intOf]; omega
    · obtain rfl : k = l.length := by omega
      go_wp2
      go_returns
      exact ret_ints (HOW.out.mono (by omega)) (through ((Below.refl _ _).alloc (Nat.le_refl _) _) (Nat.le_refl _) (HB.out.mono (by simp)))

theorem sources_any (g : Int) (A : Option Addr) (c : Nat) (l : List OpP) (p : Nat → Option Addr × Nat) (w : World) (B : Nat) (hB : B ≤ w.heap.size) (h : IsOps w B A l p) (hl : l.length ≤ 1000000) :
    Calls Try.prog 21 #[.agg #[.int .i64 g, .slice A l.length c]] w (RetInts w (kindF l 1)) := by
  have HK := Lib.hid (which_sources g A c l p (w.alloc (.cells #[.int .i64 g, .slice A l.length c] 24)) B (by simp; omega) (h.alloc hB _) hl)
  clear h
  go_enter Try.func21, Try.ntmps21
  go_wp2_with fail
  refine HK.out.mono ?_
  rintro e w2 ⟨A2, c2, rfl, hown, hb⟩
  have HO := Lib.hid hown
  have HB := Lib.hid hb
  clear hown hb
  go_wp2
  go_returns
  exact ⟨A2, c2, rfl, HO.out.mono (by simp), through ((Below.refl _ _).alloc (Nat.le_refl _) _) (Nat.le_refl _) HB.out⟩

theorem sinks_any (g : Int) (A : Option Addr) (c : Nat) (l : List OpP) (p : Nat → Option Addr × Nat) (w : World) (B : Nat) (hB : B ≤ w.heap.size) (h : IsOps w B A l p) (hl : l.length ≤ 1000000) :
    Calls Try.prog 22 #[.agg #[.int .i64 g, .slice A l.length c]] w (RetInts w (kindF l 8)) := by
  have HK := Lib.hid (which_sinks g A c l p (w.alloc (.cells #[.int .i64 g, .slice A l.length c] 24)) B (by simp; omega) (h.alloc hB _) hl)
  clear h
  go_enter Try.func22, Try.ntmps22
  go_wp2_with fail
  refine HK.out.mono ?_
  rintro e w2 ⟨A2, c2, rfl, hown, hb⟩
  have HO := Lib.hid hown
  have HB := Lib.hid hb
  clear hown hb
  go_wp2
  go_returns
  exact ⟨A2, c2, rfl, HO.out.mono (by simp), through ((Below.refl _ _).alloc (Nat.le_refl _) _) (Nat.le_refl _) HB.out⟩

theorem users_any (g : Int) (A : Option Addr) (c : Nat) (l : List OpP) (p : Nat → Option Addr × Nat) (op : Int) (w : World) (B : Nat) (hB : B ≤ w.heap.size) (h : IsOps w B A l p) (hl : l.length ≤ 1000000) :
    Calls Try.prog 14 #[.agg #[.int .i64 g, .slice A l.length c], .int .i64 op] w (RetInts w (usersF l op)) := by
  have HK := Lib.hid (which_users g A c l p op (w.heap.size + 1) ((w.alloc (.cells #[.int .i64 g, .slice A l.length c] 24)).alloc (.cells #[.int .i64 op] 3)) B (by simp; omega) ((h.alloc hB _).alloc (by simp; omega) _) hl (by simp) (by go_simp))
  clear h
  go_enter Try.func14, Try.ntmps14
  go_wp2_with fail
  refine HK.out.mono ?_
  rintro e w2 ⟨A2, c2, rfl, hown, hb⟩
  have HO := Lib.hid hown
  have HB := Lib.hid hb
  clear hown hb
  go_wp2
  go_returns
  exact ⟨A2, c2, rfl, HO.out.mono (by first | (simp; done) | (simp; omega)), through (((Below.refl _ _).alloc (Nat.le_refl _) _).alloc (by simp) _) (by first | (simp; done) | (simp; omega)) HB.out⟩
end Go.Proofs.Ytaodbjgcidkpkaa.Sp
