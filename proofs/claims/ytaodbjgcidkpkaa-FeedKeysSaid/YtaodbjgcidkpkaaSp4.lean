/- Jobs: users, sources, sinks: lists that are new. -/
import Derived.Test.YtaodbjgcidkpkaaSp2
import Derived.Test.YtaodbjgcidkpkaaOwn
namespace Go.Proofs.Ytaodbjgcidkpkaa.Sp
open Go.ChangeShapes Go.WideShapes Go.ChangeAt Go.RowKit M

theorem refUsers_any (g : Int) (A : Option Addr) (c : Nat) (l : List OpP) (p : Nat → Option Addr × Nat) (op : Int) (w : World) (B : Nat) (hB : B ≤ w.heap.size) (h : IsOps w B A l p) (hl : l.length ≤ 1000000) :
    Calls Try.prog 17 #[.agg #[.int .i64 g, .slice A l.length c], .int .i64 op] w (RetInts w (usersF l op)) := by
  have HH := Lib.hid h
  clear h
  have EF := Lib.hid (show usersF l op = whichF (fun i => hasB (insOf l i) op) l.length from rfl)
  go_enter Try.func17, Try.ntmps17
  go_wp2
  go_loopw [5, 6] (fun v q wr => ∃ k : Nat, k ≤ l.length ∧ q = .int .i64 k ∧ OwnI wr (w.heap.size + 1) v (whichF (fun i => hasB (insOf l i) op) k) ∧ Below (w.heap.size + 1) (w.alloc (.cells #[.int .i64 g, .slice A l.length c] 24)) wr) (fun _ q _ => l.length - (intOf q).toNat)
  case atStart => exact ⟨0, by omega, rfl, OwnI.nil _ _, Below.refl _ _⟩
  case round =>
    obtain ⟨k, hk, rfl, hown, hbl⟩ := hrel
    have HB := Lib.hid hbl
    have HOW := Lib.hid hown
    have hg : wr.cell? ⟨w.heap.size, 1, none⟩ = some (.slice A l.length c) := (HB.out.cell (p := ⟨w.heap.size, 1, none⟩) (by show w.heap.size < _; omega)).trans (by go_simp)
    clear hown hbl
    by_cases hlt : k < l.length
    · obtain ⟨b, o, rfl, hb, -, c1, -, -, -, -, -, -, -, hin⟩ := HH.out.at_ hlt
      have hcell : wr.cell? ⟨b, o + k * 8 + 1, none⟩ = some (.slice (p k).1 (insOf l k).length (p k).2) := (HB.out.cell (p := ⟨b, o + k * 8 + 1, none⟩) (by show b < _; omega)).trans ((World.cell?_alloc_lt w _ _ (by show b < _; omega)).trans c1)
      have hin' := (hin.more (B' := w.heap.size) hB).keep (w' := wr) (fun q hq => (HB.out.cell (p := q) (by omega)).trans (World.cell?_alloc_lt w _ _ hq))
      have HC := Lib.hid (refHas_any (p k).1 (p k).2 (insOf l k) op w.heap.size wr hin')
      clear c1 hin hin'
      cases e1 : hasB (insOf l k) op with
      | true =>
        rw [e1] at HC
        have EW := Lib.hid (whichF_yes (f := fun i => hasB (insOf l i) op) e1)
        have hle := whichF_len (fun i => hasB (insOf l i) op) k
        clear e1
        have hsz : w.heap.size + 1 ≤ wr.heap.size := by have := HB.out.size; simpa using this
        go_wp2_with (first | (go_at_call 53; refine HC.out.mono ?_; rintro e w' ⟨rfl, rfl⟩) | (at_builtin; refine app_int rfl _ _ rfl (w.heap.size + 1) rfl (HOW.out.alloc _) (u := (k : Int)) ?hu ⟨wr.heap.size, 0, none⟩ rfl ?hc ?hn ?hs ?_))
        case hu => unfold In64; omega
        case hc => go_simp
        case hn => omega
        case hs => simp; omega
        intro v' w2 hown2 hgr
        have HO2 := Lib.hid hown2
        have HB2 := Lib.hid (grown_below HB.out HOW.out hgr hsz)
        clear hown2 hgr
        go_wp2
        go_roundw
        case rel => exact ⟨k + 1, by omega, by go_num, by rw [EW.out]; exact HO2.out, HB2.out⟩
        case measure => simp [intOf]; omega
      | false =>
        rw [e1] at HC
        have EW := Lib.hid (whichF_no (f := fun i => hasB (insOf l i) op) e1)
        clear e1
        go_wp2_with (go_at_call 53; refine HC.out.mono ?_; rintro e w' ⟨rfl, rfl⟩)
        go_roundw
        case rel => exact ⟨k + 1, by omega, by go_num, by rw [EW.out]; exact HOW.out, HB.out⟩
        case measure => simp [intOf]; omega
    · obtain rfl : k = l.length := by omega
      go_wp2
      go_returns
      exact ret_ints (HOW.out.mono (by omega)) (through ((Below.refl _ _).alloc (Nat.le_refl _) _) (Nat.le_refl _) (HB.out.mono (by simp)))

theorem refKind_any (g : Int) (A : Option Addr) (c : Nat) (l : List OpP) (p : Nat → Option Addr × Nat) (kd : Int) (w : World) (B : Nat) (hB : B ≤ w.heap.size) (h : IsOps w B A l p) (hl : l.length ≤ 1000000) :
    Calls Try.prog 60 #[.agg #[.int .i64 g, .slice A l.length c], .int .i64 kd] w (RetInts w (kindF l kd)) := by
  have HH := Lib.hid h
  clear h
  have EF := Lib.hid (show kindF l kd = whichF (fun i => kindOf l i == kd) l.length from rfl)
  go_enter Try.func60, Try.ntmps60
  go_wp2
  go_loopw [5, 6] (fun v q wr => ∃ k : Nat, k ≤ l.length ∧ q = .int .i64 k ∧ OwnI wr (w.heap.size + 1) v (whichF (fun i => kindOf l i == kd) k) ∧ Below (w.heap.size + 1) (w.alloc (.cells #[.int .i64 g, .slice A l.length c] 24)) wr) (fun _ q _ => l.length - (intOf q).toNat)
  case atStart => exact ⟨0, by omega, rfl, OwnI.nil _ _, Below.refl _ _⟩
  case round =>
    obtain ⟨k, hk, rfl, hown, hbl⟩ := hrel
    have HB := Lib.hid hbl
    have HOW := Lib.hid hown
    have hg : wr.cell? ⟨w.heap.size, 1, none⟩ = some (.slice A l.length c) := (HB.out.cell (p := ⟨w.heap.size, 1, none⟩) (by show w.heap.size < _; omega)).trans (by go_simp)
    clear hown hbl
    by_cases hlt : k < l.length
    · obtain ⟨b, o, rfl, hb, c0, -⟩ := HH.out.at_ hlt
      have hcell : wr.cell? ⟨b, o + k * 8, none⟩ = some (.int .i64 (kindOf l k)) := (HB.out.cell (p := ⟨b, o + k * 8, none⟩) (by show b < _; omega)).trans ((World.cell?_alloc_lt w _ _ (by show b < _; omega)).trans c0)
      clear c0
      have EY := Lib.hid (fun e => whichF_yes (f := fun i => kindOf l i == kd) (n := k) e)
      have EN := Lib.hid (fun e => whichF_no (f := fun i => kindOf l i == kd) (n := k) e)
      have hle := whichF_len (fun i => kindOf l i == kd) k
      generalize kindOf l k = kk at *
      cases e1 : (kk == kd) with
      | true =>
        have EW := Lib.hid (EY.out e1)
        have hsz : w.heap.size + 1 ≤ wr.heap.size := by have := HB.out.size; simpa using this
        go_wp2_with (at_builtin; refine app_int rfl _ _ rfl (w.heap.size + 1) rfl (HOW.out.alloc _) (u := (k : Int)) ?hu ⟨wr.heap.size, 0, none⟩ rfl ?hc ?hn ?hs ?_)
        case hu => unfold In64; omega
        case hc => go_simp
        case hn => omega
        case hs => simp; omega
        intro v' w2 hown2 hgr
        have HO2 := Lib.hid hown2
        have HB2 := Lib.hid (grown_below HB.out HOW.out hgr hsz)
        clear hown2 hgr
        go_wp2
        go_roundw
        case rel => exact ⟨k + 1, by omega, by go_num, by rw [EW.out]; exact HO2.out, HB2.out⟩
        case measure => simp [intOf]; omega
      | false =>
        have EW := Lib.hid (EN.out e1)
        go_wp2
        go_roundw
        case rel => exact ⟨k + 1, by omega, by go_num, by rw [EW.out]; exact HOW.out, HB.out⟩
        case measure => simp [intOf]; omega
    · obtain rfl : k = l.length := by omega
      go_wp2
      go_returns
      exact ret_ints (HOW.out.mono (by omega)) (through ((Below.refl _ _).alloc (Nat.le_refl _) _) (Nat.le_refl _) (HB.out.mono (by simp)))

theorem refSources_any (g : Int) (A : Option Addr) (c : Nat) (l : List OpP) (p : Nat → Option Addr × Nat) (w : World) (B : Nat) (hB : B ≤ w.heap.size) (h : IsOps w B A l p) (hl : l.length ≤ 1000000) :
    Calls Try.prog 24 #[.agg #[.int .i64 g, .slice A l.length c]] w (RetInts w (kindF l 1)) := by
  have HK := Lib.hid (refKind_any g A c l p 1 (w.alloc (.cells #[.int .i64 g, .slice A l.length c] 24)) B (by simp; omega) (h.alloc hB _) hl)
  clear h
  go_enter Try.func24, Try.ntmps24
  go_wp2_with fail
  refine HK.out.mono ?_
  rintro e w2 ⟨A2, c2, rfl, hown, hb⟩
  have HO := Lib.hid hown
  have HB := Lib.hid hb
  clear hown hb
  go_wp2
  go_returns
  exact ⟨A2, c2, rfl, HO.out.mono (by simp), through ((Below.refl _ _).alloc (Nat.le_refl _) _) (Nat.le_refl _) HB.out⟩

theorem refSinks_any (g : Int) (A : Option Addr) (c : Nat) (l : List OpP) (p : Nat → Option Addr × Nat) (w : World) (B : Nat) (hB : B ≤ w.heap.size) (h : IsOps w B A l p) (hl : l.length ≤ 1000000) :
    Calls Try.prog 25 #[.agg #[.int .i64 g, .slice A l.length c]] w (RetInts w (kindF l 8)) := by
  have HK := Lib.hid (refKind_any g A c l p 8 (w.alloc (.cells #[.int .i64 g, .slice A l.length c] 24)) B (by simp; omega) (h.alloc hB _) hl)
  clear h
  go_enter Try.func25, Try.ntmps25
  go_wp2_with fail
  refine HK.out.mono ?_
  rintro e w2 ⟨A2, c2, rfl, hown, hb⟩
  have HO := Lib.hid hown
  have HB := Lib.hid hb
  clear hown hb
  go_wp2
  go_returns
  exact ⟨A2, c2, rfl, HO.out.mono (by simp), through ((Below.refl _ _).alloc (Nat.le_refl _) _) (Nat.le_refl _) HB.out⟩
end Go.Proofs.Ytaodbjgcidkpkaa.Sp
