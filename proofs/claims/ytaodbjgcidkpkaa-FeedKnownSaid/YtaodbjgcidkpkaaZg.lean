/- Jobs: users, sources, sinks: lists that are new. Jobs: the order, as the document has it. Jobs: the program's users, sources, sinks: one function with three closures. Jobs: the order, as the program has it. -/
import Derived.Test.YtaodbjgcidkpkaaZf
import Derived.Test.YtaodbjgcidkpkaaZa
import Derived.ScopeJumps
import Derived.WalkMore

namespace Go.Proofs.Ytaodbjgcidkpkaa.Sp
open Go.ChangeShapes Go.WideShapes Go.ChangeAt Go.RowKit M

theorem refUsers_any (g : Int) (A : Option Addr) (c : Nat) (l : List OpP) (p : Nat → Option Addr × Nat) (op : Int) (w : World) (B : Nat) (hB : B ≤ w.heap.size) (h : IsOps w B A l p) (hl : l.length ≤ 1000000) :
    Calls Try.prog 17 #[.agg #[.int .i64 g, .slice A l.length c], .int .i64 op] w (RetInts w (usersF l op)) := by
  have HH := Lib.hid h
  clear h
  have EF := Lib.hid (show usersF l op = whichF (fun i => hasB (insOf l i) op) l.length from rfl)
  go_enter Try.func17, Try.ntmps17
  go_wp2
  go_loopw [5, 6] (fun v q wr => ∃ k : Nat, k ≤ l.length ∧ q = .int .i64 k ∧ OwnI wr (w.heap.size + 1) v (whichF (fun i => hasB (insOf l i) op) k) ∧ Below (w.heap.size + 1) (w.alloc (.cells #[.int .i64 g, .slice A l.length c] 24)) wr) (fun _ q _ => l.length - (intOf q).toNat)
  case atStart => exact ⟨0, by omega, rfl, OwnI.nil _ _, Below.refl _ _⟩
  case round =>
    obtain ⟨k, hk, rfl, hown, hbl⟩ := hrel
    have HB := Lib.hid hbl
    have HOW := Lib.hid hown
    have hg : wr.cell? ⟨w.heap.size, 1, none⟩ = some (.slice A l.length c) := (HB.out.cell (p := ⟨w.heap.size, 1, none⟩) (by show w.heap.size < _; omega)).trans (by go_simp)
    clear hown hbl
    by_cases hlt : k < l.length
    · obtain ⟨b, o, rfl, hb, -, c1, -, -, -, -, -, -, -, hin⟩ := HH.out.at_ hlt
      have hcell : wr.cell? ⟨b, o + k * 8 + 1, none⟩ = some (.slice (p k).1 (insOf l k).length (p k).2) := (HB.out.cell (p := ⟨b, o + k * 8 + 1, none⟩) (by show b < _; omega)).trans ((World.cell?_alloc_lt w _ _ (by show b < _; omega)).trans c1)
      have hin' := (hin.more (B' := w.heap.size) hB).keep (w' := wr) (fun q hq => (HB.out.cell (p := q) (by omega)).trans (World.cell?_alloc_lt w _ _ hq))
      have HC := Lib.hid (refHas_any (p k).1 (p k).2 (insOf l k) op w.heap.size wr hin')
      clear c1 hin hin'
      cases e1 : hasB (insOf l k) op with
      | true =>
        rw [e1] at HC
        have EW := Lib.hid (whichF_yes (f := fun i => hasB (insOf l i) op) e1)
        have hle := whichF_len (fun i => hasB (insOf l i) op) k
        clear e1
        have hsz : w.heap.size + 1 ≤ wr.heap.size := by have := HB.out.size; simpa using this
        go_wp2_with (first | (go_at_call 53; refine HC.out.mono ?_; rintro e w' ⟨rfl, rfl⟩) | (at_builtin; refine app_int rfl _ _ rfl (w.heap.size + 1) rfl (HOW.out.alloc _) (u := (k : Int)) ?hu ⟨wr.heap.size, 0, none⟩ rfl ?hc ?hn ?hs ?_))
        case hu => unfold In64; omega
        case hc => go_simp
        case hn => omega
        case hs => simp; omega
        intro v' w2 hown2 hgr
        have HO2 := Lib.hid hown2
        have HB2 := Lib.hid (grown_below HB.out HOW.out hgr hsz)
        clear hown2 hgr
        go_wp2
        go_roundw
        case rel => exact ⟨k + 1, by omega, by go_num, by rw [EW.out]; exact HO2.out, HB2.out⟩
        case measure => simp [intOf]; omega
      | false =>
        rw [e1] at HC
        have EW := Lib.hid (whichF_no (f := fun i => hasB (insOf l i) op) e1)
        clear e1
        go_wp2_with (go_at_call 53; refine HC.out.mono ?_; rintro e w' ⟨rfl, rfl⟩)
        go_roundw
        case rel => exact ⟨k + 1, by omega, by go_num, by rw [EW.out]; exact HOW.out, HB.out⟩
        case measure => simp [intOf]; omega
    · obtain rfl : k = l.length := by omega
      go_wp2
      go_returns
      exact ret_ints (HOW.out.mono (by omega)) (through ((Below.refl _ _).alloc (Nat.le_refl _) _) (Nat.le_refl _) (HB.out.mono (by simp)))

theorem refKind_any (g : Int) (A : Option Addr) (c : Nat) (l : List OpP) (p : Nat → Option Addr × Nat) (kd : Int) (w : World) (B : Nat) (hB : B ≤ w.heap.size) (h : IsOps w B A l p) (hl : l.length ≤ 1000000) :
    Calls Try.prog 60 #[.agg #[.int .i64 g, .slice A l.length c], .int .i64 kd] w (RetInts w (kindF l kd)) := by
  have HH := Lib.hid h
  clear h
  have EF := Lib.hid (show kindF l kd = whichF (fun i => kindOf l i == kd) l.length from rfl)
  go_enter Try.func60, Try.ntmps60
  go_wp2
  go_loopw [5, 6] (fun v q wr => ∃ k : Nat, k ≤ l.length ∧ q = .int .i64 k ∧ OwnI wr (w.heap.size + 1) v (whichF (fun i => kindOf l i == kd) k) ∧ Below (w.heap.size + 1) (w.alloc (.cells #[.int .i64 g, .slice A l.length c] 24)) wr) (fun _ q _ => l.length - (intOf q).toNat)
  case atStart => exact ⟨0, by omega, rfl, OwnI.nil _ _, Below.refl _ _⟩
  case round =>
    obtain ⟨k, hk, rfl, hown, hbl⟩ := hrel
    have HB := Lib.hid hbl
    have HOW := Lib.hid hown
    have hg : wr.cell? ⟨w.heap.size, 1, none⟩ = some (.slice A l.length c) := (HB.out.cell (p := ⟨w.heap.size, 1, none⟩) (by show w.heap.size < _; omega)).trans (by go_simp)
    clear hown hbl
    by_cases hlt : k < l.length
    · obtain ⟨b, o, rfl, hb, c0, -⟩ := HH.out.at_ hlt
      have hcell : wr.cell? ⟨b, o + k * 8, none⟩ = some (.int .i64 (kindOf l k)) := (HB.out.cell (p := ⟨b, o + k * 8, none⟩) (by show b < _; omega)).trans ((World.cell?_alloc_lt w _ _ (by show b < _; omega)).trans c0)
      clear c0
      have EY := Lib.hid (fun e => whichF_yes (f := fun i => kindOf l i == kd) (n := k) e)
      have EN := Lib.hid (fun e => whichF_no (f := fun i => kindOf l i == kd) (n := k) e)
      have hle := whichF_len (fun i => kindOf l i == kd) k
      generalize kindOf l k = kk at *
      cases e1 : (kk == kd) with
      | true =>
        have EW := Lib.hid (EY.out e1)
        have hsz : w.heap.size + 1 ≤ wr.heap.size := by have := HB.out.size; simpa using this
        go_wp2_with (at_builtin; refine app_int rfl _ _ rfl (w.heap.size + 1) rfl (HOW.out.alloc _) (u := (k : Int)) ?hu ⟨wr.heap.size, 0, none⟩ rfl ?hc ?hn ?hs ?_)
        case hu => unfold In64; omega
        case hc => go_simp
        case hn => omega
        case hs => simp; omega
        intro v' w2 hown2 hgr
        have HO2 := Lib.hid hown2
        have HB2 := Lib.hid (grown_below HB.out HOW.out hgr hsz)
        clear hown2 hgr
        go_wp2
        go_roundw
        case rel => exact ⟨k + 1, by omega, by go_num, by rw [EW.out]; exact HO2.out, HB2.out⟩
        case measure => simp [intOf]; omega
      | false =>
        have EW := Lib.hid (EN.out e1)
        go_wp2
        go_roundw
        case rel => exact ⟨k + 1, by omega, by go_num, by rw [EW.out]; exact HOW.out, HB.out⟩
        case measure => simp [intOf]; omega
    · obtain rfl : k = l.length := by omega
      go_wp2
      go_returns
      exact ret_ints (HOW.out.mono (by omega)) (through ((Below.refl _ _).alloc (Nat.le_refl _) _) (Nat.le_refl _) (HB.out.mono (by simp)))

theorem refSources_any (g : Int) (A : Option Addr) (c : Nat) (l : List OpP) (p : Nat → Option Addr × Nat) (w : World) (B : Nat) (hB : B ≤ w.heap.size) (h : IsOps w B A l p) (hl : l.length ≤ 1000000) :
    Calls Try.prog 24 #[.agg #[.int .i64 g, .slice A l.length c]] w (RetInts w (kindF l 1)) := by
  have HK := Lib.hid (refKind_any g A c l p 1 (w.alloc (.cells #[.int .i64 g, .slice A l.length c] 24)) B (by simp; omega) (h.alloc hB _) hl)
  clear h
  go_enter Try.func24, Try.ntmps24
  go_wp2_with fail
  refine HK.out.mono ?_
  rintro e w2 ⟨A2, c2, rfl, hown, hb⟩
  have HO := Lib.hid hown
  have HB := Lib.hid hb
  clear hown hb
  go_wp2
  go_returns
  exact ⟨A2, c2, rfl, HO.out.mono (by simp), through ((Below.refl _ _).alloc (Nat.le_refl _) _) (Nat.le_refl _) HB.out⟩

theorem refSinks_any (g : Int) (A : Option Addr) (c : Nat) (l : List OpP) (p : Nat → Option Addr × Nat) (w : World) (B : Nat) (hB : B ≤ w.heap.size) (h : IsOps w B A l p) (hl : l.length ≤ 1000000) :
    Calls Try.prog 25 #[.agg #[.int .i64 g, .slice A l.length c]] w (RetInts w (kindF l 8)) := by
  have HK := Lib.hid (refKind_any g A c l p 8 (w.alloc (.cells #[.int .i64 g, .slice A l.length c] 24)) B (by simp; omega) (h.alloc hB _) hl)
  clear h
  go_enter Try.func25, Try.ntmps25
  go_wp2_with fail
  refine HK.out.mono ?_
  rintro e w2 ⟨A2, c2, rfl, hown, hb⟩
  have HO := Lib.hid hown
  have HB := Lib.hid hb
  clear hown hb
  go_wp2
  go_returns
  exact ⟨A2, c2, rfl, HO.out.mono (by simp), through ((Below.refl _ _).alloc (Nat.le_refl _) _) (Nat.le_refl _) HB.out⟩
end Go.Proofs.Ytaodbjgcidkpkaa.Sp

namespace Go.Proofs.Ytaodbjgcidkpkaa.Sp
open Go.ChangeShapes Go.WideShapes Go.ChangeAt Go.RowKit M

theorem all_allB {f : Int → Bool} (xs : List Int) : xs.all f = allB (fun k => f (xs.getD k 0)) xs.length := by
  rw [Bool.eq_iff_iff, List.all_eq_true, allB_iff]
  constructor
  · intro h j hj; exact h _ (getD_mem hj)
  · intro h x hx
    obtain ⟨k, hk, e⟩ := mem_getD hx
    rw [← e]; exact h k hk
theorem ready_all (l : List OpP) (out : List Int) (i : Nat) : readyB l out i = (!hasB out i && allB (fun k => hasB out ((insOf l i).getD k 0)) (insOf l i).length) := by
  unfold readyB; rw [all_allB]

/-- the first that may, of those from m on; -1 -/
def NextAt (l : List OpP) (out : List Int) (m : Nat) (z : Int) : Prop :=
  (z = -1 ∧ ∀ j, m ≤ j → j < l.length → readyB l out j = false) ∨ (∃ j : Nat, z = j ∧ m ≤ j ∧ j < l.length ∧ readyB l out j = true ∧ ∀ i, m ≤ i → i < j → readyB l out i = false)
theorem NextAt.start (l : List OpP) (out : List Int) : NextAt l out l.length (-1) := .inl ⟨rfl, fun j h1 h2 => absurd h2 (by omega)⟩
theorem NextAt.yes {l : List OpP} {out : List Int} {m : Nat} (hm : m < l.length) (hr : readyB l out m = true) : NextAt l out m m := .inr ⟨m, rfl, Nat.le_refl _, hm, hr, fun i h1 h2 => absurd h2 (by omega)⟩
theorem NextAt.no {l : List OpP} {out : List Int} {m : Nat} {z : Int} (h : NextAt l out (m + 1) z) (hr : readyB l out m = false) : NextAt l out m z := by
  rcases h with ⟨h1, h2⟩ | ⟨j, h1, h2, h3, h4, h5⟩
  · refine .inl ⟨h1, fun j hj hj2 => ?_⟩
    rcases (show m + 1 ≤ j ∨ j = m by omega) with h | rfl
    · exact h2 j h hj2
    · exact hr
  · refine .inr ⟨j, h1, by omega, h3, h4, fun i hi hi2 => ?_⟩
    rcases (show m + 1 ≤ i ∨ i = m by omega) with h | rfl
    · exact h5 i h hi2
    · exact hr
theorem NextAt.none_ {l : List OpP} {out : List Int} {z : Int} (h : NextAt l out 0 z) (hz : z < 0) : nextF l out l.length = none := by
  rcases h with ⟨h1, h2⟩ | ⟨j, h1, h2, h3, h4, h5⟩
  · exact nextF_no fun j hj => h2 j (by omega) hj
  · omega
theorem NextAt.some_ {l : List OpP} {out : List Int} {z : Int} (h : NextAt l out 0 z) (hz : 0 ≤ z) : ∃ j : Nat, z = j ∧ j < l.length ∧ nextF l out l.length = some j := by
  rcases h with ⟨h1, h2⟩ | ⟨j, h1, h2, h3, h4, h5⟩
  · omega
  · exact ⟨j, h1, h3, nextF_is h3 h4 fun i hi => h5 i (by omega) hi⟩

/-- a flag behind j of them -/
def FlagAt (F : Nat → Bool) (h : Bool) (j : Nat) (z : Bool) : Prop := z = (!h && allB F j)
theorem FlagAt.start (F : Nat → Bool) (h : Bool) : FlagAt F h 0 (!h) := by unfold FlagAt; simp [allB]
theorem FlagAt.no {F : Nat → Bool} {h : Bool} {j : Nat} (e : FlagAt F h j false) : FlagAt F h (j + 1) false := by
  unfold FlagAt at *; rw [allB, ← Bool.and_assoc, ← e]; rfl
theorem FlagAt.yes {F : Nat → Bool} {h : Bool} {j : Nat} {z : Bool} (e : FlagAt F h j true) (hz : F j = z) : FlagAt F h (j + 1) z := by
  unfold FlagAt at *; rw [allB, ← Bool.and_assoc, ← e, hz]; rfl

set_option maxHeartbeats 1000000 in
theorem refOrder_any (g : Int) (A : Option Addr) (c : Nat) (l : List OpP) (p : Nat → Option Addr × Nat) (w : World) (B : Nat) (hB : B ≤ w.heap.size) (h : IsOps w B A l p) (hl : l.length ≤ 1000000) :
    Calls Try.prog 23 #[.agg #[.int .i64 g, .slice A l.length c]] w (RetInts w (orderF l)) := by
  have HH := Lib.hid h
  clear h
  go_enter Try.func23, Try.ntmps23
  go_wp2
  go_loopw [3, 11] (fun v q wr => ∃ k : Nat, k ≤ l.length ∧ q = .int .i64 k ∧ OwnI wr (w.heap.size + 1) v (ordSt l k) ∧ Below (w.heap.size + 1) (w.alloc (.cells #[.int .i64 g, .slice A l.length c] 24)) wr) (fun _ q _ => l.length - (intOf q).toNat)
  case atStart => exact ⟨0, by omega, rfl, OwnI.nil _ _, Below.refl _ _⟩
  case round =>
    obtain ⟨k, hk, rfl, hown, hbl⟩ := hrel
    obtain ⟨wo, rfl⟩ : ∃ wo : World, wo = wr := ⟨_, rfl⟩
    have HB := Lib.hid hbl
    have hg : wo.cell? ⟨w.heap.size, 1, none⟩ = some (.slice A l.length c) := (HB.out.cell (p := ⟨w.heap.size, 1, none⟩) (by show w.heap.size < _; omega)).trans (by go_simp)
    have HG := Lib.hid hg
    obtain ⟨Ao, co, rfl⟩ := hown.form
    have HI := Lib.hid hown.ints
    have HOW := Lib.hid hown
    have HS := Lib.hid (ordSt_len l k)
    have hn2 : (ordSt l k).length ≤ l.length := HS.out
    have HN : Hid (∀ z : Int, z < 0 → NextAt l (ordSt l k) 0 z → orderF l = ordSt l k) := fun z hz h => ordSt_none (h.none_ hz) l.length hk
    have HY : Hid (∀ z : Int, 0 ≤ z → NextAt l (ordSt l k) 0 z → ordSt l (k + 1) = ordSt l k ++ [z] ∧ z < l.length) := fun z hz h => by
      obtain ⟨j, e, hj, hs⟩ := h.some_ hz
      rw [e]; exact ⟨ordSt_some hs, by omega⟩
    have HEO : Hid (k = l.length → orderF l = ordSt l k) := fun e => by rw [e]; rfl
    generalize ordSt l k = out at *
    clear hown hbl
    by_cases hlt : k < l.length
    · go_wp2
      go_loop [4, 5] (fun z i => ∃ (m : Nat) (y : Int), m ≤ l.length ∧ z = .int .i64 y ∧ i = .int .i64 ((m : Int) - 1) ∧ NextAt l out m y ∧ -1 ≤ y) (fun _ i => (intOf i + 1).toNat)
      case atStart => exact ⟨l.length, -1, by omega, rfl, by go_num, NextAt.start _ _, by omega⟩
      case round =>
        obtain ⟨m, y, hm, rfl, rfl, hny, hy1⟩ := hrel
        have HNY := Lib.hid hny
        clear hny
        rcases (show m = 0 ∨ 0 < m by omega) with rfl | hm0
        · rcases (show y < 0 ∨ 0 ≤ y by omega) with hy | hy
          · have E := Lib.hid (HN.out y hy HNY.out)
            go_wp2
            go_returns
            exact ret_ints (by rw [E.out]; exact HOW.out.mono (by omega)) (through ((Below.refl _ _).alloc (Nat.le_refl _) _) (Nat.le_refl _) (HB.out.mono (by simp)))
          · obtain ⟨e1, e2⟩ := HY.out y hy HNY.out
            have E1 := Lib.hid e1
            have hsz : w.heap.size + 1 ≤ wo.heap.size := by have := HB.out.size; simpa using this
            clear e1
            have HU := Lib.hid (show In64 y by unfold In64; omega)
            have HL := Lib.hid (show out.length < 1000000000 by omega)
            have HZ := Lib.hid hsz
            go_wp2_with (at_builtin; refine app_new rfl _ _ rfl (w.heap.size + 1) HOW.out rfl HU.out rfl HL.out HZ.out ?_)
            intro v' w2 hown2 hgr
            have HO2 := Lib.hid hown2
            have HB2 := Lib.hid (HB.out.trans hgr)
            clear hown2 hgr
            go_wp2
            go_roundw
            case rel => exact ⟨k + 1, by omega, by go_num, by rw [E1.out]; exact HO2.out, HB2.out⟩
            case measure => simp [intOf]; omega
        · obtain ⟨i, rfl⟩ : ∃ i, m = i + 1 := ⟨m - 1, by omega⟩
          have ei : ((i + 1 : Nat) : Int) - 1 = (i : Int) := by omega
          rw [ei]
          clear ei
          have hi : i < l.length := by omega
          obtain ⟨b, o, rfl, hb, -, c1, -, -, -, -, -, -, -, hin⟩ := (HH.out.alloc hB (.cells #[.int .i64 g, .slice A l.length c] 24)).at_ hi
          have hcell := (HB.out.cell (p := ⟨b, o + i * 8 + 1, none⟩) (by show b < _; omega)).trans c1
          have HIN := Lib.hid ((hin.more (B' := w.heap.size) hB).keep (w' := wo) (fun q hq => HB.out.cell (p := q) (by omega)))
          have hxl : (insOf l i).length ≤ 9223372036854775807 := by have := hin.2.1; have := hin.2.2.1; unfold maxLen at this; simp only at *; omega
          have HC := Lib.hid (fun z => refHas_any Ao co out z wo.heap.size wo HI.out)
          have ER := Lib.hid (ready_all l out i)
          have HYES := Lib.hid (fun h => NextAt.yes (l := l) (out := out) (m := i) hi h)
          have HNO := Lib.hid (fun h => NextAt.no (l := l) (out := out) (m := i) HNY.out h)
          generalize readyB l out i = rd at *
          generalize insOf l i = xs at *
          generalize p i = a at *
          obtain ⟨pa, pc⟩ := a
          simp only at hcell HIN
          clear c1 hin
          obtain ⟨h0, hh0⟩ : ∃ z, hasB out (i : Int) = z := ⟨_, rfl⟩
          have HC0 := Lib.hid (HC.out (i : Int))
          rw [hh0] at HC0 ER
          clear hh0
          go_wp2_with (go_at_call 53; refine HC0.out.mono ?_; rintro e w' ⟨rfl, rfl⟩)
          obtain ⟨F, hF⟩ : ∃ F : Nat → Bool, (fun k => hasB out (xs.getD k 0)) = F := ⟨_, rfl⟩
          have HFK : Hid (∀ k, F k = hasB out (xs.getD k 0)) := fun k => by rw [← hF]
          rw [hF] at ER
          clear hF
          go_loop [6, 7] (fun r q => ∃ (j : Nat) (z : Bool), j ≤ xs.length ∧ q = .int .i64 j ∧ r = .bool z ∧ FlagAt F h0 j z) (fun _ q => xs.length - (intOf q).toNat)
          case atStart => exact ⟨0, _, by omega, rfl, rfl, FlagAt.start _ _⟩
          case round =>
            obtain ⟨j, z, hj, rfl, rfl, hz⟩ := hrel
            have HZ := Lib.hid hz
            clear hz
            by_cases hjl : j < xs.length
            · obtain ⟨b2, o2, v, rfl, hb2, HV, -, hc2⟩ := ints_at HIN.out hjl
              cases z with
              | false =>
                go_wp2
                go_round
                case rel => exact ⟨j + 1, false, by omega, by go_num, rfl, HZ.out.no⟩
                case measure => simp [intOf]; omega
              | true =>
                have HC1 := Lib.hid (HC.out v)
                have HF := Lib.hid ((HFK.out j).trans (by rw [HV.out]))
                generalize hasB out v = hv at *
                go_wp2_with (go_at_call 53; refine HC1.out.mono ?_; rintro e w' ⟨rfl, rfl⟩)
                go_round
                case rel => exact ⟨j + 1, hv, by omega, by go_num, rfl, HZ.out.yes HF.out⟩
                case measure => simp [intOf]; omega
            · obtain rfl : j = xs.length := by omega
              have EZ : Hid (z = rd) := HZ.out.trans ER.out.symm
              cases rd with
              | true =>
                obtain rfl := EZ.out
                have HYY := Lib.hid (HYES.out rfl)
                go_wp2
                go_round
                case rel => exact ⟨i, i, by omega, rfl, by go_num, HYY.out, by omega⟩
                case measure => simp [intOf] <;> omega
              | false =>
                obtain rfl := EZ.out
                have HNN := Lib.hid (HNO.out rfl)
                go_wp2
                go_round
                case rel => exact ⟨i, y, by omega, rfl, by go_num, HNN.out, hy1⟩
                case measure => simp [intOf] <;> omega
    · obtain rfl : k = l.length := by omega
      have EO := Lib.hid (HEO.out rfl)
      go_wp2
      go_returns
      exact ret_ints (by rw [EO.out]; exact HOW.out.mono (by omega)) (through ((Below.refl _ _).alloc (Nat.le_refl _) _) (Nat.le_refl _) (HB.out.mono (by simp)))
end Go.Proofs.Ytaodbjgcidkpkaa.Sp

namespace Go.Proofs.Ytaodbjgcidkpkaa.Sp
open Go.ChangeShapes Go.WideShapes Go.ChangeAt Go.RowKit M

theorem users1_any (o : OpP) (a : Option Addr × Nat) (op : Int) (q B : Nat) (w : World) (hin : IsInts w B ⟨a.1, a.2, o.ins⟩) (hB : B ≤ w.heap.size) (hq : q < w.heap.size) (hc : w.cell? ⟨q, 0, none⟩ = some (.int .i64 op)) :
    Calls Try.prog 49 #[.agg #[.int .i64 o.kind, .slice a.1 o.ins.length a.2, .int .i64 o.fo, .int .i64 o.fa, .int .i64 o.fb, .int .i64 o.parts, .int .i64 o.rate, .int .i64 o.cost], .pointer (some ⟨q, 0, none⟩)] w fun e w' => e = .returned (.bool (hasB o.ins op)) ∧ Below w.heap.size w w' := by
  have HC := Lib.hid (fun w0 hw => contains_any a.1 a.2 o.ins op B w0 hw)
  have HI := Lib.hid (fun ob => hin.keep (w' := w.alloc ob) fun q hq => World.cell?_alloc_lt w _ q (by omega))
  clear hin
  go_enter Try.func49, Try.ntmps49
  go_wp2_with fail
  refine (HC.out _ (HI.out _)).mono ?_
  rintro e w' ⟨rfl, rfl⟩
  go_wp2
  go_returns
  exact ⟨rfl, by go_grown⟩

theorem sources1_any (o : OpP) (a : Option Addr × Nat) (w : World) :
    Calls Try.prog 58 #[.agg #[.int .i64 o.kind, .slice a.1 o.ins.length a.2, .int .i64 o.fo, .int .i64 o.fa, .int .i64 o.fb, .int .i64 o.parts, .int .i64 o.rate, .int .i64 o.cost]] w fun e w' => e = .returned (.bool (o.kind == 1)) ∧ Below w.heap.size w w' := by
  cases h : (o.kind == 1) <;> (go_enter Try.func58, Try.ntmps58; go_wp2; go_returns; exact ⟨by first | rfl | simp_all, by go_grown⟩)
theorem sinks1_any (o : OpP) (a : Option Addr × Nat) (w : World) :
    Calls Try.prog 59 #[.agg #[.int .i64 o.kind, .slice a.1 o.ins.length a.2, .int .i64 o.fo, .int .i64 o.fa, .int .i64 o.fb, .int .i64 o.parts, .int .i64 o.rate, .int .i64 o.cost]] w fun e w' => e = .returned (.bool (o.kind == 8)) ∧ Below w.heap.size w w' := by
  cases h : (o.kind == 8) <;> (go_enter Try.func59, Try.ntmps59; go_wp2; go_returns; exact ⟨by first | rfl | simp_all, by go_grown⟩)

theorem which_users (g : Int) (A : Option Addr) (c : Nat) (l : List OpP) (p : Nat → Option Addr × Nat) (op : Int) (q : Nat) (w : World) (B : Nat) (hB : B ≤ w.heap.size) (h : IsOps w B A l p) (hl : l.length ≤ 1000000) (hq : q < w.heap.size) (hc : w.cell? ⟨q, 0, none⟩ = some (.int .i64 op)) :
    Calls Try.prog 48 #[.agg #[.int .i64 g, .slice A l.length c], .func (.func 49) #[] #[.pointer (some ⟨q, 0, none⟩)]] w (RetInts w (whichF (fun i => hasB (insOf l i) op) l.length)) := by
  have HH := Lib.hid h
  have HF : Hid (∀ k, k < l.length → ∀ w0, Below w.heap.size w w0 → Calls Try.prog 49 #[.agg #[.int .i64 (opOf l k).kind, .slice (p k).1 (opOf l k).ins.length (p k).2, .int .i64 (opOf l k).fo, .int .i64 (opOf l k).fa, .int .i64 (opOf l k).fb, .int .i64 (opOf l k).parts, .int .i64 (opOf l k).rate, .int .i64 (opOf l k).cost], .pointer (some ⟨q, 0, none⟩)] w0 fun e w' => e = .returned (.bool ((fun i => hasB (insOf l i) op) k)) ∧ Below w0.heap.size w0 w') := by
    intro k hk w0 hb0
    exact users1_any (opOf l k) (p k) op q B w0 ((h.2 k hk).2.below (hb0.mono hB)) (Nat.le_trans hB hb0.size) (Nat.lt_of_lt_of_le hq hb0.size) ((hb0.cell (p := ⟨q, 0, none⟩) hq).trans hc)
  obtain ⟨f, hf⟩ : ∃ f : Nat → Bool, (fun i => hasB (insOf l i) op) = f := ⟨_, rfl⟩
  rw [hf] at HF ⊢
  clear h hf hc hq
  go_enter Try.func48, Try.ntmps48
  go_wp2
  go_loopw [5, 11] (fun v q wr => ∃ k : Nat, k ≤ l.length ∧ q = .int .i64 k ∧ OwnI wr (w.heap.size + 1) v (whichF f k) ∧ Below (w.heap.size + 1) (w.alloc (.cells #[.int .i64 g, .slice A l.length c] 24)) wr) (fun _ q _ => l.length - (intOf q).toNat)
  case atStart => exact ⟨0, by omega, rfl, OwnI.nil _ _, Below.refl _ _⟩
  case round =>
    obtain ⟨k, hk, rfl, hown, hbl⟩ := hrel
    have HB := Lib.hid hbl
    have HOW := Lib.hid hown
    clear hown hbl
    by_cases hlt : k < l.length
    · have HK := Lib.hid (HF.out k hlt)
      obtain ⟨b, o, rfl, hb, c0, c1, c2, c3, c4, c5, c6, c7, -⟩ := (HH.out.alloc hB (.cells #[.int .i64 g, .slice A l.length c] 24)).at_ hlt
      unfold kindOf at c0
      unfold insOf at c1
      generalize opOf l k = O at *
      generalize p k = a at *
      have hbw : b < wr.heap.size := by have := HB.out.size; simp at this; omega
      have k0 := (HB.out.cell (p := ⟨b, o + k * 8, none⟩) (by show b < _; omega)).trans c0
      have k1 := (HB.out.cell (p := ⟨b, o + k * 8 + 1, none⟩) (by show b < _; omega)).trans c1
      have k2 := (HB.out.cell (p := ⟨b, o + k * 8 + 2, none⟩) (by show b < _; omega)).trans c2
      have k3 := (HB.out.cell (p := ⟨b, o + k * 8 + 3, none⟩) (by show b < _; omega)).trans c3
      have k4 := (HB.out.cell (p := ⟨b, o + k * 8 + 4, none⟩) (by show b < _; omega)).trans c4
      have k5 := (HB.out.cell (p := ⟨b, o + k * 8 + 5, none⟩) (by show b < _; omega)).trans c5
      have k6 := (HB.out.cell (p := ⟨b, o + k * 8 + 6, none⟩) (by show b < _; omega)).trans c6
      have k7 := (HB.out.cell (p := ⟨b, o + k * 8 + 7, none⟩) (by show b < _; omega)).trans c7
      clear c0 c1 c2 c3 c4 c5 c6 c7
      have hsz : w.heap.size + 1 ≤ wr.heap.size := by have := HB.out.size; simpa using this
      have HX : Hid (∀ ob w2, Below (wr.alloc ob).heap.size (wr.alloc ob) w2 → Below (w.heap.size + 1) (w.alloc (.cells #[.int .i64 g, .slice (some ⟨b, o, none⟩) l.length c] 24)) w2 ∧ OwnI w2 (w.heap.size + 1) u5 (whichF f k) ∧ w.heap.size + 1 ≤ w2.heap.size) := fun ob w2 h2 =>
        ⟨through (HB.out.alloc hsz ob) (by simp) h2, (HOW.out.alloc ob).below h2, by have := h2.size; simp at this; omega⟩
      have HW : Hid (∀ ob, Below w.heap.size w (wr.alloc ob)) := fun ob => (through ((Below.refl _ _).alloc (Nat.le_refl _) _) (Nat.le_refl _) (HB.out.mono (by simp))).alloc (by omega) ob
      have hle := whichF_len f k
      have EY := Lib.hid (fun e => whichF_yes (f := f) (n := k) e)
      have EN := Lib.hid (fun e => whichF_no (f := f) (n := k) e)
      generalize f k = z at *
      cases z with
      | true =>
        have EW := Lib.hid (EY.out rfl)
        go_wp2_with fail
        refine (HK.out _ (HW.out _)).mono ?_
        rintro e w2 ⟨rfl, h2⟩
        obtain ⟨hx1, hx2, hx3⟩ := HX.out _ _ h2
        have HX1 := Lib.hid hx1
        have HX2 := Lib.hid hx2
        clear h2 hx1 hx2 k0 k1 k2 k3 k4 k5 k6 k7
        go_wp2_with (at_builtin; refine app_int rfl _ _ rfl (w.heap.size + 1) rfl (HX2.out.alloc _) (u := (k : Int)) ?hu ⟨w2.heap.size, 0, none⟩ rfl ?hc ?hn ?hs ?_)
        case hu => unfold In64; omega
        case hc => go_simp
        case hn => omega
        case hs => simp; omega
        intro v' w3 hown2 hgr
        have HO2 := Lib.hid hown2
        have HB2 := Lib.hid (grown_below HX1.out HX2.out hgr hx3)
        clear hown2 hgr
        go_wp2
        go_roundw
        case rel => exact ⟨k + 1, by omega, by go_num, by rw [EW.out]; exact HO2.out, HB2.out⟩
        case measure => simp [intOf]; omega
      | false =>
        have EW := Lib.hid (EN.out rfl)
        go_wp2_with fail
        refine (HK.out _ (HW.out _)).mono ?_
        rintro e w2 ⟨rfl, h2⟩
        obtain ⟨hx1, hx2, hx3⟩ := HX.out _ _ h2
        have HX1 := Lib.hid hx1
        have HX2 := Lib.hid hx2
        clear h2 hx1 hx2 k0 k1 k2 k3 k4 k5 k6 k7
        go_wp2
        go_roundw
        case rel => exact ⟨k + 1, by omega, by go_num, by rw [EW.out]; exact HX2.out, HX1.out⟩
        case measure => simp [intOf]; omega
    · obtain rfl : k = l.length := by omega
      go_wp2
      go_returns
      exact ret_ints (HOW.out.mono (by omega)) (through ((Below.refl _ _).alloc (Nat.le_refl _) _) (Nat.le_refl _) (HB.out.mono (by simp)))

theorem which_sources (g : Int) (A : Option Addr) (c : Nat) (l : List OpP) (p : Nat → Option Addr × Nat) (w : World) (B : Nat) (hB : B ≤ w.heap.size) (h : IsOps w B A l p) (hl : l.length ≤ 1000000) :
    Calls Try.prog 48 #[.agg #[.int .i64 g, .slice A l.length c], .func (.func 58) #[] #[]] w (RetInts w (whichF (fun i => kindOf l i == 1) l.length)) := by
  have HH := Lib.hid h
  have HF : Hid (∀ k, k < l.length → ∀ w0, Below w.heap.size w w0 → Calls Try.prog 58 #[.agg #[.int .i64 (opOf l k).kind, .slice (p k).1 (opOf l k).ins.length (p k).2, .int .i64 (opOf l k).fo, .int .i64 (opOf l k).fa, .int .i64 (opOf l k).fb, .int .i64 (opOf l k).parts, .int .i64 (opOf l k).rate, .int .i64 (opOf l k).cost]] w0 fun e w' => e = .returned (.bool ((fun i => kindOf l i == 1) k)) ∧ Below w0.heap.size w0 w') := by
    intro k hk w0 hb0
    exact sources1_any (opOf l k) (p k) w0
  obtain ⟨f, hf⟩ : ∃ f : Nat → Bool, (fun i => kindOf l i == 1) = f := ⟨_, rfl⟩
  rw [hf] at HF ⊢
  clear h hf
  go_enter Try.func48, Try.ntmps48
  go_wp2
  go_loopw [5, 11] (fun v q wr => ∃ k : Nat, k ≤ l.length ∧ q = .int .i64 k ∧ OwnI wr (w.heap.size + 1) v (whichF f k) ∧ Below (w.heap.size + 1) (w.alloc (.cells #[.int .i64 g, .slice A l.length c] 24)) wr) (fun _ q _ => l.length - (intOf q).toNat)
  case atStart => exact ⟨0, by omega, rfl, OwnI.nil _ _, Below.refl _ _⟩
  case round =>
    obtain ⟨k, hk, rfl, hown, hbl⟩ := hrel
    have HB := Lib.hid hbl
    have HOW := Lib.hid hown
    clear hown hbl
    by_cases hlt : k < l.length
    · have HK := Lib.hid (HF.out k hlt)
      obtain ⟨b, o, rfl, hb, c0, c1, c2, c3, c4, c5, c6, c7, -⟩ := (HH.out.alloc hB (.cells #[.int .i64 g, .slice A l.length c] 24)).at_ hlt
      unfold kindOf at c0
      unfold insOf at c1
      generalize opOf l k = O at *
      generalize p k = a at *
      have hbw : b < wr.heap.size := by have := HB.out.size; simp at this; omega
      have k0 := (HB.out.cell (p := ⟨b, o + k * 8, none⟩) (by show b < _; omega)).trans c0
      have k1 := (HB.out.cell (p := ⟨b, o + k * 8 + 1, none⟩) (by show b < _; omega)).trans c1
      have k2 := (HB.out.cell (p := ⟨b, o + k * 8 + 2, none⟩) (by show b < _; omega)).trans c2
      have k3 := (HB.out.cell (p := ⟨b, o + k * 8 + 3, none⟩) (by show b < _; omega)).trans c3
      have k4 := (HB.out.cell (p := ⟨b, o + k * 8 + 4, none⟩) (by show b < _; omega)).trans c4
      have k5 := (HB.out.cell (p := ⟨b, o + k * 8 + 5, none⟩) (by show b < _; omega)).trans c5
      have k6 := (HB.out.cell (p := ⟨b, o + k * 8 + 6, none⟩) (by show b < _; omega)).trans c6
      have k7 := (HB.out.cell (p := ⟨b, o + k * 8 + 7, none⟩) (by show b < _; omega)).trans c7
      clear c0 c1 c2 c3 c4 c5 c6 c7
      have hsz : w.heap.size + 1 ≤ wr.heap.size := by have := HB.out.size; simpa using this
      have HX : Hid (∀ ob w2, Below (wr.alloc ob).heap.size (wr.alloc ob) w2 → Below (w.heap.size + 1) (w.alloc (.cells #[.int .i64 g, .slice (some ⟨b, o, none⟩) l.length c] 24)) w2 ∧ OwnI w2 (w.heap.size + 1) u5 (whichF f k) ∧ w.heap.size + 1 ≤ w2.heap.size) := fun ob w2 h2 =>
        ⟨through (HB.out.alloc hsz ob) (by simp) h2, (HOW.out.alloc ob).below h2, by have := h2.size; simp at this; omega⟩
      have HW : Hid (∀ ob, Below w.heap.size w (wr.alloc ob)) := fun ob => (through ((Below.refl _ _).alloc (Nat.le_refl _) _) (Nat.le_refl _) (HB.out.mono (by simp))).alloc (by omega) ob
      have hle := whichF_len f k
      have EY := Lib.hid (fun e => whichF_yes (f := f) (n := k) e)
      have EN := Lib.hid (fun e => whichF_no (f := f) (n := k) e)
      generalize f k = z at *
      cases z with
      | true =>
        have EW := Lib.hid (EY.out rfl)
        go_wp2_with fail
        refine (HK.out _ (HW.out _)).mono ?_
        rintro e w2 ⟨rfl, h2⟩
        obtain ⟨hx1, hx2, hx3⟩ := HX.out _ _ h2
        have HX1 := Lib.hid hx1
        have HX2 := Lib.hid hx2
        clear h2 hx1 hx2 k0 k1 k2 k3 k4 k5 k6 k7
        go_wp2_with (at_builtin; refine app_int rfl _ _ rfl (w.heap.size + 1) rfl (HX2.out.alloc _) (u := (k : Int)) ?hu ⟨w2.heap.size, 0, none⟩ rfl ?hc ?hn ?hs ?_)
        case hu => unfold In64; omega
        case hc => go_simp
        case hn => omega
        case hs => simp; omega
        intro v' w3 hown2 hgr
        have HO2 := Lib.hid hown2
        have HB2 := Lib.hid (grown_below HX1.out HX2.out hgr hx3)
        clear hown2 hgr
        go_wp2
        go_roundw
        case rel => exact ⟨k + 1, by omega, by go_num, by rw [EW.out]; exact HO2.out, HB2.out⟩
        case measure => simp [intOf]; omega
      | false =>
        have EW := Lib.hid (EN.out rfl)
        go_wp2_with fail
        refine (HK.out _ (HW.out _)).mono ?_
        rintro e w2 ⟨rfl, h2⟩
        obtain ⟨hx1, hx2, hx3⟩ := HX.out _ _ h2
        have HX1 := Lib.hid hx1
        have HX2 := Lib.hid hx2
        clear h2 hx1 hx2 k0 k1 k2 k3 k4 k5 k6 k7
        go_wp2
        go_roundw
        case rel => exact ⟨k + 1, by omega, by go_num, by rw [EW.out]; exact HX2.out, HX1.out⟩
        case measure => simp [intOf]; omega
    · obtain rfl : k = l.length := by omega
      go_wp2
      go_returns
      exact ret_ints (HOW.out.mono (by omega)) (through ((Below.refl _ _).alloc (Nat.le_refl _) _) (Nat.le_refl _) (HB.out.mono (by simp)))

theorem which_sinks (g : Int) (A : Option Addr) (c : Nat) (l : List OpP) (p : Nat → Option Addr × Nat) (w : World) (B : Nat) (hB : B ≤ w.heap.size) (h : IsOps w B A l p) (hl : l.length ≤ 1000000) :
    Calls Try.prog 48 #[.agg #[.int .i64 g, .slice A l.length c], .func (.func 59) #[] #[]] w (RetInts w (whichF (fun i => kindOf l i == 8) l.length)) := by
  have HH := Lib.hid h
  have HF : Hid (∀ k, k < l.length → ∀ w0, Below w.heap.size w w0 → Calls Try.prog 59 #[.agg #[.int .i64 (opOf l k).kind, .slice (p k).1 (opOf l k).ins.length (p k).2, .int .i64 (opOf l k).fo, .int .i64 (opOf l k).fa, .int .i64 (opOf l k).fb, .int .i64 (opOf l k).parts, .int .i64 (opOf l k).rate, .int .i64 (opOf l k).cost]] w0 fun e w' => e = .returned (.bool ((fun i => kindOf l i == 8) k)) ∧ Below w0.heap.size w0 w') := by
    intro k hk w0 hb0
    exact sinks1_any (opOf l k) (p k) w0
  obtain ⟨f, hf⟩ : ∃ f : Nat → Bool, (fun i => kindOf l i == 8) = f := ⟨_, rfl⟩
  rw [hf] at HF ⊢
  clear h hf
  go_enter Try.func48, Try.ntmps48
  go_wp2
  go_loopw [5, 11] (fun v q wr => ∃ k : Nat, k ≤ l.length ∧ q = .int .i64 k ∧ OwnI wr (w.heap.size + 1) v (whichF f k) ∧ Below (w.heap.size + 1) (w.alloc (.cells #[.int .i64 g, .slice A l.length c] 24)) wr) (fun _ q _ => l.length - (intOf q).toNat)
  case atStart => exact ⟨0, by omega, rfl, OwnI.nil _ _, Below.refl _ _⟩
  case round =>
    obtain ⟨k, hk, rfl, hown, hbl⟩ := hrel
    have HB := Lib.hid hbl
    have HOW := Lib.hid hown
    clear hown hbl
    by_cases hlt : k < l.length
    · have HK := Lib.hid (HF.out k hlt)
      obtain ⟨b, o, rfl, hb, c0, c1, c2, c3, c4, c5, c6, c7, -⟩ := (HH.out.alloc hB (.cells #[.int .i64 g, .slice A l.length c] 24)).at_ hlt
      unfold kindOf at c0
      unfold insOf at c1
      generalize opOf l k = O at *
      generalize p k = a at *
      have hbw : b < wr.heap.size := by have := HB.out.size; simp at this; omega
      have k0 := (HB.out.cell (p := ⟨b, o + k * 8, none⟩) (by show b < _; omega)).trans c0
      have k1 := (HB.out.cell (p := ⟨b, o + k * 8 + 1, none⟩) (by show b < _; omega)).trans c1
      have k2 := (HB.out.cell (p := ⟨b, o + k * 8 + 2, none⟩) (by show b < _; omega)).trans c2
      have k3 := (HB.out.cell (p := ⟨b, o + k * 8 + 3, none⟩) (by show b < _; omega)).trans c3
      have k4 := (HB.out.cell (p := ⟨b, o + k * 8 + 4, none⟩) (by show b < _; omega)).trans c4
      have k5 := (HB.out.cell (p := ⟨b, o + k * 8 + 5, none⟩) (by show b < _; omega)).trans c5
      have k6 := (HB.out.cell (p := ⟨b, o + k * 8 + 6, none⟩) (by show b < _; omega)).trans c6
      have k7 := (HB.out.cell (p := ⟨b, o + k * 8 + 7, none⟩) (by show b < _; omega)).trans c7
      clear c0 c1 c2 c3 c4 c5 c6 c7
      have hsz : w.heap.size + 1 ≤ wr.heap.size := by have := HB.out.size; simpa using this
      have HX : Hid (∀ ob w2, Below (wr.alloc ob).heap.size (wr.alloc ob) w2 → Below (w.heap.size + 1) (w.alloc (.cells #[.int .i64 g, .slice (some ⟨b, o, none⟩) l.length c] 24)) w2 ∧ OwnI w2 (w.heap.size + 1) u5 (whichF f k) ∧ w.heap.size + 1 ≤ w2.heap.size) := fun ob w2 h2 =>
        ⟨through (HB.out.alloc hsz ob) (by simp) h2, (HOW.out.alloc ob).below h2, by have := h2.size; simp at this; omega⟩
      have HW : Hid (∀ ob, Below w.heap.size w (wr.alloc ob)) := fun ob => (through ((Below.refl _ _).alloc (Nat.le_refl _) _) (Nat.le_refl _) (HB.out.mono (by simp))).alloc (by omega) ob
      have hle := whichF_len f k
      have EY := Lib.hid (fun e => whichF_yes (f := f) (n := k) e)
      have EN := Lib.hid (fun e => whichF_no (f := f) (n := k) e)
      generalize f k = z at *
      cases z with
      | true =>
        have EW := Lib.hid (EY.out rfl)
        go_wp2_with fail
        refine (HK.out _ (HW.out _)).mono ?_
        rintro e w2 ⟨rfl, h2⟩
        obtain ⟨hx1, hx2, hx3⟩ := HX.out _ _ h2
        have HX1 := Lib.hid hx1
        have HX2 := Lib.hid hx2
        clear h2 hx1 hx2 k0 k1 k2 k3 k4 k5 k6 k7
        go_wp2_with (at_builtin; refine app_int rfl _ _ rfl (w.heap.size + 1) rfl (HX2.out.alloc _) (u := (k : Int)) ?hu ⟨w2.heap.size, 0, none⟩ rfl ?hc ?hn ?hs ?_)
        case hu => unfold In64; omega
        case hc => go_simp
        case hn => omega
        case hs => simp; omega
        intro v' w3 hown2 hgr
        have HO2 := Lib.hid hown2
        have HB2 := Lib.hid (grown_below HX1.out HX2.out hgr hx3)
        clear hown2 hgr
        go_wp2
        go_roundw
        case rel => exact ⟨k + 1, by omega, by go_num, by rw [EW.out]; exact HO2.out, HB2.out⟩
        case measure => simp [intOf]; omega
      | false =>
        have EW := Lib.hid (EN.out rfl)
        go_wp2_with fail
        refine (HK.out _ (HW.out _)).mono ?_
        rintro e w2 ⟨rfl, h2⟩
        obtain ⟨hx1, hx2, hx3⟩ := HX.out _ _ h2
        have HX1 := Lib.hid hx1
        have HX2 := Lib.hid hx2
        clear h2 hx1 hx2 k0 k1 k2 k3 k4 k5 k6 k7
        go_wp2
        go_roundw
        case rel => exact ⟨k + 1, by omega, by go_num, by rw [EW.out]; exact HX2.out, HX1.out⟩
        case measure => simp [intOf]; omega
    · obtain rfl : k = l.length := by omega
      go_wp2
      go_returns
      exact ret_ints (HOW.out.mono (by omega)) (through ((Below.refl _ _).alloc (Nat.le_refl _) _) (Nat.le_refl _) (HB.out.mono (by simp)))

theorem sources_any (g : Int) (A : Option Addr) (c : Nat) (l : List OpP) (p : Nat → Option Addr × Nat) (w : World) (B : Nat) (hB : B ≤ w.heap.size) (h : IsOps w B A l p) (hl : l.length ≤ 1000000) :
    Calls Try.prog 21 #[.agg #[.int .i64 g, .slice A l.length c]] w (RetInts w (kindF l 1)) := by
  have HK := Lib.hid (which_sources g A c l p (w.alloc (.cells #[.int .i64 g, .slice A l.length c] 24)) B (by simp; omega) (h.alloc hB _) hl)
  clear h
  go_enter Try.func21, Try.ntmps21
  go_wp2_with fail
  refine HK.out.mono ?_
  rintro e w2 ⟨A2, c2, rfl, hown, hb⟩
  have HO := Lib.hid hown
  have HB := Lib.hid hb
  clear hown hb
  go_wp2
  go_returns
  exact ⟨A2, c2, rfl, HO.out.mono (by simp), through ((Below.refl _ _).alloc (Nat.le_refl _) _) (Nat.le_refl _) HB.out⟩

theorem sinks_any (g : Int) (A : Option Addr) (c : Nat) (l : List OpP) (p : Nat → Option Addr × Nat) (w : World) (B : Nat) (hB : B ≤ w.heap.size) (h : IsOps w B A l p) (hl : l.length ≤ 1000000) :
    Calls Try.prog 22 #[.agg #[.int .i64 g, .slice A l.length c]] w (RetInts w (kindF l 8)) := by
  have HK := Lib.hid (which_sinks g A c l p (w.alloc (.cells #[.int .i64 g, .slice A l.length c] 24)) B (by simp; omega) (h.alloc hB _) hl)
  clear h
  go_enter Try.func22, Try.ntmps22
  go_wp2_with fail
  refine HK.out.mono ?_
  rintro e w2 ⟨A2, c2, rfl, hown, hb⟩
  have HO := Lib.hid hown
  have HB := Lib.hid hb
  clear hown hb
  go_wp2
  go_returns
  exact ⟨A2, c2, rfl, HO.out.mono (by simp), through ((Below.refl _ _).alloc (Nat.le_refl _) _) (Nat.le_refl _) HB.out⟩

theorem users_any (g : Int) (A : Option Addr) (c : Nat) (l : List OpP) (p : Nat → Option Addr × Nat) (op : Int) (w : World) (B : Nat) (hB : B ≤ w.heap.size) (h : IsOps w B A l p) (hl : l.length ≤ 1000000) :
    Calls Try.prog 14 #[.agg #[.int .i64 g, .slice A l.length c], .int .i64 op] w (RetInts w (usersF l op)) := by
  have HK := Lib.hid (which_users g A c l p op (w.heap.size + 1) ((w.alloc (.cells #[.int .i64 g, .slice A l.length c] 24)).alloc (.cells #[.int .i64 op] 3)) B (by simp; omega) ((h.alloc hB _).alloc (by simp; omega) _) hl (by simp) (by go_simp))
  clear h
  go_enter Try.func14, Try.ntmps14
  go_wp2_with fail
  refine HK.out.mono ?_
  rintro e w2 ⟨A2, c2, rfl, hown, hb⟩
  have HO := Lib.hid hown
  have HB := Lib.hid hb
  clear hown hb
  go_wp2
  go_returns
  exact ⟨A2, c2, rfl, HO.out.mono (by first | (simp; done) | (simp; omega)), through (((Below.refl _ _).alloc (Nat.le_refl _) _).alloc (by simp) _) (by first | (simp; done) | (simp; omega)) HB.out⟩
end Go.Proofs.Ytaodbjgcidkpkaa.Sp

namespace Go.Proofs.Ytaodbjgcidkpkaa.Sp
open Go.ChangeShapes Go.WideShapes Go.ChangeAt Go.RowKit M

theorem order1_any (A : Option Addr) (c : Nat) (xs : List Int) (n : Int) (q B : Nat) (w : World) (h : IsInts w B ⟨A, c, xs⟩) (hq : w.cell? ⟨q, 0, none⟩ = some (.slice A xs.length c)) :
    Calls Try.prog 56 #[.int .i64 n, .pointer (some ⟨q, 0, none⟩)] w fun e w' => e = .returned (.bool (!hasB xs n)) ∧ w = w' := by
  have HC := Lib.hid (contains_any A c xs n B w h)
  clear h
  go_enter Try.func56, Try.ntmps56
  go_wp2_with fail
  refine HC.out.mono ?_
  rintro e w' ⟨rfl, rfl⟩
  go_wp2
  go_returns
  exact ⟨rfl, rfl⟩

/-- where the first missing one stands -/
def missB (out ys : List Int) : Bool := ys.any fun y => !hasB out y
theorem miss_at {out ys : List Int} {k : Nat} (hk : k < ys.length) (h : hasB out (ys.getD k 0) = false) : missB out ys = true := by
  unfold missB; rw [List.any_eq_true]; exact ⟨_, getD_mem hk, by rw [h]; rfl⟩
theorem miss_none {out ys : List Int} (h : ∀ k, k < ys.length → hasB out (ys.getD k 0) = true) : missB out ys = false := by
  unfold missB; rw [List.any_eq_false]; intro y hy
  obtain ⟨k, hk, e⟩ := mem_getD hy
  rw [← e, h k hk]; simp
theorem ready_miss (l : List OpP) (out : List Int) (i : Nat) : readyB l out i = (!hasB out i && !missB out (insOf l i)) := by
  unfold readyB missB; congr 1
  rw [Bool.eq_iff_iff]; simp

theorem indexF_any (A Y : Option Addr) (c cy : Nat) (xs ys : List Int) (q B : Nat) (w : World) (h : IsInts w B ⟨A, c, xs⟩) (hq : w.cell? ⟨q, 0, none⟩ = some (.slice A xs.length c)) (hy : IsInts w B ⟨Y, cy, ys⟩) :
    Calls Try.prog 76 #[.slice Y ys.length cy, .func (.func 56) #[] #[.pointer (some ⟨q, 0, none⟩)]] w fun e w' => (∃ n : Int, e = .returned (.int .i64 n) ∧ missB xs ys = decide (0 ≤ n)) ∧ w = w' := by
  have hlen : ys.length ≤ 9223372036854775807 := by have := hy.2.1; have := hy.2.2.1; unfold maxLen at this; simp only at *; omega
  have HC := Lib.hid (fun n => order1_any A c xs n q B w h hq)
  have HY := Lib.hid hy
  clear h hq hy
  go_enter Try.func76, Try.ntmps76
  go_wp2
  go_loop [8] (fun i => ∃ k : Nat, k ≤ ys.length ∧ i = .int .i64 k ∧ ∀ j, j < k → hasB xs (ys.getD j 0) = true) (fun i => ys.length - (intOf i).toNat)
  case atStart => exact ⟨0, by omega, rfl, fun j hj => absurd hj (by omega)⟩
  case round =>
    obtain ⟨k, hk, rfl, hno⟩ := hrel
    have HN := Lib.hid hno
    clear hno
    by_cases hlt : k < ys.length
    · obtain ⟨b, o, v, rfl, hb, HV, -, hc⟩ := ints_at HY.out hlt
      have HC1 := Lib.hid (HC.out v)
      cases hv : hasB xs v with
      | true =>
        rw [hv] at HC1
        have HX := Lib.hid (show hasB xs (ys.getD k 0) = true by rw [HV.out]; exact hv)
        clear hv
        go_wp2_with fail
        refine HC1.out.mono ?_
        rintro e w' ⟨rfl, rfl⟩
        go_wp2
        go_round
        case rel => exact ⟨k + 1, by omega, by go_num, fun j hj => by
          rcases (show j < k ∨ j = k by omega) with h | rfl
          · exact HN.out j h
          · exact HX.out⟩
        case measure => simp [intOf]; omega
      | false =>
        rw [hv] at HC1
        have HX := Lib.hid (miss_at (out := xs) hlt (by rw [HV.out]; exact hv))
        clear hv
        go_wp2_with fail
        refine HC1.out.mono ?_
        rintro e w' ⟨rfl, rfl⟩
        go_wp2
        go_returns
        exact ⟨⟨k, rfl, by rw [HX.out]; simp⟩, rfl⟩
    · obtain rfl : k = ys.length := by omega
      have HX := Lib.hid (miss_none HN.out)
      go_wp2
      go_returns
      exact ⟨⟨-1, rfl, by rw [HX.out]; rfl⟩, rfl⟩

theorem containsF_any (A Y : Option Addr) (c cy : Nat) (xs ys : List Int) (q B : Nat) (w : World) (h : IsInts w B ⟨A, c, xs⟩) (hq : w.cell? ⟨q, 0, none⟩ = some (.slice A xs.length c)) (hy : IsInts w B ⟨Y, cy, ys⟩) :
    Calls Try.prog 57 #[.slice Y ys.length cy, .func (.func 56) #[] #[.pointer (some ⟨q, 0, none⟩)]] w fun e w' => e = .returned (.bool (missB xs ys)) ∧ w = w' := by
  have HC := Lib.hid (indexF_any A Y c cy xs ys q B w h hq hy)
  clear h hq hy
  go_enter Try.func57, Try.ntmps57
  go_wp2_with fail
  refine HC.out.mono ?_
  rintro e w' ⟨⟨n, rfl, hn⟩, rfl⟩
  have HN := Lib.hid hn
  clear hn
  go_wp2
  go_returns
  exact ⟨by rw [HN.out]; rfl, rfl⟩

/-- the world at a jump: m operators stand in the order -/
def OrdW (w : World) (g : Int) (A : Option Addr) (l : List OpP) (c m : Nat) (wr : World) : Prop :=
  Below (w.heap.size + 1) (w.alloc (.cells #[.int .i64 g, .slice A l.length c] 24)) wr ∧ (ordSt l m).length = m ∧
  ∃ v, Blk wr (w.heap.size + 1) 29 #[v] ∧ OwnI wr (w.heap.size + 2) v (ordSt l m)
def lenOut (B : Nat) (w : World) : Nat := match w.cell? ⟨B, 0, none⟩ with | some (.slice _ n _) => n | _ => 0
theorem OrdW.len {w : World} {g : Int} {A : Option Addr} {l : List OpP} {c m : Nat} {wr : World} (h : OrdW w g A l c m wr) : lenOut (w.heap.size + 1) wr = m := by
  obtain ⟨-, hm, v, hb, ho⟩ := h
  obtain ⟨A', c', rfl⟩ := ho.form
  unfold lenOut
  rw [hb.cell]
  exact hm
theorem OrdW.size {w : World} {g : Int} {A : Option Addr} {l : List OpP} {c m : Nat} {wr : World} (h : OrdW w g A l c m wr) : w.heap.size + 2 ≤ wr.heap.size := by
  obtain ⟨-, hm, v, hb, ho⟩ := h
  have := hb.lt; omega
theorem OrdW.alloc {w : World} {g : Int} {A : Option Addr} {l : List OpP} {c m : Nat} {wr : World} (h : OrdW w g A l c m wr) (o : Obj) : OrdW w g A l c m (wr.alloc o) := by
  have hs := h.size
  obtain ⟨h1, hm, v, hb, ho⟩ := h
  exact ⟨h1.alloc (by omega) o, hm, v, hb.alloc o, ho.alloc o⟩

theorem wp_scope_from {P : Program} {a : Act} {w : World} {Q : Exit → Act → World → Prop} {c r : Code} (l : Nat) (J : Act → World → Prop) (μ : Act → World → Nat) (hf : findLabel c l = some (Code.skip.seq r))
    (start : (∀ a' w', J a' w' → r.wp P (Exit.jump l J Q) a' w') → c.wp P (Exit.jump l J Q) a w)
    (pass : ∀ a w, J a w → r.wp P (Exit.jump l (fun a' w' => J a' w' ∧ μ a' w' < μ a w) Q) a w) : (Code.scope c).wp P Q a w :=
  wp_scope_jumps l J μ hf (start fun a' w' hJ => wp_mono (pass a' w' hJ) fun e a2 w2 h => by
    cases e with
    | goto l' => exact ⟨h.1, h.2.1⟩
    | _ => exact h) fun a' w' hJ => by
      have h := pass a' w' hJ
      apply wp_seq
      apply wp_skip
      exact h

set_option maxHeartbeats 4000000 in
theorem order_any (g : Int) (A : Option Addr) (c : Nat) (l : List OpP) (p : Nat → Option Addr × Nat) (w : World) (B : Nat) (hB : B ≤ w.heap.size) (h : IsOps w B A l p) (hl : l.length ≤ 1000000) :
    Calls Try.prog 20 #[.agg #[.int .i64 g, .slice A l.length c]] w (RetInts w (orderF l)) := by
  have HH := Lib.hid h
  clear h
  go_enter Try.func20, Try.ntmps20
  go_wp2
  refine wp_scope_from 0 (fun a' w' => (∃ m, OrdW w g A l c m w') ∧ ∃ (u5 u6 u7 u8 u9 u10 u11 u12 u13 u14 u15 u16 u17 u18 u19 u20 u21 u22 u23 u24 u25 u26 u27 u28 u29 u30 u31 : Value), a' = { tmps := #[.agg #[.int .i64 g, .slice A l.length c], .pointer (some ⟨w.heap.size, 0, none⟩), .slice none 0 0, .pointer (some ⟨w.heap.size + 1, 0, none⟩), .func (.func 56) #[] #[.pointer (some ⟨w.heap.size + 1, 0, none⟩)], u5, u6, u7, u8, u9, u10, u11, u12, u13, u14, u15, u16, u17, u18, u19, u20, u21, u22, u23, u24, u25, u26, u27, u28, u29, u30, u31], defers := [] }) (fun _ w' => l.length - lenOut (w.heap.size + 1) w') rfl ?_ ?_
  · intro H
    have HST := Lib.hid H
    clear H
    go_wp2
    go_step3
    rename_i hK
    refine hK _ _ (HST.out _ _ ⟨⟨0, ?_⟩, _, _, _, _, _, _, _, _, _, _, _, _, _, _, _, _, _, _, _, _, _, _, _, _, _, _, _, rfl⟩)
    refine ⟨(Below.refl _ _).alloc (by simp) _, rfl, .slice none 0 0, ?_, OwnI.nil _ _⟩
    have := Blk.new (w.alloc (.cells #[.int .i64 g, .slice A l.length c] 24)) 29 #[.slice none 0 0]
    simpa using this
  · rintro a' w' ⟨⟨m, hj⟩, u5, u6, u7, u8, u9, u10, u11, u12, u13, u14, u15, u16, u17, u18, u19, u20, u21, u22, u23, u24, u25, u26, u27, u28, u29, u30, u31, rfl⟩
    have HJ := Lib.hid hj
    have HM := Lib.hid hj.len
    have hg : w'.cell? ⟨w.heap.size, 1, none⟩ = some (.slice A l.length c) := (hj.1.cell (p := ⟨w.heap.size, 1, none⟩) (by show w.heap.size < _; omega)).trans (by go_simp)
    clear hj
    go_wp2
    go_loopw [11] (fun q wr => ∃ k : Nat, k ≤ l.length ∧ q = .int .i64 k ∧ OrdW w g A l c m wr ∧ ∀ j, j < k → readyB l (ordSt l m) j = false) (fun q _ => l.length - (intOf q).toNat)
    case atStart => exact ⟨0, by omega, rfl, HJ.out, fun j hj => absurd hj (by omega)⟩
    case round =>
      obtain ⟨k, hk, rfl, hjr, hno⟩ := hrel
      have HN := Lib.hid hno
      have HR := Lib.hid hjr
      clear hno hg
      obtain ⟨hb1, hlen, v, hblk, hown⟩ := hjr
      have hsz := HR.out.size
      obtain ⟨Ao, co, rfl⟩ := hown.form
      have hcell : wr.cell? ⟨w.heap.size + 1, 0, none⟩ = some (.slice Ao (ordSt l m).length co) := by rw [hblk.cell]; rfl
      have hfree := hblk.frozen 0
      have HB := Lib.hid hb1
      have HLEN := Lib.hid hlen
      have HBK := Lib.hid hblk
      have HOW := Lib.hid hown
      clear hb1 hlen hblk hown
      by_cases hlt : k < l.length
      · obtain ⟨b, o, rfl, hb, c0, c1, c2, c3, c4, c5, c6, c7, -, hin⟩ := (HH.out.alloc hB (.cells #[.int .i64 g, .slice A l.length c] 24)).at_ hlt
        have ER := Lib.hid (ready_miss l (ordSt l m) k)
        have HYES : Hid (readyB l (ordSt l m) k = true → ordSt l (m + 1) = ordSt l m ++ [(k : Int)]) := fun h => ordSt_some (nextF_is hlt h HN.out)
        have HNO : Hid (readyB l (ordSt l m) k = false → ∀ j, j < k + 1 → readyB l (ordSt l m) j = false) := fun h j hj => by
          rcases (show j < k ∨ j = k by omega) with h1 | rfl
          · exact HN.out j h1
          · exact h
        have hbw : b < wr.heap.size := by omega
        have hb1w : w.heap.size + 1 < wr.heap.size := by omega
        have k0 := (HB.out.cell (p := ⟨b, o + k * 8, none⟩) (by show b < _; omega)).trans c0
        have k1 := (HB.out.cell (p := ⟨b, o + k * 8 + 1, none⟩) (by show b < _; omega)).trans c1
        have k2 := (HB.out.cell (p := ⟨b, o + k * 8 + 2, none⟩) (by show b < _; omega)).trans c2
        have k3 := (HB.out.cell (p := ⟨b, o + k * 8 + 3, none⟩) (by show b < _; omega)).trans c3
        have k4 := (HB.out.cell (p := ⟨b, o + k * 8 + 4, none⟩) (by show b < _; omega)).trans c4
        have k5 := (HB.out.cell (p := ⟨b, o + k * 8 + 5, none⟩) (by show b < _; omega)).trans c5
        have k6 := (HB.out.cell (p := ⟨b, o + k * 8 + 6, none⟩) (by show b < _; omega)).trans c6
        have k7 := (HB.out.cell (p := ⟨b, o + k * 8 + 7, none⟩) (by show b < _; omega)).trans c7
        have hinr := (hin.more (B' := w.heap.size) hB).keep (w' := wr) (fun q hq => HB.out.cell (p := q) (by omega))
        have hlen2 : (ordSt l m).length < 1000000000 := by have := ordSt_len l m; omega
        clear c0 c1 c2 c3 c4 c5 c6 c7 hin
        generalize insOf l k = xs at *
        generalize kindOf l k = kd at *
        generalize opOf l k = O at *
        generalize p k = a at *
        obtain ⟨pa, pc⟩ := a
        simp only at k1 hinr
        have HC1 := Lib.hid (fun ob => order1_any Ao co (ordSt l m) (k : Int) (w.heap.size + 1) _ (wr.alloc ob) (HOW.out.alloc ob).ints (by rw [World.cell?_alloc_lt _ _ _ (by show w.heap.size + 1 < _; omega)]; exact hcell))
        have HC2 := Lib.hid (fun ob => containsF_any Ao pa co pc (ordSt l m) xs (w.heap.size + 1) _ (wr.alloc ob) (HOW.out.alloc ob).ints (by rw [World.cell?_alloc_lt _ _ _ (by show w.heap.size + 1 < _; omega)]; exact hcell) ((hinr.keep (w' := wr.alloc ob) (fun q hq => World.cell?_alloc_lt wr _ q (by omega))).more (by simp; omega)))
        clear hinr
        cases e1 : hasB (ordSt l m) (k : Int) with
        | true =>
          have EN := Lib.hid (HNO.out (by rw [ER.out, e1]; rfl))
          rw [e1] at HC1
          clear e1
          go_wp2_with (first | (go_at_call 56; refine (HC1.out _).mono ?_; rintro e w2 ⟨rfl, rfl⟩))
          go_roundw
          case rel => exact ⟨k + 1, by omega, by go_num, HR.out.alloc _, EN.out⟩
          case measure => simp [intOf]; omega
        | false =>
          cases e2 : missB (ordSt l m) xs with
          | true =>
            have EN := Lib.hid (HNO.out (by rw [ER.out, e1, e2]; rfl))
            rw [e1] at HC1
            rw [e2] at HC2
            clear e1 e2
            go_wp2_with (first | (go_at_call 56; refine (HC1.out _).mono ?_; rintro e w2 ⟨rfl, rfl⟩) | (go_at_call 57; refine (HC2.out _).mono ?_; rintro e w3 ⟨rfl, rfl⟩))
            go_roundw
            case rel => exact ⟨k + 1, by omega, by go_num, HR.out.alloc _, EN.out⟩
            case measure => simp [intOf]; omega
          | false =>
            have EY := Lib.hid (HYES.out (by rw [ER.out, e1, e2]; rfl))
            have HU := Lib.hid (show In64 (k : Int) by unfold In64; omega)
            have HL := Lib.hid hlen2
            have HSZ : Hid (∀ ob, (wr.alloc ob).heap.size = wr.heap.size + 1) := fun ob => by simp
            have HZ : Hid (∀ ob, w.heap.size + 2 ≤ (wr.alloc ob).heap.size) := fun ob => by simp; omega
            rw [e1] at HC1
            rw [e2] at HC2
            clear e1 e2
            go_wp2_with (first | (go_at_call 56; refine (HC1.out _).mono ?_; rintro e w2 ⟨rfl, rfl⟩) | (go_at_call 57; refine (HC2.out _).mono ?_; rintro e w3 ⟨rfl, rfl⟩) | (at_builtin; refine app_newN rfl _ _ rfl (w.heap.size + 2) (HOW.out.alloc _) rfl HU.out (wr.heap.size + 1) (HSZ.out _) rfl HL.out (HZ.out _) ?_))
            intro v' w4 hown4 hb4
            obtain ⟨A4, c4, rfl⟩ := hown4.form
            obtain ⟨n4, hn4⟩ : ∃ n, (ordSt l m ++ [(k : Int)]).length = n := ⟨_, rfl⟩
            rw [hn4] at hown4 ⊢
            clear hn4
            have HO4 := Lib.hid hown4
            have HB4 := Lib.hid hb4
            have hblk4 := (HBK.out.alloc (.cells #[.int .i64 kd, .slice pa xs.length pc, .int .i64 O.fo, .int .i64 O.fa, .int .i64 O.fb, .int .i64 O.parts, .int .i64 O.rate, .int .i64 O.cost] 40)).below HB4.out (by omega)
            have hcell4 : w4.cell? ⟨w.heap.size + 1, 0, none⟩ = some (.slice Ao (ordSt l m).length co) := by rw [hblk4.cell]; rfl
            have hfree4 := hblk4.frozen 0
            have HOD : Hid (OrdW w g (some ⟨b, o, none⟩) l c (m + 1) (w4.setCell ⟨w.heap.size + 1, 0, none⟩ (.slice A4 n4 c4))) := by
              refine ⟨((HB.out.alloc (by omega) _).trans (HB4.out.mono (by omega))).setCell (by simp) _, by rw [EY.out, List.length_append, HLEN.out]; rfl, _, hblk4.set_ 0 _, ?_⟩
              rw [EY.out]
              refine HO4.out.far (fun e => ?_) _
              have := (HO4.out.blk _ e).1
              simp at this
            have HMS : Hid (l.length - lenOut (w.heap.size + 1) (w4.setCell ⟨w.heap.size + 1, 0, none⟩ (.slice A4 n4 c4)) < l.length - lenOut (w.heap.size + 1) w') := by
              have h1 := HOD.out.len
              have h2 := ordSt_len l (m + 1)
              rw [EY.out, List.length_append, HLEN.out] at h2
              have h3 := HM.out
              show l.length - _ < l.length - _
              rw [h1, h3]
              simp at h2
              omega
            clear hown4 hb4 hblk4 hcell
            go_wp2
            go_step3
            exact ⟨rfl, ⟨⟨m + 1, HOD.out⟩, _, _, _, _, _, _, _, _, _, _, _, _, _, _, _, _, _, _, _, _, _, _, _, _, _, _, _, rfl⟩, HMS.out⟩
      · obtain rfl : k = l.length := by omega
        have EO := Lib.hid (show orderF l = ordSt l m from ordSt_none (nextF_no HN.out) l.length (by have := ordSt_len l m; rw [HLEN.out] at this; exact this))
        go_wp2
        simp only [Exit.jump]
        go_returns
        exact ret_ints (by rw [EO.out]; exact HOW.out.mono (by omega)) (through ((Below.refl _ _).alloc (Nat.le_refl _) _) (Nat.le_refl _) (HB.out.mono (by simp)))
end Go.Proofs.Ytaodbjgcidkpkaa.Sp
