/- Jobs: the order, as the document has it. -/
import Derived.Test.YtaodbjgcidkpkaaSp2
import Derived.Test.YtaodbjgcidkpkaaOwn
namespace Go.Proofs.Ytaodbjgcidkpkaa.Sp
open Go.ChangeShapes Go.WideShapes Go.ChangeAt Go.RowKit M

theorem all_allB {f : Int → Bool} (xs : List Int) : xs.all f = allB (fun k => f (xs.getD k 0)) xs.length := by
  rw [Bool.eq_iff_iff, List.all_eq_true, allB_iff]
  constructor
  · intro h j hj; exact h _ (getD_mem hj)
  · intro h x hx
    obtain ⟨k, hk, e⟩ := mem_getD hx
    rw [← e]; exact h k hk
theorem ready_all (l : List OpP) (out : List Int) (i : Nat) : readyB l out i = (!hasB out i && allB (fun k => hasB out ((insOf l i).getD k 0)) (insOf l i).length) := by
  unfold readyB; rw [all_allB]

/-- the first that may, of those from m on; -1 -/
def NextAt (l : List OpP) (out : List Int) (m : Nat) (z : Int) : Prop :=
  (z = -1 ∧ ∀ j, m ≤ j → j < l.length → readyB l out j = false) ∨ (∃ j : Nat, z = j ∧ m ≤ j ∧ j < l.length ∧ readyB l out j = true ∧ ∀ i, m ≤ i → i < j → readyB l out i = false)
theorem NextAt.start (l : List OpP) (out : List Int) : NextAt l out l.length (-1) := .inl ⟨rfl, fun j h1 h2 => absurd h2 (by omega)⟩
theorem NextAt.yes {l : List OpP} {out : List Int} {m : Nat} (hm : m < l.length) (hr : readyB l out m = true) : NextAt l out m m := .inr ⟨m, rfl, Nat.le_refl _, hm, hr, fun i h1 h2 => absurd h2 (by omega)⟩
theorem NextAt.no {l : List OpP} {out : List Int} {m : Nat} {z : Int} (h : NextAt l out (m + 1) z) (hr : readyB l out m = false) : NextAt l out m z := by
  rcases h with ⟨h1, h2⟩ | ⟨j, h1, h2, h3, h4, h5⟩
  · refine .inl ⟨h1, fun j hj hj2 => ?_⟩
    rcases (show m + 1 ≤ j ∨ j = m by omega) with h | rfl
    · exact h2 j h hj2
    · exact hr
  · refine .inr ⟨j, h1, by omega, h3, h4, fun i hi hi2 => ?_⟩
    rcases (show m + 1 ≤ i ∨ i = m by omega) with h | rfl
    · exact h5 i h hi2
    · exact hr
theorem NextAt.none_ {l : List OpP} {out : List Int} {z : Int} (h : NextAt l out 0 z) (hz : z < 0) : nextF l out l.length = none := by
  rcases h with ⟨h1, h2⟩ | ⟨j, h1, h2, h3, h4, h5⟩
  · exact nextF_no fun j hj => h2 j (by omega) hj
  · omega
theorem NextAt.some_ {l : List OpP} {out : List Int} {z : Int} (h : NextAt l out 0 z) (hz : 0 ≤ z) : ∃ j : Nat, z = j ∧ j < l.length ∧ nextF l out l.length = some j := by
  rcases h with ⟨h1, h2⟩ | ⟨j, h1, h2, h3, h4, h5⟩
  · omega
  · exact ⟨j, h1, h3, nextF_is h3 h4 fun i hi => h5 i (by omega) hi⟩

/-- a flag behind j of them -/
def FlagAt (F : Nat → Bool) (h : Bool) (j : Nat) (z : Bool) : Prop := z = (!h && allB F j)
theorem FlagAt.start (F : Nat → Bool) (h : Bool) : FlagAt F h 0 (!h) := by unfold FlagAt; simp [allB]
theorem FlagAt.no {F : Nat → Bool} {h : Bool} {j : Nat} (e : FlagAt F h j false) : FlagAt F h (j + 1) false := by
  unfold FlagAt at *; rw [allB, ← Bool.and_assoc, ← e]; rfl
theorem FlagAt.yes {F : Nat → Bool} {h : Bool} {j : Nat} {z : Bool} (e : FlagAt F h j true) (hz : F j = z) : FlagAt F h (j + 1) z := by
  unfold FlagAt at *; rw [allB, ← Bool.and_assoc, ← e, hz]; rfl

set_option maxHeartbeats 1000000 in
theorem refOrder_any (g : Int) (A : Option Addr) (c : Nat) (l : List OpP) (p : Nat → Option Addr × Nat) (w : World) (B : Nat) (hB : B ≤ w.heap.size) (h : IsOps w B A l p) (hl : l.length ≤ 1000000) :
    Calls Try.prog 23 #[.agg #[.int .i64 g, .slice A l.length c]] w (RetInts w (orderF l)) := by
  have HH := Lib.hid h
  clear h
  go_enter Try.func23, Try.ntmps23
  go_wp2
  go_loopw [3, 11] (fun v q wr => ∃ k : Nat, k ≤ l.length ∧ q = .int .i64 k ∧ OwnI wr (w.heap.size + 1) v (ordSt l k) ∧ Below (w.heap.size + 1) (w.alloc (.cells #[.int .i64 g, .slice A l.length c] 24)) wr) (fun _ q _ => l.length - (intOf q).toNat)
  case atStart => exact ⟨0, by omega, rfl, OwnI.nil _ _, Below.refl _ _⟩
  case round =>
    obtain ⟨k, hk, rfl, hown, hbl⟩ := hrel
    obtain ⟨wo, rfl⟩ : ∃ wo : World, wo = wr := ⟨_, rfl⟩
    have HB := Lib.hid hbl
    have hg : wo.cell? ⟨w.heap.size, 1, none⟩ = some (.slice A l.length c) := (HB.out.cell (p := ⟨w.heap.size, 1, none⟩) (by show w.heap.size < _; omega)).trans (by go_simp)
    have HG := Lib.hid hg
    obtain ⟨Ao, co, rfl⟩ := hown.form
    have HI := Lib.hid hown.ints
    have HOW := Lib.hid hown
    have HS := Lib.hid (ordSt_len l k)
    have hn2 : (ordSt l k).length ≤ l.length := HS.out
    have HN : Hid (∀ z : Int, z < 0 → NextAt l (ordSt l k) 0 z → orderF l = ordSt l k) := fun z hz h => ordSt_none (h.none_ hz) l.length hk
    have HY : Hid (∀ z : Int, 0 ≤ z → NextAt l (ordSt l k) 0 z → ordSt l (k + 1) = ordSt l k ++ [z] ∧ z < l.length) := fun z hz h => by
      obtain ⟨j, e, hj, hs⟩ := h.some_ hz
      rw [e]; exact ⟨ordSt_some hs, by omega⟩
    have HEO : Hid (k = l.length → orderF l = ordSt l k) := fun e => by rw [e]; rfl
    generalize ordSt l k = out at *
    clear hown hbl
    by_cases hlt : k < l.length
    · go_wp2
      go_loop [4, 5] (fun z i => ∃ (m : Nat) (y : Int), m ≤ l.length ∧ z = .int .i64 y ∧ i = .int .i64 ((m : Int) - 1) ∧ NextAt l out m y ∧ -1 ≤ y) (fun _ i => (intOf i + 1).toNat)
      case atStart => exact ⟨l.length, -1, by omega, rfl, by go_num, NextAt.start _ _, by omega⟩
      case round =>
        obtain ⟨m, y, hm, rfl, rfl, hny, hy1⟩ := hrel
        have HNY := Lib.hid hny
        clear hny
        rcases (show m = 0 ∨ 0 < m by omega) with rfl | hm0
        · rcases (show y < 0 ∨ 0 ≤ y by omega) with hy | hy
          · have E := Lib.hid (HN.out y hy HNY.out)
            go_wp2
            go_returns
            exact ret_ints (by rw [E.out]; exact HOW.out.mono (by omega)) (through ((Below.refl _ _).alloc (Nat.le_refl _) _) (Nat.le_refl _) (HB.out.mono (by simp)))
          · obtain ⟨e1, e2⟩ := HY.out y hy HNY.out
            have E1 := Lib.hid e1
            have hsz : w.heap.size + 1 ≤ wo.heap.size := by have := HB.out.size; simpa using this
            clear e1
            have HU := Lib.hid (show In64 y by unfold In64; omega)
            have HL := Lib.hid (show out.length < 1000000000 by omega)
            have HZ := Lib.hid hsz
            go_wp2_with (at_builtin; refine app_new rfl _ _ rfl (w.heap.size + 1) HOW.out rfl HU.out rfl HL.out HZ.out ?_)
            intro v' w2 hown2 hgr
            have HO2 := Lib.hid hown2
            have HB2 := Lib.hid (HB.out.trans hgr)
            clear hown2 hgr
            go_wp2
            go_roundw
            case rel => exact ⟨k + 1, by omega, by go_num, by rw [E1.out]; exact HO2.out, HB2.out⟩
            case measure => simp [intOf]; omega
        · obtain ⟨i, rfl⟩ : ∃ i, m = i + 1 := ⟨m - 1, by omega⟩
          have ei : ((i + 1 : Nat) : Int) - 1 = (i : Int) := by omega
          rw [ei]
          clear ei
          have hi : i < l.length := by omega
          obtain ⟨b, o, rfl, hb, -, c1, -, -, -, -, -, -, -, hin⟩ := (HH.out.alloc hB (.cells #[.int .i64 g, .slice A l.length c] 24)).at_ hi
          have hcell := (HB.out.cell (p := ⟨b, o + i * 8 + 1, none⟩) (by show b < _; omega)).trans c1
          have HIN := Lib.hid ((hin.more (B' := w.heap.size) hB).keep (w' := wo) (fun q hq => HB.out.cell (p := q) (by omega)))
          have hxl : (insOf l i).length ≤ 9223372036854775807 := by have := hin.2.1; have := hin.2.2.1; unfold maxLen at this; simp only at *; omega
          have HC := Lib.hid (fun z => refHas_any Ao co out z wo.heap.size wo HI.out)
          have ER := Lib.hid (ready_all l out i)
          have HYES := Lib.hid (fun h => NextAt.yes (l := l) (out := out) (m := i) hi h)
          have HNO := Lib.hid (fun h => NextAt.no (l := l) (out := out) (m := i) HNY.out h)
          generalize readyB l out i = rd at *
          generalize insOf l i = xs at *
          generalize p i = a at *
          obtain ⟨pa, pc⟩ := a
          simp only at hcell HIN
          clear c1 hin
          obtain ⟨h0, hh0⟩ : ∃ z, hasB out (i : Int) = z := ⟨_, rfl⟩
          have HC0 := Lib.hid (HC.out (i : Int))
          rw [hh0] at HC0 ER
          clear hh0
          go_wp2_with (go_at_call 53; refine HC0.out.mono ?_; rintro e w' ⟨rfl, rfl⟩)
          obtain ⟨F, hF⟩ : ∃ F : Nat → Bool, (fun k => hasB out (xs.getD k 0)) = F := ⟨_, rfl⟩
          have HFK : Hid (∀ k, F k = hasB out (xs.getD k 0)) := fun k => by rw [← hF]
          rw [hF] at ER
          clear hF
          go_loop [6, 7] (fun r q => ∃ (j : Nat) (z : Bool), j ≤ xs.length ∧ q = .int .i64 j ∧ r = .bool z ∧ FlagAt F h0 j z) (fun _ q => xs.length - (intOf q).toNat)
          case atStart => exact ⟨0, _, by omega, rfl, rfl, FlagAt.start _ _⟩
          case round =>
            obtain ⟨j, z, hj, rfl, rfl, hz⟩ := hrel
            have HZ := Lib.hid hz
            clear hz
            by_cases hjl : j < xs.length
            · obtain ⟨b2, o2, v, rfl, hb2, HV, -, hc2⟩ := ints_at HIN.out hjl
              cases z with
              | false =>
                go_wp2
                go_round
                case rel => exact ⟨j + 1, false, by omega, by go_num, rfl, HZ.out.no⟩
                case measure => simp [intOf]; omega
              | true =>
                have HC1 := Lib.hid (HC.out v)
                have HF := Lib.hid ((HFK.out j).trans (by rw [HV.out]))
                generalize hasB out v = hv at *
                go_wp2_with (go_at_call 53; refine HC1.out.mono ?_; rintro e w' ⟨rfl, rfl⟩)
                go_round
                case rel => exact ⟨j + 1, hv, by omega, by go_num, rfl, HZ.out.yes HF.out⟩
                case measure => simp [intOf]; omega
            · obtain rfl : j = xs.length := by omega
              have EZ : Hid (z = rd) := HZ.out.trans ER.out.symm
              cases rd with
              | true =>
                obtain rfl := EZ.out
                have HYY := Lib.hid (HYES.out rfl)
                go_wp2
                go_round
                case rel => exact ⟨i, i, by omega, rfl, by go_num, HYY.out, by omega⟩
                case measure => simp [intOf] <;> omega
              | false =>
                obtain rfl := EZ.out
                have HNN := Lib.hid (HNO.out rfl)
                go_wp2
                go_round
                case rel => exact ⟨i, y, by omega, rfl, by go_num, HNN.out, hy1⟩
                case measure => simp [intOf] <;> omega
    · obtain rfl : k = l.length := by omega
      have EO := Lib.hid (HEO.out rfl)
      go_wp2
      go_returns
      exact ret_ints (by rw [EO.out]; exact HOW.out.mono (by omega)) (through ((Below.refl _ _).alloc (Nat.le_refl _) _) (Nat.le_refl _) (HB.out.mono (by simp)))
end Go.Proofs.Ytaodbjgcidkpkaa.Sp
