/- The iterator over all tasks: for every loop body that keeps the numbers. -/
import Derived.Test.YtjinpmengjfmpaaGpP
import Derived.Test.YtjinpmengjfmpaaRows
import Derived.WalkKit
import Derived.ProofKit
import Derived.OpenShut
import Derived.Outline
import Derived.Handy
import Derived.Lib.Hide
import Derived.RangeFuncBox
import Derived.RangeFuncLeaves
import Derived.RangeFuncNested
import Derived.Shelf.Abstract
import Derived.OwnWalkIn
import Derived.TacticsInMore
import Derived.LoopNIn
import Derived.LoopIn
import Derived.Maps.AppendAt
import Derived.StillTailTactics
import Derived.Deep.Cut
import Derived.Deep.RegionHeld3
import Derived.BigQuiet
import Derived.Deep.QuietTactic
namespace Go.Proofs.Ytjinpmengjfmpaa.Gp
open Go.ChangeShapes Go.WideShapes Go.ChangeAt Go.RowKit Go.Shelf M
attribute [local go_sem] Oper.semAt_some

theorem ints_get {w : World} {B : Nat} {b o c : Nat} {xs : List Int} (h : IsInts w B ⟨some ⟨b, o, none⟩, c, xs⟩) {k : Nat} (hk : k < xs.length) : w.cell? ⟨b, o + k, none⟩ = some (.int .i64 (xs.getD k 0)) := by
  obtain ⟨b', o', e, hb, hc⟩ := h.1.at1 hk
  simp only [Option.some.injEq, Addr.mk.injEq, and_true] at e
  obtain ⟨rfl, rfl⟩ := e
  exact hc
theorem ints_in64 {w : World} {B : Nat} {A : Option Addr} {c : Nat} {xs : List Int} (h : IsInts w B ⟨A, c, xs⟩) (k : Nat) : In64 (xs.getD k 0) := by
  rw [List.getD_eq_getElem?_getD]
  by_cases hk : k < xs.length
  · rw [List.getElem?_eq_getElem hk]; exact h.2.2.2 _ (List.getElem_mem hk)
  · rw [List.getElem?_eq_none (by omega)]; unfold In64; simp
theorem ints_addr {w : World} {B : Nat} {A : Option Addr} {c : Nat} {xs : List Int} (h : IsInts w B ⟨A, c, xs⟩) (hp : 0 < xs.length) : ∃ b o, A = some ⟨b, o, none⟩ := by
  obtain ⟨b, o, e, -⟩ := h.1.at1 hp
  exact ⟨b, o, e⟩
theorem ints_len9 {w : World} {B : Nat} {A : Option Addr} {c : Nat} {xs : List Int} (h : IsInts w B ⟨A, c, xs⟩) : xs.length ≤ 9223372036854775807 := by
  have := h.2.1; have := h.2.2.1; unfold maxLen at this; simp only at *; omega

set_option maxRecDepth 100000 in
set_option maxHeartbeats 4000000 in
theorem spots1_in (n : Nat) (hn : 1 ≤ n) (l Bp n₀ : Nat) (A : Option Addr) (c : Nat) (par : List Int) (hN : (spotsN par).length ≤ 1000000)
    (J Jx : List Tri → World → Prop)
    (hY : ∀ (pre : List Tri) (x : Tri) (W : World), J pre W → pre.length < (spotsN par).length → x ∈ spotsN par → YieldAt Fence.wide (n - 1) Try.prog l #[.int .i64 (x.1 : Int), .agg #[.int .i64 (x.2.1 : Int), .int .i64 (x.2.2 : Int)]] W fun e W' =>
      (e = .returned (.bool true) ∧ J (pre ++ [x]) W' ∧ Below n₀ W W') ∨ (e = .returned (.bool false) ∧ Jx (pre ++ [x]) W'))
    (W : World) (hc : W.cell? ⟨Bp, 0, none⟩ = some (.slice A par.length c)) (hI : IsInts W n₀ ⟨A, c, par⟩) (h0 : J [] W) :
    CallsIn Fence.wide n Try.prog 79 #[.func (.yield l) #[] #[], .pointer (some ⟨Bp, 0, none⟩)] W fun e W' => (∃ v, e = .returned v) ∧
      ((∃ ys, ys = spotsN par ∧ J ys W') ∨ (∃ pre, pre <+: spotsN par ∧ Jx pre W')) := by
  have HY := Lib.hid hY
  have HI := Lib.hid hI
  have HN := Lib.hid hN
  have hl9 := ints_len9 hI
  clear hY hI hN
  refine callsIn_of_wp Try.func79 rfl trivial ?_ rfl
  simp only [Try.ntmps79, List.size_toArray, List.length_cons, List.length_nil, Nat.reduceAdd, Nat.reduceSub, Array.replicate_succ, Array.replicate_zero, List.push_toArray, List.append_toArray, List.nil_append, List.cons_append]
  gi_wp2
  gi_loopw [3, 9] (fun p q wr => ∃ i : Nat, i ≤ par.length ∧ q = .int .i64 i ∧ p = .int .i64 ((upto par i).length : Int) ∧ J (upto par i) wr ∧ IsInts wr n₀ ⟨A, c, par⟩) (fun _ q _ => par.length - (intOf q).toNat)
  case atStart => exact ⟨0, by omega, rfl, rfl, h0, HI.out⟩
  case round =>
    obtain ⟨i, hi, rfl, rfl, hJ, hIw⟩ := hrel
    obtain ⟨wo, rfl⟩ : ∃ wo : World, wo = wr := ⟨_, rfl⟩
    have HJ := Lib.hid hJ
    have HIW := Lib.hid hIw
    clear hJ hIw
    by_cases hlt : i < par.length
    · have t1 : decide (i < par.length) = true := decide_eq_true hlt
      obtain ⟨b, o, rfl⟩ := ints_addr HIW.out (by omega)
      have hcell := ints_get HIW.out hlt
      have h64 := ints_in64 HIW.out i
      obtain ⟨k, hk⟩ : ∃ k, par.getD i 0 = k := ⟨_, rfl⟩
      rw [hk] at hcell h64
      unfold In64 at h64
      obtain ⟨k0, k1⟩ := h64
      have HK := Lib.hid hk
      clear hk
      gi_wp2
      gi_loopw [3, 6] (fun p q wr => ∃ t : Nat, (t : Int) ≤ max k 0 ∧ q = .int .i64 t ∧ p = .int .i64 ((uptoT par i t).length : Int) ∧ J (uptoT par i t) wr ∧ IsInts wr n₀ ⟨some ⟨b, o, none⟩, c, par⟩) (fun _ q _ => k.toNat - (intOf q).toNat)
      case atStart => exact ⟨0, by omega, rfl, by rw [uptoT_zero], by rw [uptoT_zero]; exact HJ.out, HIW.out⟩
      case round =>
        obtain ⟨t, ht, rfl, rfl, hJ2, hIw2⟩ := hrel
        have HJ2 := Lib.hid hJ2
        have HIW2 := Lib.hid hIw2
        clear hJ2 hIw2
        by_cases hlk : (t : Int) < k
        · have t2 : decide ((t : Int) < k) = true := decide_eq_true hlk
          have hpre := uptoT_in (par := par) (i := i) (t := t + 1) hlt (by rw [HK.out]; omega)
          have hle := hpre.length_le
          have hn1 := HN.out
          have hu := uptoT_len (par := par) (i := i) (t := t)
          have hu2 := uptoT_len (par := par) (i := i) (t := t + 1)
          have hlen : (uptoT par i t).length < (spotsN par).length := by omega
          have hsm : (uptoT par i t).length ≤ 1000000 := by omega
          have HPRE := Lib.hid hpre
          have hmem : ((upto par i).length + t, i, t) ∈ spotsN par := hpre.subset (by rw [uptoT_snoc]; simp)
          rw [← hu] at hmem
          have HU := Lib.hid hu
          obtain ⟨m, hm⟩ : ∃ m, (uptoT par i t).length = m := ⟨_, rfl⟩
          have HM := Lib.hid hm
          rw [hm] at hsm hu hmem ⊢
          obtain ⟨fn, tmps, assign, body, hy, hR⟩ := HY.out _ (m, i, t) wr HJ2.out hlen hmem
          dsimp only at hy
          clear hpre hle hn1 hu hu2 hlen hm hmem
          gi_wp2
          refine hR.mono ?_
          rintro e W3 (⟨rfl, hJ3, hk3⟩ | ⟨rfl, hJx3⟩)
          · have HK3 := Lib.hid hk3
            clear hk3 hy hR
            gi_wp2
            go_roundw
            case rel => exact ⟨t + 1, by omega, by go_num, by rw [uptoT_len]; have := HU.out; have := HM.out; go_num, by rw [uptoT_snoc, ← HU.out, HM.out]; exact hJ3, HIW2.out.below HK3.out⟩
            case measure => simp [intOf]; omega
          · gi_wp2
            refine bodyPost_ret (results_none rfl _ _ _) rfl ?_
            exact ⟨⟨_, rfl⟩, .inr ⟨_, by rw [← HM.out, HU.out, ← uptoT_snoc]; exact HPRE.out, hJx3⟩⟩
        · have e1 : upto par (i + 1) = uptoT par i t := by rw [upto_succ, HK.out]; congr 1; omega
          have E1 := Lib.hid e1
          clear e1
          gi_wp2
          go_roundw
          case rel => exact ⟨i + 1, by omega, by go_num, by rw [E1.out], by rw [E1.out]; exact HJ2.out, HIW2.out⟩
          case measure => simp [intOf]; omega
    · obtain rfl : i = par.length := by omega
      gi_wp2
      go_end0
      exact ⟨⟨_, rfl⟩, .inl ⟨_, rfl, HJ.out⟩⟩
end Go.Proofs.Ytjinpmengjfmpaa.Gp
