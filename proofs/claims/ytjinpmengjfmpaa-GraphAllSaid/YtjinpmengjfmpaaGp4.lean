/- Tasks, edges, numbers: held against one another, written over; lists that lie in a block. -/
import Derived.Test.YtjinpmengjfmpaaGpP
import Derived.Test.YtjinpmengjfmpaaRows
import Derived.WalkKit
import Derived.ProofKit
import Derived.OpenShut
import Derived.Outline
import Derived.Handy
import Derived.Lib.Hide
import Derived.BigQuiet
import Derived.Deep.QuietTactic
namespace Go.Proofs.Ytjinpmengjfmpaa.Gp
open Go.ChangeShapes Go.WideShapes Go.ChangeAt Go.RowKit M

set_option maxHeartbeats 1000000 in
theorem sameSpots_any (A D : Option Addr) (c d : Nat) (xs : List (Int × Int)) (B B2 : Nat) (w : World) (h : IsPairs w B A c xs) (k : IsPairs w B2 D d xs) :
    Calls Try.prog 18 #[.slice A xs.length c, .slice D xs.length d] w fun e w' => e = .returned (.bool true) ∧ Below w.heap.size w w' := by
  have hlen := h.len
  have HX := Lib.hid h
  have HY := Lib.hid k
  have ht : ((xs.length : Int) != (xs.length : Int)) = false := by simp
  clear h k
  go_enter Try.func18, Try.ntmps18
  go_wp2_with fail
  go_loopw [5] (fun q wr => ∃ k : Nat, k ≤ xs.length ∧ q = .int .i64 k ∧ Below w.heap.size w wr ∧ (∀ p : Addr, wr.cell? p = w.cell? p)) (fun q _ => xs.length - (intOf q).toNat)
  case atStart => exact ⟨0, by omega, rfl, Below.refl _ _, fun _ => rfl⟩
  case round =>
    obtain ⟨k, hk, rfl, hbl, hcl⟩ := hrel
    have HB := Lib.hid hbl
    have HC := Lib.hid hcl
    clear hbl hcl
    by_cases hlt : k < xs.length
    · obtain ⟨b, o, x, rfl, hb, HV, -, c0, c1⟩ := pairs_at HX.out hlt
      obtain ⟨b2, o2, x2, rfl, hb2, HV2, -, d0, d1⟩ := pairs_at HY.out hlt
      obtain rfl : x = x2 := HV.out.symm.trans HV2.out
      obtain ⟨x, y⟩ := x
      have e0 := (HC.out ⟨b, o + k * 2, none⟩).trans c0
      have e1 := (HC.out ⟨b, o + k * 2 + 1, none⟩).trans c1
      have f0 := (HC.out ⟨b2, o2 + k * 2, none⟩).trans d0
      have f1 := (HC.out ⟨b2, o2 + k * 2 + 1, none⟩).trans d1
      clear c0 c1 d0 d1
      go_wp2_with fail
      go_quiet (fail)
      go_wp2_with fail
      go_roundw
      case rel => exact ⟨k + 1, by omega, by go_num, below_drewN HB.out _, HC.out⟩
      case measure => simp [intOf]; omega
    · obtain rfl : k = xs.length := by omega
      go_wp2_with fail
      go_returns
      exact ⟨rfl, HB.out⟩

theorem markSpots_any (i : Int) (w : World) (h : 0 ≤ i) (h2 : i ≤ 1000000000) :
    Calls Try.prog 56 #[.int .i64 i] w fun e w' => e = .returned (.agg #[.int .i64 (900 + i), .int .i64 3]) ∧ Below w.heap.size w w' := by
  go_enter Try.func56, Try.ntmps56
  go_wp2
  go_returns
  exact ⟨by first | rfl | simp, by go_grown⟩

theorem pairCells_set (ys : List (Int × Int)) (k : Nat) (a b : Int) (hk : k < ys.length) : ((pairCells ys).set (k * 2) (.int .i64 a)).set (k * 2 + 1) (.int .i64 b) = pairCells (ys.set k (a, b)) := by
  induction ys generalizing k with
  | nil => simp at hk
  | cons y ys ih =>
    cases k with
    | zero => simp [pairCells]
    | succ k =>
      have := ih k (by simpa using hk)
      have e1 : (k + 1) * 2 = k * 2 + 1 + 1 := by omega
      simp only [pairCells, List.flatMap_cons, e1] at *
      simpa using this
/-- a pair of one's own is written over -/
theorem own_pair_set {T : TypeId} {w : World} {B b n c : Nat} {ys : List (Int × Int)} (h : OwnP T w B (.slice (some ⟨b, 0, none⟩) n c) ys) {k : Nat} (hk : k < ys.length) (u : Int × Int) (hu : In2 u) :
    w.frozen? ⟨b, k * 2, none⟩ = false ∧ w.frozen? ⟨b, k * 2 + 1, none⟩ = false ∧ OwnP T ((w.setCell ⟨b, k * 2, none⟩ (.int .i64 u.1)).setCell ⟨b, k * 2 + 1, none⟩ (.int .i64 u.2)) B (.slice (some ⟨b, 0, none⟩) n c) (ys.set k u) := by
  have hn : n = ys.length := by
    rcases h.1.2 with ⟨hv, -⟩ | ⟨g, cap, cur, hv, -⟩
    · cases hv
    · injection hv with e1 e2 e3
  subst hn
  refine ⟨h.1.frozenAt _, h.1.frozenAt _, ?_, fun x hx => ?_⟩
  · have h1 := World.ownsRow.stored (World.ownsRow.stored h.1 (k * 2) (.int .i64 u.1)).1 (k * 2 + 1) (.int .i64 u.2)
    rw [pairCells_set _ _ _ _ hk] at h1
    rw [List.length_set]; exact h1.1
  · rcases List.mem_or_eq_of_mem_set hx with h3 | h3
    · exact h.2 x h3
    · rw [h3]; exact hu

set_option maxHeartbeats 1000000 in
theorem spoilSpots_any (A : Option Addr) (c : Nat) (xs : List (Int × Int)) (B : Nat) (w : World) (h : OwnP 24 w B (.slice A xs.length c) xs) (hl : xs.length ≤ 1000000) :
    Calls Try.prog 22 #[.slice A xs.length c] w fun e w' => e = .returned (.tuple #[]) ∧ w.grownBy w' (Value.slice A xs.length c).ownBlock := by
  go_enter Try.func22, Try.ntmps22
  go_wp2_with fail
  go_loopw [2] (fun q wr => ∃ (k : Nat) (ys : List (Int × Int)), k ≤ xs.length ∧ q = .int .i64 k ∧ ys.length = xs.length ∧ OwnP 24 wr B (.slice A xs.length c) ys ∧ w.grownBy wr (Value.slice A xs.length c).ownBlock) (fun q _ => xs.length - (intOf q).toNat)
  case atStart => exact ⟨0, xs, by omega, rfl, rfl, h, World.grownBy.refl _ _⟩
  case round =>
    obtain ⟨k, ys, hk, rfl, hyl, hown, hg⟩ := hrel
    have HG := Lib.hid hg
    have HYL := Lib.hid hyl
    clear hg
    by_cases hlt : k < xs.length
    · have HM := Lib.hid (markSpots_any ((k : Int) + 7) wr (by omega) (by omega))
      have HOW := Lib.hid hown
      clear hown
      go_wp2_with fail
      refine HM.out.mono ?_
      rintro e w2 ⟨rfl, hb2⟩
      have hown2 := HOW.out.below hb2
      obtain ⟨b, o, x, rfl, hb, HV, h64, c0, c1⟩ := pairs_at hown2.pairs (show k < ys.length by omega)
      obtain ⟨-, rfl, -⟩ := hown2.own rfl
      obtain ⟨f0, f1, hset⟩ := own_pair_set hown2 (show k < ys.length by omega) (900 + ((k : Int) + 7), 3) ⟨by unfold In64; simp only; omega, (by show In64 3; unfold In64; decide)⟩
      have HG2 : Hid (∀ u1 u2, w.grownBy ((w2.setCell ⟨b, k * 2, none⟩ u1).setCell ⟨b, k * 2 + 1, none⟩ u2) (some b)) := fun u1 u2 =>
        only_setCell (only_setCell (HG.out.trans (only_of_below hb2 (some b))) (p := ⟨b, k * 2, none⟩) (.inl rfl) u1) (p := ⟨b, k * 2 + 1, none⟩) (.inl rfl) u2
      have HSET := Lib.hid hset
      simp only [Nat.zero_add] at c0 c1
      clear hown2 hyl hset hb2
      go_wp2_with fail
      go_roundw
      case rel => exact ⟨k + 1, _, by omega, by go_num, by rw [List.length_set]; exact HYL.out, HSET.out, HG2.out _ _⟩
      case measure => simp [intOf]; omega
    · obtain rfl : k = xs.length := by omega
      clear hown hyl
      go_wp2_with fail
      go_returns
      exact ⟨rfl, HG.out⟩

set_option maxHeartbeats 1000000 in
theorem sameEdges_any (A D : Option Addr) (c d : Nat) (xs : List (Int × Int)) (B B2 : Nat) (w : World) (h : IsPairs w B A c xs) (k : IsPairs w B2 D d xs) :
    Calls Try.prog 28 #[.slice A xs.length c, .slice D xs.length d] w fun e w' => e = .returned (.bool true) ∧ Below w.heap.size w w' := by
  have hlen := h.len
  have HX := Lib.hid h
  have HY := Lib.hid k
  have ht : ((xs.length : Int) != (xs.length : Int)) = false := by simp
  clear h k
  go_enter Try.func28, Try.ntmps28
  go_wp2_with fail
  go_loopw [5] (fun q wr => ∃ k : Nat, k ≤ xs.length ∧ q = .int .i64 k ∧ Below w.heap.size w wr ∧ (∀ p : Addr, wr.cell? p = w.cell? p)) (fun q _ => xs.length - (intOf q).toNat)
  case atStart => exact ⟨0, by omega, rfl, Below.refl _ _, fun _ => rfl⟩
  case round =>
    obtain ⟨k, hk, rfl, hbl, hcl⟩ := hrel
    have HB := Lib.hid hbl
    have HC := Lib.hid hcl
    clear hbl hcl
    by_cases hlt : k < xs.length
    · obtain ⟨b, o, x, rfl, hb, HV, -, c0, c1⟩ := pairs_at HX.out hlt
      obtain ⟨b2, o2, x2, rfl, hb2, HV2, -, d0, d1⟩ := pairs_at HY.out hlt
      obtain rfl : x = x2 := HV.out.symm.trans HV2.out
      obtain ⟨x, y⟩ := x
      have e0 := (HC.out ⟨b, o + k * 2, none⟩).trans c0
      have e1 := (HC.out ⟨b, o + k * 2 + 1, none⟩).trans c1
      have f0 := (HC.out ⟨b2, o2 + k * 2, none⟩).trans d0
      have f1 := (HC.out ⟨b2, o2 + k * 2 + 1, none⟩).trans d1
      clear c0 c1 d0 d1
      go_wp2_with fail
      go_quiet (fail)
      go_wp2_with fail
      go_roundw
      case rel => exact ⟨k + 1, by omega, by go_num, below_drewN HB.out _, HC.out⟩
      case measure => simp [intOf]; omega
    · obtain rfl : k = xs.length := by omega
      go_wp2_with fail
      go_returns
      exact ⟨rfl, HB.out⟩

theorem markEdges_any (i : Int) (w : World) (h : 0 ≤ i) (h2 : i ≤ 1000000000) :
    Calls Try.prog 59 #[.int .i64 i] w fun e w' => e = .returned (.agg #[.int .i64 (800 + i), .int .i64 (-9)]) ∧ Below w.heap.size w w' := by
  go_enter Try.func59, Try.ntmps59
  go_wp2
  go_returns
  exact ⟨by first | rfl | simp, by go_grown⟩

set_option maxHeartbeats 1000000 in
theorem spoilEdges_any (A : Option Addr) (c : Nat) (xs : List (Int × Int)) (B : Nat) (w : World) (h : OwnP 49 w B (.slice A xs.length c) xs) (hl : xs.length ≤ 1000000) :
    Calls Try.prog 29 #[.slice A xs.length c] w fun e w' => e = .returned (.tuple #[]) ∧ w.grownBy w' (Value.slice A xs.length c).ownBlock := by
  go_enter Try.func29, Try.ntmps29
  go_wp2_with fail
  go_loopw [2] (fun q wr => ∃ (k : Nat) (ys : List (Int × Int)), k ≤ xs.length ∧ q = .int .i64 k ∧ ys.length = xs.length ∧ OwnP 49 wr B (.slice A xs.length c) ys ∧ w.grownBy wr (Value.slice A xs.length c).ownBlock) (fun q _ => xs.length - (intOf q).toNat)
  case atStart => exact ⟨0, xs, by omega, rfl, rfl, h, World.grownBy.refl _ _⟩
  case round =>
    obtain ⟨k, ys, hk, rfl, hyl, hown, hg⟩ := hrel
    have HG := Lib.hid hg
    have HYL := Lib.hid hyl
    clear hg
    by_cases hlt : k < xs.length
    · have HM := Lib.hid (markEdges_any ((k : Int) + 7) wr (by omega) (by omega))
      have HOW := Lib.hid hown
      clear hown
      go_wp2_with fail
      refine HM.out.mono ?_
      rintro e w2 ⟨rfl, hb2⟩
      have hown2 := HOW.out.below hb2
      obtain ⟨b, o, x, rfl, hb, HV, h64, c0, c1⟩ := pairs_at hown2.pairs (show k < ys.length by omega)
      obtain ⟨-, rfl, -⟩ := hown2.own rfl
      obtain ⟨f0, f1, hset⟩ := own_pair_set hown2 (show k < ys.length by omega) (800 + ((k : Int) + 7), -9) ⟨by unfold In64; simp only; omega, (by show In64 (-9); unfold In64; decide)⟩
      have HG2 : Hid (∀ u1 u2, w.grownBy ((w2.setCell ⟨b, k * 2, none⟩ u1).setCell ⟨b, k * 2 + 1, none⟩ u2) (some b)) := fun u1 u2 =>
        only_setCell (only_setCell (HG.out.trans (only_of_below hb2 (some b))) (p := ⟨b, k * 2, none⟩) (.inl rfl) u1) (p := ⟨b, k * 2 + 1, none⟩) (.inl rfl) u2
      have HSET := Lib.hid hset
      simp only [Nat.zero_add] at c0 c1
      clear hown2 hyl hset hb2
      go_wp2_with fail
      go_roundw
      case rel => exact ⟨k + 1, _, by omega, by go_num, by rw [List.length_set]; exact HYL.out, HSET.out, HG2.out _ _⟩
      case measure => simp [intOf]; omega
    · obtain rfl : k = xs.length := by omega
      clear hown hyl
      go_wp2_with fail
      go_returns
      exact ⟨rfl, HG.out⟩

/-- pairs that lie in a block -/
theorem pairs_blk {w : World} {g : Nat} {t : TypeId} {xs : List (Int × Int)} {c : Nat} (h : Blk w g t (pairCells xs).toArray) (hc : xs.length ≤ c) (hm : c ≤ maxLen) (hx : ∀ x ∈ xs, In2 x) : IsPairs w (g + 1) (some ⟨g, 0, none⟩) c xs :=
  ⟨h.lies fun i hi j hj => by simpa using pairCells_get hi hj, hc, hm, hx⟩
/-- numbers that lie in a block -/
theorem ints_blkG {w : World} {g : Nat} {t : TypeId} {xs : List Int} {c : Nat} (h : Blk w g t (xs.map (Value.int .i64)).toArray) (hc : xs.length ≤ c) (hm : c ≤ maxLen) (hx : ∀ x ∈ xs, In64 x) : IsInts w (g + 1) ⟨some ⟨g, 0, none⟩, c, xs⟩ :=
  ⟨h.lies fun i hi j hj => by
    obtain rfl : j = 0 := by omega
    have hi' : i < xs.length := hi
    simp [hi', List.getD_eq_getElem?_getD], hc, hm, hx⟩
end Go.Proofs.Ytjinpmengjfmpaa.Gp
