/- Moves of one's own, written over. -/
import Derived.Test.YtlhjhjkfnmeapaaMv5
namespace Go.Proofs.Ytlhjhjkfnmeapaa.Mv
open Go.ChangeShapes Go.WideShapes Go.ChangeAt Go.RowKit M

theorem markMoves_any (i : Int) (w : World) (h : 0 ≤ i) (h2 : i ≤ 1000000000) :
    Calls Try.prog 46 #[.int .i64 i] w fun e w' => e = .returned (.agg #[.int .i64 (700 + i), .int .i64 (-9), .int .i64 0, .int .i64 0]) ∧ Below w.heap.size w w' := by
  go_enter Try.func46, Try.ntmps46
  go_wp2
  go_returns
  exact ⟨by first | rfl | simp, by go_grown⟩

theorem quadCells_set (ys : List Q4) (k : Nat) (u : Q4) (hk : k < ys.length) :
    ((((quadCells ys).set (k * 4) (.int .i64 u.1)).set (k * 4 + 1) (.int .i64 u.2.1)).set (k * 4 + 2) (.int .i64 u.2.2.1)).set (k * 4 + 3) (.int .i64 u.2.2.2) = quadCells (ys.set k u) := by
  induction ys generalizing k with
  | nil => simp at hk
  | cons y ys ih =>
    cases k with
    | zero => simp [quadCells]
    | succ k =>
      have := ih k (by simpa using hk)
      have e1 : (k + 1) * 4 = k * 4 + 1 + 1 + 1 + 1 := by omega
      simp only [quadCells, List.flatMap_cons, e1] at *
      simpa using this
/-- a four of one's own is written over -/
theorem own_quad_set {T : TypeId} {w : World} {B b n c : Nat} {ys : List Q4} (h : OwnQ T w B (.slice (some ⟨b, 0, none⟩) n c) ys) {k : Nat} (hk : k < ys.length) (u : Q4) (hu : In4 u) :
    (∀ i, w.frozen? ⟨b, i, none⟩ = false) ∧ OwnQ T ((((w.setCell ⟨b, k * 4, none⟩ (.int .i64 u.1)).setCell ⟨b, k * 4 + 1, none⟩ (.int .i64 u.2.1)).setCell ⟨b, k * 4 + 2, none⟩ (.int .i64 u.2.2.1)).setCell ⟨b, k * 4 + 3, none⟩ (.int .i64 u.2.2.2)) B (.slice (some ⟨b, 0, none⟩) n c) (ys.set k u) := by
  have hn : n = ys.length := by
    rcases h.1.2 with ⟨hv, -⟩ | ⟨g, cap, cur, hv, -⟩
    · cases hv
    · injection hv with e1 e2 e3
  subst hn
  refine ⟨fun i => h.1.frozenAt _, ?_, fun x hx => ?_⟩
  · have h1 := World.ownsRow.stored (World.ownsRow.stored (World.ownsRow.stored (World.ownsRow.stored h.1 (k * 4) (.int .i64 u.1)).1 (k * 4 + 1) (.int .i64 u.2.1)).1 (k * 4 + 2) (.int .i64 u.2.2.1)).1 (k * 4 + 3) (.int .i64 u.2.2.2)
    rw [quadCells_set _ _ _ hk] at h1
    rw [List.length_set]; exact h1.1
  · rcases List.mem_or_eq_of_mem_set hx with h3 | h3
    · exact h.2 x h3
    · rw [h3]; exact hu

set_option maxHeartbeats 2000000 in
theorem spoilMoves_any (A : Option Addr) (c : Nat) (xs : List Q4) (B : Nat) (w : World) (h : OwnQ 34 w B (.slice A xs.length c) xs) (hl : xs.length ≤ 1000000) :
    Calls Try.prog 16 #[.slice A xs.length c] w fun e w' => e = .returned (.tuple #[]) ∧ w.grownBy w' (Value.slice A xs.length c).ownBlock := by
  go_enter Try.func16, Try.ntmps16
  go_wp2_with fail
  go_loopw [2] (fun q wr => ∃ (k : Nat) (ys : List Q4), k ≤ xs.length ∧ q = .int .i64 k ∧ ys.length = xs.length ∧ OwnQ 34 wr B (.slice A xs.length c) ys ∧ w.grownBy wr (Value.slice A xs.length c).ownBlock) (fun q _ => xs.length - (intOf q).toNat)
  case atStart => exact ⟨0, xs, by omega, rfl, rfl, h, World.grownBy.refl _ _⟩
  case round =>
    obtain ⟨k, ys, hk, rfl, hyl, hown, hg⟩ := hrel
    have HG := Lib.hid hg
    have HYL := Lib.hid hyl
    clear hg
    by_cases hlt : k < xs.length
    · have HM := Lib.hid (markMoves_any ((k : Int) + 7) wr (by omega) (by omega))
      have HOW := Lib.hid hown
      clear hown
      go_wp2_with fail
      refine HM.out.mono ?_
      rintro e w2 ⟨rfl, hb2⟩
      have hown2 := HOW.out.below hb2
      obtain ⟨b, o, x, rfl, hb, HV, h64, c0, c1, c2, c3⟩ := quads_at hown2.quads (show k < ys.length by omega)
      obtain ⟨-, rfl, -⟩ := hown2.own rfl
      obtain ⟨hf, hset⟩ := own_quad_set hown2 (show k < ys.length by omega) (700 + ((k : Int) + 7), -9, 0, 0) ⟨by unfold In64; simp only; omega, by show In64 (-9); unfold In64; decide, by show In64 0; unfold In64; decide, by show In64 0; unfold In64; decide⟩
      have f0 := hf (k * 4)
      have f1 := hf (k * 4 + 1)
      have f2 := hf (k * 4 + 2)
      have f3 := hf (k * 4 + 3)
      have HG2 : Hid (∀ u1 u2 u3 u4, w.grownBy ((((w2.setCell ⟨b, k * 4, none⟩ u1).setCell ⟨b, k * 4 + 1, none⟩ u2).setCell ⟨b, k * 4 + 2, none⟩ u3).setCell ⟨b, k * 4 + 3, none⟩ u4) (some b)) := fun u1 u2 u3 u4 =>
        only_setCell (only_setCell (only_setCell (only_setCell (HG.out.trans (only_of_below hb2 (some b))) (p := ⟨b, k * 4, none⟩) (.inl rfl) u1) (p := ⟨b, k * 4 + 1, none⟩) (.inl rfl) u2) (p := ⟨b, k * 4 + 2, none⟩) (.inl rfl) u3) (p := ⟨b, k * 4 + 3, none⟩) (.inl rfl) u4
      have HSET := Lib.hid hset
      simp only [Nat.zero_add] at c0 c1 c2 c3
      clear hown2 hyl hset hb2 hf
      go_wp2_with fail
      go_roundw
      case rel => exact ⟨k + 1, _, by omega, by go_num, by rw [List.length_set]; exact HYL.out, HSET.out, HG2.out _ _ _ _⟩
      case measure => simp [intOf]; omega
    · obtain rfl : k = xs.length := by omega
      clear hown hyl
      go_wp2_with fail
      go_returns
      exact ⟨rfl, HG.out⟩
end Go.Proofs.Ytlhjhjkfnmeapaa.Mv
