/- The closed law on groups returns true. No condition. -/
import Derived.Test.YtjbbbijifljfgaaGrLaws
import Derived.Deep.QuietTactic
import Derived.BigQuiet
namespace Go.Proofs.Ytjbbbijifljfgaa.Gr
open Go.ChangeShapes Go.WideShapes Go.ChangeAt Go.RowKit

theorem quiet_eq {P : Program} {f : FuncId} {args : Array Value} {w : World} {m n : Nat} {v : Value}
    (h : Calls P f args (w.drewN (m + n)) fun e w' => e = .returned v ∧ w.drewN (m + n) = w') : Calls P f args (w.drewN (m + n)) fun e w'' => e = .returned v ∧ ∃ k, w'' = w.drewN (m + k) :=
  h.mono fun _ _ ⟨he, hm⟩ => ⟨he, n, hm.symm⟩

/-- the law's own numbers -/
def ends : List Int := [-9223372036854775808, -1, 0, 1, 2, 63, 64, 65, 2147483648, 4294967296, 9223372036854775807]
def endAt (i : Nat) : Int := ends.getD i 0

theorem ends_cell (w w1 : World)
    (h : w.alloc (Obj.cells #[Value.int IntKind.i64 (-9223372036854775808), Value.int IntKind.i64 (-1), Value.int IntKind.i64 0, Value.int IntKind.i64 1, Value.int IntKind.i64 2, Value.int IntKind.i64 63, Value.int IntKind.i64 64, Value.int IntKind.i64 65, Value.int IntKind.i64 2147483648, Value.int IntKind.i64 4294967296, Value.int IntKind.i64 9223372036854775807] 3) = w1)
    (i : Nat) (hi : i < 11) : w1.cell? ⟨w.heap.size, i, none⟩ = some (.int .i64 (endAt i)) := by
  subst h
  rcases i with _ | _ | _ | _ | _ | _ | _ | _ | _ | _ | _ | _
  all_goals first | omega | (simp [endAt, ends, go_sem])

theorem grown_drewN {w w1 : World} (h : Grown w w1) (m : Nat) : Grown w (w1.drewN m) := by
  induction m with
  | zero => simpa [World.drewN] using h
  | succ m ih => rw [World.drewN]; exact Grown.drew ih

set_option maxRecDepth 100000 in
set_option maxHeartbeats 1000000 in
theorem known_any (w : World) :
    Calls Try.prog 9 #[] w fun e w' => e = .returned (.bool true) ∧ Grown w w' := by
  go_enter Try.func9, Try.ntmps9
  go_wp2
  generalize hw1 : w.alloc _ = w1
  have hcell := Lib.hid (ends_cell w w1 hw1)
  have hg : Grown w w1 := by subst hw1; go_grown
  have HG := Lib.hid hg
  generalize w.heap.size = B at *
  clear hw1 hg
  go_loop [2, 3] (fun g p => ∃ k : Nat, k ≤ 66 ∧ g = .int .i64 k) (fun g _ => 66 - (intOf g).toNat)
  case atStart => exact ⟨0, by omega, rfl⟩
  case round =>
    obtain ⟨k, hk, rfl⟩ := hrel
    by_cases hlt : k ≤ 65
    · go_wp2
      go_loop [3] (fun p => ∃ j : Nat, j ≤ 80 ∧ p = .int .i64 j) (fun p => 80 - (intOf p).toNat)
      case atStart => exact ⟨0, by omega, rfl⟩
      case round =>
        obtain ⟨j, hj, rfl⟩ := hrel
        by_cases hjl : j ≤ k + 1
        · go_wp2_with (first | (go_at_call 4; refine (parts_any _ _ _).mono ?_; rintro e w' ⟨rfl, rfl⟩) | (go_at_call 3; refine (tells_any _ _ _ _ _).mono ?_; rintro e w' ⟨rfl, rfl⟩) | (go_at_call 6; refine (rises_any _ _ _ _).mono ?_; rintro e w' ⟨rfl, rfl⟩))
          go_round
          case rel => exact ⟨j + 1 + k / 16, by omega, by go_num⟩
          case measure => simp [intOf]; omega
        · go_wp2
          go_round
          case rel => exact ⟨k + 1, by omega, by go_num⟩
          case measure => simp [intOf]; omega
    · go_wp2
      go_loopw [4, 5] (fun i _ wr => ∃ a m : Nat, a ≤ 11 ∧ i = .int .i64 a ∧ wr = w1.drewN m) (fun i _ _ => 11 - (intOf i).toNat)
      case atStart => exact ⟨0, 0, by omega, rfl, by simp [World.drewN]⟩
      case round =>
        obtain ⟨a, m, ha, rfl, rfl⟩ := hrel
        by_cases ha1 : a < 11
        · have hca := hcell.out a ha1
          go_wp2
          go_loopw [5] (fun j wr => ∃ b m : Nat, b ≤ 11 ∧ j = .int .i64 b ∧ wr = w1.drewN m) (fun j _ => 11 - (intOf j).toNat)
          case atStart => exact ⟨0, _, by omega, rfl, rfl⟩
          case round =>
            obtain ⟨b, m', hb, rfl, rfl⟩ := hrel
            by_cases hb1 : b < 11
            · have hcb := hcell.out b hb1
              have ia : (a : Int) < 11 := by omega
              have ib : (b : Int) < 11 := by omega
              go_wp2
              go_quiet ((first | (go_at_call 3; exact quiet_eq (tells_any _ _ _ _ _)) | (go_at_call 5; exact quiet_eq (in_any _ _ _))))
              go_wp2
              go_roundw
              case rel => exact ⟨b + 1, _, by omega, by go_num, rfl⟩
              case measure => simp [intOf]; omega
            · go_wp2
              go_roundw
              case rel => exact ⟨a + 1, _, by omega, by go_num, rfl⟩
              case measure => simp [intOf]; omega
        · go_wp2_with (go_at_call 16; refine (works_any _).mono ?_; rintro e w' ⟨rfl, rfl⟩)
          go_returns
          exact ⟨rfl, grown_drewN HG.out m⟩
end Go.Proofs.Ytjbbbijifljfgaa.Gr
