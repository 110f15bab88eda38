/- The job of a source of two partitions, and a sink. -/
import Derived.Test.YtaodbjgcidkpkaaZi
import Derived.Test.YtaodbjgcidkpkaaFdMY

namespace Go.Proofs.Ytaodbjgcidkpkaa.Fd
open Go.ChangeShapes Go.WideShapes Go.ChangeAt Go.RowKit M Sp

def oneF : List OpP := [⟨1, [], 0, 0, 0, 2, 1, 1⟩, ⟨8, [0], 0, 0, 0, 0, 0, 1⟩]
theorem one_ops {w : World} {q g : Nat} (h1 : Blk w q 3 #[.int .i64 0]) (h2 : Blk w g 40 #[.int .i64 1, .slice none 0 0, .int .i64 0, .int .i64 0, .int .i64 0, .int .i64 2, .int .i64 1, .int .i64 1, .int .i64 8, .slice (some ⟨q, 0, none⟩) 1 1, .int .i64 0, .int .i64 0, .int .i64 0, .int .i64 0, .int .i64 0, .int .i64 1]) :
    IsOps w w.heap.size (some ⟨g, 0, none⟩) oneF (twoP q) := by
  refine ops_blk h2 (fun i hi j hj => ?_) (fun i hi => ?_)
  · have hi' : i < 2 := hi
    rcases (show i = 0 ∨ i = 1 by omega) with rfl | rfl <;> rcases (show j = 0 ∨ j = 1 ∨ j = 2 ∨ j = 3 ∨ j = 4 ∨ j = 5 ∨ j = 6 ∨ j = 7 by omega) with rfl | rfl | rfl | rfl | rfl | rfl | rfl | rfl <;> rfl
  · have hi' : i < 2 := hi
    rcases (show i = 0 ∨ i = 1 by omega) with rfl | rfl
    · exact ⟨by unfold OpIn In64; decide, ints_nil _ _ (Nat.zero_le _)⟩
    · exact ⟨by unfold OpIn In64; decide, ints_blk (xs := [0]) h1 (by decide) (by simp [In64])⟩
set_option maxHeartbeats 2000000 in
theorem one_any (w : World) :
    Calls Try.prog 45 #[] w fun e w' => ∃ g q, e = .returned (.agg #[.int .i64 4, .slice (some ⟨g, 0, none⟩) 2 2]) ∧ IsOps w' w'.heap.size (some ⟨g, 0, none⟩) oneF (twoP q) ∧ Below w.heap.size w w' := by
  go_enter Try.func45, Try.ntmps45
  go_wp2_with fail
  go_returns
  refine ⟨w.heap.size + 2, w.heap.size + 1, rfl, one_ops ?_ ?_, ((((Below.refl _ _).alloc (Nat.le_refl _) _).alloc (by simp) _).alloc (by simp; omega) _)⟩
  · have := (Blk.new (w.alloc (.cells #[.int .i64 4, .slice (some ⟨w.heap.size + 1 + 1, 0, none⟩) 2 2] 24)) 3 #[.int .i64 0]).alloc (.cells #[.int .i64 1, .slice none 0 0, .int .i64 0, .int .i64 0, .int .i64 0, .int .i64 2, .int .i64 1, .int .i64 1, .int .i64 8, .slice (some ⟨w.heap.size + 1, 0, none⟩) 1 1, .int .i64 0, .int .i64 0, .int .i64 0, .int .i64 0, .int .i64 0, .int .i64 1] 40)
    simpa using this
  · have := Blk.new ((w.alloc (.cells #[.int .i64 4, .slice (some ⟨w.heap.size + 1 + 1, 0, none⟩) 2 2] 24)).alloc (.cells #[.int .i64 0] 3)) 40 #[.int .i64 1, .slice none 0 0, .int .i64 0, .int .i64 0, .int .i64 0, .int .i64 2, .int .i64 1, .int .i64 1, .int .i64 8, .slice (some ⟨w.heap.size + 1, 0, none⟩) 1 1, .int .i64 0, .int .i64 0, .int .i64 0, .int .i64 0, .int .i64 0, .int .i64 1]
    simpa using this
theorem feeds_one {w : World} {g B : Nat} {T : TypeId} {f : Fp} {A : Option Addr} {c : Nat} (h : Blk w g T #[.int .i64 f.op, .slice A f.parts.length c]) (hop : In64 f.op) (hl : IsLists w B A c f.parts) (hB : B ≤ g + 1) : IsFeeds w (g + 1) (some ⟨g, 0, none⟩) 1 [f] := by
  refine ⟨fun _ => (A, c), h.lies fun i hi j hj => ?_, Nat.le_refl _, by unfold maxLen; omega, by unfold LB; simp, fun i hi => ?_⟩
  · have hi' : i < 1 := hi
    obtain rfl : i = 0 := by omega
    rcases (show j = 0 ∨ j = 1 by omega) with rfl | rfl <;> rfl
  · have hi' : i < 1 := hi
    obtain rfl : i = 0 := by omega
    exact ⟨hop, hl.more hB⟩
theorem one_src : kindF oneF 1 = [0] := by decide +kernel
end Go.Proofs.Ytaodbjgcidkpkaa.Fd
