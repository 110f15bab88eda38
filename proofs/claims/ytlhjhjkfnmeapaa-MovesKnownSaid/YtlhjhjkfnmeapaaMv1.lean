/- What a plan's owners are, and its iterator over runs: for every loop body that keeps what lay ahead. -/
import Derived.Test.YtlhjhjkfnmeapaaMvG
import Derived.Test.YtlhjhjkfnmeapaaQuad
import Derived.RangeFuncBox
import Derived.RangeFuncLeaves
import Derived.RangeFuncNested
import Derived.Shelf.Abstract
import Derived.OwnWalkIn
import Derived.TacticsInMore
import Derived.LoopNIn
import Derived.LoopIn
import Derived.Maps.AppendAt
import Derived.StillTailTactics
import Derived.Deep.Cut
import Derived.Deep.RegionHeld3
namespace Go.Proofs.Ytlhjhjkfnmeapaa.Mv
open Go.ChangeShapes Go.WideShapes Go.ChangeAt Go.RowKit Go.Shelf M
attribute [local go_sem] Oper.semAt_some

/-- the boxes that the plan's owners have caught: old, groups, par -/
structure Caught (w : World) (bo bg bp : Nat) (old par groups : Int) : Prop where
  o : w.cell? ⟨bo, 0, none⟩ = some (.int .i64 old)
  g : w.cell? ⟨bg, 0, none⟩ = some (.int .i64 groups)
  p : w.cell? ⟨bp, 0, none⟩ = some (.int .i64 par)
theorem Caught.below {w w' : World} {bo bg bp n : Nat} {old par groups : Int} (h : Caught w bo bg bp old par groups) (hb : Below n w w') (h1 : bo < n) (h2 : bg < n) (h3 : bp < n) : Caught w' bo bg bp old par groups :=
  ⟨(hb.cell (p := ⟨bo, 0, none⟩) h1).trans h.o, (hb.cell (p := ⟨bg, 0, none⟩) h2).trans h.g, (hb.cell (p := ⟨bp, 0, none⟩) h3).trans h.p⟩

/-- both owners of a group -/
def ow (old par : Int) (G g : Nat) : Int × Int := (Gr.ownerG g old G, Gr.ownerG g par G)

set_option maxRecDepth 100000 in
set_option maxHeartbeats 2000000 in
theorem owners_any (g old par groups : Int) (bo bg bp : Nat) (w : World) (hc : Caught w bo bg bp old par groups) (h1 : bo < w.heap.size) (h2 : bg < w.heap.size) (h3 : bp < w.heap.size) :
    Calls Try.prog 43 #[.int .i64 g, .pointer (some ⟨bo, 0, none⟩), .pointer (some ⟨bg, 0, none⟩), .pointer (some ⟨bp, 0, none⟩)] w
      fun e w' => e = .returned (.agg #[.int .i64 (Gr.ownerG g old groups), .int .i64 (Gr.ownerG g par groups)]) ∧ Below w.heap.size w w' := by
  go_enter Try.func43, Try.ntmps43
  go_upto_region 1 with (fail)
  obtain ⟨X, hX⟩ : ∃ X, w.alloc (.cells #[.int .i64 0, .int .i64 0] 67) = X := ⟨_, rfl⟩
  have kb : Blk X w.heap.size 67 #[.int .i64 0, .int .i64 0] := hX ▸ Blk.new w _ _
  have hb : Below w.heap.size w X := hX ▸ (Below.refl _ _).alloc (Nat.le_refl _) _
  rw [hX]
  have hc2 := hc.below hb h1 h2 h3
  have c1 := hc2.o
  have c2 := hc2.g
  have c3 := hc2.p
  have O1 := Gr.owner_any g old groups X.drew
  have O2 := Gr.owner_any g par groups X.drew
  have HB := Lib.hid hb
  have KB := Lib.hid kb
  have P1 : Hid (Calls Try.prog 19 #[.int .i64 g, .int .i64 old, .int .i64 groups] X.drew (fun e w'' => e = .returned (.int .i64 (Gr.ownerG g old groups)) ∧ w'' = X.drew)) := Lib.hid (O1.mono fun e w' h => ⟨h.1, h.2.symm⟩)
  have P2 : Hid (Calls Try.prog 19 #[.int .i64 g, .int .i64 par, .int .i64 groups] X.drew (fun e w'' => e = .returned (.int .i64 (Gr.ownerG g par groups)) ∧ w'' = X.drew)) := Lib.hid (O2.mono fun e w' h => ⟨h.1, h.2.symm⟩)
  clear hX hb kb hc hc2 O1 O2
  refine wp_region_still_tail 9 (by kernel_rfl) (by kernel_rfl) ?_
  simp only [List.take_succ_cons, List.take_zero, List.drop_succ_cons, List.drop_zero]
  still_step
  still_step
  still_step
  still_call P1.out
  still_step
  still_step
  still_step
  still_call P2.out
  still_step
  refine wpStill_nil ?_
  change wpList _ _ _ _ _ X.drew
  have kd := KB.out.cell 0
  have kf := KB.out.frozen 0
  have hz0 := KB.out.cell 1
  have hz1 := KB.out.frozen 1
  simp at kd hz0
  go_wp2_with fail
  refine bodyPost_ret (by simp [results, Try.results43, go_sem, kd, hz0]; try rfl) rfl ?_
  exact ⟨rfl, ((HB.out.setCell (p := ⟨w.heap.size, 0, none⟩) (Nat.le_refl _) _).setCell (p := ⟨w.heap.size, 1, none⟩) (Nat.le_refl _) _).drew⟩

set_option maxHeartbeats 2000000 in
theorem runs_any (G : Int) (f : Value) (bo bg bp : Nat) (w : World) (hf : f = .func (.func 43) #[] #[.pointer (some ⟨bo, 0, none⟩), .pointer (some ⟨bg, 0, none⟩), .pointer (some ⟨bp, 0, none⟩)]) :
    Calls Try.prog 44 #[.int .i64 G, f] w
      fun e w' => e = .returned (.func (.func 64) #[] #[.pointer (some ⟨w.heap.size, 0, none⟩), .pointer (some ⟨w.heap.size + 1, 0, none⟩)]) ∧ w' = (w.alloc (.cells #[.int .i64 G] 3)).alloc (.cells #[f] 68) := by
  subst hf
  go_enter Try.func44, Try.ntmps44
  go_wp2_with fail
  go_returns
  exact ⟨by simp, rfl⟩

/-- a longest run of groups of which both owners are the same -/
structure IsRun (old par : Int) (G : Nat) (x : Nat × Nat) : Prop where
  lt : x.1 < x.2
  le : x.2 ≤ G
  same : ∀ j, x.1 ≤ j → j < x.2 → ow old par G j = ow old par G x.1
  stop : x.2 < G → ow old par G x.2 ≠ ow old par G x.1
/-- runs, one behind another, from a to b -/
def Runs (old par : Int) (G : Nat) : Nat → List (Nat × Nat) → Nat → Prop
  | a, [], b => a = b
  | a, x :: xs, b => x.1 = a ∧ IsRun old par G x ∧ Runs old par G x.2 xs b
theorem Runs.snoc {old par : Int} {G : Nat} : ∀ {xs : List (Nat × Nat)} {a b : Nat} {x : Nat × Nat}, Runs old par G a xs b → x.1 = b → IsRun old par G x → Runs old par G a (xs ++ [x]) x.2
  | [], _, _, _, h, e, hx => ⟨e.trans h.symm, hx, rfl⟩
  | _ :: _, _, _, _, h, e, hx => ⟨h.1, h.2.1, Runs.snoc h.2.2 e hx⟩
theorem Runs.len {old par : Int} {G : Nat} : ∀ {xs : List (Nat × Nat)} {a b : Nat}, Runs old par G a xs b → a + xs.length ≤ b
  | [], _, _, h => by have : _ = _ := h; simp; omega
  | x :: xs, a, b, h => by have := Runs.len h.2.2; have h1 := h.1; have h2 := h.2.1.lt; simp; omega

@[go_sem] theorem eq_two (a b c d : Int) (w : World) : (Op.equalIn 10000 67 (.agg #[.int .i64 a, .int .i64 b]) (.agg #[.int .i64 c, .int .i64 d])).run Try.prog w = .ok (a == c && b == d) w := by
  have u3 := Try.underlying3
  have a3 := Try.isAgg3
  have z3 := Try.sizeOf3
  rw [show (10000 : Nat) = 9999 + 1 from rfl, Op.equalIn]
  simp only [Sem.run_bind, run_underlying Try.underlying67, Result.andThen_ok]
  simp only [Std.Legacy.Range.forIn_eq_forIn_range', Std.Legacy.Range.size, Nat.sub_zero, Nat.add_sub_cancel, Nat.div_one, List.range'_succ, List.range'_zero, List.forIn_cons, List.forIn_nil]
  go_simp
  by_cases h1 : a = c <;> by_cases h2 : b = d <;> simp [h1, h2]
end Go.Proofs.Ytlhjhjkfnmeapaa.Mv
