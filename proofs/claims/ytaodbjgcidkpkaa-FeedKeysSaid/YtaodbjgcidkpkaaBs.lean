/- Blocks of the call's own. No program's function is named. -/
import Derived.Test.YtaodbjgcidkpkaaMem
namespace Go.Proofs.Ytaodbjgcidkpkaa.M
open Go.RowKit

def Bs (w : World) (B : Nat) (l : List (Nat × TypeId × Array Value)) (wr : World) : Prop := Below B w wr ∧ ∀ x ∈ l, Blk wr x.1 x.2.1 x.2.2
section
variable {w wr w1 : World} {B : Nat} {l : List (Nat × TypeId × Array Value)}
theorem Bs.nil (w : World) (B : Nat) : Bs w B [] w := ⟨Below.refl _ _, fun x hx => by cases hx⟩
theorem Bs.step (h : Bs w B l wr) (hB : B ≤ w.heap.size) (hb : Below wr.heap.size wr w1) : Bs w B l w1 := ⟨through h.1 hB hb, fun x hx => (h.2 x hx).below hb (h.2 x hx).lt⟩
theorem Bs.alloc (h : Bs w B l wr) (hB : B ≤ w.heap.size) (cs : Array Value) (t : TypeId) {g : Nat} (hg : wr.heap.size = g) : Bs w B ((g, t, cs) :: l) (wr.alloc (.cells cs t)) := by
  refine ⟨h.1.alloc (Nat.le_trans hB h.1.size) _, fun z hz => ?_⟩
  rcases List.mem_cons.1 hz with rfl | hz
  · exact hg ▸ Blk.new _ _ _
  · exact (h.2 z hz).alloc _
theorem Bs.tail {x : Nat × TypeId × Array Value} (h : Bs w B (x :: l) wr) : Bs w B l wr := ⟨h.1, fun z hz => h.2 z (List.mem_cons_of_mem _ hz)⟩
theorem Bs.g0 {x : Nat × TypeId × Array Value} (h : Bs w B (x :: l) wr) : Blk wr x.1 x.2.1 x.2.2 := h.2 _ (by simp)
theorem Bs.g1 {x y : Nat × TypeId × Array Value} (h : Bs w B (y :: x :: l) wr) : Blk wr x.1 x.2.1 x.2.2 := h.2 _ (by simp)
theorem Bs.drewN (h : Bs w B l wr) (n : Nat) : Bs w B l (wr.drewN n) := ⟨below_drewN h.1 n, h.2⟩
/-- what lies above the one block turns -/
theorem Bs.up {b : Nat} {t : TypeId} {cs : Array Value} (h : Bs w B [(b, t, cs)] wr) (hg : Below (b + 1) wr w1) (hB : B ≤ b) : Bs w B [(b, t, cs)] w1 :=
  ⟨h.1.trans (hg.mono (by omega)), fun z hz => by
    obtain rfl : z = (b, t, cs) := by simpa using hz
    exact h.g0.below hg (by show b < b + 1; omega)⟩
/-- one row grows, another one -/
theorem Bs.row {b : Nat} {t : TypeId} {cs : Array Value} {r : Nat} (h : Bs w B [(b, t, cs)] wr) (hg : wr.grownBy w1 (some r)) (hr : b < r) (hB : B ≤ b) : Bs w B [(b, t, cs)] w1 :=
  ⟨h.1.grown hg (Nat.le_trans hB (Nat.le_of_lt h.g0.lt)) (fun z hz => by cases hz; omega), fun z hz => by
    obtain rfl : z = (b, t, cs) := by simpa using hz
    exact h.g0.grown hg (fun e => by injection e with e; simp only at e; omega)⟩
end
end Go.Proofs.Ytaodbjgcidkpkaa.M
