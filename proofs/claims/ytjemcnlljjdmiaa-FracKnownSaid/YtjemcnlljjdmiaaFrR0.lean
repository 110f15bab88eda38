/- Small words for fractions in memory. -/
import Derived.Test.YtjemcnlljjdmiaaFrQ
namespace Go.Proofs.Ytjemcnlljjdmiaa.Fr
open Go.ChangeShapes Go.WideShapes Go.ChangeAt Go.RowKit M

theorem At3.alloc {w wr : World} {B : Nat} {a b c d e f : Int} (h : At3 w B a b c d e f wr) (hB : B ≤ w.heap.size) (o : Obj) : At3 w B a b c d e f (wr.alloc o) := ⟨h.1.alloc (Nat.le_trans hB h.1.size) o, h.2.alloc o⟩
theorem FracAt.on {w w' : World} {g : Nat} {a b : Int} (h : FracAt w g a b) (hb : Below w.heap.size w w') : FracAt w' g a b := h.below hb h.lt
theorem times_nought {p q t u : Int} (h : Lowest p q) (k : Lowest t u) (z : t = 0) : (timesR p q t u).n = 0 ∧ (timesR p q t u).d = 1 ∧ (timesR p q t u).ok = true := by
  rw [times_zero h k (.inr z)]; exact ⟨rfl, rfl, rfl⟩

end Go.Proofs.Ytjemcnlljjdmiaa.Fr
