/- Feeds of a call's own: a store elsewhere leaves them. -/
import Derived.Test.YtaodbjgcidkpkaaFdQY

namespace Go.Proofs.Ytaodbjgcidkpkaa.Fd
open Go.RowKit M

theorem OwnR.low {w : World} {B : Nat} {v : Value} {xs : List Rc} (h : OwnR w B v xs) {a : Addr} (ha : a.block < B) (u : Value) : OwnR (w.setCell a u) B v xs := ⟨ownsRow_setCell_below h.1 ha u, h.2⟩
theorem OwnL.low {w : World} {B : Nat} {v : Value} {ls : List (List Rc)} {q : Nat → Sl} (h : OwnL w B v ls q) {a : Addr} (ha : a.block < B) (u : Value) : OwnL (w.setCell a u) B v ls q :=
  ⟨ownsRow_setCell_below h.1 ha u, fun i hi => OwnR.low (h.2.1 i hi) ha u, h.2.2⟩
end Go.Proofs.Ytaodbjgcidkpkaa.Fd
