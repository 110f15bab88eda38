/- A job and a list of numbers among the arguments, opened. -/
import Derived.Test.YtfpikpglollkoaaSpR
namespace Go.Proofs.Ytfpikpglollkoaa.Rt
open Go.ChangeShapes Go.WideShapes Go.ChangeAt Go.RowKit M

theorem open_ints {H : Type} {enc : TypeId × Value → H} {W : World} {base : Nat} {spare : Nat → Bool} {held : Bool} {v : Value} {d : DataW H} {ps : List MemPlace}
    (hok : Value.okWide Try.prog W .any base 31 v) (h : DataW.Trod enc Try.prog W 0 spare held 31 v d ps) :
    ∃ P c xs, v = .slice P (List.length xs) c ∧ IsInts W W.heap.size ⟨P, c, xs⟩ := by
  obtain ⟨s, rfl, hs⟩ := open_sl_arg Try.underlying31 Try.underlying3 (by kernel_rfl) hok h
  exact ⟨s.A, s.c, s.xs, rfl, hs⟩
end Go.Proofs.Ytfpikpglollkoaa.Rt
