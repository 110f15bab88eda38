/- A job, a list of numbers, a task among the arguments, opened. -/
import Derived.Test.YtjinpmengjfmpaaGp4
import Derived.Test.YtjinpmengjfmpaaOpen
import Derived.Lib.SmallJoins
namespace Go.Proofs.Ytjinpmengjfmpaa.Gp
open Go.ChangeShapes Go.WideShapes Go.ChangeAt Go.RowKit Go.Joins Go.Deep M

theorem open_ints {H : Type} {enc : TypeId × Value → H} {W : World} {base : Nat} {spare : Nat → Bool} {held : Bool} {v : Value} {d : DataW H} {ps : List MemPlace}
    (hok : Value.okWide Try.prog W .any base 22 v) (h : DataW.Trod enc Try.prog W 0 spare held 22 v d ps) :
    ∃ P c xs, v = .slice P (List.length xs) c ∧ IsInts W W.heap.size ⟨P, c, xs⟩ := by
  obtain ⟨s, rfl, hs⟩ := open_sl_arg Try.underlying22 Try.underlying3 (by kernel_rfl) hok h
  exact ⟨s.A, s.c, s.xs, rfl, hs⟩
set_option maxRecDepth 100000 in
theorem open_spot {H : Type} {enc : TypeId × Value → H} {w : World} {base b0 : Nat} {spare : Nat → Bool} {held : Bool} {r : Reach} {v : Value} {d : DataW H} {p : List MemPlace}
    (hok : Value.okWide Try.prog w r b0 24 v) (h : DataW.Trod enc Try.prog w base spare held 24 v d p) :
    ∃ a b : Int, v = .agg #[.int .i64 a, .int .i64 b] := by
  obtain ⟨c0, c1, y0, y1, m, rfl, -, -, h0, h1⟩ := Joins.open_agg2 Try.underlying24 (by kernel_rfl) (by kernel_rfl) hok h
  obtain ⟨a, e0, -, wa⟩ := DataW.trod_int Try.underlying3 h0
  obtain ⟨b, e1, -, wb⟩ := DataW.trod_int Try.underlying3 h1
  simp at e0 e1
  subst e0; subst e1
  exact ⟨a, b, rfl⟩
end Go.Proofs.Ytjinpmengjfmpaa.Gp
