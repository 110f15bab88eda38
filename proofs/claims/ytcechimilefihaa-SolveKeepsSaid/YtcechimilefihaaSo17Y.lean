/- Measures, numbers and yes-or-noes among the arguments, opened. -/
import Derived.Test.YtcechimilefihaaSo16Y
import Derived.Test.YtcechimilefihaaZa
import Derived.Test.YtcechimilefihaaZf
import Derived.Lib.SmallJoins

namespace Go.Proofs.Ytcechimilefihaa.So
open Go.ChangeShapes Go.WideShapes Go.ChangeAt Go.RowKit Go.Joins Go.Deep M

set_option maxRecDepth 100000 in
theorem open_ints {H : Type} {enc : TypeId × Value → H} {W : World} {base : Nat} {spare : Nat → Bool} {held : Bool} {v : Value} {d : DataW H} {ps : List MemPlace}
    (hok : Value.okWide Try.prog W .any base 29 v) (h : DataW.Trod enc Try.prog W 0 spare held 29 v d ps) :
    ∃ P c xs, v = .slice P (List.length xs) c ∧ IsInts W W.heap.size ⟨P, c, xs⟩ := by
  obtain ⟨s, rfl, hs⟩ := open_sl_arg Try.underlying29 Try.underlying3 (by kernel_rfl) hok h
  exact ⟨s.A, s.c, s.xs, rfl, hs⟩
set_option maxRecDepth 100000 in
theorem open_mea {H : Type} {enc : TypeId × Value → H} {W : World} {base : Nat} {spare : Nat → Bool} {held : Bool} {v : Value} {d : DataW H} {ps : List MemPlace}
    (hok : Value.okWide Try.prog W .any base 56 v) (h : DataW.Trod enc Try.prog W 0 spare held 56 v d ps) :
    ∃ P c xs, v = .slice P (List.length xs) c ∧ IsQuads W W.heap.size P c xs := by
  obtain ⟨a, len, cap, rfl⟩ := okWide_slice Try.underlying56 hok
  obtain ⟨fuel, hf⟩ := h
  obtain ⟨A, n, c, f, hcs, hn, hc, hl, he⟩ := open_elems (k := 4) Try.underlying56 (by kernel_rfl) (by omega) (by simpa [Value.cells] using hf)
  have hex : ∀ i, i < n → ∃ x : Q4, (∀ j, j < 4 → f i j = cellQ x j) ∧ In4 x := by
    intro i hi
    obtain ⟨y, m, hy⟩ := he i hi
    have hu := Try.underlying55
    obtain ⟨z0, e0, b0⟩ := field_int hu hy (i := 0) rfl (by kernel_rfl) Try.underlying3 (v := f i 0) rfl
    obtain ⟨z1, e1, b1⟩ := field_int hu hy (i := 1) rfl (by kernel_rfl) Try.underlying3 (v := f i 1) rfl
    obtain ⟨z2, e2, b2⟩ := field_int hu hy (i := 2) rfl (by kernel_rfl) Try.underlying3 (v := f i 2) rfl
    obtain ⟨z3, e3, b3⟩ := field_int hu hy (i := 3) rfl (by kernel_rfl) Try.underlying3 (v := f i 3) rfl
    refine ⟨(z0, z1, z2, z3), fun j hj => ?_, b0, b1, b2, b3⟩
    rcases (show j = 0 ∨ j = 1 ∨ j = 2 ∨ j = 3 by omega) with rfl | rfl | rfl | rfl
    · exact e0
    · exact e1
    · exact e2
    · exact e3
  obtain ⟨q, hq⟩ := choose_lt hex
  have hlen : ((List.range n).map q).length = n := by simp
  have hget : ∀ i, i < n → ((List.range n).map q).getD i z4 = q i := fun i hi => by
    rw [List.getD_eq_getElem?_getD]; simp [hi]
  refine ⟨A, c, (List.range n).map q, by rw [hlen]; simpa using hcs, ?_, by rw [hlen]; exact hn, hc, fun x hx => ?_⟩
  · rw [hlen]
    exact hl.congr fun i hi j hj => by rw [(hq i hi).1 j hj, hget i hi]
  · obtain ⟨i, hi, rfl⟩ := List.mem_map.1 hx
    exact (hq i (List.mem_range.1 hi)).2
end Go.Proofs.Ytcechimilefihaa.So
