/- A job among the arguments, opened. -/
import Derived.Test.YtjinpmengjfmpaaSp
import Derived.Test.YtjinpmengjfmpaaGpR
import Derived.Lib.SmallJoins
namespace Go.Proofs.Ytjinpmengjfmpaa.Gp
open Go.ChangeShapes Go.WideShapes Go.ChangeAt Go.RowKit Go.Joins Go.Deep M Sp

theorem cellsSpec : Try.prog.cellsOf 35 = 2 := by kernel_rfl

theorem open_ops {H : Type} {enc : TypeId × Value → H} {W : World} {base : Nat} {spare : Nat → Bool} {held : Bool} {fuel : Nat} {v : Value} {x : DataW H × List MemPlace}
    (h : DataW.trod enc Try.prog W base spare held fuel 33 [v] = some x) : ∃ A c l p, v = .slice A (List.length l) c ∧ l.length ≤ c ∧ c ≤ maxLen ∧ IsOps W W.heap.size A l p := by
  obtain ⟨A, n, c, f, hcs, hn, hc, hl, he⟩ := open_elems (k := 8) Try.underlying33 (by kernel_rfl) (by omega) h
  have hex : ∀ i, i < n → ∃ oa : OpP × (Option Addr × Nat), (∀ j, j < 8 → f i j = cellsOp oa.1 oa.2 j) ∧ OpIn oa.1 ∧ IsInts W W.heap.size ⟨oa.2.1, oa.2.2, oa.1.ins⟩ := by
    intro i hi
    obtain ⟨y, m, hy⟩ := he i hi
    have hu := Try.underlying58
    obtain ⟨z0, e0, b0⟩ := field_int hu hy (i := 0) rfl (by kernel_rfl) Try.underlying3 (v := f i 0) rfl
    obtain ⟨s1, e1, b1⟩ := field_sl hu hy (i := 1) rfl (by kernel_rfl) Try.underlying22 Try.underlying3 (by kernel_rfl) (v := f i 1) rfl
    obtain ⟨yf, mf, hyf⟩ := field_of hu hy (i := 2) rfl (k := 3) (by kernel_rfl)
    have hyf' : DataW.trod enc Try.prog W base spare held mf 56 [f i 2, f i 3, f i 4] = some yf := hyf
    have hv := Try.underlying56
    obtain ⟨z2, e2, b2⟩ := field_int hv hyf' (i := 0) rfl (by kernel_rfl) Try.underlying3 (v := f i 2) rfl
    obtain ⟨z3, e3, b3⟩ := field_int hv hyf' (i := 1) rfl (by kernel_rfl) Try.underlying3 (v := f i 3) rfl
    obtain ⟨z4, e4, b4⟩ := field_int hv hyf' (i := 2) rfl (by kernel_rfl) Try.underlying3 (v := f i 4) rfl
    obtain ⟨z5, e5, b5⟩ := field_int hu hy (i := 3) rfl (by kernel_rfl) Try.underlying3 (v := f i 5) rfl
    obtain ⟨z6, e6, b6⟩ := field_int hu hy (i := 4) rfl (by kernel_rfl) Try.underlying3 (v := f i 6) rfl
    obtain ⟨z7, e7, b7⟩ := field_int hu hy (i := 5) rfl (by kernel_rfl) Try.underlying3 (v := f i 7) rfl
    refine ⟨(⟨z0, s1.xs, z2, z3, z4, z5, z6, z7⟩, (s1.A, s1.c)), fun j hj => ?_, ⟨b0, b2, b3, b4, b5, b6, b7⟩, b1⟩
    rcases (show j = 0 ∨ j = 1 ∨ j = 2 ∨ j = 3 ∨ j = 4 ∨ j = 5 ∨ j = 6 ∨ j = 7 by omega) with rfl | rfl | rfl | rfl | rfl | rfl | rfl | rfl
    · exact e0
    · exact e1
    · exact e2
    · exact e3
    · exact e4
    · exact e5
    · exact e6
    · exact e7
  obtain ⟨q, hq⟩ := choose_lt hex
  have hlen : ((List.range n).map fun i => (q i).1).length = n := by simp
  have hop : ∀ i, i < n → opOf ((List.range n).map fun i => (q i).1) i = (q i).1 := fun i hi => by
    unfold opOf; rw [List.getD_eq_getElem?_getD]; simp [hi]
  refine ⟨A, c, (List.range n).map fun i => (q i).1, fun i => (q i).2, by rw [hlen]; simpa using hcs, by rw [hlen]; exact hn, hc, ?_, fun i hi => ?_⟩
  · rw [hlen]
    exact hl.congr fun i hi j hj => by rw [(hq i hi).1 j hj, hop i hi]
  · rw [hlen] at hi
    unfold insOf
    rw [hop i hi]
    exact (hq i hi).2

theorem open_spec {H : Type} {enc : TypeId × Value → H} {W : World} {base : Nat} {spare : Nat → Bool} {held : Bool} {v : Value} {d : DataW H} {ps : List MemPlace}
    (hok : Value.okWide Try.prog W .any base 35 v) (h : DataW.Trod enc Try.prog W 0 spare held 35 v d ps) :
    ∃ g A c l p, v = .agg #[.int .i64 g, .slice A (List.length l) c] ∧ M.In64 g ∧ l.length ≤ 9223372036854775807 ∧ IsOps W W.heap.size A l p := by
  obtain ⟨c0, c1, y0, y1, m, rfl, rfl, rfl, hy0, hy1⟩ := open_agg2 Try.underlying35 (by kernel_rfl) cellsSpec hok h
  obtain ⟨g, e0, _, wg⟩ := DataW.trod_int Try.underlying3 hy0
  obtain ⟨A, c, l, p, e1, hn, hc, hi⟩ := open_ops hy1
  refine ⟨g, A, c, l, p, ?_, wf_in64 wg, by unfold maxLen at hc; omega, hi⟩
  have : c0 = .int .i64 g := by simpa using e0
  rw [this, e1]
end Go.Proofs.Ytjinpmengjfmpaa.Gp
