/- Known jobs: those that may be, and those that may not; jobs in a row in memory. -/
import Derived.Test.YtcechimilefihaaSpK1Y

namespace Go.Proofs.Ytcechimilefihaa.Sp
open Go.ChangeShapes Go.WideShapes Go.ChangeAt Go.RowKit M

abbrev Tup := Int × Int × Int × Int
def oneT (x : Tup) : List OpP := oneL x.1 x.2.1 x.2.2.1 x.2.2.2
def goods : List Tup := [(2, 1, -5, 0), (2, 5, 1, 0), (2, 7, 0, 0), (3, 1, -1, 0), (3, 2, 3, 2), (3, 3, 1, 0), (4, 0, 0, 0), (4, 0, 4, -9), (5, 4, 0, 0), (6, 1, 16, 0)]
def bads : List Tup := [(2, 0, 0, 0), (2, 8, 0, 0), (2, 5, 0, 0), (2, 1, 0, 1), (3, 1, 0, 1), (3, 2, 3, 3), (3, 3, 0, 0), (3, 4, 1, 0), (4, 1, 0, 0), (4, 0, 5, 0), (5, 1, 1, 0), (5, 5, 0, 0), (6, 1, 0, 0), (6, 1, 17, 0), (6, 0, 2, 0)]
theorem goods_ok : ∀ k, k < 10 → chkE 4 (oneT (goods.getD k default)) = 0 := by decide +kernel
theorem bads_no : ∀ k, k < 15 → chkE 4 (oneT (bads.getD k default)) = 1 := by decide +kernel

/-- jobs in a row: their cells, and that each is a job in memory -/
def Got (Y : World) (L : List Tup) (cs : List Value) : Prop :=
  cs.length = 2 * L.length ∧ ∀ k, k < L.length → ∃ A c p, cs[k * 2]? = some (.int .i64 4) ∧ cs[k * 2 + 1]? = some (.slice A 3 c) ∧ IsOps Y Y.heap.size A (oneT (L.getD k default)) p
theorem Got.nil (Y : World) : Got Y [] [] := ⟨rfl, fun k hk => absurd hk (by simp)⟩
theorem Got.later {w w2 : World} {L : List Tup} {cs : List Value} (h : Got w L cs) (hb : Below w.heap.size w w2) : Got w2 L cs := by
  refine ⟨h.1, fun k hk => ?_⟩
  obtain ⟨A, c, p, e1, e2, hi⟩ := h.2 k hk
  exact ⟨A, c, p, e1, e2, (hi.below hb).more hb.size⟩
theorem Got.snoc {w w2 : World} {L : List Tup} {cs : List Value} (h : Got w L cs) (hb : Below w.heap.size w w2) {A : Option Addr} {c : Nat} {p : Nat → Option Addr × Nat} (x : Tup) (hi : IsOps w2 w2.heap.size A (oneT x) p) : Got w2 (L ++ [x]) (cs ++ [.int .i64 4, .slice A 3 c]) := by
  have h2 := h.later hb
  refine ⟨by rw [List.length_append, List.length_append, h.1]; simp; omega, fun k hk => ?_⟩
  rw [List.length_append] at hk
  by_cases hlt : k < L.length
  · obtain ⟨A', c', p', e1, e2, hi'⟩ := h2.2 k hlt
    refine ⟨A', c', p', ?_, ?_, ?_⟩
    · rw [List.getElem?_append_left (by rw [h.1]; omega)]; exact e1
    · rw [List.getElem?_append_left (by rw [h.1]; omega)]; exact e2
    · rw [List.getD_eq_getElem?_getD, List.getElem?_append_left hlt, ← List.getD_eq_getElem?_getD]; exact hi'
  · have hk' : k = L.length := by simp at hk; omega
    subst hk'
    refine ⟨A, c, p, ?_, ?_, ?_⟩
    · rw [List.getElem?_append_right (by rw [h.1]; omega), h.1, show L.length * 2 - 2 * L.length = 0 by omega]; rfl
    · rw [List.getElem?_append_right (by rw [h.1]; omega), h.1, show L.length * 2 + 1 - 2 * L.length = 1 by omega]; rfl
    · rw [List.getD_eq_getElem?_getD, List.getElem?_append_right (Nat.le_refl _)]; simpa using hi
/-- laid in a block -/
theorem Got.blk {w W : World} {L : List Tup} {cs : List Value} (h : Got w L cs) (hW : w.alloc (.cells cs.toArray 24) = W) :
    ∀ Y, Below W.heap.size W Y → ∀ k, k < L.length → ∃ A c p, Y.cell? ⟨w.heap.size, k * 2, none⟩ = some (.int .i64 4) ∧ Y.cell? ⟨w.heap.size, k * 2 + 1, none⟩ = some (.slice A 3 c) ∧ IsOps Y w.heap.size A (oneT (L.getD k default)) p := by
  subst hW
  intro Y hY k hk
  obtain ⟨A, c, p, e1, e2, hi⟩ := h.2 k hk
  have hb := (Blk.new w 24 cs.toArray).below hY (by simp)
  refine ⟨A, c, p, ?_, ?_, ?_⟩
  · rw [hb.cell]; simpa using e1
  · rw [hb.cell]; simpa using e2
  · exact (hi.alloc (Nat.le_refl _) _).below (hY.mono (by simp))

theorem two2_any (w : World) : Calls Try.prog 32 #[] w fun e w' => ∃ q, e = .returned (.agg #[.int .i64 4, .slice (some ⟨q + 1, 0, none⟩) 2 2]) ∧ Below w.heap.size w w' ∧ w.heap.size ≤ q ∧ Blk w' q 3 #[.int .i64 0] ∧ Blk w' (q + 1) 40 (twoCells (.slice (some ⟨q, 0, none⟩) 1 1)) :=
  (two_any w).mono fun _ _ ⟨he, hb, _, h1, h2⟩ => ⟨w.heap.size + 1, he, hb, by omega, h1, h2⟩
theorem two_cells8 {W : World} {q : Nat} {s : Value} (h : Blk W q 40 (twoCells s)) : W.cell? ⟨q, 8, none⟩ = some (.int .i64 8) ∧ W.cell? ⟨q, 9, none⟩ = some s ∧ W.cell? ⟨q, 10, none⟩ = some (.int .i64 0) ∧ W.cell? ⟨q, 11, none⟩ = some (.int .i64 0) ∧ W.cell? ⟨q, 12, none⟩ = some (.int .i64 0) ∧ W.cell? ⟨q, 13, none⟩ = some (.int .i64 0) ∧ W.cell? ⟨q, 14, none⟩ = some (.int .i64 0) ∧ W.cell? ⟨q, 15, none⟩ = some (.int .i64 1) :=
  ⟨h.cell 8, h.cell 9, h.cell 10, h.cell 11, h.cell 12, h.cell 13, h.cell 14, h.cell 15⟩
/-- five operators: a source, two Maps, two sinks, by their inputs -/
def loopCells (a b c d : Value) : Array Value := #[.int .i64 1, .slice none 0 0, .int .i64 0, .int .i64 0, .int .i64 0, .int .i64 1, .int .i64 1, .int .i64 1, .int .i64 2, a, .int .i64 1, .int .i64 0, .int .i64 0, .int .i64 0, .int .i64 0, .int .i64 1, .int .i64 2, b, .int .i64 1, .int .i64 0, .int .i64 0, .int .i64 0, .int .i64 0, .int .i64 1, .int .i64 8, c, .int .i64 0, .int .i64 0, .int .i64 0, .int .i64 0, .int .i64 0, .int .i64 1, .int .i64 8, d, .int .i64 0, .int .i64 0, .int .i64 0, .int .i64 0, .int .i64 0, .int .i64 1]
def oneS (q : Nat) : Value := .slice (some ⟨q, 0, none⟩) 1 1
/-- what has been made so far of the job with a circle -/
def StL (Y W : World) (i6 : Nat) (q1 q2 o7 n7 : Option Nat) : Prop :=
  Below Y.heap.size Y W ∧ (∀ q, q1 = some q → Y.heap.size ≤ q ∧ Blk W q 3 #[.int .i64 0]) ∧ (∀ q, q2 = some q → Y.heap.size ≤ q ∧ Blk W q 3 #[.int .i64 0]) ∧
    (∀ o, o7 = some o → Y.heap.size ≤ o ∧ ∃ a b, q1 = some a ∧ q2 = some b ∧ Blk W o 40 (loopCells (oneS i6) (oneS i6) (oneS a) (oneS b))) ∧ (∀ n, n7 = some n → Y.heap.size ≤ n ∧ Blk W n 24 #[.int .i64 0, .slice none 0 0])
section
variable {Y W W' : World} {i6 : Nat} {q1 q2 o7 n7 : Option Nat}
theorem StL.nil : StL Y Y i6 none none none none := ⟨Below.refl _ _, by simp, by simp, by simp, by simp⟩
theorem StL.drew (h : StL Y W i6 q1 q2 o7 n7) : StL Y W.drew i6 q1 q2 o7 n7 := ⟨h.1.drew, h.2⟩
theorem StL.later (h : StL Y W i6 q1 q2 o7 n7) (hb : Below W.heap.size W W') : StL Y W' i6 q1 q2 o7 n7 := by
  obtain ⟨h0, h1, h2, h3, h4⟩ := h
  refine ⟨through h0 (Nat.le_refl _) hb, fun q e => ⟨(h1 q e).1, (h1 q e).2.below hb (h1 q e).2.lt⟩, fun q e => ⟨(h2 q e).1, (h2 q e).2.below hb (h2 q e).2.lt⟩, fun o e => ?_, fun n e => ⟨(h4 n e).1, (h4 n e).2.below hb (h4 n e).2.lt⟩⟩
  obtain ⟨a, b, c, d, k⟩ := h3 o e
  exact ⟨a, b, c, d, k.1, k.2.below hb k.2.lt⟩
theorem StL.one (h : StL Y W i6 none none none n7) (hb : Below W.heap.size W W') {q : Nat} (hq : W.heap.size ≤ q) (k : Blk W' q 3 #[.int .i64 0]) : StL Y W' i6 (some q) none none n7 := by
  have hs := h.1.size
  obtain ⟨h0, h1, h2, h3, h4⟩ := h.later hb
  exact ⟨h0, fun z e => by cases e; exact ⟨Nat.le_trans hs hq, k⟩, h2, by simp, h4⟩
theorem StL.two {a : Nat} (h : StL Y W i6 (some a) none none n7) (hb : Below W.heap.size W W') {q : Nat} (hq : W.heap.size ≤ q) (k : Blk W' q 3 #[.int .i64 0]) : StL Y W' i6 (some a) (some q) none n7 := by
  have hs := h.1.size
  obtain ⟨h0, h1, h2, h3, h4⟩ := h.later hb
  exact ⟨h0, h1, fun z e => by cases e; exact ⟨Nat.le_trans hs hq, k⟩, by simp, h4⟩
theorem StL.ops {a b : Nat} (h : StL Y W i6 (some a) (some b) none n7) (hW : W.alloc (.cells (loopCells (oneS i6) (oneS i6) (oneS a) (oneS b)) 40) = W') : StL Y W' i6 (some a) (some b) (some W.heap.size) n7 := by
  subst hW
  have hs := h.1.size
  obtain ⟨h0, h1, h2, h3, h4⟩ := h.later ((Below.refl _ _).alloc (Nat.le_refl _) (.cells (loopCells (oneS i6) (oneS i6) (oneS a) (oneS b)) 40))
  exact ⟨h0, h1, h2, fun o e => by cases e; exact ⟨hs, a, b, rfl, rfl, Blk.new _ _ _⟩, h4⟩
theorem StL.box (h : StL Y W i6 q1 q2 o7 none) (hW : W.alloc (.cells #[.int .i64 0, .slice none 0 0] 24) = W') : StL Y W' i6 q1 q2 o7 (some W.heap.size) := by
  subst hW
  have hs := h.1.size
  obtain ⟨h0, h1, h2, h3, h4⟩ := h.later ((Below.refl _ _).alloc (Nat.le_refl _) (.cells #[.int .i64 0, .slice none 0 0] 24))
  exact ⟨h0, h1, h2, h3, fun n e => by cases e; exact ⟨hs, Blk.new _ _ _⟩⟩
/-- made whole -/
def LoopAt (Y : World) (i6 : Nat) (v : Value) (W : World) : Prop :=
  ∃ n7 o7 q1 q2, v = .pointer (some ⟨n7, 0, none⟩) ∧ Below Y.heap.size Y W ∧ Y.heap.size ≤ n7 ∧ Y.heap.size ≤ o7 ∧ Y.heap.size ≤ q1 ∧ Y.heap.size ≤ q2 ∧ n7 ≠ o7 ∧ Blk W n7 24 #[.int .i64 1, .slice (some ⟨o7, 0, none⟩) 5 5] ∧ Blk W o7 40 (loopCells (oneS i6) (oneS i6) (oneS q1) (oneS q2)) ∧ Blk W q1 3 #[.int .i64 0] ∧ Blk W q2 3 #[.int .i64 0]
theorem blk_ne {W : World} {x y : Nat} {T U : TypeId} {cs ds : Array Value} (h : Blk W x T cs) (k : Blk W y U ds) (hne : T ≠ U) : x ≠ y := by
  rintro rfl
  unfold Blk at h k
  rw [h] at k
  injection k with k; injection k with _ k
  exact hne k
theorem StL.whole {a b o n : Nat} (h : StL Y W i6 (some a) (some b) (some o) (some n)) (hW : (W.setCell ⟨n, 0, none⟩ (.int .i64 1)).setCell ⟨n, 1, none⟩ (.slice (some ⟨o, 0, none⟩) 5 5) = W') : LoopAt Y i6 (.pointer (some ⟨n, 0, none⟩)) W' := by
  subst hW
  obtain ⟨h0, h1, h2, h3, h4⟩ := h
  obtain ⟨n1, n2⟩ := h4 n rfl
  obtain ⟨o1, a', b', ea, eb, o2⟩ := h3 o rfl
  cases ea; cases eb
  obtain ⟨a1, a2⟩ := h1 a rfl
  obtain ⟨b1, b2⟩ := h2 b rfl
  have e1 := blk_ne n2 o2 (by decide)
  have e2 := blk_ne n2 a2 (by decide)
  have e3 := blk_ne n2 b2 (by decide)
  refine ⟨n, o, a, b, rfl, (h0.setCell n1 _).setCell n1 _, n1, o1, a1, b1, e1, ?_, (o2.far e1.symm _).far e1.symm _, (a2.far e2.symm _).far e2.symm _, (b2.far e3.symm _).far e3.symm _⟩
  exact (n2.set_ 0 (.int .i64 1)).set_ 1 (.slice (some ⟨o, 0, none⟩) 5 5)
theorem StL.cells {n : Nat} (h : StL Y W i6 q1 q2 o7 (some n)) : W.cell? ⟨n, 0, none⟩ = some (.int .i64 0) ∧ W.cell? ⟨n, 1, none⟩ = some (.slice none 0 0) ∧ W.frozen? ⟨n, 0, none⟩ = false ∧ W.frozen? ⟨n, 1, none⟩ = false := by
  have := (h.2.2.2.2 n rfl).2
  exact ⟨this.cell 0, this.cell 1, this.frozen 0, this.frozen 1⟩
end
end Go.Proofs.Ytcechimilefihaa.Sp
