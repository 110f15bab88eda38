/- The three odd jobs of the chapter: what is wrong with them; a job with a circle, in memory. -/
import Derived.Test.YtcechimilefihaaSpK2Y

namespace Go.Proofs.Ytcechimilefihaa.Sp
open Go.ChangeShapes Go.WideShapes Go.ChangeAt Go.RowKit M

def circleL : List OpP := [⟨1, [], 0, 0, 0, 1, 1, 1⟩, ⟨2, [2], 1, 0, 0, 0, 0, 1⟩, ⟨2, [1], 1, 0, 0, 0, 0, 1⟩, ⟨8, [0], 0, 0, 0, 0, 0, 1⟩, ⟨8, [1], 0, 0, 0, 0, 0, 1⟩]
def keysL : List OpP := [⟨1, [], 0, 0, 0, 1, 1, 1⟩, ⟨2, [0], 1, 0, 0, 0, 0, 1⟩, ⟨7, [0, 1], 0, 0, 0, 0, 0, 1⟩, ⟨8, [2], 0, 0, 0, 0, 0, 1⟩]
def lateL : List OpP := [⟨8, [2], 0, 0, 0, 0, 0, 1⟩, ⟨1, [], 0, 0, 0, 1, 1, 1⟩, ⟨2, [1], 4, 0, 0, 0, 0, 1⟩]
theorem circle_chk : chkE 1 circleL = 9 := by decide +kernel
theorem keys_chk : chkE 1 keysL = 10 := by decide +kernel
theorem late_chk : chkE 1 lateL = 0 := by decide +kernel
theorem late_ord : orderF lateL = [1, 2, 0] := by decide +kernel
theorem nil_chk1 : chkE 1 [] = 3 := by decide +kernel
theorem nil_chk0 : chkE 0 [] = 1 := by decide +kernel
def inP (a b c d e : Option Addr × Nat) (i : Nat) : Option Addr × Nat := if i = 0 then a else if i = 1 then b else if i = 2 then c else if i = 3 then d else e
def atP (q n : Nat) : Option Addr × Nat := (some ⟨q, 0, none⟩, n)
def keysCells (i6 x y : Nat) : Array Value := #[.int .i64 1, .slice none 0 0, .int .i64 0, .int .i64 0, .int .i64 0, .int .i64 1, .int .i64 1, .int .i64 1, .int .i64 2, oneS i6, .int .i64 1, .int .i64 0, .int .i64 0, .int .i64 0, .int .i64 0, .int .i64 1, .int .i64 7, .slice (some ⟨x, 0, none⟩) 2 2, .int .i64 0, .int .i64 0, .int .i64 0, .int .i64 0, .int .i64 0, .int .i64 1, .int .i64 8, oneS y, .int .i64 0, .int .i64 0, .int .i64 0, .int .i64 0, .int .i64 0, .int .i64 1]
def lateCells (x y : Nat) : Array Value := #[.int .i64 8, oneS x, .int .i64 0, .int .i64 0, .int .i64 0, .int .i64 0, .int .i64 0, .int .i64 1, .int .i64 1, .slice none 0 0, .int .i64 0, .int .i64 0, .int .i64 0, .int .i64 1, .int .i64 1, .int .i64 1, .int .i64 2, oneS y, .int .i64 4, .int .i64 0, .int .i64 0, .int .i64 0, .int .i64 0, .int .i64 1]
theorem circle_ops {w : World} {g a b c d : Nat} (h : Blk w g 40 (loopCells (oneS a) (oneS b) (oneS c) (oneS d))) (ha : Blk w a 3 #[.int .i64 2]) (hb : Blk w b 3 #[.int .i64 1]) (hc : Blk w c 3 #[.int .i64 0]) (hd : Blk w d 3 #[.int .i64 1]) :
    IsOps w w.heap.size (some ⟨g, 0, none⟩) circleL (inP (none, 0) (atP a 1) (atP b 1) (atP c 1) (atP d 1)) := by
  refine ops_blk h (fun i hi j hj => ?_) (fun i hi => ?_)
  · have hi' : i < 5 := hi
    rcases (show i = 0 ∨ i = 1 ∨ i = 2 ∨ i = 3 ∨ i = 4 by omega) with rfl | rfl | rfl | rfl | rfl <;> (rcases (show j = 0 ∨ j = 1 ∨ j = 2 ∨ j = 3 ∨ j = 4 ∨ j = 5 ∨ j = 6 ∨ j = 7 by omega) with rfl | rfl | rfl | rfl | rfl | rfl | rfl | rfl) <;> rfl
  · have hi' : i < 5 := hi
    rcases (show i = 0 ∨ i = 1 ∨ i = 2 ∨ i = 3 ∨ i = 4 by omega) with rfl | rfl | rfl | rfl | rfl
    · exact ⟨by show OpIn ⟨1, [], 0, 0, 0, 1, 1, 1⟩; unfold OpIn In64; decide, Sp.ints_nil _ _ (Nat.zero_le _)⟩
    · exact ⟨by show OpIn ⟨2, [2], 1, 0, 0, 0, 0, 1⟩; unfold OpIn In64; decide, ints_blk (xs := [2]) ha (by decide) (by simp [In64])⟩
    · exact ⟨by show OpIn ⟨2, [1], 1, 0, 0, 0, 0, 1⟩; unfold OpIn In64; decide, ints_blk (xs := [1]) hb (by decide) (by simp [In64])⟩
    · exact ⟨by show OpIn ⟨8, [0], 0, 0, 0, 0, 0, 1⟩; unfold OpIn In64; decide, ints_blk (xs := [0]) hc (by decide) (by simp [In64])⟩
    · exact ⟨by show OpIn ⟨8, [1], 0, 0, 0, 0, 0, 1⟩; unfold OpIn In64; decide, ints_blk (xs := [1]) hd (by decide) (by simp [In64])⟩
theorem keys_ops {w : World} {g a b c : Nat} (h : Blk w g 40 (keysCells a b c)) (ha : Blk w a 3 #[.int .i64 0]) (hb : Blk w b 3 #[.int .i64 0, .int .i64 1]) (hc : Blk w c 3 #[.int .i64 2]) :
    IsOps w w.heap.size (some ⟨g, 0, none⟩) keysL (inP (none, 0) (atP a 1) (atP b 2) (atP c 1) (none, 0)) := by
  refine ops_blk h (fun i hi j hj => ?_) (fun i hi => ?_)
  · have hi' : i < 4 := hi
    rcases (show i = 0 ∨ i = 1 ∨ i = 2 ∨ i = 3 by omega) with rfl | rfl | rfl | rfl <;> (rcases (show j = 0 ∨ j = 1 ∨ j = 2 ∨ j = 3 ∨ j = 4 ∨ j = 5 ∨ j = 6 ∨ j = 7 by omega) with rfl | rfl | rfl | rfl | rfl | rfl | rfl | rfl) <;> rfl
  · have hi' : i < 4 := hi
    rcases (show i = 0 ∨ i = 1 ∨ i = 2 ∨ i = 3 by omega) with rfl | rfl | rfl | rfl
    · exact ⟨by show OpIn ⟨1, [], 0, 0, 0, 1, 1, 1⟩; unfold OpIn In64; decide, Sp.ints_nil _ _ (Nat.zero_le _)⟩
    · exact ⟨by show OpIn ⟨2, [0], 1, 0, 0, 0, 0, 1⟩; unfold OpIn In64; decide, ints_blk (xs := [0]) ha (by decide) (by simp [In64])⟩
    · exact ⟨by show OpIn ⟨7, [0, 1], 0, 0, 0, 0, 0, 1⟩; unfold OpIn In64; decide, ints_blk (xs := [0, 1]) hb (by decide) (by simp [In64])⟩
    · exact ⟨by show OpIn ⟨8, [2], 0, 0, 0, 0, 0, 1⟩; unfold OpIn In64; decide, ints_blk (xs := [2]) hc (by decide) (by simp [In64])⟩
theorem late_ops {w : World} {g a b : Nat} (h : Blk w g 40 (lateCells a b)) (ha : Blk w a 3 #[.int .i64 2]) (hb : Blk w b 3 #[.int .i64 1]) :
    IsOps w w.heap.size (some ⟨g, 0, none⟩) lateL (inP (atP a 1) (none, 0) (atP b 1) (none, 0) (none, 0)) := by
  refine ops_blk h (fun i hi j hj => ?_) (fun i hi => ?_)
  · have hi' : i < 3 := hi
    rcases (show i = 0 ∨ i = 1 ∨ i = 2 by omega) with rfl | rfl | rfl <;> (rcases (show j = 0 ∨ j = 1 ∨ j = 2 ∨ j = 3 ∨ j = 4 ∨ j = 5 ∨ j = 6 ∨ j = 7 by omega) with rfl | rfl | rfl | rfl | rfl | rfl | rfl | rfl) <;> rfl
  · have hi' : i < 3 := hi
    rcases (show i = 0 ∨ i = 1 ∨ i = 2 by omega) with rfl | rfl | rfl
    · exact ⟨by show OpIn ⟨8, [2], 0, 0, 0, 0, 0, 1⟩; unfold OpIn In64; decide, ints_blk (xs := [2]) ha (by decide) (by simp [In64])⟩
    · exact ⟨by show OpIn ⟨1, [], 0, 0, 0, 1, 1, 1⟩; unfold OpIn In64; decide, Sp.ints_nil _ _ (Nat.zero_le _)⟩
    · exact ⟨by show OpIn ⟨2, [1], 4, 0, 0, 0, 0, 1⟩; unfold OpIn In64; decide, ints_blk (xs := [1]) hb (by decide) (by simp [In64])⟩
theorem nil_ops (w : World) (B : Nat) (g : Nat → Option Addr × Nat) : IsOps w B none [] g := ⟨Lies.zero _ _, fun i hi => absurd hi (by simp)⟩

/-- the job with a circle, while it is turned -/
def LoopB (Y W : World) (n7 o7 : Nat) (cs : Array Value) : Prop :=
  Below Y.heap.size Y W ∧ Y.heap.size ≤ n7 ∧ Y.heap.size ≤ o7 ∧ n7 ≠ o7 ∧ Blk W n7 24 #[.int .i64 1, .slice (some ⟨o7, 0, none⟩) 5 5] ∧ Blk W o7 40 cs
section
variable {Y W : World} {n7 o7 : Nat} {cs : Array Value}
theorem LoopB.put (h : LoopB Y W n7 o7 cs) (i : Nat) (x : Int) {W' : World} (hW : (W.setCell ⟨o7, i, none⟩ (oneS W.heap.size)).alloc (.cells #[.int .i64 x] 3) = W') :
    LoopB Y W' n7 o7 (cs.setIfInBounds i (oneS W.heap.size)) ∧ Blk W' W.heap.size 3 #[.int .i64 x] ∧ ∀ z c, Blk W z 3 c → Blk W' z 3 c := by
  obtain ⟨h0, h1, h2, h3, h4, h5⟩ := h
  have hlt := h5.lt
  rw [← World.setCell_alloc_past _ _ _ _ hlt] at hW
  subst hW
  refine ⟨⟨(h0.alloc h0.size _).setCell h2 _, h1, h2, h3, (h4.alloc _).far (p := ⟨o7, i, none⟩) h3 _, (h5.alloc _).set_ i _⟩, (Blk.new _ _ _).far (p := ⟨o7, i, none⟩) (by show W.heap.size ≠ o7; omega) _, fun z c hz => (hz.alloc _).far (p := ⟨o7, i, none⟩) (blk_ne hz h5 (by decide)) _⟩
end
/-- blocks of the call's own -/
def Bk (w : World) (l : List (Nat × TypeId × Array Value)) (wr : World) : Prop := Below w.heap.size w wr ∧ ∀ x ∈ l, Blk wr x.1 x.2.1 x.2.2
theorem Bk.nil (w : World) : Bk w [] w := ⟨Below.refl _ _, fun x hx => by cases hx⟩
theorem Bk.alloc {w wr : World} {l : List (Nat × TypeId × Array Value)} (h : Bk w l wr) (cs : Array Value) (t : TypeId) {g : Nat} (hg : wr.heap.size = g) : Bk w ((g, t, cs) :: l) (wr.alloc (.cells cs t)) := by
  refine ⟨h.1.alloc h.1.size _, fun z hz => ?_⟩
  rcases List.mem_cons.1 hz with rfl | hz
  · exact hg ▸ Blk.new _ _ _
  · exact (h.2 z hz).alloc _
end Go.Proofs.Ytcechimilefihaa.Sp
