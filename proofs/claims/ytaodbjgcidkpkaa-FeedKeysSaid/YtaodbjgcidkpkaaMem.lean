/- Words for memory: elements that lie in a slice, kept over whatever leaves old blocks alone; a block known whole. No program's function is named. -/
import Derived.Below
import Derived.Laws.OwnMore
import Derived.Laws.AppendOwn
import Derived.Laws.Rows
import Derived.Deep.Draws
import Derived.Deep.Slices
import Derived.Deep.Fields
import Derived.ChangeSame
import Derived.WalkKit
namespace Go.Proofs.Ytaodbjgcidkpkaa.M
open Go.RowKit

theorem block_add (a : Addr) (n : Nat) : (a.add n).block = a.block := by unfold Addr.add; split <;> rfl

/-- n elements of 'size' cells each lie at A, below block B: cell j of element i is 'f i j' -/
def Lies (w : World) (B size : Nat) (A : Option Addr) (n : Nat) (f : Nat → Nat → Value) : Prop :=
  0 < n → ∃ b o, A = some ⟨b, o, none⟩ ∧ b < B ∧ ∀ i, i < n → ∀ j, j < size → w.cell? ⟨b, o + i * size + j, none⟩ = some (f i j)

section
variable {w w' : World} {B B' size n : Nat} {A : Option Addr} {f g : Nat → Nat → Value}
theorem Lies.zero (A : Option Addr) (f : Nat → Nat → Value) : Lies w B size A 0 f := fun h => absurd h (by omega)
theorem Lies.at_ (h : Lies w B size A n f) {i : Nat} (hi : i < n) : ∃ b o, A = some ⟨b, o, none⟩ ∧ b < B ∧ ∀ j, j < size → w.cell? ⟨b, o + i * size + j, none⟩ = some (f i j) := by
  obtain ⟨b, o, e, hb, hc⟩ := h (by omega)
  exact ⟨b, o, e, hb, hc i hi⟩
theorem Lies.at1 (h : Lies w B 1 A n f) {i : Nat} (hi : i < n) : ∃ b o, A = some ⟨b, o, none⟩ ∧ b < B ∧ w.cell? ⟨b, o + i, none⟩ = some (f i 0) := by
  obtain ⟨b, o, e, hb, hc⟩ := h (by omega)
  exact ⟨b, o, e, hb, by simpa using hc i hi 0 (by omega)⟩
theorem Lies.keep (h : Lies w B size A n f) (hk : ∀ p : Addr, p.block < B → w'.cell? p = w.cell? p) : Lies w' B size A n f := fun hn => by
  obtain ⟨b, o, e, hb, hc⟩ := h hn
  exact ⟨b, o, e, hb, fun i hi j hj => (hk _ hb).trans (hc i hi j hj)⟩
theorem Lies.more (h : Lies w B size A n f) (hB : B ≤ B') : Lies w B' size A n f := fun hn => by
  obtain ⟨b, o, e, hb, hc⟩ := h hn
  exact ⟨b, o, e, by omega, hc⟩
theorem Lies.congr (h : Lies w B size A n f) (hfg : ∀ i, i < n → ∀ j, j < size → f i j = g i j) : Lies w B size A n g := fun hn => by
  obtain ⟨b, o, e, hb, hc⟩ := h hn
  exact ⟨b, o, e, hb, fun i hi j hj => by rw [hc i hi j hj, hfg i hi j hj]⟩
theorem Lies.below (h : Lies w B size A n f) (hb : Below B w w') : Lies w' B size A n f := h.keep fun _ hp => hb.cell hp
theorem Lies.drew (h : Lies w B size A n f) : Lies w.drew B size A n f := h
theorem Lies.drewN (h : Lies w B size A n f) (k : Nat) : Lies (w.drewN k) B size A n f := h
theorem Lies.alloc (h : Lies w B size A n f) (hB : B ≤ w.heap.size) (o : Obj) : Lies (w.alloc o) B size A n f := h.keep fun p hp => World.cell?_alloc_lt w o p (by omega)
theorem Lies.setCell (h : Lies w B size A n f) {p : Addr} (hB : B ≤ p.block) (u : Value) : Lies (w.setCell p u) B size A n f :=
  h.keep fun q hq => World.cell?_setCell_other w p q u (fun e => by subst e; omega)
theorem Lies.less (h : Lies w B size A n f) {m : Nat} (hm : m ≤ n) : Lies w B size A m f := fun hn => by
  obtain ⟨b, o, e, hb, hc⟩ := h (by omega)
  exact ⟨b, o, e, hb, fun i hi => hc i (by omega)⟩
end

/-- block g is just the cells cs of element type t, none frozen -/
def Blk (w : World) (g : Nat) (t : TypeId) (cs : Array Value) : Prop := w.heap[g]? = some (.cells cs t (0, 0))

section
variable {w w' : World} {g : Nat} {t : TypeId} {cs : Array Value}
theorem Blk.lt (h : Blk w g t cs) : g < w.heap.size := by
  rcases Nat.lt_or_ge g w.heap.size with hlt | hge
  · exact hlt
  · unfold Blk at h; rw [Array.getElem?_eq_none hge] at h; cases h
theorem Blk.cell (h : Blk w g t cs) (i : Nat) : w.cell? ⟨g, i, none⟩ = cs[i]? := cell_of_row w g i cs t (0, 0) h
theorem Blk.frozen (h : Blk w g t cs) (i : Nat) : w.frozen? ⟨g, i, none⟩ = false := by
  unfold Blk at h
  simp [World.frozen?, h]
theorem Blk.new (w : World) (t : TypeId) (cs : Array Value) : Blk (w.alloc (.cells cs t)) w.heap.size t cs := heap_alloc_new w _
theorem Blk.drew (h : Blk w g t cs) : Blk w.drew g t cs := h
theorem Blk.drewN (h : Blk w g t cs) (n : Nat) : Blk (w.drewN n) g t cs := h
theorem Blk.alloc (h : Blk w g t cs) (o : Obj) : Blk (w.alloc o) g t cs := (Below.heap_alloc w o g h.lt).trans h
theorem Blk.set_ (h : Blk w g t cs) (i : Nat) (u : Value) : Blk (w.setCell ⟨g, i, none⟩ u) g t (cs.setIfInBounds i u) := by
  unfold Blk at h ⊢
  simp [World.setCell, Array.getElem?_modify, h]
theorem Blk.far (h : Blk w g t cs) {p : Addr} (hp : g ≠ p.block) (u : Value) : Blk (w.setCell p u) g t cs := (Below.heap_setCell w p u g hp).trans h
theorem Blk.below {B : Nat} (h : Blk w g t cs) (hb : Below B w w') (hg : g < B) : Blk w' g t cs := (hb.block g hg).trans h
theorem Blk.grown {row : Option Nat} (h : Blk w g t cs) (hb : w.grownBy w' row) (hg : some g ≠ row) : Blk w' g t cs := (hb.block g h.lt hg).trans h
theorem Blk.lies {size n : Nat} {f : Nat → Nat → Value} (h : Blk w g t cs) (hf : ∀ i, i < n → ∀ j, j < size → cs[i * size + j]? = some (f i j)) : Lies w (g + 1) size (some ⟨g, 0, none⟩) n f :=
  fun _ => ⟨g, 0, rfl, by omega, fun i hi j hj => by rw [h.cell, Nat.zero_add]; exact hf i hi j hj⟩
end

theorem below_drewN {B : Nat} {a w : World} (h : Below B a w) (n : Nat) : Below B a (w.drewN n) := ⟨h.os, h.tape, h.output, h.size, h.block⟩
theorem below_cells {W w1 : World} (hb : Below W.heap.size W w1) : (∀ b o, b < W.heap.size → w1.cell? ⟨b, o, none⟩ = W.cell? ⟨b, o, none⟩) ∧ (∀ b o, b < W.heap.size → w1.frozen? ⟨b, o, none⟩ = W.frozen? ⟨b, o, none⟩) :=
  ⟨fun b o h => hb.cell (p := ⟨b, o, none⟩) h, fun b o h => hb.frozen (p := ⟨b, o, none⟩) h⟩

theorem through {n : Nat} {W X w2 : World} (h : Below n W X) (hn : n ≤ W.heap.size) (hb : Below X.heap.size X w2) : Below n W w2 := h.trans (hb.mono (Nat.le_trans hn h.size))
theorem size_through {W X : World} (h : Below 0 W X) : W.heap.size ≤ X.heap.size := h.size

/-! only block g, and what is new, has turned -/
theorem only_drewN {a w : World} {row : Option Nat} (h : a.grownBy w row) (n : Nat) : a.grownBy (w.drewN n) row := ⟨h.os, h.tape, h.output, h.size, h.block⟩
theorem only_drew {a w : World} {row : Option Nat} (h : a.grownBy w row) : a.grownBy w.drew row := ⟨h.os, h.tape, h.output, h.size, h.block⟩
theorem only_alloc {a w : World} {row : Option Nat} (h : a.grownBy w row) (o : Obj) : a.grownBy (w.alloc o) row :=
  ⟨h.os, h.tape, h.output, Nat.le_trans h.size (by simp), fun i hi hne => (Below.heap_alloc w o i (Nat.lt_of_lt_of_le hi h.size)).trans (h.block i hi hne)⟩
theorem only_setCell {a w : World} {g : Nat} (h : a.grownBy w (some g)) {p : Addr} (hp : p.block = g ∨ a.heap.size ≤ p.block) (u : Value) : a.grownBy (w.setCell p u) (some g) :=
  ⟨h.os, h.tape, h.output, by simpa [World.setCell] using h.size, fun i hi hne => (Below.heap_setCell w p u i (by
    rintro rfl
    rcases hp with hp | hp
    · exact hne (by rw [hp])
    · omega)).trans (h.block i hi hne)⟩
theorem only_of_below {a w : World} (h : Below a.heap.size a w) (row : Option Nat) : a.grownBy w row := ⟨h.os, h.tape, h.output, h.size, fun i hi _ => h.block i hi⟩
theorem below_of_only {a w : World} {row : Option Nat} (h : a.grownBy w row) {B : Nat} (hB : B ≤ a.heap.size) (hr : ∀ g, row = some g → B ≤ g) : Below B a w :=
  ⟨h.os, h.tape, h.output, h.size, fun i hi => h.block i (by omega) (fun e => by have := hr i e.symm; omega)⟩
end Go.Proofs.Ytaodbjgcidkpkaa.M
