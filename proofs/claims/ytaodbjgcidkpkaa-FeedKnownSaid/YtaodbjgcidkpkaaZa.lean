/- Words for memory: elements that lie in a slice, kept over whatever leaves old blocks alone; a block known whole. No program's function is named. Arguments that are slices, opened to cells: elements of any type, lists of numbers. No program's function is named. A list of numbers that a call made itself; append onto it. No program's function is named. Lists of pairs of numbers (structs of two ints): read, made, appended to. No program's function is named. Lists of fours of numbers (structs of four ints): read, made, appended to. No program's function is named. A region that draws its order, walked by hand under a condition on the world: one operation at a time, also those whose guard is false. No program's function is named. Blocks of the call's own. No program's function is named. A region that draws its order, walked by hand: three that may come up; the orders meet again. No program's function is named. -/
import Derived.Below
import Derived.Laws.OwnMore
import Derived.Laws.AppendOwn
import Derived.Laws.Rows
import Derived.Deep.Draws
import Derived.Deep.Slices
import Derived.Deep.Fields
import Derived.ChangeSame
import Derived.WalkKit
import Derived.ProofKit
import Derived.OpenShut
import Derived.Test.YtaodbjgcidkpkaaRows
import Derived.Deep.AppendLies
import Derived.Deep.Onto
import Derived.Laws.AppendOwnNone
import Derived.Lib.Hide
import Derived.Deep.RegionHeld3

namespace Go.Proofs.Ytaodbjgcidkpkaa.M
open Go.RowKit

theorem block_add (a : Addr) (n : Nat) : (a.add n).block = a.block := by unfold Addr.add; split <;> rfl

/-- n elements of 'size' cells each lie at A, below block B: cell j of element i is 'f i j' -/
def Lies (w : World) (B size : Nat) (A : Option Addr) (n : Nat) (f : Nat → Nat → Value) : Prop :=
  0 < n → ∃ b o, A = some ⟨b, o, none⟩ ∧ b < B ∧ ∀ i, i < n → ∀ j, j < size → w.cell? ⟨b, o + i * size + j, none⟩ = some (f i j)

section
variable {w w' : World} {B B' size n : Nat} {A : Option Addr} {f g : Nat → Nat → Value}
theorem Lies.zero (A : Option Addr) (f : Nat → Nat → Value) : Lies w B size A 0 f := fun h => absurd h (by omega)
theorem Lies.at_ (h : Lies w B size A n f) {i : Nat} (hi : i < n) : ∃ b o, A = some ⟨b, o, none⟩ ∧ b < B ∧ ∀ j, j < size → w.cell? ⟨b, o + i * size + j, none⟩ = some (f i j) := by
  obtain ⟨b, o, e, hb, hc⟩ := h (by omega)
  exact ⟨b, o, e, hb, hc i hi⟩
theorem Lies.at1 (h : Lies w B 1 A n f) {i : Nat} (hi : i < n) : ∃ b o, A = some ⟨b, o, none⟩ ∧ b < B ∧ w.cell? ⟨b, o + i, none⟩ = some (f i 0) := by
  obtain ⟨b, o, e, hb, hc⟩ := h (by omega)
  exact ⟨b, o, e, hb, by simpa using hc i hi 0 (by omega)⟩
theorem Lies.keep (h : Lies w B size A n f) (hk : ∀ p : Addr, p.block < B → w'.cell? p = w.cell? p) : Lies w' B size A n f := fun hn => by
  obtain ⟨b, o, e, hb, hc⟩ := h hn
  exact ⟨b, o, e, hb, fun i hi j hj => (hk _ hb).trans (hc i hi j hj)⟩
theorem Lies.more (h : Lies w B size A n f) (hB : B ≤ B') : Lies w B' size A n f := fun hn => by
  obtain ⟨b, o, e, hb, hc⟩ := h hn
  exact ⟨b, o, e, by omega, hc⟩
theorem Lies.congr (h : Lies w B size A n f) (hfg : ∀ i, i < n → ∀ j, j < size → f i j = g i j) : Lies w B size A n g := fun hn => by
  obtain ⟨b, o, e, hb, hc⟩ := h hn
  exact ⟨b, o, e, hb, fun i hi j hj => by rw [hc i hi j hj, hfg i hi j hj]⟩
theorem Lies.below (h : Lies w B size A n f) (hb : Below B w w') : Lies w' B size A n f := h.keep fun _ hp => hb.cell hp
theorem Lies.drew (h : Lies w B size A n f) : Lies w.drew B size A n f := h
theorem Lies.drewN (h : Lies w B size A n f) (k : Nat) : Lies (w.drewN k) B size A n f := h
theorem Lies.alloc (h : Lies w B size A n f) (hB : B ≤ w.heap.size) (o : Obj) : Lies (w.alloc o) B size A n f := h.keep fun p hp => World.cell?_alloc_lt w o p (by omega)
theorem Lies.setCell (h : Lies w B size A n f) {p : Addr} (hB : B ≤ p.block) (u : Value) : Lies (w.setCell p u) B size A n f :=
  h.keep fun q hq => World.cell?_setCell_other w p q u (fun e => by subst e; omega)
theorem Lies.less (h : Lies w B size A n f) {m : Nat} (hm : m ≤ n) : Lies w B size A m f := fun hn => by
  obtain ⟨b, o, e, hb, hc⟩ := h (by omega)
  exact ⟨b, o, e, hb, fun i hi => hc i (by omega)⟩
end

/-- block g is just the cells cs of element type t, none frozen -/
def Blk (w : World) (g : Nat) (t : TypeId) (cs : Array Value) : Prop := w.heap[g]? = some (.cells cs t (0, 0))

section
variable {w w' : World} {g : Nat} {t : TypeId} {cs : Array Value}
theorem Blk.lt (h : Blk w g t cs) : g < w.heap.size := by
  rcases Nat.lt_or_ge g w.heap.size with hlt | hge
  · exact hlt
  · unfold Blk at h; rw [Array.getElem?_eq_none hge] at h; cases h
theorem Blk.cell (h : Blk w g t cs) (i : Nat) : w.cell? ⟨g, i, none⟩ = cs[i]? := cell_of_row w g i cs t (0, 0) h
theorem Blk.frozen (h : Blk w g t cs) (i : Nat) : w.frozen? ⟨g, i, none⟩ = false := by
  unfold Blk at h
  simp [World.frozen?, h]
theorem Blk.new (w : World) (t : TypeId) (cs : Array Value) : Blk (w.alloc (.cells cs t)) w.heap.size t cs := heap_alloc_new w _
theorem Blk.drew (h : Blk w g t cs) : Blk w.drew g t cs := h
theorem Blk.drewN (h : Blk w g t cs) (n : Nat) : Blk (w.drewN n) g t cs := h
theorem Blk.alloc (h : Blk w g t cs) (o : Obj) : Blk (w.alloc o) g t cs := (Below.heap_alloc w o g h.lt).trans h
theorem Blk.set_ (h : Blk w g t cs) (i : Nat) (u : Value) : Blk (w.setCell ⟨g, i, none⟩ u) g t (cs.setIfInBounds i u) := by
  unfold Blk at h ⊢
  simp [World.setCell, Array.getElem?_modify, h]
theorem Blk.far (h : Blk w g t cs) {p : Addr} (hp : g ≠ p.block) (u : Value) : Blk (w.setCell p u) g t cs := (Below.heap_setCell w p u g hp).trans h
theorem Blk.below {B : Nat} (h : Blk w g t cs) (hb : Below B w w') (hg : g < B) : Blk w' g t cs := (hb.block g hg).trans h
theorem Blk.grown {row : Option Nat} (h : Blk w g t cs) (hb : w.grownBy w' row) (hg : some g ≠ row) : Blk w' g t cs := (hb.block g h.lt hg).trans h
theorem Blk.lies {size n : Nat} {f : Nat → Nat → Value} (h : Blk w g t cs) (hf : ∀ i, i < n → ∀ j, j < size → cs[i * size + j]? = some (f i j)) : Lies w (g + 1) size (some ⟨g, 0, none⟩) n f :=
  fun _ => ⟨g, 0, rfl, by omega, fun i hi j hj => by rw [h.cell, Nat.zero_add]; exact hf i hi j hj⟩
end

theorem below_drewN {B : Nat} {a w : World} (h : Below B a w) (n : Nat) : Below B a (w.drewN n) := ⟨h.os, h.tape, h.output, h.size, h.block⟩
theorem below_cells {W w1 : World} (hb : Below W.heap.size W w1) : (∀ b o, b < W.heap.size → w1.cell? ⟨b, o, none⟩ = W.cell? ⟨b, o, none⟩) ∧ (∀ b o, b < W.heap.size → w1.frozen? ⟨b, o, none⟩ = W.frozen? ⟨b, o, none⟩) :=
  ⟨fun b o h => hb.cell (p := ⟨b, o, none⟩) h, fun b o h => hb.frozen (p := ⟨b, o, none⟩) h⟩

theorem through {n : Nat} {W X w2 : World} (h : Below n W X) (hn : n ≤ W.heap.size) (hb : Below X.heap.size X w2) : Below n W w2 := h.trans (hb.mono (Nat.le_trans hn h.size))
theorem size_through {W X : World} (h : Below 0 W X) : W.heap.size ≤ X.heap.size := h.size

/-! only block g, and what is new, has turned -/
theorem only_drewN {a w : World} {row : Option Nat} (h : a.grownBy w row) (n : Nat) : a.grownBy (w.drewN n) row := ⟨h.os, h.tape, h.output, h.size, h.block⟩
theorem only_drew {a w : World} {row : Option Nat} (h : a.grownBy w row) : a.grownBy w.drew row := ⟨h.os, h.tape, h.output, h.size, h.block⟩
theorem only_alloc {a w : World} {row : Option Nat} (h : a.grownBy w row) (o : Obj) : a.grownBy (w.alloc o) row :=
  ⟨h.os, h.tape, h.output, Nat.le_trans h.size (by simp), fun i hi hne => (Below.heap_alloc w o i (Nat.lt_of_lt_of_le hi h.size)).trans (h.block i hi hne)⟩
theorem only_setCell {a w : World} {g : Nat} (h : a.grownBy w (some g)) {p : Addr} (hp : p.block = g ∨ a.heap.size ≤ p.block) (u : Value) : a.grownBy (w.setCell p u) (some g) :=
  ⟨h.os, h.tape, h.output, by simpa [World.setCell] using h.size, fun i hi hne => (Below.heap_setCell w p u i (by
    rintro rfl
    rcases hp with hp | hp
    · exact hne (by rw [hp])
    · omega)).trans (h.block i hi hne)⟩
theorem only_of_below {a w : World} (h : Below a.heap.size a w) (row : Option Nat) : a.grownBy w row := ⟨h.os, h.tape, h.output, h.size, fun i hi _ => h.block i hi⟩
theorem below_of_only {a w : World} {row : Option Nat} (h : a.grownBy w row) {B : Nat} (hB : B ≤ a.heap.size) (hr : ∀ g, row = some g → B ≤ g) : Below B a w :=
  ⟨h.os, h.tape, h.output, h.size, fun i hi => h.block i (by omega) (fun e => by have := hr i e.symm; omega)⟩
end Go.Proofs.Ytaodbjgcidkpkaa.M

namespace Go.Proofs.Ytaodbjgcidkpkaa.M
open Go.RowKit Go.ChangeShapes Go.WideShapes Go.Deep

/-- a slice of numbers: where, how much room, which -/
structure SL where
  A : Option Addr
  c : Nat
  xs : List Int
instance : Inhabited SL := ⟨⟨none, 0, []⟩⟩
def SL.val (s : SL) : Value := .slice s.A s.xs.length s.c
def In64 (x : Int) : Prop := -9223372036854775808 ≤ x ∧ x ≤ 9223372036854775807
/-- it lies in memory, below block B -/
def IsInts (w : World) (B : Nat) (s : SL) : Prop :=
  Lies w B 1 s.A s.xs.length (fun i _ => .int .i64 (s.xs.getD i 0)) ∧ s.xs.length ≤ s.c ∧ s.c ≤ maxLen ∧ ∀ x ∈ s.xs, In64 x

theorem IsInts.below {w w' : World} {B : Nat} {s : SL} (h : IsInts w B s) (hb : Below B w w') : IsInts w' B s := ⟨h.1.below hb, h.2⟩
theorem IsInts.keep {w w' : World} {B : Nat} {s : SL} (h : IsInts w B s) (hk : ∀ p : Addr, p.block < B → w'.cell? p = w.cell? p) : IsInts w' B s := ⟨h.1.keep hk, h.2⟩
theorem IsInts.more {w : World} {B B' : Nat} {s : SL} (h : IsInts w B s) (hB : B ≤ B') : IsInts w B' s := ⟨h.1.more hB, h.2⟩

theorem wf_in64 {x : Int} (h : (Lit.int .i64 x).wf = true) : In64 x := by
  have := Go.bounds_i64 h
  exact this

section
variable {H : Type} {enc : TypeId × Value → H} {P : Program} {w : World} {base : Nat} {spare : Nat → Bool} {held : Bool}

/-- a slice of whatever elements of k cells -/
theorem open_elems {t e : TypeId} {k fuel : Nat} {cs : List Value} {x : DataW H × List MemPlace} (ht : P.underlying t = some (.slice e)) (hC : P.cellsOf e = k) (hk : 0 < k)
    (h : DataW.trod enc P w base spare held fuel t cs = some x) :
    ∃ (A : Option Addr) (n c : Nat) (f : Nat → Nat → Value), cs = [.slice A n c] ∧ n ≤ c ∧ c ≤ maxLen ∧ Lies w w.heap.size k A n f ∧
      ∀ i, i < n → ∃ y m, DataW.trod enc P w base spare held m e ((List.range k).map (f i)) = some y := by
  rcases open_slice ht h with ⟨h0, _⟩ | ⟨a, len, cap, m, fu, D, Pl, hcs, hb, hl, hm, hmm, hx, hi⟩
  · exact ⟨none, 0, 0, fun _ _ => undef, h0, Nat.le_refl _, Nat.zero_le _, Lies.zero _ _, fun i hi => absurd hi (by omega)⟩
  · have hlm : len ≤ m := by rw [hmm]; split <;> omega
    have hex : ∀ i, i < len → ∃ cs' : List Value, cs'.length = k ∧ (∀ j, j < k → w.cell? (a.add (i * k + j)) = cs'[j]?) ∧ DataW.trod enc P w base spare held fu e cs' = some (D i, Pl i) := by
      intro i him
      obtain ⟨cs', hc, ht'⟩ := hi i (by omega)
      rw [hC] at hc
      obtain ⟨_, hcl, hat⟩ := World.cells?_some hc
      exact ⟨cs', hcl, fun j hj => by rw [← Go.Deep.add_add]; exact hat j hj, ht'⟩
    obtain ⟨g, hg⟩ := choose_lt hex
    refine ⟨some a, len, cap, fun i j => (g i).getD j undef, hcs, hl, hm, ?_, ?_⟩
    · intro hn
      have hcell : ∀ i, i < len → ∀ j, j < k → w.cell? (a.add (i * k + j)) = some ((g i).getD j undef) := by
        intro i hi' j hj
        obtain ⟨h1, h2, _⟩ := hg i hi'
        rw [h2 j hj]
        have : j < (g i).length := by omega
        simp [List.getD, this]
      have h00 := hcell 0 hn 0 hk
      obtain ⟨b, o, sp⟩ := a
      have hsp : sp = none := by
        have := World.cell?_spot h00
        simpa [Addr.add] using this
      subst hsp
      have hlt := World.block_lt_of_cell? w _ h00
      refine ⟨b, o, rfl, by simpa [Addr.add] using hlt, fun i hi' j hj => ?_⟩
      have := hcell i hi' j hj
      rw [Go.WideShapes.add_plain] at this
      rw [← this]; congr 2; omega
    · intro i hi'
      obtain ⟨h1, _, h3⟩ := hg i hi'
      refine ⟨(D i, Pl i), fu, ?_⟩
      have : (List.range k).map (fun j => (g i).getD j undef) = g i := by
        apply List.ext_getElem?
        intro j
        by_cases hj : j < k
        · simp [hj, List.getD, h1]
        · simp [hj, h1]
      rw [this]; exact h3

/-- a struct's field, by its place -/
theorem field_of {e : TypeId} {fs : Array Field} {m : Nat} {cs : List Value} {y : DataW H × List MemPlace} (he : P.underlying e = some (.struct fs)) (h : DataW.trod enc P w base spare held m e cs = some y)
    {i : Nat} {f : Field} (hi : fs[i]? = some f) {k : Nat} (hC : P.cellsOf f.type = k) : ∃ z n, DataW.trod enc P w base spare held n f.type ((cs.drop f.offset).take k) = some z := by
  obtain ⟨xs, n', _, _, _, hlen, hf⟩ := DataW.trod_struct he h
  have h1 := hf i f hi
  rw [hC] at h1
  have hl : i < fs.size := (Array.getElem?_eq_some_iff.1 hi).1
  have : xs[i]? = some (xs[i]'(by omega)) := List.getElem?_eq_getElem (by omega)
  exact ⟨_, n', h1.trans this⟩

theorem field_int {e : TypeId} {fs : Array Field} {m : Nat} {cs : List Value} {y : DataW H × List MemPlace} (he : P.underlying e = some (.struct fs)) (h : DataW.trod enc P w base spare held m e cs = some y)
    {i : Nat} {f : Field} (hi : fs[i]? = some f) (hC : P.cellsOf f.type = 1) (ht : P.underlying f.type = some (.int .i64)) {v : Value} (hv : (cs.drop f.offset).take 1 = [v]) : ∃ z : Int, v = .int .i64 z ∧ In64 z := by
  obtain ⟨z, n, hz⟩ := field_of he h hi hC
  rw [hv] at hz
  obtain ⟨x, hx, _, hw⟩ := DataW.trod_int ht hz
  exact ⟨x, by simpa using hx, wf_in64 hw⟩
theorem field_bool {e : TypeId} {fs : Array Field} {m : Nat} {cs : List Value} {y : DataW H × List MemPlace} (he : P.underlying e = some (.struct fs)) (h : DataW.trod enc P w base spare held m e cs = some y)
    {i : Nat} {f : Field} (hi : fs[i]? = some f) (hC : P.cellsOf f.type = 1) (ht : P.underlying f.type = some .bool) {v : Value} (hv : (cs.drop f.offset).take 1 = [v]) : ∃ z : Bool, v = .bool z := by
  obtain ⟨z, n, hz⟩ := field_of he h hi hC
  rw [hv] at hz
  obtain ⟨x, hx, _⟩ := DataW.trod_bool ht hz
  exact ⟨x, by simpa using hx⟩

/-- a slice of ints -/
theorem open_sl {t e : TypeId} {fuel : Nat} {v : Value} {x : DataW H × List MemPlace} (ht : P.underlying t = some (.slice e)) (he : P.underlying e = some (.int .i64)) (hC : P.cellsOf e = 1)
    (h : DataW.trod enc P w base spare held fuel t [v] = some x) : ∃ s : SL, v = s.val ∧ IsInts w w.heap.size s := by
  obtain ⟨A, n, c, f, hcs, hn, hc, hl, hf⟩ := open_elems ht hC (by omega) h
  have hex : ∀ i, i < n → ∃ z : Int, f i 0 = .int .i64 z ∧ In64 z := by
    intro i hi
    obtain ⟨y, m, hy⟩ := hf i hi
    obtain ⟨z, hz, _, hw⟩ := DataW.trod_int he hy
    exact ⟨z, by simpa using hz, wf_in64 hw⟩
  obtain ⟨z, hz⟩ := choose_lt hex
  have hv : v = .slice A n c := by simpa using hcs
  have hlen : ((List.range n).map z).length = n := by simp
  refine ⟨⟨A, c, (List.range n).map z⟩, by rw [hv]; simp [SL.val], ?_, by rw [hlen]; exact hn, hc, ?_⟩
  · rw [hlen]
    exact hl.congr fun i hi j hj => by
      obtain rfl : j = 0 := by omega
      rw [(hz i hi).1]; simp [List.getD, hi]
  · intro x hx
    obtain ⟨i, hi, rfl⟩ := List.mem_map.1 hx
    exact (hz i (List.mem_range.1 hi)).2
theorem open_sl_arg {r : Reach} {b0 : Nat} {t e : TypeId} {v : Value} {d : DataW H} {p : List MemPlace} (ht : P.underlying t = some (.slice e)) (he : P.underlying e = some (.int .i64)) (hC : P.cellsOf e = 1)
    (hok : Value.okWide P w r b0 t v) (h : DataW.Trod enc P w base spare held t v d p) : ∃ s : SL, v = s.val ∧ IsInts w w.heap.size s := by
  obtain ⟨a, len, cap, rfl⟩ := okWide_slice ht hok
  obtain ⟨fuel, hf⟩ := h
  exact open_sl ht he hC (by simpa [Value.cells] using hf)

theorem field_sl {e t0 : TypeId} {fs : Array Field} {m : Nat} {cs : List Value} {y : DataW H × List MemPlace} (he : P.underlying e = some (.struct fs)) (h : DataW.trod enc P w base spare held m e cs = some y)
    {i : Nat} {f : Field} (hi : fs[i]? = some f) (hC : P.cellsOf f.type = 1) (ht : P.underlying f.type = some (.slice t0)) (h0 : P.underlying t0 = some (.int .i64)) (hC0 : P.cellsOf t0 = 1) {v : Value} (hv : (cs.drop f.offset).take 1 = [v]) :
    ∃ s : SL, v = s.val ∧ IsInts w w.heap.size s := by
  obtain ⟨z, n, hz⟩ := field_of he h hi hC
  rw [hv] at hz
  exact open_sl ht h0 hC0 hz
end
end Go.Proofs.Ytaodbjgcidkpkaa.M

namespace Go.Proofs.Ytaodbjgcidkpkaa.M
open Go.RowKit

theorem infoI : (Try.prog.info? 3).map (fun i => (i.zero, i.size, i.bytes)) = some (some (.int .i64 0), 1, 8) := by kernel_rfl

/-- the value v is a list of the call's own, from block B on, of the numbers xs -/
def OwnI (w : World) (B : Nat) (v : Value) (xs : List Int) : Prop := w.ownsRow B 3 1 v xs.length (xs.map (Value.int .i64)) ∧ ∀ x ∈ xs, In64 x

section
variable {w w' : World} {B B' : Nat} {v : Value} {xs : List Int}
theorem OwnI.nil (w : World) (B : Nat) : OwnI w B (.slice none 0 0) [] := ⟨World.ownsRow_nil _ _ _ _, fun x hx => absurd hx (by simp)⟩
theorem OwnI.mono (h : OwnI w B v xs) (hB : B' ≤ B) : OwnI w B' v xs := ⟨h.1.mono hB, h.2⟩
theorem OwnI.blk (h : OwnI w B v xs) : ∀ g, v.ownBlock = some g → B ≤ g ∧ g < w.heap.size := h.1.lt
theorem OwnI.below (h : OwnI w B v xs) (hb : Below w.heap.size w w') : OwnI w' B v xs := by
  refine ⟨h.1.kept (row := none) ⟨hb.os, hb.tape, hb.output, hb.size, fun k hk _ => hb.block k hk⟩ ?_, h.2⟩
  cases hv : v.ownBlock with
  | none => exact .inl rfl
  | some g => right; simp
theorem OwnI.drew (h : OwnI w B v xs) : OwnI w.drew B v xs := h
theorem OwnI.drewN (h : OwnI w B v xs) (n : Nat) : OwnI (w.drewN n) B v xs := h
theorem OwnI.alloc (h : OwnI w B v xs) (o : Obj) : OwnI (w.alloc o) B v xs := ⟨h.1.alloc o, h.2⟩
theorem OwnI.far (h : OwnI w B v xs) {a : Addr} (ha : v.ownBlock ≠ some a.block) (u : Value) : OwnI (w.setCell a u) B v xs := ⟨ownsRow_setCell_other h.1 ha u, h.2⟩
theorem OwnI.grown (h : OwnI w B v xs) {row : Option Nat} (hg : w.grownBy w' row) (hne : v.ownBlock = none ∨ v.ownBlock ≠ row) : OwnI w' B v xs := ⟨h.1.kept hg hne, h.2⟩
/-- its form -/
theorem OwnI.form (h : OwnI w B v xs) : ∃ A c, v = .slice A xs.length c := by
  rcases h.1.2 with ⟨hv, hn⟩ | ⟨g, cap, cur, hv, -⟩
  · exact ⟨none, 0, by rw [hv, hn]⟩
  · exact ⟨_, cap, hv⟩
theorem OwnI.ints {A : Option Addr} {n c : Nat} (h : OwnI w B (.slice A n c) xs) : IsInts w w.heap.size ⟨A, c, xs⟩ := by
  rcases h.1.2 with ⟨hv, hn⟩ | ⟨g, cap, cur, hv, hg, hh, hc, hm, hs, ht⟩
  · injection hv with e1 e2 e3
    subst e1; subst e3
    have : xs = [] := List.eq_nil_of_length_eq_zero hn
    subst this
    exact ⟨Lies.zero _ _, Nat.le_refl _, Nat.zero_le _, fun x hx => absurd hx (by simp)⟩
  · injection hv with e1 e2 e3
    subst e1; subst e3
    have hlt : g < w.heap.size := (h.1.lt g rfl).2
    refine ⟨fun hn => ⟨g, 0, rfl, hlt, fun i hi j hj => ?_⟩, hc, hm, h.2⟩
    have hcell := h.1.cells (g := g) rfl i (.int .i64 (xs.getD i 0)) (by
      have hi' : i < xs.length := hi
      rw [List.getElem?_map, List.getElem?_eq_getElem hi', List.getD_eq_getElem?_getD, List.getElem?_eq_getElem hi']; rfl)
    obtain rfl : j = 0 := by omega
    rw [Go.WideShapes.add_plain] at hcell
    simpa using hcell
/-- where it is new: its block stands from B on -/
theorem OwnI.ints_own {A : Option Addr} {n c : Nat} (h : OwnI w B (.slice A n c) xs) {b o : Nat} {s : Option Nat} (hA : A = some ⟨b, o, s⟩) : B ≤ b ∧ o = 0 ∧ s = none := by
  rcases h.1.2 with ⟨hv, hn⟩ | ⟨g, cap, cur, hv, hg, -⟩
  · injection hv with e1; rw [e1] at hA; cases hA
  · injection hv with e1; rw [e1] at hA; injection hA with hA; injection hA with a1 a2 a3; subst a1; subst a2; subst a3; exact ⟨hg, rfl, rfl⟩
end

/-- append of one number -/
theorem app_int {ops : Array Oper} {rest : List Oper} {o : Oper} {a : Act} {Q : Exit → Act → World → Prop} {w : World} (hgd : o.guard = none) (s x : Operand)
    (ho : o.op = .call { callee := .builtin .append, args := #[s, x], argTypes := #[29, 29] }) (B : Nat) {v : Value} {xs : List Int} {u : Int} (hs : a.eval s = v) (hown : OwnI w B v xs) (hu : In64 u)
    (ad : Addr) {c : Nat} (hx : a.eval x = .slice (some ad) 1 c) (hc : w.cell? ad = some (.int .i64 u)) (hlen : xs.length < 1000000000) (hB : B ≤ w.heap.size)
    (h : ∀ v' w', OwnI w' B v' (xs ++ [u]) → w.grownBy w' v.ownBlock → wpList Try.prog ops Q rest (a.put o.dst v') w') : wpList Try.prog ops Q (o :: rest) a w := by
  obtain ⟨i0, hi, hz0, hz1, hz2⟩ := info_parts infoI
  refine wpList_append_own _ hgd s x 29 ho B 3 i0 (.int .i64 0) 1 8 Try.underlying29 hi hz0 hz1 hz2 rfl (by decide) v xs.length _ hs hown.1 ad 1 c [.int .i64 u] hx rfl ?_ ?_ (by unfold maxLen; omega) (by omega) hB ?_
  · intro j u' hj
    match j, hj with
    | 0, hj => simp at hj; subst hj; simpa [Addr.add] using hc
    | j + 1, hj => simp at hj
  · intro u' hu'; have : u' = .int .i64 u := by simpa using hu'
    subst this; rfl
  · intro v' w' h1 h2 _
    refine h v' w' ⟨?_, fun y hy => ?_⟩ h2
    · rw [List.length_append, List.map_append]; exact h1
    · rcases List.mem_append.1 hy with hy | hy
      · exact hown.2 y hy
      · have : y = u := by simpa using hy
        rw [this]; exact hu

/-- behind an append -/
theorem grown_below {B : Nat} {w wr w2 : World} {v : Value} {xs : List Int} {o : Obj} (h : Below B w wr) (hown : OwnI wr B v xs) (hg : (wr.alloc o).grownBy w2 v.ownBlock) (hB : B ≤ wr.heap.size) : Below B w w2 :=
  (h.alloc hB o).grown hg (by simp; omega) (fun g hv => (hown.blk g hv).1)

/-- append of one number, the walk's own form -/
theorem app_new {ops : Array Oper} {rest : List Oper} {o : Oper} {a : Act} {Q : Exit → Act → World → Prop} {w : World} (hgd : o.guard = none) (s x : Operand)
    (ho : o.op = .call { callee := .builtin .append, args := #[s, x], argTypes := #[29, 29] }) (B : Nat) {v : Value} {xs : List Int} {u : Int} (hown : OwnI w B v xs) (hs : a.eval s = v) (hu : In64 u)
    (hx : a.eval x = .slice (some ⟨w.heap.size, 0, none⟩) 1 1) (hlen : xs.length < 1000000000) (hB : B ≤ w.heap.size)
    (h : ∀ v' w2, OwnI w2 B v' (xs ++ [u]) → Below B w w2 → wpList Try.prog ops Q rest (a.put o.dst v') w2) : wpList Try.prog ops Q (o :: rest) a (w.alloc (.cells #[.int .i64 u] 3)) :=
  app_int hgd s x ho B hs (hown.alloc _) hu ⟨w.heap.size, 0, none⟩ hx (by rw [(Blk.new w _ _).cell]; rfl) hlen (by simp; omega) fun v' w2 h1 h2 => h v' w2 h1 (grown_below (Below.refl _ _) hown h2 hB)

/-- append of one number, the new cell's block by its number -/
theorem app_newN {ops : Array Oper} {rest : List Oper} {o : Oper} {a : Act} {Q : Exit → Act → World → Prop} {w : World} (hgd : o.guard = none) (s x : Operand)
    (ho : o.op = .call { callee := .builtin .append, args := #[s, x], argTypes := #[29, 29] }) (B : Nat) {v : Value} {xs : List Int} {u : Int} (hown : OwnI w B v xs) (hs : a.eval s = v) (hu : In64 u)
    (n : Nat) (hn : w.heap.size = n) (hx : a.eval x = .slice (some ⟨n, 0, none⟩) 1 1) (hlen : xs.length < 1000000000) (hB : B ≤ w.heap.size)
    (h : ∀ v' w2, OwnI w2 B v' (xs ++ [u]) → Below B w w2 → wpList Try.prog ops Q rest (a.put o.dst v') w2) : wpList Try.prog ops Q (o :: rest) a (w.alloc (.cells #[.int .i64 u] 3)) :=
  app_int hgd s x ho B hs (hown.alloc _) hu ⟨n, 0, none⟩ hx (by subst hn; rw [(Blk.new w _ _).cell]; rfl) hlen (by simp; omega) fun v' w2 h1 h2 => h v' w2 h1 (grown_below (Below.refl _ _) hown h2 hB)

/-- append of a list that a call made itself -/
theorem app_list {ops : Array Oper} {rest : List Oper} {o : Oper} {a : Act} {Q : Exit → Act → World → Prop} {w : World} (hgd : o.guard = none) (s x : Operand)
    (ho : o.op = .call { callee := .builtin .append, args := #[s, x], argTypes := #[29, 29] }) (B : Nat) {v : Value} {xs : List Int} (hown : OwnI w B v xs) (hs : a.eval s = v)
    {B2 : Nat} {A : Option Addr} {n c : Nat} {ys : List Int} (hr : OwnI w B2 (.slice A n c) ys) (hx : a.eval x = .slice A n c) (hlen : xs.length + ys.length < 1000000000) (hB : B ≤ w.heap.size)
    (h : ∀ v' w2, OwnI w2 B v' (xs ++ ys) → Below B w w2 → wpList Try.prog ops Q rest (a.put o.dst v') w2) : wpList Try.prog ops Q (o :: rest) a w := by
  obtain ⟨i0, hi, hz0, hz1, hz2⟩ := info_parts infoI
  have hI := hr.ints
  rcases hr.1.2 with ⟨hv, hn⟩ | ⟨g, cap, cur, hv, hg, hh, hc, hm, hsz, ht⟩
  · have : ys = [] := List.eq_nil_of_length_eq_zero hn
    subst this
    refine wpList_append_own_none hgd s x 29 ho B 3 i0 1 Try.underlying29 hi v xs.length _ hs hown.1 (hx.trans hv) (h v w ?_ (Below.refl _ _))
    rw [List.append_nil]; exact hown
  · injection hv with e1 e2 e3
    subst e1; subst e2; subst e3
    refine wpList_append_own _ hgd s x 29 ho B 3 i0 (.int .i64 0) 1 8 Try.underlying29 hi hz0 hz1 hz2 rfl (by decide) v xs.length _ hs hown.1 ⟨g, 0, none⟩ ys.length _ (ys.map (Value.int .i64)) hx (by simp) ?_ ?_ (by unfold maxLen; omega) (by omega) hB ?_
    · intro j u hj; exact hr.1.cells (g := g) rfl j u hj
    · intro u hu
      obtain ⟨y, -, rfl⟩ := List.mem_map.1 hu
      rfl
    · intro v' w' h1 h2 _
      refine h v' w' ⟨?_, fun y hy => ?_⟩ ((Below.refl _ _).grown h2 hB (fun k hk => (hown.blk k hk).1))
      · rw [List.length_append, List.map_append]; exact h1
      · rcases List.mem_append.1 hy with hy | hy
        · exact hown.2 y hy
        · exact hr.2 y hy

/-- a call returns a list of its own -/
def RetInts (w : World) (xs : List Int) (e : Ending) (w' : World) : Prop := ∃ A c, e = .returned (.slice A xs.length c) ∧ OwnI w' w.heap.size (.slice A xs.length c) xs ∧ Below w.heap.size w w'
theorem ret_ints {w w' : World} {v : Value} {xs : List Int} (h : OwnI w' w.heap.size v xs) (hb : Below w.heap.size w w') : RetInts w xs (.returned v) w' := by
  obtain ⟨A, c, rfl⟩ := h.form
  exact ⟨A, c, rfl, h, hb⟩
end Go.Proofs.Ytaodbjgcidkpkaa.M

namespace Go.Proofs.Ytaodbjgcidkpkaa.M
open Go.RowKit

def cellP (x : Int × Int) : Nat → Value
  | 0 => .int .i64 x.1
  | _ => .int .i64 x.2
def In2 (x : Int × Int) : Prop := In64 x.1 ∧ In64 x.2
def IsPairs (w : World) (B : Nat) (A : Option Addr) (c : Nat) (xs : List (Int × Int)) : Prop :=
  Lies w B 2 A xs.length (fun i j => cellP (xs.getD i (0, 0)) j) ∧ xs.length ≤ c ∧ c ≤ maxLen ∧ ∀ x ∈ xs, In2 x
section
variable {w w' : World} {B B' : Nat} {A : Option Addr} {c : Nat} {xs : List (Int × Int)}
theorem IsPairs.below (h : IsPairs w B A c xs) (hb : Below B w w') : IsPairs w' B A c xs := ⟨h.1.below hb, h.2⟩
theorem IsPairs.more (h : IsPairs w B A c xs) (hB : B ≤ B') : IsPairs w B' A c xs := ⟨h.1.more hB, h.2⟩
theorem pairs_mem {k : Nat} (hk : k < xs.length) : xs.getD k (0, 0) ∈ xs := by
  rw [List.getD_eq_getElem?_getD, List.getElem?_eq_getElem hk]; exact List.getElem_mem hk
theorem pairs_at (h : IsPairs w B A c xs) {k : Nat} (hk : k < xs.length) : ∃ b o, ∃ x : Int × Int, A = some ⟨b, o, none⟩ ∧ b < B ∧ Hid (xs.getD k (0, 0) = x) ∧ In2 x ∧
    w.cell? ⟨b, o + k * 2, none⟩ = some (.int .i64 x.1) ∧ w.cell? ⟨b, o + k * 2 + 1, none⟩ = some (.int .i64 x.2) := by
  obtain ⟨b, o, e, hb, hc⟩ := h.1.at_ hk
  exact ⟨b, o, _, e, hb, Lib.hid rfl, h.2.2.2 _ (pairs_mem hk), by simpa [cellP] using hc 0 (by omega), by simpa [cellP] using hc 1 (by omega)⟩
theorem pairs_get {b o : Nat} (h : IsPairs w B (some ⟨b, o, none⟩) c xs) {k : Nat} (hk : k < xs.length) : ∃ x : Int × Int, Hid (xs.getD k (0, 0) = x) ∧ In2 x ∧
    w.cell? ⟨b, o + k * 2, none⟩ = some (.int .i64 x.1) ∧ w.cell? ⟨b, o + k * 2 + 1, none⟩ = some (.int .i64 x.2) := by
  obtain ⟨b', o', x, e, hb, hx, h2, c0, c1⟩ := pairs_at h hk
  simp only [Option.some.injEq, Addr.mk.injEq, and_true] at e
  obtain ⟨rfl, rfl⟩ := e
  exact ⟨x, hx, h2, c0, c1⟩
theorem IsPairs.len (h : IsPairs w B A c xs) : xs.length ≤ 9223372036854775807 := by have := h.2.1; have := h.2.2.1; unfold maxLen at this; omega
end

def pairCells (xs : List (Int × Int)) : List Value := xs.flatMap fun x => [.int .i64 x.1, .int .i64 x.2]
theorem pairCells_snoc (xs : List (Int × Int)) (u : Int × Int) : pairCells (xs ++ [u]) = pairCells xs ++ [.int .i64 u.1, .int .i64 u.2] := by simp [pairCells]
theorem pairCells_len (xs : List (Int × Int)) : (pairCells xs).length = xs.length * 2 := by
  induction xs with
  | nil => rfl
  | cons x xs ih => simp [pairCells] at *; omega
theorem pairCells_get {xs : List (Int × Int)} {i j : Nat} (hi : i < xs.length) (hj : j < 2) : (pairCells xs)[i * 2 + j]? = some (cellP (xs.getD i (0, 0)) j) := by
  induction xs generalizing i with
  | nil => simp at hi
  | cons x xs ih =>
    cases i with
    | zero => rcases (show j = 0 ∨ j = 1 by omega) with rfl | rfl <;> rfl
    | succ i =>
      have e : (i + 1) * 2 + j = (i * 2 + j) + 1 + 1 := by omega
      rw [e]
      have := ih (i := i) (by simpa using hi)
      simpa [pairCells] using this

/-- the value v is a list of the call's own, from block B on, of the pairs xs, of element type T -/
def OwnP (T : TypeId) (w : World) (B : Nat) (v : Value) (xs : List (Int × Int)) : Prop := w.ownsRow B T 2 v xs.length (pairCells xs) ∧ ∀ x ∈ xs, In2 x
section
variable {T : TypeId} {w w' : World} {B B' : Nat} {v : Value} {xs : List (Int × Int)}
theorem OwnP.nil (T : TypeId) (w : World) (B : Nat) : OwnP T w B (.slice none 0 0) [] := ⟨World.ownsRow_nil _ _ _ _, fun x hx => absurd hx (by simp)⟩
theorem OwnP.mono (h : OwnP T w B v xs) (hB : B' ≤ B) : OwnP T w B' v xs := ⟨h.1.mono hB, h.2⟩
theorem OwnP.blk (h : OwnP T w B v xs) : ∀ g, v.ownBlock = some g → B ≤ g ∧ g < w.heap.size := h.1.lt
theorem OwnP.below (h : OwnP T w B v xs) (hb : Below w.heap.size w w') : OwnP T w' B v xs := by
  refine ⟨h.1.kept (row := none) ⟨hb.os, hb.tape, hb.output, hb.size, fun k hk _ => hb.block k hk⟩ ?_, h.2⟩
  cases hv : v.ownBlock with
  | none => exact .inl rfl
  | some g => right; simp
theorem OwnP.drew (h : OwnP T w B v xs) : OwnP T w.drew B v xs := h
theorem OwnP.drewN (h : OwnP T w B v xs) (n : Nat) : OwnP T (w.drewN n) B v xs := h
theorem OwnP.alloc (h : OwnP T w B v xs) (o : Obj) : OwnP T (w.alloc o) B v xs := ⟨h.1.alloc o, h.2⟩
theorem OwnP.grown (h : OwnP T w B v xs) {row : Option Nat} (hg : w.grownBy w' row) (hne : v.ownBlock = none ∨ v.ownBlock ≠ row) : OwnP T w' B v xs := ⟨h.1.kept hg hne, h.2⟩
theorem OwnP.form (h : OwnP T w B v xs) : ∃ A c, v = .slice A xs.length c := by
  rcases h.1.2 with ⟨hv, hn⟩ | ⟨g, cap, cur, hv, -⟩
  · exact ⟨none, 0, by rw [hv, hn]⟩
  · exact ⟨_, cap, hv⟩
theorem OwnP.pairs {A : Option Addr} {n c : Nat} (h : OwnP T w B (.slice A n c) xs) : IsPairs w w.heap.size A c xs := by
  rcases h.1.2 with ⟨hv, hn⟩ | ⟨g, cap, cur, hv, hg, hh, hc, hm, hs, ht⟩
  · injection hv with e1 e2 e3
    subst e1; subst e3
    have : xs = [] := List.eq_nil_of_length_eq_zero hn
    subst this
    exact ⟨Lies.zero _ _, Nat.le_refl _, Nat.zero_le _, fun x hx => absurd hx (by simp)⟩
  · injection hv with e1 e2 e3
    subst e1; subst e3
    have hlt : g < w.heap.size := (h.1.lt g rfl).2
    refine ⟨fun hn => ⟨g, 0, rfl, hlt, fun i hi j hj => ?_⟩, hc, hm, h.2⟩
    have hcell := h.1.cells (g := g) rfl (i * 2 + j) _ (pairCells_get hi hj)
    rw [Go.WideShapes.add_plain] at hcell
    simpa [Nat.add_assoc] using hcell
theorem OwnP.own {A : Option Addr} {n c : Nat} (h : OwnP T w B (.slice A n c) xs) {b o : Nat} {s : Option Nat} (hA : A = some ⟨b, o, s⟩) : B ≤ b ∧ o = 0 ∧ s = none := by
  rcases h.1.2 with ⟨hv, hn⟩ | ⟨g, cap, cur, hv, hg, -⟩
  · injection hv with e1; rw [e1] at hA; cases hA
  · injection hv with e1; rw [e1] at hA; injection hA with hA; injection hA with a1 a2 a3; subst a1; subst a2; subst a3; exact ⟨hg, rfl, rfl⟩
end

/-- the tables say: T is a struct of two ints, ST a slice of them -/
def IsPT (T ST : TypeId) : Prop := Try.prog.underlying ST = some (.slice T) ∧ (Try.prog.info? T).map (fun i => (i.zero, i.size, i.bytes)) = some (some (.agg #[.int .i64 0, .int .i64 0]), 2, 16)

section
variable {T ST : TypeId} {o : Oper} {a : Act} {w : World} {B : Nat} {v : Value} {xs : List (Int × Int)} {u : Int × Int}
theorem news_pair {ad : Addr} (h0 : w.cell? ad = some (.int .i64 u.1)) (h1 : w.cell? (ad.add 1) = some (.int .i64 u.2)) : ∀ j x, [Value.int .i64 u.1, .int .i64 u.2][j]? = some x → w.cell? (ad.add j) = some x := by
  intro j x hj
  match j, hj with
  | 0, hj => simp at hj; subst hj; simpa [Addr.add] using h0
  | 1, hj => simp at hj; subst hj; exact h1
  | j + 2, hj => simp at hj
theorem news_one : ∀ x ∈ [Value.int .i64 u.1, .int .i64 u.2], x.oneCell' = true := by
  intro x hx
  simp at hx
  rcases hx with rfl | rfl <;> rfl
theorem own_pair {A : Value} {n : Nat} (hn : n = xs.length) (h1 : w.ownsRow B T 2 A (n + 1) (pairCells xs ++ [.int .i64 u.1, .int .i64 u.2])) (h2 : ∀ x ∈ xs, In2 x) (hu : In2 u) : OwnP T w B A (xs ++ [u]) := by
  subst hn
  refine ⟨?_, fun y hy => ?_⟩
  · rw [List.length_append, pairCells_snoc]; exact h1
  · rcases List.mem_append.1 hy with hy | hy
    · exact h2 y hy
    · have : y = u := by simpa using hy
      rw [this]; exact hu
/-- append of one pair -/
theorem app_pair (hT : IsPT T ST) {ops : Array Oper} {rest : List Oper} {Q : Exit → Act → World → Prop} (hgd : o.guard = none) (s x : Operand)
    (ho : o.op = .call { callee := .builtin .append, args := #[s, x], argTypes := #[ST, ST] }) (B : Nat) (hown : OwnP T w B v xs) (hs : a.eval s = v) (hu : In2 u)
    (hx : a.eval x = .slice (some ⟨w.heap.size, 0, none⟩) 1 1) (hlen : xs.length < 1000000000) (hB : B ≤ w.heap.size)
    (h : ∀ v' w2, OwnP T w2 B v' (xs ++ [u]) → Below B w w2 → wpList Try.prog ops Q rest (a.put o.dst v') w2) : wpList Try.prog ops Q (o :: rest) a (w.alloc (.cells #[.int .i64 u.1, .int .i64 u.2] T)) := by
  obtain ⟨i0, hi, hz0, hz1, hz2⟩ := info_parts hT.2
  have hb := Blk.new w T #[.int .i64 u.1, .int .i64 u.2]
  refine wpList_append_own _ hgd s x ST ho B T i0 _ 2 16 hT.1 hi hz0 hz1 hz2 rfl (by decide) v xs.length _ hs (hown.1.alloc _) ⟨w.heap.size, 0, none⟩ 1 1 [.int .i64 u.1, .int .i64 u.2] hx rfl (news_pair (hb.cell 0) (hb.cell 1)) news_one (by unfold maxLen; omega) (by omega) (by simp; omega) ?_
  intro v' w' h1 h2 _
  exact h v' w' (own_pair rfl h1 hown.2 hu) (((Below.refl _ _).alloc hB _).grown h2 (by simp; omega) (fun g hg => (hown.blk g hg).1))
/-- the same, the new block's number by an equation -/
theorem app_pairN (hT : IsPT T ST) {ops : Array Oper} {rest : List Oper} {Q : Exit → Act → World → Prop} (hgd : o.guard = none) (s x : Operand)
    (ho : o.op = .call { callee := .builtin .append, args := #[s, x], argTypes := #[ST, ST] }) (B : Nat) (hown : OwnP T w B v xs) (hs : a.eval s = v) (hu : In2 u)
    (n : Nat) (hn : w.heap.size = n) (hx : a.eval x = .slice (some ⟨n, 0, none⟩) 1 1) (hlen : xs.length < 1000000000) (hB : B ≤ w.heap.size)
    (h : ∀ v' w2, OwnP T w2 B v' (xs ++ [u]) → Below B w w2 → wpList Try.prog ops Q rest (a.put o.dst v') w2) : wpList Try.prog ops Q (o :: rest) a (w.alloc (.cells #[.int .i64 u.1, .int .i64 u.2] T)) := by
  subst hn; exact app_pair hT hgd s x ho B hown hs hu hx hlen hB h
/-- append of one pair, in a region that draws its order; the new cells at an address -/
theorem wp_pair (hT : IsPT T ST) {K : Act → World → Prop} {Q : Exit → Act → World → Prop} (s x : Operand)
    (ho : o.op = .call { callee := .builtin .append, args := #[s, x], argTypes := #[ST, ST] }) (B : Nat) (hs : a.eval s = v) (hown : OwnP T w B v xs) (hu : In2 u)
    (ad : Addr) {c : Nat} (hx : a.eval x = .slice (some ad) 1 c) (h0 : w.cell? ad = some (.int .i64 u.1)) (h1 : w.cell? (ad.add 1) = some (.int .i64 u.2)) (hlen : xs.length < 1000000000) (hB : B ≤ w.heap.size)
    (h : ∀ A c w', OwnP T w' B (.slice A (xs.length + 1) c) (xs ++ [u]) → w.grownBy w' v.ownBlock → K (a.put o.dst (.slice A (xs.length + 1) c)) w') :
    Oper.wp Try.prog o a w K Q := by
  obtain ⟨i0, hi, hz0, hz1, hz2⟩ := info_parts hT.2
  refine wp_append_lies w s x ST ho B T i0 _ 2 16 hT.1 hi hz0 hz1 hz2 rfl (by decide) v xs.length _ hs hown.1 ad 1 c [.int .i64 u.1, .int .i64 u.2] hx rfl (news_pair h0 h1) news_one (by decide) (by unfold maxLen; omega) (by omega) hB _ rfl ?_
  intro g cap w' h1 h2 _ _
  exact h _ cap w' (own_pair rfl h1 hown.2 hu) h2
end

/-- a call returns a list of its own -/
def RetPairs (T : TypeId) (w : World) (xs : List (Int × Int)) (e : Ending) (w' : World) : Prop := ∃ A c, e = .returned (.slice A xs.length c) ∧ OwnP T w' w.heap.size (.slice A xs.length c) xs ∧ Below w.heap.size w w'
theorem ret_pairs {T : TypeId} {w w' : World} {v : Value} {xs : List (Int × Int)} (h : OwnP T w' w.heap.size v xs) (hb : Below w.heap.size w w') : RetPairs T w xs (.returned v) w' := by
  obtain ⟨A, c, rfl⟩ := h.form
  exact ⟨A, c, rfl, h, hb⟩
/-- a list's head of pairs, one more -/
theorem pairs_take {xs : List (Int × Int)} {k : Nat} {x : Int × Int} (hk : k < xs.length) (hx : xs.getD k (0, 0) = x) : xs.take (k + 1) = xs.take k ++ [x] := by
  rw [List.take_add_one, List.getElem?_eq_getElem hk]
  have : xs[k] = x := by rw [← hx, List.getD_eq_getElem?_getD, List.getElem?_eq_getElem hk]; rfl
  rw [this]; rfl
end Go.Proofs.Ytaodbjgcidkpkaa.M

namespace Go.Proofs.Ytaodbjgcidkpkaa.M
open Go.RowKit

abbrev Q4 := Int × Int × Int × Int
def z4 : Q4 := (0, 0, 0, 0)
def cellQ (x : Q4) : Nat → Value
  | 0 => .int .i64 x.1
  | 1 => .int .i64 x.2.1
  | 2 => .int .i64 x.2.2.1
  | _ => .int .i64 x.2.2.2
def In4 (x : Q4) : Prop := In64 x.1 ∧ In64 x.2.1 ∧ In64 x.2.2.1 ∧ In64 x.2.2.2
def IsQuads (w : World) (B : Nat) (A : Option Addr) (c : Nat) (xs : List (Q4)) : Prop :=
  Lies w B 4 A xs.length (fun i j => cellQ (xs.getD i z4) j) ∧ xs.length ≤ c ∧ c ≤ maxLen ∧ ∀ x ∈ xs, In4 x
section
variable {w w' : World} {B B' : Nat} {A : Option Addr} {c : Nat} {xs : List (Q4)}
theorem IsQuads.below (h : IsQuads w B A c xs) (hb : Below B w w') : IsQuads w' B A c xs := ⟨h.1.below hb, h.2⟩
theorem IsQuads.more (h : IsQuads w B A c xs) (hB : B ≤ B') : IsQuads w B' A c xs := ⟨h.1.more hB, h.2⟩
theorem quads_mem {k : Nat} (hk : k < xs.length) : xs.getD k z4 ∈ xs := by
  rw [List.getD_eq_getElem?_getD, List.getElem?_eq_getElem hk]; exact List.getElem_mem hk
theorem quads_at (h : IsQuads w B A c xs) {k : Nat} (hk : k < xs.length) : ∃ b o, ∃ x : Q4, A = some ⟨b, o, none⟩ ∧ b < B ∧ Hid (xs.getD k z4 = x) ∧ In4 x ∧
    w.cell? ⟨b, o + k * 4, none⟩ = some (.int .i64 x.1) ∧ w.cell? ⟨b, o + k * 4 + 1, none⟩ = some (.int .i64 x.2.1) ∧ w.cell? ⟨b, o + k * 4 + 2, none⟩ = some (.int .i64 x.2.2.1) ∧ w.cell? ⟨b, o + k * 4 + 3, none⟩ = some (.int .i64 x.2.2.2) := by
  obtain ⟨b, o, e, hb, hc⟩ := h.1.at_ hk
  exact ⟨b, o, _, e, hb, Lib.hid rfl, h.2.2.2 _ (quads_mem hk), by simpa [cellQ] using hc 0 (by omega), by simpa [cellQ] using hc 1 (by omega), by simpa [cellQ] using hc 2 (by omega), by simpa [cellQ] using hc 3 (by omega)⟩
theorem quads_get {b o : Nat} (h : IsQuads w B (some ⟨b, o, none⟩) c xs) {k : Nat} (hk : k < xs.length) : ∃ x : Q4, Hid (xs.getD k z4 = x) ∧ In4 x ∧
    w.cell? ⟨b, o + k * 4, none⟩ = some (.int .i64 x.1) ∧ w.cell? ⟨b, o + k * 4 + 1, none⟩ = some (.int .i64 x.2.1) ∧ w.cell? ⟨b, o + k * 4 + 2, none⟩ = some (.int .i64 x.2.2.1) ∧ w.cell? ⟨b, o + k * 4 + 3, none⟩ = some (.int .i64 x.2.2.2) := by
  obtain ⟨b', o', x, e, hb, hx, h2, c0, c1, c2, c3⟩ := quads_at h hk
  simp only [Option.some.injEq, Addr.mk.injEq, and_true] at e
  obtain ⟨rfl, rfl⟩ := e
  exact ⟨x, hx, h2, c0, c1, c2, c3⟩
theorem IsQuads.len (h : IsQuads w B A c xs) : xs.length ≤ 9223372036854775807 := by have := h.2.1; have := h.2.2.1; unfold maxLen at this; omega
end

def quadCells (xs : List (Q4)) : List Value := xs.flatMap fun x => [.int .i64 x.1, .int .i64 x.2.1, .int .i64 x.2.2.1, .int .i64 x.2.2.2]
theorem quadCells_snoc (xs : List (Q4)) (u : Q4) : quadCells (xs ++ [u]) = quadCells xs ++ [.int .i64 u.1, .int .i64 u.2.1, .int .i64 u.2.2.1, .int .i64 u.2.2.2] := by simp [quadCells]
theorem quadCells_len (xs : List (Q4)) : (quadCells xs).length = xs.length * 4 := by
  induction xs with
  | nil => rfl
  | cons x xs ih => simp [quadCells] at *; omega
theorem quadCells_get {xs : List (Q4)} {i j : Nat} (hi : i < xs.length) (hj : j < 4) : (quadCells xs)[i * 4 + j]? = some (cellQ (xs.getD i z4) j) := by
  induction xs generalizing i with
  | nil => simp at hi
  | cons x xs ih =>
    cases i with
    | zero => rcases (show j = 0 ∨ j = 1 ∨ j = 2 ∨ j = 3 by omega) with rfl | rfl | rfl | rfl <;> rfl
    | succ i =>
      have e : (i + 1) * 4 + j = (i * 4 + j) + 1 + 1 + 1 + 1 := by omega
      rw [e]
      have := ih (i := i) (by simpa using hi)
      simpa [quadCells] using this

/-- the value v is a list of the call's own, from block B on, of the pairs xs, of element type T -/
def OwnQ (T : TypeId) (w : World) (B : Nat) (v : Value) (xs : List (Q4)) : Prop := w.ownsRow B T 4 v xs.length (quadCells xs) ∧ ∀ x ∈ xs, In4 x
section
variable {T : TypeId} {w w' : World} {B B' : Nat} {v : Value} {xs : List (Q4)}
theorem OwnQ.nil (T : TypeId) (w : World) (B : Nat) : OwnQ T w B (.slice none 0 0) [] := ⟨World.ownsRow_nil _ _ _ _, fun x hx => absurd hx (by simp)⟩
theorem OwnQ.mono (h : OwnQ T w B v xs) (hB : B' ≤ B) : OwnQ T w B' v xs := ⟨h.1.mono hB, h.2⟩
theorem OwnQ.blk (h : OwnQ T w B v xs) : ∀ g, v.ownBlock = some g → B ≤ g ∧ g < w.heap.size := h.1.lt
theorem OwnQ.below (h : OwnQ T w B v xs) (hb : Below w.heap.size w w') : OwnQ T w' B v xs := by
  refine ⟨h.1.kept (row := none) ⟨hb.os, hb.tape, hb.output, hb.size, fun k hk _ => hb.block k hk⟩ ?_, h.2⟩
  cases hv : v.ownBlock with
  | none => exact .inl rfl
  | some g => right; simp
theorem OwnQ.drew (h : OwnQ T w B v xs) : OwnQ T w.drew B v xs := h
theorem OwnQ.drewN (h : OwnQ T w B v xs) (n : Nat) : OwnQ T (w.drewN n) B v xs := h
theorem OwnQ.alloc (h : OwnQ T w B v xs) (o : Obj) : OwnQ T (w.alloc o) B v xs := ⟨h.1.alloc o, h.2⟩
theorem OwnQ.grown (h : OwnQ T w B v xs) {row : Option Nat} (hg : w.grownBy w' row) (hne : v.ownBlock = none ∨ v.ownBlock ≠ row) : OwnQ T w' B v xs := ⟨h.1.kept hg hne, h.2⟩
theorem OwnQ.form (h : OwnQ T w B v xs) : ∃ A c, v = .slice A xs.length c := by
  rcases h.1.2 with ⟨hv, hn⟩ | ⟨g, cap, cur, hv, -⟩
  · exact ⟨none, 0, by rw [hv, hn]⟩
  · exact ⟨_, cap, hv⟩
theorem OwnQ.quads {A : Option Addr} {n c : Nat} (h : OwnQ T w B (.slice A n c) xs) : IsQuads w w.heap.size A c xs := by
  rcases h.1.2 with ⟨hv, hn⟩ | ⟨g, cap, cur, hv, hg, hh, hc, hm, hs, ht⟩
  · injection hv with e1 e2 e3
    subst e1; subst e3
    have : xs = [] := List.eq_nil_of_length_eq_zero hn
    subst this
    exact ⟨Lies.zero _ _, Nat.le_refl _, Nat.zero_le _, fun x hx => absurd hx (by simp)⟩
  · injection hv with e1 e2 e3
    subst e1; subst e3
    have hlt : g < w.heap.size := (h.1.lt g rfl).2
    refine ⟨fun hn => ⟨g, 0, rfl, hlt, fun i hi j hj => ?_⟩, hc, hm, h.2⟩
    have hcell := h.1.cells (g := g) rfl (i * 4 + j) _ (quadCells_get hi hj)
    rw [Go.WideShapes.add_plain] at hcell
    simpa [Nat.add_assoc] using hcell
theorem OwnQ.own {A : Option Addr} {n c : Nat} (h : OwnQ T w B (.slice A n c) xs) {b o : Nat} {s : Option Nat} (hA : A = some ⟨b, o, s⟩) : B ≤ b ∧ o = 0 ∧ s = none := by
  rcases h.1.2 with ⟨hv, hn⟩ | ⟨g, cap, cur, hv, hg, -⟩
  · injection hv with e1; rw [e1] at hA; cases hA
  · injection hv with e1; rw [e1] at hA; injection hA with hA; injection hA with a1 a2 a3; subst a1; subst a2; subst a3; exact ⟨hg, rfl, rfl⟩
end

/-- the tables say: T is a struct of four ints, ST a slice of them -/
def IsQT (T ST : TypeId) : Prop := Try.prog.underlying ST = some (.slice T) ∧ (Try.prog.info? T).map (fun i => (i.zero, i.size, i.bytes)) = some (some (.agg #[.int .i64 0, .int .i64 0, .int .i64 0, .int .i64 0]), 4, 32)

section
variable {T ST : TypeId} {o : Oper} {a : Act} {w : World} {B : Nat} {v : Value} {xs : List (Q4)} {u : Q4}
theorem news_quad {ad : Addr} (h0 : w.cell? ad = some (.int .i64 u.1)) (h1 : w.cell? (ad.add 1) = some (.int .i64 u.2.1)) (h2 : w.cell? (ad.add 2) = some (.int .i64 u.2.2.1)) (h3 : w.cell? (ad.add 3) = some (.int .i64 u.2.2.2)) : ∀ j x, [Value.int .i64 u.1, .int .i64 u.2.1, .int .i64 u.2.2.1, .int .i64 u.2.2.2][j]? = some x → w.cell? (ad.add j) = some x := by
  intro j x hj
  match j, hj with
  | 0, hj => simp at hj; subst hj; simpa [Addr.add] using h0
  | 1, hj => simp at hj; subst hj; exact h1
  | 2, hj => simp at hj; subst hj; exact h2
  | 3, hj => simp at hj; subst hj; exact h3
  | j + 4, hj => simp at hj
theorem news_one4 : ∀ x ∈ [Value.int .i64 u.1, .int .i64 u.2.1, .int .i64 u.2.2.1, .int .i64 u.2.2.2], x.oneCell' = true := by
  intro x hx
  simp at hx
  rcases hx with rfl | rfl | rfl | rfl <;> rfl
theorem own_quad {A : Value} {n : Nat} (hn : n = xs.length) (h1 : w.ownsRow B T 4 A (n + 1) (quadCells xs ++ [.int .i64 u.1, .int .i64 u.2.1, .int .i64 u.2.2.1, .int .i64 u.2.2.2])) (h2 : ∀ x ∈ xs, In4 x) (hu : In4 u) : OwnQ T w B A (xs ++ [u]) := by
  subst hn
  refine ⟨?_, fun y hy => ?_⟩
  · rw [List.length_append, quadCells_snoc]; exact h1
  · rcases List.mem_append.1 hy with hy | hy
    · exact h2 y hy
    · have : y = u := by simpa using hy
      rw [this]; exact hu
/-- append of one pair -/
theorem app_quad (hT : IsQT T ST) {ops : Array Oper} {rest : List Oper} {Q : Exit → Act → World → Prop} (hgd : o.guard = none) (s x : Operand)
    (ho : o.op = .call { callee := .builtin .append, args := #[s, x], argTypes := #[ST, ST] }) (B : Nat) (hown : OwnQ T w B v xs) (hs : a.eval s = v) (hu : In4 u)
    (hx : a.eval x = .slice (some ⟨w.heap.size, 0, none⟩) 1 1) (hlen : xs.length < 1000000000) (hB : B ≤ w.heap.size)
    (h : ∀ v' w2, OwnQ T w2 B v' (xs ++ [u]) → Below B w w2 → wpList Try.prog ops Q rest (a.put o.dst v') w2) : wpList Try.prog ops Q (o :: rest) a (w.alloc (.cells #[.int .i64 u.1, .int .i64 u.2.1, .int .i64 u.2.2.1, .int .i64 u.2.2.2] T)) := by
  obtain ⟨i0, hi, hz0, hz1, hz2⟩ := info_parts hT.2
  have hb := Blk.new w T #[.int .i64 u.1, .int .i64 u.2.1, .int .i64 u.2.2.1, .int .i64 u.2.2.2]
  refine wpList_append_own _ hgd s x ST ho B T i0 _ 4 32 hT.1 hi hz0 hz1 hz2 rfl (by decide) v xs.length _ hs (hown.1.alloc _) ⟨w.heap.size, 0, none⟩ 1 1 [.int .i64 u.1, .int .i64 u.2.1, .int .i64 u.2.2.1, .int .i64 u.2.2.2] hx rfl (news_quad (hb.cell 0) (hb.cell 1) (hb.cell 2) (hb.cell 3)) news_one4 (by unfold maxLen; omega) (by omega) (by simp; omega) ?_
  intro v' w' h1 h2 _
  exact h v' w' (own_quad rfl h1 hown.2 hu) (((Below.refl _ _).alloc hB _).grown h2 (by simp; omega) (fun g hg => (hown.blk g hg).1))
/-- the same, the new block's number by an equation -/
theorem app_quadN (hT : IsQT T ST) {ops : Array Oper} {rest : List Oper} {Q : Exit → Act → World → Prop} (hgd : o.guard = none) (s x : Operand)
    (ho : o.op = .call { callee := .builtin .append, args := #[s, x], argTypes := #[ST, ST] }) (B : Nat) (hown : OwnQ T w B v xs) (hs : a.eval s = v) (hu : In4 u)
    (n : Nat) (hn : w.heap.size = n) (hx : a.eval x = .slice (some ⟨n, 0, none⟩) 1 1) (hlen : xs.length < 1000000000) (hB : B ≤ w.heap.size)
    (h : ∀ v' w2, OwnQ T w2 B v' (xs ++ [u]) → Below B w w2 → wpList Try.prog ops Q rest (a.put o.dst v') w2) : wpList Try.prog ops Q (o :: rest) a (w.alloc (.cells #[.int .i64 u.1, .int .i64 u.2.1, .int .i64 u.2.2.1, .int .i64 u.2.2.2] T)) := by
  subst hn; exact app_quad hT hgd s x ho B hown hs hu hx hlen hB h
/-- append of one pair, in a region that draws its order; the new cells at an address -/
theorem wp_quad (hT : IsQT T ST) {K : Act → World → Prop} {Q : Exit → Act → World → Prop} (s x : Operand)
    (ho : o.op = .call { callee := .builtin .append, args := #[s, x], argTypes := #[ST, ST] }) (B : Nat) (hs : a.eval s = v) (hown : OwnQ T w B v xs) (hu : In4 u)
    (ad : Addr) {c : Nat} (hx : a.eval x = .slice (some ad) 1 c) (h0 : w.cell? ad = some (.int .i64 u.1)) (h1 : w.cell? (ad.add 1) = some (.int .i64 u.2.1)) (h2 : w.cell? (ad.add 2) = some (.int .i64 u.2.2.1)) (h3 : w.cell? (ad.add 3) = some (.int .i64 u.2.2.2)) (hlen : xs.length < 1000000000) (hB : B ≤ w.heap.size)
    (h : ∀ A c w', OwnQ T w' B (.slice A (xs.length + 1) c) (xs ++ [u]) → w.grownBy w' v.ownBlock → K (a.put o.dst (.slice A (xs.length + 1) c)) w') :
    Oper.wp Try.prog o a w K Q := by
  obtain ⟨i0, hi, hz0, hz1, hz2⟩ := info_parts hT.2
  refine wp_append_lies w s x ST ho B T i0 _ 4 32 hT.1 hi hz0 hz1 hz2 rfl (by decide) v xs.length _ hs hown.1 ad 1 c [.int .i64 u.1, .int .i64 u.2.1, .int .i64 u.2.2.1, .int .i64 u.2.2.2] hx rfl (news_quad h0 h1 h2 h3) news_one4 (by decide) (by unfold maxLen; omega) (by omega) hB _ rfl ?_
  intro g cap w' r1 r2 _ _
  exact h _ cap w' (own_quad rfl r1 hown.2 hu) r2
end

/-- a call returns a list of its own -/
def RetQuads (T : TypeId) (w : World) (xs : List (Q4)) (e : Ending) (w' : World) : Prop := ∃ A c, e = .returned (.slice A xs.length c) ∧ OwnQ T w' w.heap.size (.slice A xs.length c) xs ∧ Below w.heap.size w w'
theorem ret_quads {T : TypeId} {w w' : World} {v : Value} {xs : List (Q4)} (h : OwnQ T w' w.heap.size v xs) (hb : Below w.heap.size w w') : RetQuads T w xs (.returned v) w' := by
  obtain ⟨A, c, rfl⟩ := h.form
  exact ⟨A, c, rfl, h, hb⟩
/-- a list's head of pairs, one more -/
theorem quads_take {xs : List (Q4)} {k : Nat} {x : Q4} (hk : k < xs.length) (hx : xs.getD k z4 = x) : xs.take (k + 1) = xs.take k ++ [x] := by
  rw [List.take_add_one, List.getElem?_eq_getElem hk]
  have : xs[k] = x := by rw [← hx, List.getD_eq_getElem?_getD, List.getElem?_eq_getElem hk]; rfl
  rw [this]; rfl
end Go.Proofs.Ytaodbjgcidkpkaa.M

namespace Go.Proofs.Ytaodbjgcidkpkaa.M
section
variable {P : Program} {ops : Array Oper} {Q : Exit → Act → World → Prop} {md : Region.Mode} {S : World → Prop}
theorem held_take (i : Nat) {fuel : Nat} {listed : Array Bool} {a : Act} {w : World}
    (hs : Region.noSelect ops = true) (hf : Region.free md ops listed i = true) (hr : (Region.ready md ops listed).contains i = true)
    (hS : S w)
    (h : match ops[i]? with | some o => (∀ v c a w, Q (.panic c) (a.put o.dst v) w → Q (.panic c) a w) ∧ ∃ v, YieldsIf P ops S o v a ∧ wpAnyH P md ops Q S fuel (listed.setIfInBounds i true) (a.put o.dst v) w | none => False) : wpAnyH P md ops Q S (fuel + 1) listed a w := by
  cases ho : ops[i]? with
  | none => rw [ho] at h; exact h.elim
  | some o =>
    rw [ho] at h
    obtain ⟨hQ, v, hy, hk⟩ := h
    exact wpAnyH_take ho hs hf hr (hQ _) hy hS hk
theorem held_one (i : Nat) {fuel : Nat} {listed : Array Bool} {a : Act} {w : World} (hr : Region.ready md ops listed = [i])
    (h : match ops[i]? with
      | some o => ∀ K : Act → World → Prop, Shut (∀ a w, S w → (S w → wpAnyH P md ops Q S fuel (listed.setIfInBounds i true) a w) → K a w) → if Region.wanted o (yielded ops a.tmps) = true then Oper.wp P o a w K Q else K (a.put o.dst undef) w
      | none => False) : wpAnyH P md ops Q S (fuel + 1) listed a w := by
  cases ho : ops[i]? with
  | none => rw [ho] at h; exact h.elim
  | some o =>
    rw [ho] at h
    exact wpAnyH_ready hr (by simp) (AllReadyH.cons ho h AllReadyH.nil)
/-- the condition is strengthened on the way -/
theorem held_mono {S' : World → Prop} (hm : ∀ w, S' w → S w) : ∀ (fuel : Nat) (listed : Array Bool) (a : Act) (w : World), wpAnyH P md ops Q S' fuel listed a w → wpAnyH P md ops Q S fuel listed a w
  | 0, _, _, _, h => h
  | fuel + 1, _, _, _, h => ⟨h.1, fun i hi => wpOp_mono (fun a' w' h' => ⟨hm _ h'.1, held_mono hm fuel _ a' w' h'.2⟩) (h.2 i hi)⟩
/-- either of two may come up -/
theorem held_two (i j : Nat) {fuel : Nat} {listed : Array Bool} {a : Act} {w : World} (hr : Region.ready md ops listed = [i, j])
    (h : match ops[i]? with
      | some o => ∀ K : Act → World → Prop, Shut (∀ a w, S w → (S w → wpAnyH P md ops Q S fuel (listed.setIfInBounds i true) a w) → K a w) → if Region.wanted o (yielded ops a.tmps) = true then Oper.wp P o a w K Q else K (a.put o.dst undef) w
      | none => False)
    (h2 : match ops[j]? with
      | some o => ∀ K : Act → World → Prop, Shut (∀ a w, S w → (S w → wpAnyH P md ops Q S fuel (listed.setIfInBounds j true) a w) → K a w) → if Region.wanted o (yielded ops a.tmps) = true then Oper.wp P o a w K Q else K (a.put o.dst undef) w
      | none => False) : wpAnyH P md ops Q S (fuel + 1) listed a w := by
  cases ho : ops[i]? with
  | none => rw [ho] at h; exact h.elim
  | some o =>
    rw [ho] at h
    cases ho2 : ops[j]? with
    | none => rw [ho2] at h2; exact h2.elim
    | some o2 =>
      rw [ho2] at h2
      exact wpAnyH_ready hr (by simp) (AllReadyH.cons ho h (AllReadyH.cons ho2 h2 AllReadyH.nil))
end
end Go.Proofs.Ytaodbjgcidkpkaa.M

namespace Go.Proofs.Ytaodbjgcidkpkaa.M
open Go.RowKit

def Bs (w : World) (B : Nat) (l : List (Nat × TypeId × Array Value)) (wr : World) : Prop := Below B w wr ∧ ∀ x ∈ l, Blk wr x.1 x.2.1 x.2.2
section
variable {w wr w1 : World} {B : Nat} {l : List (Nat × TypeId × Array Value)}
theorem Bs.nil (w : World) (B : Nat) : Bs w B [] w := ⟨Below.refl _ _, fun x hx => by cases hx⟩
theorem Bs.step (h : Bs w B l wr) (hB : B ≤ w.heap.size) (hb : Below wr.heap.size wr w1) : Bs w B l w1 := ⟨through h.1 hB hb, fun x hx => (h.2 x hx).below hb (h.2 x hx).lt⟩
theorem Bs.alloc (h : Bs w B l wr) (hB : B ≤ w.heap.size) (cs : Array Value) (t : TypeId) {g : Nat} (hg : wr.heap.size = g) : Bs w B ((g, t, cs) :: l) (wr.alloc (.cells cs t)) := by
  refine ⟨h.1.alloc (Nat.le_trans hB h.1.size) _, fun z hz => ?_⟩
  rcases List.mem_cons.1 hz with rfl | hz
  · exact hg ▸ Blk.new _ _ _
  · exact (h.2 z hz).alloc _
theorem Bs.tail {x : Nat × TypeId × Array Value} (h : Bs w B (x :: l) wr) : Bs w B l wr := ⟨h.1, fun z hz => h.2 z (List.mem_cons_of_mem _ hz)⟩
theorem Bs.g0 {x : Nat × TypeId × Array Value} (h : Bs w B (x :: l) wr) : Blk wr x.1 x.2.1 x.2.2 := h.2 _ (by simp)
theorem Bs.g1 {x y : Nat × TypeId × Array Value} (h : Bs w B (y :: x :: l) wr) : Blk wr x.1 x.2.1 x.2.2 := h.2 _ (by simp)
theorem Bs.drewN (h : Bs w B l wr) (n : Nat) : Bs w B l (wr.drewN n) := ⟨below_drewN h.1 n, h.2⟩
/-- what lies above the one block turns -/
theorem Bs.up {b : Nat} {t : TypeId} {cs : Array Value} (h : Bs w B [(b, t, cs)] wr) (hg : Below (b + 1) wr w1) (hB : B ≤ b) : Bs w B [(b, t, cs)] w1 :=
  ⟨h.1.trans (hg.mono (by omega)), fun z hz => by
    obtain rfl : z = (b, t, cs) := by simpa using hz
    exact h.g0.below hg (by show b < b + 1; omega)⟩
/-- one row grows, another one -/
theorem Bs.row {b : Nat} {t : TypeId} {cs : Array Value} {r : Nat} (h : Bs w B [(b, t, cs)] wr) (hg : wr.grownBy w1 (some r)) (hr : b < r) (hB : B ≤ b) : Bs w B [(b, t, cs)] w1 :=
  ⟨h.1.grown hg (Nat.le_trans hB (Nat.le_of_lt h.g0.lt)) (fun z hz => by cases hz; omega), fun z hz => by
    obtain rfl : z = (b, t, cs) := by simpa using hz
    exact h.g0.grown hg (fun e => by injection e with e; simp only at e; omega)⟩
end
end Go.Proofs.Ytaodbjgcidkpkaa.M

namespace Go.Proofs.Ytaodbjgcidkpkaa.M
section
variable {P : Program} {ops : Array Oper} {Q : Exit → Act → World → Prop} {md : Region.Mode} {S : World → Prop}
/-- any of three may come up -/
theorem held_three (i j k : Nat) {fuel : Nat} {listed : Array Bool} {a : Act} {w : World} (hr : Region.ready md ops listed = [i, j, k])
    (h : match ops[i]? with
      | some o => ∀ K : Act → World → Prop, Shut (∀ a w, S w → (S w → wpAnyH P md ops Q S fuel (listed.setIfInBounds i true) a w) → K a w) → if Region.wanted o (yielded ops a.tmps) = true then Oper.wp P o a w K Q else K (a.put o.dst undef) w
      | none => False)
    (h2 : match ops[j]? with
      | some o => ∀ K : Act → World → Prop, Shut (∀ a w, S w → (S w → wpAnyH P md ops Q S fuel (listed.setIfInBounds j true) a w) → K a w) → if Region.wanted o (yielded ops a.tmps) = true then Oper.wp P o a w K Q else K (a.put o.dst undef) w
      | none => False)
    (h3 : match ops[k]? with
      | some o => ∀ K : Act → World → Prop, Shut (∀ a w, S w → (S w → wpAnyH P md ops Q S fuel (listed.setIfInBounds k true) a w) → K a w) → if Region.wanted o (yielded ops a.tmps) = true then Oper.wp P o a w K Q else K (a.put o.dst undef) w
      | none => False) : wpAnyH P md ops Q S (fuel + 1) listed a w := by
  cases ho : ops[i]? with
  | none => rw [ho] at h; exact h.elim
  | some o =>
    rw [ho] at h
    cases ho2 : ops[j]? with
    | none => rw [ho2] at h2; exact h2.elim
    | some o2 =>
      rw [ho2] at h2
      cases ho3 : ops[k]? with
      | none => rw [ho3] at h3; exact h3.elim
      | some o3 =>
        rw [ho3] at h3
        exact wpAnyH_ready hr (by simp) (AllReadyH.cons ho h (AllReadyH.cons ho2 h2 (AllReadyH.cons ho3 h3 AllReadyH.nil)))
/-- which operations were listed, in another spelling -/
theorem held_listed {fuel : Nat} {listed listed' : Array Bool} {a : Act} {w : World} (he : listed = listed') (h : wpAnyH P md ops Q S fuel listed' a w) : wpAnyH P md ops Q S fuel listed a w := he ▸ h
/-- the orders meet again: two letters -/
theorem held_join2 {α β : Type} (listed : Array Bool) (R : α → β → World → Prop) {fuel fuel0 : Nat} {f : α → β → Act} {listed0 : Array Bool} {a0 : Act} {w0 : World}
    (main : (∀ x y w, R x y w → S w → wpAnyH P md ops Q S fuel listed (f x y) w) → wpAnyH P md ops Q S fuel0 listed0 a0 w0)
    (rest : ∀ x y w, R x y w → S w → wpAnyH P md ops Q S fuel listed (f x y) w) : wpAnyH P md ops Q S fuel0 listed0 a0 w0 := main rest
/-- the orders meet again: three letters -/
theorem held_join3 {α β γ : Type} (listed : Array Bool) (R : α → β → γ → World → Prop) {fuel fuel0 : Nat} {f : α → β → γ → Act} {listed0 : Array Bool} {a0 : Act} {w0 : World}
    (main : (∀ x y z w, R x y z w → S w → wpAnyH P md ops Q S fuel listed (f x y z) w) → wpAnyH P md ops Q S fuel0 listed0 a0 w0)
    (rest : ∀ x y z w, R x y z w → S w → wpAnyH P md ops Q S fuel listed (f x y z) w) : wpAnyH P md ops Q S fuel0 listed0 a0 w0 := main rest
/-- the orders meet again: four letters -/
theorem held_join4 {α β γ δ : Type} (listed : Array Bool) (R : α → β → γ → δ → World → Prop) {fuel fuel0 : Nat} {f : α → β → γ → δ → Act} {listed0 : Array Bool} {a0 : Act} {w0 : World}
    (main : (∀ x y z u w, R x y z u w → S w → wpAnyH P md ops Q S fuel listed (f x y z u) w) → wpAnyH P md ops Q S fuel0 listed0 a0 w0)
    (rest : ∀ x y z u w, R x y z u w → S w → wpAnyH P md ops Q S fuel listed (f x y z u) w) : wpAnyH P md ops Q S fuel0 listed0 a0 w0 := main rest
/-- the orders meet again: four letters; the condition hangs on two of them -/
theorem held_joinS {α β γ δ : Type} (listed : Array Bool) (R : α → β → γ → δ → World → Prop) (S' : α → β → World → Prop) {fuel fuel0 : Nat} {f : α → β → γ → δ → Act} {listed0 : Array Bool} {a0 : Act} {w0 : World}
    (main : (∀ x y z u w, R x y z u w → S' x y w → wpAnyH P md ops Q (S' x y) fuel listed (f x y z u) w) → wpAnyH P md ops Q S fuel0 listed0 a0 w0)
    (rest : ∀ x y z u w, R x y z u w → S' x y w → wpAnyH P md ops Q (S' x y) fuel listed (f x y z u) w) : wpAnyH P md ops Q S fuel0 listed0 a0 w0 := main rest
end
end Go.Proofs.Ytaodbjgcidkpkaa.M
