/- Arguments that are slices, opened to cells: elements of any type, lists of numbers. No program's function is named. -/
import Derived.Test.YtaodbjgcidkpkaaMem
import Derived.ProofKit
import Derived.OpenShut
namespace Go.Proofs.Ytaodbjgcidkpkaa.M
open Go.RowKit Go.ChangeShapes Go.WideShapes Go.Deep

/-- a slice of numbers: where, how much room, which -/
structure SL where
  A : Option Addr
  c : Nat
  xs : List Int
instance : Inhabited SL := ⟨⟨none, 0, []⟩⟩
def SL.val (s : SL) : Value := .slice s.A s.xs.length s.c
def In64 (x : Int) : Prop := -9223372036854775808 ≤ x ∧ x ≤ 9223372036854775807
/-- it lies in memory, below block B -/
def IsInts (w : World) (B : Nat) (s : SL) : Prop :=
  Lies w B 1 s.A s.xs.length (fun i _ => .int .i64 (s.xs.getD i 0)) ∧ s.xs.length ≤ s.c ∧ s.c ≤ maxLen ∧ ∀ x ∈ s.xs, In64 x

theorem IsInts.below {w w' : World} {B : Nat} {s : SL} (h : IsInts w B s) (hb : Below B w w') : IsInts w' B s := ⟨h.1.below hb, h.2⟩
theorem IsInts.keep {w w' : World} {B : Nat} {s : SL} (h : IsInts w B s) (hk : ∀ p : Addr, p.block < B → w'.cell? p = w.cell? p) : IsInts w' B s := ⟨h.1.keep hk, h.2⟩
theorem IsInts.more {w : World} {B B' : Nat} {s : SL} (h : IsInts w B s) (hB : B ≤ B') : IsInts w B' s := ⟨h.1.more hB, h.2⟩

theorem wf_in64 {x : Int} (h : (Lit.int .i64 x).wf = true) : In64 x := by
  have := Go.bounds_i64 h
  exact this

section
variable {H : Type} {enc : TypeId × Value → H} {P : Program} {w : World} {base : Nat} {spare : Nat → Bool} {held : Bool}

/-- a slice of whatever elements of k cells -/
theorem open_elems {t e : TypeId} {k fuel : Nat} {cs : List Value} {x : DataW H × List MemPlace} (ht : P.underlying t = some (.slice e)) (hC : P.cellsOf e = k) (hk : 0 < k)
    (h : DataW.trod enc P w base spare held fuel t cs = some x) :
    ∃ (A : Option Addr) (n c : Nat) (f : Nat → Nat → Value), cs = [.slice A n c] ∧ n ≤ c ∧ c ≤ maxLen ∧ Lies w w.heap.size k A n f ∧
      ∀ i, i < n → ∃ y m, DataW.trod enc P w base spare held m e ((List.range k).map (f i)) = some y := by
  rcases open_slice ht h with ⟨h0, _⟩ | ⟨a, len, cap, m, fu, D, Pl, hcs, hb, hl, hm, hmm, hx, hi⟩
  · exact ⟨none, 0, 0, fun _ _ => undef, h0, Nat.le_refl _, Nat.zero_le _, Lies.zero _ _, fun i hi => absurd hi (by omega)⟩
  · have hlm : len ≤ m := by rw [hmm]; split <;> omega
    have hex : ∀ i, i < len → ∃ cs' : List Value, cs'.length = k ∧ (∀ j, j < k → w.cell? (a.add (i * k + j)) = cs'[j]?) ∧ DataW.trod enc P w base spare held fu e cs' = some (D i, Pl i) := by
      intro i him
      obtain ⟨cs', hc, ht'⟩ := hi i (by omega)
      rw [hC] at hc
      obtain ⟨_, hcl, hat⟩ := World.cells?_some hc
      exact ⟨cs', hcl, fun j hj => by rw [← Go.Deep.add_add]; exact hat j hj, ht'⟩
    obtain ⟨g, hg⟩ := choose_lt hex
    refine ⟨some a, len, cap, fun i j => (g i).getD j undef, hcs, hl, hm, ?_, ?_⟩
    · intro hn
      have hcell : ∀ i, i < len → ∀ j, j < k → w.cell? (a.add (i * k + j)) = some ((g i).getD j undef) := by
        intro i hi' j hj
        obtain ⟨h1, h2, _⟩ := hg i hi'
        rw [h2 j hj]
        have : j < (g i).length := by omega
        simp [List.getD, this]
      have h00 := hcell 0 hn 0 hk
      obtain ⟨b, o, sp⟩ := a
      have hsp : sp = none := by
        have := World.cell?_spot h00
        simpa [Addr.add] using this
      subst hsp
      have hlt := World.block_lt_of_cell? w _ h00
      refine ⟨b, o, rfl, by simpa [Addr.add] using hlt, fun i hi' j hj => ?_⟩
      have := hcell i hi' j hj
      rw [Go.WideShapes.add_plain] at this
      rw [← this]; congr 2; omega
    · intro i hi'
      obtain ⟨h1, _, h3⟩ := hg i hi'
      refine ⟨(D i, Pl i), fu, ?_⟩
      have : (List.range k).map (fun j => (g i).getD j undef) = g i := by
        apply List.ext_getElem?
        intro j
        by_cases hj : j < k
        · simp [hj, List.getD, h1]
        · simp [hj, h1]
      rw [this]; exact h3

/-- a struct's field, by its place -/
theorem field_of {e : TypeId} {fs : Array Field} {m : Nat} {cs : List Value} {y : DataW H × List MemPlace} (he : P.underlying e = some (.struct fs)) (h : DataW.trod enc P w base spare held m e cs = some y)
    {i : Nat} {f : Field} (hi : fs[i]? = some f) {k : Nat} (hC : P.cellsOf f.type = k) : ∃ z n, DataW.trod enc P w base spare held n f.type ((cs.drop f.offset).take k) = some z := by
  obtain ⟨xs, n', _, _, _, hlen, hf⟩ := DataW.trod_struct he h
  have h1 := hf i f hi
  rw [hC] at h1
  have hl : i < fs.size := (Array.getElem?_eq_some_iff.1 hi).1
  have : xs[i]? = some (xs[i]'(by omega)) := List.getElem?_eq_getElem (by omega)
  exact ⟨_, n', h1.trans this⟩

theorem field_int {e : TypeId} {fs : Array Field} {m : Nat} {cs : List Value} {y : DataW H × List MemPlace} (he : P.underlying e = some (.struct fs)) (h : DataW.trod enc P w base spare held m e cs = some y)
    {i : Nat} {f : Field} (hi : fs[i]? = some f) (hC : P.cellsOf f.type = 1) (ht : P.underlying f.type = some (.int .i64)) {v : Value} (hv : (cs.drop f.offset).take 1 = [v]) : ∃ z : Int, v = .int .i64 z ∧ In64 z := by
  obtain ⟨z, n, hz⟩ := field_of he h hi hC
  rw [hv] at hz
  obtain ⟨x, hx, _, hw⟩ := DataW.trod_int ht hz
  exact ⟨x, by simpa using hx, wf_in64 hw⟩
theorem field_bool {e : TypeId} {fs : Array Field} {m : Nat} {cs : List Value} {y : DataW H × List MemPlace} (he : P.underlying e = some (.struct fs)) (h : DataW.trod enc P w base spare held m e cs = some y)
    {i : Nat} {f : Field} (hi : fs[i]? = some f) (hC : P.cellsOf f.type = 1) (ht : P.underlying f.type = some .bool) {v : Value} (hv : (cs.drop f.offset).take 1 = [v]) : ∃ z : Bool, v = .bool z := by
  obtain ⟨z, n, hz⟩ := field_of he h hi hC
  rw [hv] at hz
  obtain ⟨x, hx, _⟩ := DataW.trod_bool ht hz
  exact ⟨x, by simpa using hx⟩

/-- a slice of ints -/
theorem open_sl {t e : TypeId} {fuel : Nat} {v : Value} {x : DataW H × List MemPlace} (ht : P.underlying t = some (.slice e)) (he : P.underlying e = some (.int .i64)) (hC : P.cellsOf e = 1)
    (h : DataW.trod enc P w base spare held fuel t [v] = some x) : ∃ s : SL, v = s.val ∧ IsInts w w.heap.size s := by
  obtain ⟨A, n, c, f, hcs, hn, hc, hl, hf⟩ := open_elems ht hC (by omega) h
  have hex : ∀ i, i < n → ∃ z : Int, f i 0 = .int .i64 z ∧ In64 z := by
    intro i hi
    obtain ⟨y, m, hy⟩ := hf i hi
    obtain ⟨z, hz, _, hw⟩ := DataW.trod_int he hy
    exact ⟨z, by simpa using hz, wf_in64 hw⟩
  obtain ⟨z, hz⟩ := choose_lt hex
  have hv : v = .slice A n c := by simpa using hcs
  have hlen : ((List.range n).map z).length = n := by simp
  refine ⟨⟨A, c, (List.range n).map z⟩, by rw [hv]; simp [SL.val], ?_, by rw [hlen]; exact hn, hc, ?_⟩
  · rw [hlen]
    exact hl.congr fun i hi j hj => by
      obtain rfl : j = 0 := by omega
      rw [(hz i hi).1]; simp [List.getD, hi]
  · intro x hx
    obtain ⟨i, hi, rfl⟩ := List.mem_map.1 hx
    exact (hz i (List.mem_range.1 hi)).2
theorem open_sl_arg {r : Reach} {b0 : Nat} {t e : TypeId} {v : Value} {d : DataW H} {p : List MemPlace} (ht : P.underlying t = some (.slice e)) (he : P.underlying e = some (.int .i64)) (hC : P.cellsOf e = 1)
    (hok : Value.okWide P w r b0 t v) (h : DataW.Trod enc P w base spare held t v d p) : ∃ s : SL, v = s.val ∧ IsInts w w.heap.size s := by
  obtain ⟨a, len, cap, rfl⟩ := okWide_slice ht hok
  obtain ⟨fuel, hf⟩ := h
  exact open_sl ht he hC (by simpa [Value.cells] using hf)

theorem field_sl {e t0 : TypeId} {fs : Array Field} {m : Nat} {cs : List Value} {y : DataW H × List MemPlace} (he : P.underlying e = some (.struct fs)) (h : DataW.trod enc P w base spare held m e cs = some y)
    {i : Nat} {f : Field} (hi : fs[i]? = some f) (hC : P.cellsOf f.type = 1) (ht : P.underlying f.type = some (.slice t0)) (h0 : P.underlying t0 = some (.int .i64)) (hC0 : P.cellsOf t0 = 1) {v : Value} (hv : (cs.drop f.offset).take 1 = [v]) :
    ∃ s : SL, v = s.val ∧ IsInts w w.heap.size s := by
  obtain ⟨z, n, hz⟩ := field_of he h hi hC
  rw [hv] at hz
  exact open_sl ht h0 hC0 hz
end
end Go.Proofs.Ytaodbjgcidkpkaa.M
