/- Feeds among the arguments, opened; the form's own reach bounds each list. No program's function is named. -/
import Derived.Test.YtaodbjgcidkpkaaFdMY
import Derived.Test.YtaodbjgcidkpkaaZa
import Derived.Lib.SmallJoins
import Derived.SizedLaws

namespace Go.Proofs.Ytaodbjgcidkpkaa.Fd
open Go.ChangeShapes Go.WideShapes Go.ChangeAt Go.RowKit Go.Joins Go.Deep M

section
variable {H : Type} {enc : TypeId × Value → H} {P : Program} {w : World} {base : Nat} {spare : Nat → Bool} {held : Bool}
def Light (P : Program) (t : TypeId) (d : DataW H) : Prop := ∀ n ∈ d.weights P t, n ≤ reachBytes
theorem weightsAll_mem {P : Program} {e : TypeId} : ∀ {ds : List (DataW H)} {d : DataW H}, d ∈ ds → ∀ n ∈ d.weights P e, n ∈ DataW.weightsAll P e ds
  | [], d, h, _, _ => by cases h
  | x :: ds, d, h, n, hn => by
    rw [DataW.weightsAll, List.mem_append]
    rcases List.mem_cons.1 h with rfl | h
    · exact .inl hn
    · exact .inr (weightsAll_mem h n hn)
theorem weightsEach_mem {P : Program} : ∀ {ts : List TypeId} {ds : List (DataW H)} {i : Nat} {t : TypeId} {d : DataW H}, ts[i]? = some t → ds[i]? = some d → ∀ n ∈ d.weights P t, n ∈ DataW.weightsEach P ts ds
  | [], ds, i, t, d, h, _, _, _ => by simp at h
  | _ :: ts, [], i, t, d, _, h, _, _ => by simp at h
  | t0 :: ts, d0 :: ds, 0, t, d, h, k, n, hn => by
    simp at h k; subst h; subst k
    rw [DataW.weightsEach, List.mem_append]; exact .inl hn
  | t0 :: ts, d0 :: ds, i + 1, t, d, h, k, n, hn => by
    rw [DataW.weightsEach, List.mem_append]
    exact .inr (weightsEach_mem (by simpa using h) (by simpa using k) n hn)
/-- a slice of whatever elements of k cells, none of them out of reach -/
theorem open_light {t e : TypeId} {k fuel : Nat} {cs : List Value} {x : DataW H × List MemPlace} (ht : P.underlying t = some (.slice e)) (hC : P.cellsOf e = k) (hk : 0 < k) (hl : Light P t x.1)
    (h : DataW.trod enc P w base spare held fuel t cs = some x) :
    ∃ (A : Option Addr) (n c : Nat) (f : Nat → Nat → Value), cs = [.slice A n c] ∧ n ≤ c ∧ c ≤ maxLen ∧ n * P.bytesOf e ≤ reachBytes ∧ Lies w w.heap.size k A n f ∧
      ∀ i, i < n → ∃ y m, DataW.trod enc P w base spare held m e ((List.range k).map (f i)) = some y ∧ Light P e y.1 := by
  rcases open_slice ht h with ⟨h0, _⟩ | ⟨a, len, cap, m, fu, D, Pl, hcs, hb, hle, hm, hmm, hx, hi⟩
  · exact ⟨none, 0, 0, fun _ _ => undef, h0, Nat.le_refl _, Nat.zero_le _, by simp, Lies.zero _ _, fun i hi => absurd hi (by omega)⟩
  · have hlm : len ≤ m := by rw [hmm]; split <;> omega
    subst hx
    have hwt : ∀ n ∈ (DataW.slice ((List.range len).map D) ((List.range (m - len)).map fun j => D (len + j)) : DataW H).weights P t, n ≤ reachBytes := hl
    rw [DataW.weights, ht] at hwt
    simp only at hwt
    have hby : len * P.bytesOf e ≤ reachBytes := by
      have := hwt _ (List.mem_cons_self ..)
      simp only [List.length_map, List.length_range] at this
      refine Nat.le_trans (Nat.mul_le_mul_right _ ?_) this
      omega
    have hD : ∀ i, i < len → Light P e (D i) := fun i hi n hn => hwt n (by
      rw [List.mem_cons, List.mem_append]
      exact .inr (.inl (weightsAll_mem (List.mem_map.2 ⟨i, List.mem_range.2 hi, rfl⟩) n hn)))
    have hex : ∀ i, i < len → ∃ cs' : List Value, cs'.length = k ∧ (∀ j, j < k → w.cell? (a.add (i * k + j)) = cs'[j]?) ∧ DataW.trod enc P w base spare held fu e cs' = some (D i, Pl i) := by
      intro i him
      obtain ⟨cs', hc, ht'⟩ := hi i (by omega)
      rw [hC] at hc
      obtain ⟨_, hcl, hat⟩ := World.cells?_some hc
      exact ⟨cs', hcl, fun j hj => by rw [← Go.Deep.add_add]; exact hat j hj, ht'⟩
    obtain ⟨g, hg⟩ := choose_lt hex
    refine ⟨some a, len, cap, fun i j => (g i).getD j undef, hcs, hle, hm, hby, ?_, ?_⟩
    · intro hn
      have hcell : ∀ i, i < len → ∀ j, j < k → w.cell? (a.add (i * k + j)) = some ((g i).getD j undef) := by
        intro i hi' j hj
        obtain ⟨h1, h2, _⟩ := hg i hi'
        rw [h2 j hj]
        have : j < (g i).length := by omega
        simp [List.getD, this]
      have h00 := hcell 0 hn 0 hk
      obtain ⟨b, o, sp⟩ := a
      have hsp : sp = none := by
        have := World.cell?_spot h00
        simpa [Addr.add] using this
      subst hsp
      have hlt := World.block_lt_of_cell? w _ h00
      refine ⟨b, o, rfl, by simpa [Addr.add] using hlt, fun i hi' j hj => ?_⟩
      have := hcell i hi' j hj
      rw [Go.WideShapes.add_plain] at this
      rw [← this]; congr 2; omega
    · intro i hi'
      obtain ⟨h1, _, h3⟩ := hg i hi'
      refine ⟨(D i, Pl i), fu, ?_, hD i hi'⟩
      have : (List.range k).map (fun j => (g i).getD j undef) = g i := by
        apply List.ext_getElem?
        intro j
        by_cases hj : j < k
        · simp [hj, List.getD, h1]
        · simp [hj, h1]
      rw [this]; exact h3
/-- a struct's field, by its place -/
theorem field_light {e : TypeId} {fs : Array Field} {m : Nat} {cs : List Value} {y : DataW H × List MemPlace} (he : P.underlying e = some (.struct fs)) (h : DataW.trod enc P w base spare held m e cs = some y) (hl : Light P e y.1)
    {i : Nat} {f : Field} (hi : fs[i]? = some f) {k : Nat} (hC : P.cellsOf f.type = k) : ∃ z n, DataW.trod enc P w base spare held n f.type ((cs.drop f.offset).take k) = some z ∧ Light P f.type z.1 := by
  obtain ⟨xs, n', _, rfl, _, hlen, hf⟩ := DataW.trod_struct he h
  have h1 := hf i f hi
  rw [hC] at h1
  have hlt : i < fs.size := (Array.getElem?_eq_some_iff.1 hi).1
  have hx : xs[i]? = some (xs[i]'(by omega)) := List.getElem?_eq_getElem (by omega)
  refine ⟨_, n', h1.trans hx, fun n hn => hl n ?_⟩
  show n ∈ DataW.weights P e (.agg (xs.map (·.1)))
  rw [DataW.weights, he]
  simp only
  exact weightsEach_mem (i := i) (by rw [List.getElem?_map, Array.getElem?_toList, hi]; rfl) (by rw [List.getElem?_map, hx]; rfl) n hn
end

section
variable {H : Type} {enc : TypeId × Value → H} {W : World} {base : Nat} {spare : Nat → Bool} {held : Bool} {fuel : Nat} {v : Value} {x : DataW H × List MemPlace}
theorem open_recs (hl : Light Try.prog 49 x.1) (h : DataW.trod enc Try.prog W base spare held fuel 49 [v] = some x) : ∃ A c xs, v = .slice A (List.length xs) c ∧ IsRecs W W.heap.size A c xs := by
  obtain ⟨A, n, c, f, hcs, hn, hc, hby, hlie, he⟩ := open_light (k := 2) Try.underlying49 (by kernel_rfl) (by omega) hl h
  have hb : Try.prog.bytesOf 57 = 16 := by kernel_rfl
  have hex : ∀ i, i < n → ∃ z : Int × Int, (∀ j, j < 2 → f i j = cellP z j) ∧ In2 z := by
    intro i hi
    obtain ⟨y, m, hy, -⟩ := he i hi
    have hu := Try.underlying57
    obtain ⟨z0, e0, b0⟩ := field_int hu hy (i := 0) rfl (by kernel_rfl) Try.underlying3 (v := f i 0) rfl
    obtain ⟨z1, e1, b1⟩ := field_int hu hy (i := 1) rfl (by kernel_rfl) Try.underlying3 (v := f i 1) rfl
    refine ⟨(z0, z1), fun j hj => ?_, b0, b1⟩
    rcases (show j = 0 ∨ j = 1 by omega) with rfl | rfl
    · exact e0
    · exact e1
  obtain ⟨q, hq⟩ := choose_lt hex
  have hlen : ((List.range n).map q).length = n := by simp
  have hget : ∀ i, i < n → ((List.range n).map q).getD i (0, 0) = q i := fun i hi => by rw [List.getD_eq_getElem?_getD]; simp [hi]
  refine ⟨A, c, (List.range n).map q, by rw [hlen]; simpa using hcs, ⟨?_, by rw [hlen]; exact hn, hc, fun z hz => ?_⟩, by rw [hlen]; rw [hb] at hby; unfold reachBytes at hby; unfold LB; omega⟩
  · rw [hlen]
    exact hlie.congr fun i hi j hj => by rw [(hq i hi).1 j hj, hget i hi]
  · obtain ⟨i, hi, rfl⟩ := List.mem_map.1 hz
    exact (hq i (List.mem_range.1 hi)).2
theorem open_lists (hl : Light Try.prog 45 x.1) (h : DataW.trod enc Try.prog W base spare held fuel 45 [v] = some x) : ∃ A c ls, v = .slice A (List.length ls) c ∧ IsLists W W.heap.size A c ls := by
  obtain ⟨A, n, c, f, hcs, hn, hc, hby, hlie, he⟩ := open_light (k := 1) Try.underlying45 (by kernel_rfl) (by omega) hl h
  have hb : Try.prog.bytesOf 49 = 24 := by kernel_rfl
  have hex : ∀ i, i < n → ∃ z : List Rc × (Option Addr × Nat), f i 0 = .slice z.2.1 z.1.length z.2.2 ∧ IsRecs W W.heap.size z.2.1 z.2.2 z.1 := by
    intro i hi
    obtain ⟨y, m, hy, hly⟩ := he i hi
    have hy' : DataW.trod enc Try.prog W base spare held m 49 [f i 0] = some y := hy
    obtain ⟨A', c', xs, e, hr⟩ := open_recs hly hy'
    exact ⟨(xs, (A', c')), e, hr⟩
  obtain ⟨q, hq⟩ := choose_lt hex
  have hlen : ((List.range n).map fun i => (q i).1).length = n := by simp
  have hget : ∀ i, i < n → ((List.range n).map fun i => (q i).1).getD i [] = (q i).1 := fun i hi => by rw [List.getD_eq_getElem?_getD]; simp [hi]
  refine ⟨A, c, (List.range n).map fun i => (q i).1, by rw [hlen]; simpa using hcs, fun i => (q i).2, ?_, by rw [hlen]; exact hn, hc, by rw [hlen]; rw [hb] at hby; unfold reachBytes at hby; unfold LB; omega, fun i hi => ?_⟩
  · rw [hlen]
    exact hlie.congr fun i hi j hj => by
      obtain rfl : j = 0 := by omega
      rw [(hq i hi).1, hget i hi]
  · rw [hlen] at hi
    rw [hget i hi]; exact (hq i hi).2
set_option maxRecDepth 100000 in
theorem open_feeds {d : DataW H} {ps : List MemPlace} (hl : Light Try.prog 42 d) (hok : Value.okWide Try.prog W .any base 42 v) (h : DataW.Trod enc Try.prog W 0 spare held 42 v d ps) :
    ∃ A c fs, v = .slice A (List.length fs) c ∧ IsFeeds W W.heap.size A c fs := by
  obtain ⟨a, len, cap, rfl⟩ := okWide_slice Try.underlying42 hok
  obtain ⟨fuel, hf⟩ := h
  obtain ⟨A, n, c, f, hcs, hn, hc, hby, hlie, he⟩ := open_light (k := 2) Try.underlying42 (by kernel_rfl) (by omega) (x := (d, ps)) hl (by simpa [Value.cells] using hf)
  have hb : Try.prog.bytesOf 47 = 32 := by kernel_rfl
  have hex : ∀ i, i < n → ∃ z : Fp × (Option Addr × Nat), f i 0 = .int .i64 z.1.op ∧ f i 1 = .slice z.2.1 z.1.parts.length z.2.2 ∧ M.In64 z.1.op ∧ IsLists W W.heap.size z.2.1 z.2.2 z.1.parts := by
    intro i hi
    obtain ⟨y, m, hy, hly⟩ := he i hi
    have hu := Try.underlying47
    obtain ⟨z0, e0, b0⟩ := field_int hu hy (i := 0) rfl (by kernel_rfl) Try.underlying3 (v := f i 0) rfl
    obtain ⟨y1, m1, hy1, hl1⟩ := field_light hu hy hly (i := 1) rfl (k := 1) (by kernel_rfl)
    have hy' : DataW.trod enc Try.prog W 0 spare held m1 45 [f i 1] = some y1 := hy1
    obtain ⟨A', c', ls, e, hr⟩ := open_lists hl1 hy'
    exact ⟨(⟨z0, ls⟩, (A', c')), e0, e, b0, hr⟩
  obtain ⟨q, hq⟩ := choose_lt hex
  have hlen : ((List.range n).map fun i => (q i).1).length = n := by simp
  have hget : ∀ i, i < n → ((List.range n).map fun i => (q i).1).getD i default = (q i).1 := fun i hi => by rw [List.getD_eq_getElem?_getD]; simp [hi]
  refine ⟨A, c, (List.range n).map fun i => (q i).1, by rw [hlen]; simpa using hcs, fun i => (q i).2, ?_, by rw [hlen]; exact hn, hc, by rw [hlen]; rw [hb] at hby; unfold reachBytes at hby; unfold LB; omega, fun i hi => ?_⟩
  · rw [hlen]
    exact hlie.congr fun i hi j hj => by
      rw [hget i hi]
      rcases (show j = 0 ∨ j = 1 by omega) with rfl | rfl
      · rw [(hq i hi).1]; rfl
      · rw [(hq i hi).2.1]; rfl
  · rw [hlen] at hi
    rw [hget i hi]; exact (hq i hi).2.2
end
end Go.Proofs.Ytaodbjgcidkpkaa.Fd
