/- What is wrong with feeds; in plain Lean. No program is named. -/
import Derived.Test.YtaodbjgcidkpkaaFdPY
import Derived.Test.YtaodbjgcidkpkaaZj

namespace Go.Proofs.Ytaodbjgcidkpkaa.Fd
open Go Sp

def NoSh (a b : List Rc) : Prop := ∀ x ∈ keysR a, x ∉ keysR b
instance (a b : List Rc) : Decidable (NoSh a b) := by unfold NoSh; infer_instance
/-- no two partitions share a key -/
def Apart (fs : List Fp) : Prop := (fs.flatMap (·.parts)).Pairwise NoSh
instance (fs : List Fp) : Decidable (Apart fs) := by unfold Apart; infer_instance
def keysE (fs : List Fp) : Int := if Apart fs then 0 else 10
def manyB (l : List OpP) (f : Fp) : Bool := decide ((f.parts.length : Int) = (opOf l f.op.toNat).parts) && decide (cntL f.parts ≤ 200)
def chkF (l : List OpP) (fs : List Fp) : Int := if fs.map (·.op) = kindF l 1 then (if fs.all (manyB l) = true then keysE fs else 3) else 8
theorem chkF_input {l : List OpP} {fs : List Fp} (h : fs.map (·.op) ≠ kindF l 1) : chkF l fs = 8 := if_neg h
theorem chkF_many {l : List OpP} {fs : List Fp} (h : fs.map (·.op) = kindF l 1) {k : Nat} (hk : k < fs.length) {f : Fp} (hf : fs.getD k default = f) (hn : manyB l f = false) : chkF l fs = 3 := by
  unfold chkF
  rw [if_pos h, if_neg]
  rw [List.all_eq_true]
  intro hc
  have := hc f (hf ▸ feeds_mem hk)
  rw [hn] at this; cases this
theorem chkF_keys {l : List OpP} {fs : List Fp} (h : fs.map (·.op) = kindF l 1) (hm : ∀ j, j < fs.length → manyB l (fs.getD j default) = true) : chkF l fs = keysE fs := by
  unfold chkF
  rw [if_pos h, if_pos]
  rw [List.all_eq_true]
  intro f hf
  obtain ⟨j, hj, rfl⟩ := List.mem_iff_getElem.1 hf
  have := hm j hj
  rwa [List.getD_eq_getElem?_getD, List.getElem?_eq_getElem hj] at this

def partAt (fs : List Fp) (i k : Nat) : List Rc := (fs.getD i default).parts.getD k []
theorem partAt_in {fs : List Fp} {i k : Nat} {x : Int} (h : x ∈ keysR (partAt fs i k)) : i < fs.length ∧ k < (fs.getD i default).parts.length := by
  unfold partAt at h
  by_cases hi : i < fs.length
  · by_cases hk : k < (fs.getD i default).parts.length
    · exact ⟨hi, hk⟩
    · rw [List.getD_eq_getElem?_getD, List.getElem?_eq_none (by omega)] at h
      simp [keysR] at h
  · rw [List.getD_eq_getElem?_getD (l := fs), List.getElem?_eq_none (by omega)] at h
    exact absurd h (by show ¬ x ∈ keysR (([] : List (List Rc)).getD k []); simp [keysR])
theorem getD_el {α : Type} {xs : List α} {i : Nat} (h : i < xs.length) (d : α) : xs.getD i d = xs[i] := by
  rw [List.getD_eq_getElem?_getD, List.getElem?_eq_getElem h]; rfl
theorem apart_iff {fs : List Fp} : Apart fs ↔ ∀ i k i' k' x, x ∈ keysR (partAt fs i k) → x ∈ keysR (partAt fs i' k') → i = i' ∧ k = k' := by
  unfold Apart
  rw [List.pairwise_flatMap]
  constructor
  · rintro ⟨h1, h2⟩ i k i' k' x hx hx'
    obtain ⟨hi, hk⟩ := partAt_in hx
    obtain ⟨hi', hk'⟩ := partAt_in hx'
    unfold partAt at hx hx'
    rcases Nat.lt_trichotomy i i' with hlt | rfl | hlt
    · have := (List.pairwise_iff_getElem.1 h2) i i' hi hi' hlt _ (lists_mem (ls := (fs[i]).parts) (k := k) (by rw [← getD_el hi default]; exact hk)) _ (lists_mem (ls := (fs[i']).parts) (k := k') (by rw [← getD_el hi' default]; exact hk'))
      rw [getD_el hi default] at hx
      rw [getD_el hi' default] at hx'
      exact absurd hx' (this x hx)
    · refine ⟨rfl, ?_⟩
      have hp := h1 _ (feeds_mem (fs := fs) hi)
      rw [List.pairwise_iff_getElem] at hp
      rw [getD_el hk] at hx
      rw [getD_el hk'] at hx'
      rcases Nat.lt_trichotomy k k' with hlt | h | hlt
      · exact absurd hx' (hp k k' hk hk' hlt x hx)
      · exact h
      · exact absurd hx (hp k' k hk' hk hlt x hx')
    · have := (List.pairwise_iff_getElem.1 h2) i' i hi' hi hlt _ (lists_mem (ls := (fs[i']).parts) (k := k') (by rw [← getD_el hi' default]; exact hk')) _ (lists_mem (ls := (fs[i]).parts) (k := k) (by rw [← getD_el hi default]; exact hk))
      rw [getD_el hi default] at hx
      rw [getD_el hi' default] at hx'
      exact absurd hx (this x hx')
  · intro h
    refine ⟨fun f hf => ?_, ?_⟩
    · obtain ⟨i, hi, rfl⟩ := List.mem_iff_getElem.1 hf
      rw [List.pairwise_iff_getElem]
      intro k k' hk hk' hlt x hx hx'
      have := h i k i k' x (by unfold partAt; rw [getD_el hi, getD_el hk]; exact hx) (by unfold partAt; rw [getD_el hi, getD_el hk']; exact hx')
      omega
    · rw [List.pairwise_iff_getElem]
      intro i i' hi hi' hlt a ha b hb x hx hx'
      obtain ⟨k, hk, rfl⟩ := List.mem_iff_getElem.1 ha
      obtain ⟨k', hk', rfl⟩ := List.mem_iff_getElem.1 hb
      have := h i k i' k' x (by unfold partAt; rw [getD_el hi, getD_el hk]; exact hx) (by unfold partAt; rw [getD_el hi', getD_el hk']; exact hx')
      omega

/-- what has been gone through: all partitions ahead of the k-th of feed i, and of that one t records -/
def Seen (fs : List Fp) (i0 k0 t i k : Nat) (x : Int) : Prop := (x ∈ keysR (partAt fs i k) ∧ (i < i0 ∨ (i = i0 ∧ k < k0))) ∨ (i = i0 ∧ k = k0 ∧ x ∈ keysR ((partAt fs i0 k0).take t))
/-- where each key that was met stands -/
def Met (fs : List Fp) (i0 k0 t : Nat) (F : Int → Option (Int × Int)) : Prop :=
  (∀ x p, F x = some p → ∃ i k : Nat, p = ((i : Int), (k : Int)) ∧ Seen fs i0 k0 t i k x) ∧ ∀ i k x, Seen fs i0 k0 t i k x → F x = some ((i : Int), (k : Int))
theorem Met.nil (fs : List Fp) : Met fs 0 0 0 (fun _ => none) := by
  refine ⟨fun x p h => by (cases h), fun i k x h => ?_⟩
  rcases h with ⟨-, h | h⟩ | ⟨-, -, h⟩
  · omega
  · omega
  · simp [keysR] at h
theorem Seen.in_ {fs : List Fp} {i0 k0 t i k : Nat} {x : Int} (h : Seen fs i0 k0 t i k x) : x ∈ keysR (partAt fs i k) := by
  rcases h with ⟨h, -⟩ | ⟨rfl, rfl, h⟩
  · exact h
  · unfold keysR at *
    rw [List.mem_map] at *
    obtain ⟨y, hy, e⟩ := h
    exact ⟨y, List.mem_of_mem_take hy, e⟩
section
variable {fs : List Fp} {i0 k0 t : Nat} {F : Int → Option (Int × Int)}
theorem Met.clash (h : Met fs i0 k0 t F) {x : Int} {p : Int × Int} (hx : x ∈ keysR (partAt fs i0 k0)) (hp : F x = some p) (hne : p ≠ ((i0 : Int), (k0 : Int))) : keysE fs = 10 := by
  obtain ⟨i, k, rfl, hs⟩ := h.1 x p hp
  refine if_neg fun ha => hne ?_
  obtain ⟨rfl, rfl⟩ := apart_iff.1 ha i k i0 k0 x hs.in_ hx
  rfl
theorem Met.put (h : Met fs i0 k0 t F) {r : List Rc} {x : Rc} (hr : partAt fs i0 k0 = r) (ht : t < r.length) (hx : r.getD t (0, 0) = x) (hok : ∀ p, F x.1 = some p → p = ((i0 : Int), (k0 : Int))) :
    Met fs i0 k0 (t + 1) (fun y => if y = x.1 then some ((i0 : Int), (k0 : Int)) else F y) := by
  subst hr
  have e : ∀ i k y, Seen fs i0 k0 (t + 1) i k y ↔ Seen fs i0 k0 t i k y ∨ (i = i0 ∧ k = k0 ∧ y = x.1) := by
    intro i k y
    unfold Seen
    rw [keysR_take ht hx, List.mem_append, List.mem_singleton]
    constructor
    · rintro (h | ⟨a, b, c | c⟩)
      · exact .inl (.inl h)
      · exact .inl (.inr ⟨a, b, c⟩)
      · exact .inr ⟨a, b, c⟩
    · rintro ((h | ⟨a, b, c⟩) | ⟨a, b, c⟩)
      · exact .inl h
      · exact .inr ⟨a, b, .inl c⟩
      · exact .inr ⟨a, b, .inr c⟩
  refine ⟨fun y p hp => ?_, fun i k y hs => ?_⟩
  · dsimp only at hp
    by_cases hy : y = x.1
    · rw [if_pos hy] at hp
      injection hp with hp
      exact ⟨i0, k0, hp.symm, (e _ _ _).2 (.inr ⟨rfl, rfl, hy⟩)⟩
    · rw [if_neg hy] at hp
      obtain ⟨i, k, a, b⟩ := h.1 y p hp
      exact ⟨i, k, a, (e _ _ _).2 (.inl b)⟩
  · show (if y = x.1 then some ((i0 : Int), (k0 : Int)) else F y) = some ((i : Int), (k : Int))
    rcases (e _ _ _).1 hs with hs | ⟨rfl, rfl, rfl⟩
    · have := h.2 i k y hs
      by_cases hy : y = x.1
      · rw [if_pos hy]
        subst hy
        rw [hok _ this]
      · rw [if_neg hy]; exact this
    · rw [if_pos rfl]
theorem Met.part (h : Met fs i0 k0 t F) (ht : (partAt fs i0 k0).length = t) : Met fs i0 (k0 + 1) 0 F := by
  have e : ∀ i k y, Seen fs i0 (k0 + 1) 0 i k y ↔ Seen fs i0 k0 t i k y := by
    intro i k y
    unfold Seen
    rw [← ht, List.take_length]
    constructor
    · rintro (⟨a, b | ⟨b, c⟩⟩ | ⟨-, -, c⟩)
      · exact .inl ⟨a, .inl b⟩
      · rcases (show k < k0 ∨ k = k0 by omega) with d | rfl
        · exact .inl ⟨a, .inr ⟨b, d⟩⟩
        · subst b; exact .inr ⟨rfl, rfl, a⟩
      · simp [keysR] at c
    · rintro (⟨a, b | ⟨b, c⟩⟩ | ⟨rfl, rfl, c⟩)
      · exact .inl ⟨a, .inl b⟩
      · exact .inl ⟨a, .inr ⟨b, by omega⟩⟩
      · exact .inl ⟨c, .inr ⟨rfl, by omega⟩⟩
  exact ⟨fun x p hp => by obtain ⟨i, k, a, b⟩ := h.1 x p hp; exact ⟨i, k, a, (e _ _ _).2 b⟩, fun i k x hs => h.2 i k x ((e _ _ _).1 hs)⟩
theorem Met.feed (h : Met fs i0 k0 0 F) (hk : (fs.getD i0 default).parts.length = k0) : Met fs (i0 + 1) 0 0 F := by
  have e : ∀ i k y, Seen fs (i0 + 1) 0 0 i k y ↔ Seen fs i0 k0 0 i k y := by
    intro i k y
    unfold Seen
    constructor
    · rintro (⟨a, b | ⟨-, c⟩⟩ | ⟨-, -, c⟩)
      · rcases (show i < i0 ∨ i = i0 by omega) with d | rfl
        · exact .inl ⟨a, .inl d⟩
        · exact .inl ⟨a, .inr ⟨rfl, by have := (partAt_in a).2; omega⟩⟩
      · omega
      · simp [keysR] at c
    · rintro (⟨a, b | ⟨rfl, c⟩⟩ | ⟨-, -, c⟩)
      · exact .inl ⟨a, .inl (by omega)⟩
      · exact .inl ⟨a, .inl (by omega)⟩
      · simp [keysR] at c
  exact ⟨fun x p hp => by obtain ⟨i, k, a, b⟩ := h.1 x p hp; exact ⟨i, k, a, (e _ _ _).2 b⟩, fun i k x hs => h.2 i k x ((e _ _ _).1 hs)⟩
theorem Met.end_ (h : Met fs i0 0 0 F) (hi : i0 = fs.length) : keysE fs = 0 := by
  refine if_pos (apart_iff.2 fun i k i' k' x hx hx' => ?_)
  have a := h.2 i k x (.inl ⟨hx, .inl (by have := (partAt_in hx).1; omega)⟩)
  have b := h.2 i' k' x (.inl ⟨hx', .inl (by have := (partAt_in hx').1; omega)⟩)
  rw [a] at b
  injection b with b
  injection b with b1 b2
  omega
end
end Go.Proofs.Ytaodbjgcidkpkaa.Fd
