/- Which keys records have, rising, each once; in plain Lean. No program is named. -/
import Derived.Test.YtaodbjgcidkpkaaFdMY
import Derived.Lib.SlKeysI

namespace Go.Proofs.Ytaodbjgcidkpkaa.Fd
open Go

def keysR (r : List Rc) : List Int := r.map (·.1)
def keysL (ls : List (List Rc)) : List Int := ls.flatMap keysR
def keysA (fs : List Fp) : List Int := fs.flatMap fun f => keysL f.parts
/-- a number in its place among rising ones, unless it is there -/
def layR (key : Int) : List Int → List Int
  | [] => [key]
  | x :: xs => if key ≤ x then key :: (x :: xs).filter (fun y => decide (y ≠ key)) else x :: layR key xs
def keysF (fs : List Fp) : List Int := (keysA fs).foldl (fun l k => layR k l) []
theorem layR_mem {key y : Int} : ∀ {xs : List Int}, y ∈ layR key xs ↔ y = key ∨ y ∈ xs
  | [] => by simp [layR]
  | x :: xs => by
    rw [layR]
    split
    · rw [List.mem_cons, List.mem_filter]
      constructor
      · rintro (h | ⟨h, -⟩)
        · exact .inl h
        · exact .inr h
      · rintro (h | h)
        · exact .inl h
        · by_cases e : y = key
          · exact .inl e
          · exact .inr ⟨h, by simpa using e⟩
    · rw [List.mem_cons, layR_mem (xs := xs), List.mem_cons]
      constructor
      · rintro (h | h | h)
        · exact .inr (.inl h)
        · exact .inl h
        · exact .inr (.inr h)
      · rintro (h | h | h)
        · exact .inr (.inl h)
        · exact .inl h
        · exact .inr (.inr h)
theorem layR_rise {key : Int} : ∀ {xs : List Int}, xs.Pairwise (· < ·) → (layR key xs).Pairwise (· < ·)
  | [], _ => by simp [layR]
  | x :: xs, h => by
    rw [layR]
    rw [List.pairwise_cons] at h
    split
    · rename_i hle
      rw [List.pairwise_cons]
      refine ⟨fun y hy => ?_, List.Pairwise.filter _ (List.pairwise_cons.2 h)⟩
      rw [List.mem_filter] at hy
      have hne : y ≠ key := by simpa using hy.2
      rcases List.mem_cons.1 hy.1 with rfl | hy
      · omega
      · have := h.1 y hy; omega
    · rename_i hle
      rw [List.pairwise_cons]
      refine ⟨fun y hy => ?_, layR_rise h.2⟩
      rcases layR_mem.1 hy with rfl | hy
      · omega
      · exact h.1 y hy
theorem fold_facts : ∀ {ks l : List Int}, l.Pairwise (· < ·) → (ks.foldl (fun l k => layR k l) l).Pairwise (· < ·) ∧ ∀ y, y ∈ ks.foldl (fun l k => layR k l) l ↔ y ∈ l ∨ y ∈ ks
  | [], l, h => ⟨h, fun y => by simp⟩
  | k :: ks, l, h => by
    obtain ⟨a, b⟩ := fold_facts (ks := ks) (layR_rise (key := k) h)
    refine ⟨a, fun y => ?_⟩
    rw [List.foldl_cons, b y, layR_mem, List.mem_cons]
    constructor
    · rintro ((h | h) | h)
      · exact .inr (.inl h)
      · exact .inl h
      · exact .inr (.inr h)
    · rintro (h | h | h)
      · exact .inl (.inr h)
      · exact .inl (.inl h)
      · exact .inr h
theorem keysF_rise (fs : List Fp) : (keysF fs).Pairwise (· < ·) := (fold_facts (ks := keysA fs) List.Pairwise.nil).1
theorem keysF_mem {fs : List Fp} {y : Int} : y ∈ keysF fs ↔ y ∈ keysA fs := by
  have := (fold_facts (ks := keysA fs) (l := []) List.Pairwise.nil).2 y
  unfold keysF; rw [this]; simp
/-- two rising lists of the same numbers are one -/
theorem rise_unique {xs ys : List Int} (hx : xs.Pairwise (· < ·)) (hy : ys.Pairwise (· < ·)) (h : ∀ z, z ∈ xs ↔ z ∈ ys) : xs = ys := by
  have nx : xs.Nodup := hx.imp (fun {a b} h => by omega)
  have ny : ys.Nodup := hy.imp (fun {a b} h => by omega)
  exact List.Perm.eq_of_pairwise (le := fun a b => a < b) (fun a b _ _ h1 h2 => by omega) hx hy ((List.perm_ext_iff_of_nodup nx ny).2 h)
theorem sort_rise {ss : List Int} (hn : ss.Nodup) : (ss.mergeSort leI).Pairwise (· < ·) := by
  have tr : ∀ a b c : Int, leI a b = true → leI b c = true → leI a c = true := fun a b c h1 h2 => by simp only [leI, decide_eq_true_eq] at *; exact Int.le_trans h1 h2
  have to : ∀ a b : Int, (leI a b || leI b a) = true := fun a b => by simp only [leI, Bool.or_eq_true, decide_eq_true_eq]; exact Int.le_total a b
  have h1 := List.pairwise_mergeSort tr to ss
  have h2 : (ss.mergeSort leI).Nodup := (List.mergeSort_perm ss leI).nodup_iff.2 hn
  refine (h1.and h2).imp fun {a b} h => ?_
  obtain ⟨p, q⟩ := h
  simp only [leI, decide_eq_true_eq] at p
  have : a ≠ b := q
  omega
theorem keysF_sorted {fs : List Fp} {ss : List Int} (hn : ss.Nodup) (h : ∀ y, y ∈ ss ↔ y ∈ keysA fs) : ss.mergeSort leI = keysF fs :=
  rise_unique (sort_rise hn) (keysF_rise fs) fun z => by rw [keysF_mem, ← h z]; exact (List.mergeSort_perm ss leI).mem_iff
theorem keysR_take {r : List Rc} {k : Nat} {x : Rc} (hk : k < r.length) (hx : r.getD k (0, 0) = x) : keysR (r.take (k + 1)) = keysR (r.take k) ++ [x.1] := by
  unfold keysR; rw [take_snocG hk hx]; simp
theorem keysL_take {ls : List (List Rc)} {k : Nat} {r : List Rc} (hk : k < ls.length) (hr : ls.getD k [] = r) : keysL (ls.take (k + 1)) = keysL (ls.take k) ++ keysR r := by
  unfold keysL; rw [take_snocG hk hr]; simp
theorem keysA_take {fs : List Fp} {k : Nat} {f : Fp} (hk : k < fs.length) (hf : fs.getD k default = f) : keysA (fs.take (k + 1)) = keysA (fs.take k) ++ keysL f.parts := by
  unfold keysA; rw [take_snocG hk hf]; simp
theorem keysR_len (r : List Rc) : (keysR r).length = r.length := by simp [keysR]
theorem keysL_len (ls : List (List Rc)) : (keysL ls).length = cntL ls := by
  unfold keysL cntL
  induction ls with
  | nil => rfl
  | cons r ls ih => rw [List.flatMap_cons, List.length_append, keysR_len, ih, List.map_cons, List.sum_cons]
theorem keysA_len (fs : List Fp) : (keysA fs).length = cntF fs := by
  unfold keysA cntF
  induction fs with
  | nil => rfl
  | cons f fs ih => rw [List.flatMap_cons, List.length_append, keysL_len, ih, List.map_cons, List.sum_cons]
theorem layR_len (key : Int) : ∀ xs : List Int, (layR key xs).length ≤ xs.length + 1
  | [] => by simp [layR]
  | x :: xs => by
    rw [layR]
    split
    · have := List.length_filter_le (fun y => decide (y ≠ key)) (x :: xs)
      simp only [List.length_cons] at *; omega
    · have := layR_len key xs
      simp only [List.length_cons]; omega
theorem fold_len : ∀ (ks l : List Int), (ks.foldl (fun l k => layR k l) l).length ≤ l.length + ks.length
  | [], l => by simp
  | k :: ks, l => by
    have h1 := fold_len ks (layR k l)
    have h2 := layR_len k l
    rw [List.foldl_cons, List.length_cons]; omega
theorem keysF_len (fs : List Fp) : (keysF fs).length ≤ cntF fs := by
  have := fold_len (keysA fs) []
  rw [keysA_len] at this
  unfold keysF; simpa using this
end Go.Proofs.Ytaodbjgcidkpkaa.Fd
