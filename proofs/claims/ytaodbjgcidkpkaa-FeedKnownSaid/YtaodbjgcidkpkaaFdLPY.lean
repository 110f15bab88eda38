/- Feeds of which one partition is another one; in plain Lean. No program is named. -/
import Derived.Test.YtaodbjgcidkpkaaFdCY

namespace Go.Proofs.Ytaodbjgcidkpkaa.Fd
open Go Sp

/-- partition k of feed i is r -/
def setP (fs : List Fp) (i k : Nat) (r : List Rc) : List Fp := fs.set i ⟨(fs.getD i default).op, (fs.getD i default).parts.set k r⟩
section
variable {fs : List Fp} {i k : Nat} {r : List Rc}
theorem setP_len : (setP fs i k r).length = fs.length := by simp [setP]
theorem setP_at (hi : i < fs.length) : (setP fs i k r).getD i default = ⟨(fs.getD i default).op, (fs.getD i default).parts.set k r⟩ := by
  rw [getD_el (by rw [setP_len]; exact hi)]
  unfold setP; simp
theorem setP_ne {j : Nat} (hj : j ≠ i) : (setP fs i k r).getD j default = fs.getD j default := by
  unfold setP
  simp only [List.getD_eq_getElem?_getD, List.getElem?_set_ne (show i ≠ j by omega)]
theorem setP_op (j : Nat) : ((setP fs i k r).getD j default).op = (fs.getD j default).op := by
  by_cases hj : j = i
  · subst hj
    by_cases hi : j < fs.length
    · rw [setP_at hi]
    · unfold setP; rw [List.set_eq_of_length_le (by omega)]
  · rw [setP_ne hj]
theorem setP_plen (j : Nat) : ((setP fs i k r).getD j default).parts.length = (fs.getD j default).parts.length := by
  by_cases hj : j = i
  · subst hj
    by_cases hi : j < fs.length
    · rw [setP_at hi]; simp
    · unfold setP; rw [List.set_eq_of_length_le (by omega)]
  · rw [setP_ne hj]
theorem setP_ops : (setP fs i k r).map (·.op) = fs.map (·.op) := by
  apply List.ext_getElem (by simp [setP_len])
  intro j h1 h2
  have hj : j < fs.length := by simpa using h2
  have := setP_op (fs := fs) (i := i) (k := k) (r := r) j
  rw [getD_el (by rw [setP_len]; exact hj), getD_el hj] at this
  simpa using this
theorem partAt_setP (hi : i < fs.length) (hk : k < (fs.getD i default).parts.length) : partAt (setP fs i k r) i k = r := by
  unfold partAt
  rw [setP_at hi, getD_el (by simpa using hk)]; simp
theorem partAt_ne {j m : Nat} (hi : i < fs.length) (h : j ≠ i ∨ m ≠ k) : partAt (setP fs i k r) j m = partAt fs j m := by
  unfold partAt
  by_cases hj : j = i
  · subst hj
    have hm : m ≠ k := by omega
    rw [setP_at hi]
    simp only [List.getD_eq_getElem?_getD, List.getElem?_set_ne (show k ≠ m by omega)]
  · rw [setP_ne hj]
theorem sum_set {α : Type} (g : α → Nat) (d : α) : ∀ {xs : List α} {i : Nat} {y : α}, i < xs.length → ((xs.set i y).map g).sum + g (xs.getD i d) = (xs.map g).sum + g y
  | [], _, _, h => by simp at h
  | x :: xs, 0, y, _ => by simp; omega
  | x :: xs, i + 1, y, h => by
    have := sum_set g d (xs := xs) (i := i) (y := y) (by simpa using h)
    simp only [List.set_cons_succ, List.map_cons, List.sum_cons, List.getD_cons_succ] at *
    omega
theorem cntL_set {ls : List (List Rc)} {k : Nat} {r : List Rc} (hk : k < ls.length) : cntL (ls.set k r) + (ls.getD k []).length = cntL ls + r.length := sum_set List.length [] hk
theorem cntF_setP (hi : i < fs.length) (hk : k < (fs.getD i default).parts.length) : cntF (setP fs i k r) + (partAt fs i k).length = cntF fs + r.length := by
  have h1 := sum_set (fun f : Fp => cntL f.parts) default (xs := fs) (i := i) (y := ⟨(fs.getD i default).op, (fs.getD i default).parts.set k r⟩) hi
  have h2 := cntL_set (r := r) hk
  unfold setP cntF partAt at *
  simp only at h1
  omega
theorem cntL_setP (hi : i < fs.length) (hk : k < (fs.getD i default).parts.length) : cntL ((setP fs i k r).getD i default).parts + (partAt fs i k).length = cntL (fs.getD i default).parts + r.length := by
  rw [setP_at hi]; exact cntL_set hk
theorem prtF_setP : prtF (setP fs i k r) = prtF fs := by
  unfold prtF
  congr 1
  apply List.ext_getElem (by simp [setP_len])
  intro j h1 h2
  have hj : j < fs.length := by simpa using h2
  have := setP_plen (fs := fs) (i := i) (k := k) (r := r) j
  rw [getD_el (by rw [setP_len]; exact hj), getD_el hj] at this
  simpa using this
end
theorem keysA_iff {fs : List Fp} {x : Int} : x ∈ keysA fs ↔ ∃ i k, x ∈ keysR (partAt fs i k) := by
  unfold keysA keysL
  rw [List.mem_flatMap]
  constructor
  · rintro ⟨f, hf, hx⟩
    rw [List.mem_flatMap] at hx
    obtain ⟨r, hr, hx⟩ := hx
    obtain ⟨i, hi, rfl⟩ := List.mem_iff_getElem.1 hf
    obtain ⟨k, hk, rfl⟩ := List.mem_iff_getElem.1 hr
    exact ⟨i, k, by unfold partAt; rw [getD_el hi, getD_el hk]; exact hx⟩
  · rintro ⟨i, k, hx⟩
    obtain ⟨hi, hk⟩ := partAt_in hx
    unfold partAt at hx
    exact ⟨_, feeds_mem hi, List.mem_flatMap.2 ⟨_, lists_mem hk, hx⟩⟩
theorem chkF_zero {l : List OpP} {fs : List Fp} : chkF l fs = 0 ↔ fs.map (·.op) = kindF l 1 ∧ (∀ j, j < fs.length → manyB l (fs.getD j default) = true) ∧ Apart fs := by
  unfold chkF keysE
  constructor
  · intro h
    split at h
    · split at h
      · split at h
        · rename_i h1 h2 h3
          exact ⟨h1, fun j hj => (List.all_eq_true.1 h2) _ (feeds_mem hj), h3⟩
        · cases h
      · cases h
    · cases h
  · rintro ⟨h1, h2, h3⟩
    rw [if_pos h1, if_pos, if_pos h3]
    rw [List.all_eq_true]
    intro f hf
    obtain ⟨j, hj, rfl⟩ := List.mem_iff_getElem.1 hf
    have := h2 j hj
    rwa [getD_el hj] at this
/-- what is right with another partition -/
theorem chkF_set {l : List OpP} {fs : List Fp} {i k : Nat} {r : List Rc} (h : chkF l fs = 0) (hi : i < fs.length) (_hk : k < (fs.getD i default).parts.length) :
    chkF l (setP fs i k r) = if cntL ((setP fs i k r).getD i default).parts ≤ 200 then keysE (setP fs i k r) else 3 := by
  obtain ⟨h1, h2, h3⟩ := chkF_zero.1 h
  have e : (setP fs i k r).map (·.op) = kindF l 1 := by rw [setP_ops, h1]
  have hm : ∀ j, j < fs.length → j ≠ i → manyB l ((setP fs i k r).getD j default) = true := fun j hj hne => by rw [setP_ne hne]; exact h2 j hj
  have hi2 : manyB l ((setP fs i k r).getD i default) = decide (cntL ((setP fs i k r).getD i default).parts ≤ 200) := by
    have := h2 i hi
    unfold manyB at *
    rw [Bool.and_eq_true, decide_eq_true_eq] at this
    rw [setP_plen, setP_op, decide_eq_true this.1, Bool.true_and]
  by_cases hc : cntL ((setP fs i k r).getD i default).parts ≤ 200
  · rw [if_pos hc]
    refine chkF_keys e fun j hj => ?_
    rw [setP_len] at hj
    by_cases hne : j = i
    · subst hne; rw [hi2]; exact decide_eq_true hc
    · exact hm j hj hne
  · rw [if_neg hc]
    exact chkF_many e (by rw [setP_len]; exact hi) rfl (by rw [hi2]; exact decide_eq_false hc)

/-- a record less -/
def lessR (r : List Rc) (n : Nat) : List Rc := r.take n ++ r.drop (n + 1)
theorem lessR_len {r : List Rc} {n : Nat} (h : n < r.length) : (lessR r n).length + 1 = r.length := by
  unfold lessR; rw [List.length_append, List.length_take, List.length_drop]; omega
theorem lessR_mem {r : List Rc} {n : Nat} {y : Rc} (h : y ∈ lessR r n) : y ∈ r := by
  unfold lessR at h
  rcases List.mem_append.1 h with h | h
  · exact List.mem_of_mem_take h
  · exact List.mem_of_mem_drop h
theorem lessR_sub {r : List Rc} {n : Nat} {x : Int} (h : x ∈ keysR (lessR r n)) : x ∈ keysR r := by
  unfold keysR at *
  obtain ⟨y, hy, e⟩ := List.mem_map.1 h
  exact List.mem_map.2 ⟨y, lessR_mem hy, e⟩
theorem lessR_other {r : List Rc} {n : Nat} (hn : n < r.length) {x : Int} (h : x ∈ keysR r) (hne : x ≠ (r.getD n (0, 0)).1) : x ∈ keysR (lessR r n) := by
  unfold keysR lessR at *
  obtain ⟨y, hy, e⟩ := List.mem_map.1 h
  obtain ⟨j, hj, rfl⟩ := List.mem_iff_getElem.1 hy
  refine List.mem_map.2 ⟨r[j], ?_, e⟩
  rcases Nat.lt_trichotomy j n with hlt | rfl | hlt
  · exact List.mem_append_left _ (List.mem_iff_getElem.2 ⟨j, by rw [List.length_take]; omega, by simp⟩)
  · rw [getD_el hj] at hne; exact absurd e.symm hne
  · exact List.mem_append_right _ (List.mem_iff_getElem.2 ⟨j - (n + 1), by rw [List.length_drop]; omega, by rw [List.getElem_drop]; congr 1; omega⟩)
section
variable {l : List OpP} {fs : List Fp} {i k n : Nat}
theorem less_apart (h : Apart fs) (hi : i < fs.length) (hk : k < (fs.getD i default).parts.length) {r' : List Rc} (hs : ∀ x, x ∈ keysR r' → x ∈ keysR (partAt fs i k)) : Apart (setP fs i k r') := by
  rw [apart_iff] at h ⊢
  have e : ∀ j m x, x ∈ keysR (partAt (setP fs i k r') j m) → x ∈ keysR (partAt fs j m) := fun j m x hx => by
    by_cases hjm : j = i ∧ m = k
    · obtain ⟨rfl, rfl⟩ := hjm
      rw [partAt_setP hi hk] at hx
      exact hs x hx
    · rwa [partAt_ne hi (by omega)] at hx
  exact fun a b c d x hx hy => h a b c d x (e _ _ _ hx) (e _ _ _ hy)
theorem less_chk (h : chkF l fs = 0) (hi : i < fs.length) (hk : k < (fs.getD i default).parts.length) (hn : n < (partAt fs i k).length) : chkF l (setP fs i k (lessR (partAt fs i k) n)) = 0 := by
  obtain ⟨h1, h2, h3⟩ := chkF_zero.1 h
  rw [chkF_set h hi hk, if_pos]
  · exact if_pos (less_apart h3 hi hk fun x hx => lessR_sub hx)
  · have a := cntL_setP (r := lessR (partAt fs i k) n) hi hk
    have b := lessR_len hn
    have c := h2 i hi
    unfold manyB at c
    rw [Bool.and_eq_true, decide_eq_true_eq, decide_eq_true_eq] at c
    have := c.2
    omega
theorem less_cnt (hi : i < fs.length) (hk : k < (fs.getD i default).parts.length) (hn : n < (partAt fs i k).length) : cntF (setP fs i k (lessR (partAt fs i k) n)) + 1 = cntF fs := by
  have a := cntF_setP (r := lessR (partAt fs i k) n) hi hk
  have b := lessR_len hn
  omega
theorem less_keys (h : chkF l fs = 0) (hi : i < fs.length) (hk : k < (fs.getD i default).parts.length) (hn : n < (partAt fs i k).length) {key : Int} (hkey : ((partAt fs i k).getD n (0, 0)).1 = key) :
    keysF (setP fs i k (lessR (partAt fs i k) n)) = (keysF fs).filter fun y => decide (y ≠ key) || decide (key ∈ keysR (lessR (partAt fs i k) n)) := by
  obtain ⟨h1, h2, h3⟩ := chkF_zero.1 h
  have hin : key ∈ keysR (partAt fs i k) := by
    unfold keysR
    exact List.mem_map.2 ⟨_, List.mem_of_getElem? (i := n) (by rw [List.getElem?_eq_getElem hn, ← getD_el hn (0, 0)]), hkey⟩
  refine rise_unique (keysF_rise _) ((keysF_rise fs).filter _) fun z => ?_
  rw [keysF_mem, List.mem_filter, keysF_mem, keysA_iff, keysA_iff, Bool.or_eq_true, decide_eq_true_eq, decide_eq_true_eq]
  constructor
  · rintro ⟨j, m, hz⟩
    by_cases hjm : j = i ∧ m = k
    · obtain ⟨rfl, rfl⟩ := hjm
      rw [partAt_setP hi hk] at hz
      refine ⟨⟨j, m, lessR_sub hz⟩, ?_⟩
      by_cases e : z = key
      · subst e; exact .inr hz
      · exact .inl e
    · rw [partAt_ne hi (by omega)] at hz
      refine ⟨⟨j, m, hz⟩, .inl fun e => hjm ?_⟩
      subst e
      exact apart_iff.1 h3 j m i k z hz hin
  · rintro ⟨⟨j, m, hz⟩, hor⟩
    by_cases hjm : j = i ∧ m = k
    · obtain ⟨rfl, rfl⟩ := hjm
      refine ⟨j, m, ?_⟩
      rw [partAt_setP hi hk]
      rcases hor with e | e
      · exact lessR_other hn hz (by rw [hkey]; exact e)
      · by_cases e2 : z = key
        · subst e2; exact e
        · exact lessR_other hn hz (by rw [hkey]; exact e2)
    · exact ⟨j, m, by rw [partAt_ne hi (by omega)]; exact hz⟩
end

/-- in how many partitions a key stands -/
def inL (ls : List (List Rc)) (key : Int) : Nat := (ls.map fun r => if key ∈ keysR r then 1 else 0).sum
def inF (fs : List Fp) (key : Int) : Nat := (fs.map fun f => inL f.parts key).sum
theorem inL_take {ls : List (List Rc)} {key : Int} {k : Nat} {r : List Rc} (hk : k < ls.length) (hr : ls.getD k [] = r) : inL (ls.take (k + 1)) key = inL (ls.take k) key + if key ∈ keysR r then 1 else 0 := sum_take _ hk hr
theorem inF_take {fs : List Fp} {key : Int} {k : Nat} {f : Fp} (hk : k < fs.length) (hf : fs.getD k default = f) : inF (fs.take (k + 1)) key = inF (fs.take k) key + inL f.parts key := sum_take _ hk hf
theorem inL_le (ls : List (List Rc)) (key : Int) : inL ls key ≤ ls.length := by
  unfold inL
  induction ls with
  | nil => simp
  | cons r ls ih => rw [List.map_cons, List.sum_cons, List.length_cons]; split <;> omega
theorem inF_le (fs : List Fp) (key : Int) : inF fs key ≤ prtF fs := by
  unfold inF prtF
  induction fs with
  | nil => simp
  | cons f fs ih => rw [List.map_cons, List.map_cons, List.sum_cons, List.sum_cons]; have := inL_le f.parts key; omega
theorem sum_le2 {α : Type} (g : α → Nat) (xs : List α) (k : Nat) : ((xs.take k).map g).sum ≤ (xs.map g).sum := sum_le g xs k
theorem sum_one {α : Type} (g : α → Nat) (d : α) : ∀ {xs : List α} {i : Nat}, i < xs.length → g (xs.getD i d) = 1 → (∀ j, j < xs.length → j ≠ i → g (xs.getD j d) = 0) → (xs.map g).sum = 1
  | [], _, h, _, _ => by simp at h
  | x :: xs, 0, _, h1, h0 => by
    have hz : (xs.map g).sum = 0 := by
      have : ∀ y ∈ xs, g y = 0 := fun y hy => by
        obtain ⟨j, hj, rfl⟩ := List.mem_iff_getElem.1 hy
        have := h0 (j + 1) (by simpa using hj) (by omega)
        rw [getD_el (by simpa using hj)] at this
        simpa using this
      rw [List.sum_eq_zero_iff_forall_eq_nat]
      intro n hn
      obtain ⟨y, hy, rfl⟩ := List.mem_map.1 hn
      exact this y hy
    rw [List.map_cons, List.sum_cons, hz]
    simpa using h1
  | x :: xs, i + 1, h, h1, h0 => by
    have hx : g x = 0 := by simpa using h0 0 (by simp) (by omega)
    rw [List.map_cons, List.sum_cons, hx, Nat.zero_add]
    exact sum_one g d (i := i) (by simpa using h) (by simpa using h1) fun j hj hne => by simpa using h0 (j + 1) (by simpa using hj) (by omega)
theorem sum_zero {α : Type} (g : α → Nat) {xs : List α} (h : ∀ y ∈ xs, g y = 0) : (xs.map g).sum = 0 := by
  rw [List.sum_eq_zero_iff_forall_eq_nat]
  intro n hn
  obtain ⟨y, hy, rfl⟩ := List.mem_map.1 hn
  exact h y hy
theorem inF_one {l : List OpP} {fs : List Fp} (h : chkF l fs = 0) {key : Int} (hk : key ∈ keysF fs) : inF fs key = 1 := by
  obtain ⟨-, -, h3⟩ := chkF_zero.1 h
  rw [keysF_mem, keysA_iff] at hk
  obtain ⟨i, k, hx⟩ := hk
  obtain ⟨hi, hk⟩ := partAt_in hx
  have hu : ∀ j m, key ∈ keysR (partAt fs j m) → j = i ∧ m = k := fun j m hy => apart_iff.1 h3 j m i k key hy hx
  refine sum_one (fun f : Fp => inL f.parts key) default (i := i) hi ?_ ?_
  · refine sum_one (fun r => if key ∈ keysR r then 1 else 0) [] (i := k) hk (if_pos hx) fun m hm hne => if_neg fun hc => hne ?_
    exact (hu i m hc).2
  · intro j hj hne
    refine sum_zero _ fun r hr => if_neg fun hc => hne ?_
    obtain ⟨m, hm, rfl⟩ := List.mem_iff_getElem.1 hr
    exact (hu j m (by unfold partAt; rw [getD_el hm]; exact hc)).1

/-- with a record more -/
theorem more_keys {r : List Rc} {key y x : Int} : x ∈ keysR (r ++ [(key, y)]) ↔ x ∈ keysR r ∨ x = key := by simp [keysR]
theorem more_chk {l : List OpP} {fs : List Fp} {i k : Nat} {key : Int} (h : chkF l fs = 0) (hi : i < fs.length) (hk : k < (fs.getD i default).parts.length) (hkey : key ∈ keysF fs) :
    chkF l (setP fs i k (partAt fs i k ++ [(key, 0)])) = if cntL (fs.getD i default).parts + 1 ≤ 200 then (if key ∈ keysR (partAt fs i k) then 0 else 10) else 3 := by
  obtain ⟨h1, h2, h3⟩ := chkF_zero.1 h
  have hc := cntL_setP (r := partAt fs i k ++ [(key, 0)]) hi hk
  rw [List.length_append] at hc
  simp only [List.length_singleton] at hc
  rw [chkF_set h hi hk, show cntL ((setP fs i k (partAt fs i k ++ [(key, 0)])).getD i default).parts = cntL (fs.getD i default).parts + 1 by omega]
  by_cases h200 : cntL (fs.getD i default).parts + 1 ≤ 200
  · rw [if_pos h200, if_pos h200]
    by_cases hin : key ∈ keysR (partAt fs i k)
    · rw [if_pos hin]
      refine if_pos (less_apart h3 hi hk fun x hx => ?_)
      rcases more_keys.1 hx with hx | rfl
      · exact hx
      · exact hin
    · rw [if_neg hin]
      refine if_neg fun ha => ?_
      rw [keysF_mem, keysA_iff] at hkey
      obtain ⟨j, m, hx⟩ := hkey
      have hne : ¬ (j = i ∧ m = k) := by rintro ⟨rfl, rfl⟩; exact hin hx
      refine hne (apart_iff.1 ha j m i k key ?_ ?_)
      · rw [partAt_ne hi (by omega)]; exact hx
      · rw [partAt_setP hi hk]; exact more_keys.2 (.inr rfl)
  · rw [if_neg h200, if_neg h200]
end Go.Proofs.Ytaodbjgcidkpkaa.Fd
