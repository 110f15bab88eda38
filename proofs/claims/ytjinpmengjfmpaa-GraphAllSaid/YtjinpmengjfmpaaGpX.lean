/- All edges: how many, which, each once, in plain Lean. No program in sight. -/
import Derived.Test.YtjinpmengjfmpaaGpU
import Derived.Test.YtjinpmengjfmpaaGpV
namespace Go.Proofs.Ytjinpmengjfmpaa.Gp
open Go M Sp

section
variable {l : List OpP} {par : List Int}
/-! how many -/
def cntK (par ins : List Int) (k : Nat) : Nat := (edgesK par 0 ins k).length
theorem cntK_any (n : Nat) (ins : List Int) : ∀ k, (edgesK par n ins k).length = cntK par ins k
  | 0 => by simp [cntK, edgesK]
  | k + 1 => by
    unfold cntK
    by_cases hk : k < ins.length
    · rw [edgesK_snoc hk rfl, edgesK_snoc hk rfl, List.length_append, List.length_append, edgesI_len, edgesI_len, cntK_any n ins k]; rfl
    · have e : ∀ n, edgesK par n ins (k + 1) = edgesK par n ins k := fun n => by unfold edgesK; rw [List.take_of_length_le (by omega), List.take_of_length_le (by omega)]
      rw [e, e, cntK_any n ins k]; rfl
theorem cntK_zero (ins : List Int) : cntK par ins 0 = 0 := by simp [cntK, edgesK]
theorem cntK_succ {ins : List Int} {k : Nat} {v : Int} (hk : k < ins.length) (hv : ins.getD k 0 = v) : cntK par ins (k + 1) = cntK par ins k + (par.getD v.toNat 0).toNat := by
  unfold cntK; rw [edgesK_snoc hk hv, List.length_append, edgesI_len]
theorem cntK_le (h8 : ∀ x ∈ par, x ≤ 8) (ins : List Int) (k : Nat) : cntK par ins k ≤ 8 * k := edgesK_len h8 k
theorem spot_block {i t : Nat} (hi : i < par.length) (ht : t < (par.getD i 0).toNat) : (spotsP par).getD ((upto par i).length + t) (0, 0) = ((i : Int), (t : Int)) ∧ (upto par i).length + t < (spotsP par).length := by
  obtain ⟨r, hr⟩ := spots_split (par := par) hi ht
  refine ⟨?_, ?_⟩
  · unfold spotsP
    rw [hr]
    unfold prs
    rw [List.getD_eq_getElem?_getD, List.getElem?_map, List.getElem?_append_right (by rw [uptoT_len]; omega), uptoT_len]
    simp
  · rw [spotsP_len, hr]; simp [uptoT_len]
theorem edges_block {i : Nat} (hi : i < par.length) : ∀ t, t ≤ (par.getD i 0).toNat → (edgesTo l par ((upto par i).length + t)).length = (edgesTo l par (upto par i).length).length + t * cntK par (insOf l i) (insOf l i).length
  | 0, _ => by simp
  | t + 1, ht => by
    obtain ⟨h1, h2⟩ := spot_block (par := par) hi (t := t) (by omega)
    rw [← Nat.add_assoc, edgesTo_snoc h2 h1, List.length_append, edges_block hi t (by omega), cntK_any, Nat.add_mul]
    omega
def wantF (l : List OpP) (par : List Int) (i : Nat) : Nat := (edgesTo l par (upto par i).length).length
theorem wantF_zero : wantF l par 0 = 0 := by simp [wantF, upto, edgesTo]
theorem wantF_succ {i : Nat} (hi : i < par.length) : wantF l par (i + 1) = wantF l par i + (par.getD i 0).toNat * cntK par (insOf l i) (insOf l i).length := by
  unfold wantF
  rw [upto_len, edges_block hi _ (Nat.le_refl _)]
theorem wantF_all : wantF l par par.length = (edgesP l par).length := by
  unfold wantF
  rw [show (upto par par.length).length = (spotsP par).length by rw [spotsP_len]; rfl, edgesTo_all]

/-! which -/
/-- from a task of an operator to a task that has it as an input -/
structure IsEdge (l : List OpP) (par : List Int) (e : Int × Int) : Prop where
  ex : ∃ m t j s k : Nat, e = ((((upto par m).length + t : Nat) : Int), (((upto par j).length + s : Nat) : Int)) ∧ m < par.length ∧ t < (par.getD m 0).toNat ∧ j < par.length ∧ s < (par.getD j 0).toNat ∧ k < (insOf l j).length ∧ (insOf l j).getD k 0 = (m : Int)
theorem edge_is (hin : ∀ i, i < par.length → ∀ x ∈ insOf l i, ∃ j : Nat, x = j ∧ j < par.length) {e : Int × Int} (h : e ∈ edgesP l par) : IsEdge l par e := by
  unfold edgesP at h
  obtain ⟨x, hx, he⟩ := List.mem_flatMap.1 h
  have h1 := mem_spots hx
  have h2 := mem_upto_num par.length x hx
  unfold edgesAt edgesK at he
  rw [List.take_length] at he
  obtain ⟨i, hi, he⟩ := List.mem_flatMap.1 he
  obtain ⟨s, hs, rfl⟩ := List.mem_map.1 he
  obtain ⟨m, rfl, hm⟩ := hin x.2.1 h1.1 i hi
  obtain ⟨k, hk, e2⟩ := mem_getD hi
  exact ⟨m, s, x.2.1, x.2.2, k, by rw [h2]; rfl, hm, List.mem_range.1 hs, h1.1, by omega, hk, e2⟩
theorem is_edge {m t j s k : Nat} (hm : m < par.length) (ht : t < (par.getD m 0).toNat) (hj : j < par.length) (hs : s < (par.getD j 0).toNat) (hk : k < (insOf l j).length) (hv : (insOf l j).getD k 0 = (m : Int)) :
    ∃ p, p < (edgesP l par).length ∧ (edgesP l par).getD p (0, 0) = ((((upto par m).length + t : Nat) : Int), (((upto par j).length + s : Nat) : Int)) := by
  obtain ⟨h1, h2⟩ := spot_block (par := par) hj hs
  obtain ⟨h3, h4⟩ := edge_at (l := l) (par := par) h2 h1 hk hv (j := t) (by rw [show ((m : Int)).toNat = m by omega]; exact ht)
  exact ⟨_, h3, h4⟩

/-! each once -/
theorem place_inj {m t m' t' : Nat} (ht : t < (par.getD m 0).toNat) (ht' : t' < (par.getD m' 0).toNat) (h : (upto par m).length + t = (upto par m').length + t') : m = m' ∧ t = t' := by
  have h1 := upto_len (par := par) m
  have h2 := upto_len (par := par) m'
  have : m = m' := by
    refine Classical.byContradiction fun hc => ?_
    rcases Nat.lt_or_gt_of_ne hc with h3 | h3
    · have := upto_mono (par := par) (i := m + 1) (j := m') (by omega); omega
    · have := upto_mono (par := par) (i := m' + 1) (j := m) (by omega); omega
  subst this
  exact ⟨rfl, by omega⟩
theorem edgesI_nodup (n : Nat) (i : Int) (t : Nat) : (edgesI par n i t).Nodup := by
  unfold edgesI
  rw [List.nodup_iff_pairwise_ne, List.pairwise_map]
  have := List.nodup_range (n := t)
  rw [List.nodup_iff_pairwise_ne] at this
  exact this.imp fun {a b} h hc => by injection hc with hc; omega
theorem edgesK_nodup {n : Nat} {ins : List Int} (hin : ∀ x ∈ ins, ∃ j : Nat, x = j ∧ j < par.length) (hnd : ∀ a b, a < b → b < ins.length → ins.getD a 0 ≠ ins.getD b 0) : ∀ k, (edgesK par n ins k).Nodup
  | 0 => by rw [edgesK_zero]; exact List.nodup_nil
  | k + 1 => by
    by_cases hk : k < ins.length
    · rw [edgesK_snoc hk rfl]
      have ih := edgesK_nodup (n := n) hin hnd k
      rw [List.nodup_append]
      refine ⟨ih, edgesI_nodup _ _ _, fun x hx y hy hxy => ?_⟩
      subst hxy
      unfold edgesK at hx
      obtain ⟨v, hv, hx⟩ := List.mem_flatMap.1 hx
      obtain ⟨s, hs, rfl⟩ := List.mem_map.1 hx
      obtain ⟨s', hs', e⟩ := List.mem_map.1 hy
      injection e with e _
      have hvm : v ∈ ins := List.mem_of_mem_take hv
      obtain ⟨m, rfl, hm⟩ := hin v hvm
      obtain ⟨m', hm', hmp⟩ := hin _ (getD_mem hk)
      rw [hm'] at hs' e
      have hs1 := List.mem_range.1 hs
      have hs2 := List.mem_range.1 hs'
      have := place_inj (par := par) (m := m) (t := s) (m' := m') (t' := s') (by simpa using hs1) (by simpa using hs2) (by
        have e2 : (upto par ((m' : Int)).toNat).length + s' = (upto par ((m : Int)).toNat).length + s := by exact_mod_cast e
        have e3 : ((m' : Int)).toNat = m' := by omega
        have e4 : ((m : Int)).toNat = m := by omega
        rw [e3, e4] at e2; omega)
      obtain ⟨a, ha, ea⟩ := List.getElem_of_mem hv
      rw [List.length_take] at ha
      rw [List.getElem_take] at ea
      refine hnd a k (by omega) hk ?_
      rw [hm', List.getD_eq_getElem?_getD, List.getElem?_eq_getElem (by omega)]
      simp only [Option.getD_some]
      rw [ea, this.1]
    · have : edgesK par n ins (k + 1) = edgesK par n ins k := by unfold edgesK; rw [List.take_of_length_le (by omega), List.take_of_length_le (by omega)]
      rw [this]; exact edgesK_nodup hin hnd k
theorem edgesTo_nodup (hin : ∀ i, i < par.length → ∀ x ∈ insOf l i, ∃ j : Nat, x = j ∧ j < par.length) (hnd : ∀ i, i < par.length → ∀ a b, a < b → b < (insOf l i).length → (insOf l i).getD a 0 ≠ (insOf l i).getD b 0) : ∀ k, (edgesTo l par k).Nodup
  | 0 => by unfold edgesTo; simp
  | k + 1 => by
    have ih := edgesTo_nodup hin hnd k
    by_cases hk : k < (spotsP par).length
    · obtain ⟨m, t, hy, hm, -, -⟩ := at_place (par := par) hk rfl
      rw [edgesTo_snoc hk hy, List.nodup_append]
      refine ⟨ih, edgesK_nodup (hin m hm) (hnd m hm) _, fun x hx y hy hxy => ?_⟩
      subst hxy
      have h1 := edgesTo_to hx
      have h2 := edgesK_to hy
      omega
    · have : edgesTo l par (k + 1) = edgesTo l par k := by
        unfold edgesTo
        rw [spotsP_len] at hk
        rw [List.take_of_length_le (by omega), List.take_of_length_le (by omega)]
      rw [this]; exact ih

/-! those to and from a task -/
theorem posF_at {f : Int × Int → Bool} : ∀ (p : Nat) (L : List (Int × Int)) (i : Nat), i < (posF f p L).length → ∃ q : Nat, (posF f p L).getD i 0 = ((p + q : Nat) : Int) ∧ q < L.length ∧ f (L.getD q (0, 0)) = true
  | _, [], i, h => by simp [posF] at h
  | p, y :: ys, i, h => by
    unfold posF at h ⊢
    by_cases hf : f y = true
    · rw [if_pos hf] at h ⊢
      cases i with
      | zero => exact ⟨0, by simp, by simp, by simpa using hf⟩
      | succ i =>
        obtain ⟨q, h1, h2, h3⟩ := posF_at (p + 1) ys i (by simpa using h)
        exact ⟨q + 1, by simp at h1 ⊢; omega, by simp; omega, by simpa using h3⟩
    · rw [if_neg hf] at h ⊢
      obtain ⟨q, h1, h2, h3⟩ := posF_at (p + 1) ys i h
      exact ⟨q + 1, by rw [h1]; congr 1; omega, by simp; omega, by simpa using h3⟩
theorem posF_ge {f : Int × Int → Bool} (p : Nat) (L : List (Int × Int)) : ∀ x ∈ posF f p L, (p : Int) ≤ x := by
  intro x hx
  obtain ⟨i, hi, e⟩ := List.getElem_of_mem hx
  obtain ⟨q, h1, -, -⟩ := posF_at p L i hi
  rw [List.getD_eq_getElem?_getD, List.getElem?_eq_getElem hi] at h1
  simp only [Option.getD_some] at h1
  rw [← e, h1]; omega
theorem posF_rise {f : Int × Int → Bool} : ∀ (p : Nat) (L : List (Int × Int)), (posF f p L).Pairwise (· < ·)
  | _, [] => List.Pairwise.nil
  | p, y :: ys => by
    unfold posF
    have ih := posF_rise (f := f) (p + 1) ys
    split
    · refine List.pairwise_cons.2 ⟨fun x hx => ?_, ih⟩
      have := posF_ge (p + 1) ys x hx
      omega
    · exact ih
theorem posF_next {f : Int × Int → Bool} {L : List (Int × Int)} {i : Nat} (h : i + 1 < (posF f 0 L).length) : (posF f 0 L).getD i 0 < (posF f 0 L).getD (i + 1) 0 := by
  have := List.pairwise_iff_getElem.1 (posF_rise (f := f) 0 L) i (i + 1) (by omega) h (by omega)
  rw [List.getD_eq_getElem?_getD, List.getD_eq_getElem?_getD, List.getElem?_eq_getElem (by omega), List.getElem?_eq_getElem h]
  exact this
theorem posF_filter {f : Int × Int → Bool} : ∀ (p : Nat) (L : List (Int × Int)), (posF f p L).length = (L.filter f).length
  | _, [] => rfl
  | p, y :: ys => by
    have ih := posF_filter (f := f) (p + 1) ys
    unfold posF
    by_cases hf : f y = true
    · rw [if_pos hf, List.filter_cons_of_pos hf, List.length_cons, List.length_cons, ih]
    · rw [if_neg hf, List.filter_cons_of_neg (by simpa using hf), ih]
def cntF (E : List (Int × Int)) (k : Nat) : Nat := (E.filter fun e => decide (e.1 < (k : Int))).length
theorem cntF_zero {E : List (Int × Int)} (h : ∀ e ∈ E, 0 ≤ e.1) : cntF E 0 = 0 := by
  unfold cntF
  have : E.filter (fun e => decide (e.1 < ((0 : Nat) : Int))) = [] := by
    rw [List.filter_eq_nil_iff]; intro e he; have := h e he; simp; omega
  rw [this]; rfl
theorem cntF_succ (E : List (Int × Int)) (k : Nat) : cntF E (k + 1) = cntF E k + (outsP E (k : Int)).length := by
  unfold outsP
  rw [posF_filter]
  unfold cntF fromF
  induction E with
  | nil => rfl
  | cons e E ih =>
    simp only [List.filter_cons]
    by_cases h1 : e.1 < (k : Int)
    · have h2 : ¬ e.1 = (k : Int) := by omega
      have h3 : e.1 < (k : Int) + 1 := by omega
      simp [h1, h2, h3]; simp at ih; omega
    · by_cases h2 : e.1 = (k : Int)
      · have h4 : (k : Int) < (k : Int) + 1 := by omega
        simp [h2, h4]; simp at ih; omega
      · have h3 : ¬ e.1 < (k : Int) + 1 := by omega
        simp [h1, h2, h3]; simp at ih; omega
theorem cntF_all {E : List (Int × Int)} {N : Nat} (h : ∀ e ∈ E, e.1 < (N : Int)) : cntF E N = E.length := by
  unfold cntF
  rw [List.filter_eq_self.2]
  intro e he; simpa using h e he
theorem cntF_le (E : List (Int × Int)) (k : Nat) : cntF E k ≤ E.length := List.length_filter_le _ _
/-- the numbers of an edge's ends -/
theorem IsEdge.bd {e : Int × Int} (h : IsEdge l par e) : 0 ≤ e.1 ∧ e.1 < (spotsP par).length ∧ 0 ≤ e.2 ∧ e.2 < (spotsP par).length := by
  obtain ⟨m, t, j, s, k, rfl, hm, ht, hj, hs, -, -⟩ := h.ex
  have h1 := (spot_block (par := par) hm ht).2
  have h2 := (spot_block (par := par) hj hs).2
  simp only
  omega
/-- a task gets edges, if it has inputs -/
theorem cntK_pos (h1 : ∀ x ∈ par, 1 ≤ x) {ins : List Int} (hin : ∀ x ∈ ins, ∃ j : Nat, x = j ∧ j < par.length) : cntK par ins ins.length = 0 ↔ ins = [] := by
  constructor
  · intro h
    cases ins with
    | nil => rfl
    | cons v vs =>
      exfalso
      obtain ⟨r, hr⟩ := edgesK_split (par := par) (n := 0) (ins := v :: vs) (k := 0) (by simp)
      unfold cntK at h
      rw [hr] at h
      simp only [List.length_append, edgesI_len] at h
      obtain ⟨m, rfl, hm⟩ := hin v (by simp)
      have : 1 ≤ par.getD m 0 := h1 _ (getD_mem hm)
      have e : ((m : Int) :: vs).getD 0 0 = (m : Int) := rfl
      rw [e] at h
      have e2 : ((m : Int)).toNat = m := by omega
      rw [e2] at h
      omega
  · rintro rfl; exact cntK_zero _
theorem outs_none (h1 : ∀ x ∈ par, 1 ≤ x) (hp : par.length = l.length) (hin : ∀ i, i < par.length → ∀ x ∈ insOf l i, ∃ j : Nat, x = j ∧ j < par.length) {k m t : Nat} (hk : k = (upto par m).length + t) (hm : m < par.length) (ht : t < (par.getD m 0).toNat) :
    (outsP (edgesP l par) (k : Int)).length = 0 ↔ (usersF l (m : Int)).isEmpty = true := by
  unfold outsP
  rw [posF_filter, List.length_eq_zero_iff, List.filter_eq_nil_iff]
  constructor
  · intro h
    cases hu : usersF l (m : Int) with
    | nil => rfl
    | cons u us =>
      exfalso
      obtain ⟨j, -, hj, hmem⟩ := users_mem.1 (show u ∈ usersF l (m : Int) by rw [hu]; simp)
      obtain ⟨q, hq, e⟩ := mem_getD hmem
      have hj1 : 1 ≤ par.getD j 0 := h1 _ (getD_mem (by omega))
      obtain ⟨p, hp2, e2⟩ := is_edge (l := l) (par := par) (s := 0) hm ht (show j < par.length by omega) (by omega) hq e
      refine h _ (pairs_mem hp2) ?_
      rw [e2]
      unfold fromF
      simp [hk]
  · intro h e he hc
    obtain ⟨m', t', j, s, q, rfl, hm', ht', hj, hs, hq, hv⟩ := (edge_is hin he).ex
    unfold fromF at hc
    simp only [beq_iff_eq] at hc
    obtain ⟨rfl, rfl⟩ := place_inj ht' ht (by omega)
    have : (j : Int) ∈ usersF l (m' : Int) := users_mem.2 ⟨j, rfl, by omega, by rw [← hv]; exact getD_mem hq⟩
    rw [List.isEmpty_iff] at h
    rw [h] at this
    simp at this
end
end Go.Proofs.Ytjinpmengjfmpaa.Gp
