/- Jobs that may be, in plain Lean: an operator's roots, counted. -/
import Derived.Test.YtcechimilefihaaZj

namespace Go.Proofs.Ytcechimilefihaa.Sp
open Go

theorem rises_nodup {xs : List Int} (h : ∀ j k, j < k → k < xs.length → xs.getD j 0 < xs.getD k 0) : xs.Nodup := by
  rw [List.nodup_iff_pairwise_ne, List.pairwise_iff_getElem]
  intro i j hi hj hij e
  have := h i j hij hj
  rw [List.getD_eq_getElem?_getD, List.getD_eq_getElem?_getD, List.getElem?_eq_getElem hi, List.getElem?_eq_getElem hj] at this
  simp only [Option.getD_some] at this
  omega
theorem apartGo_nodup : ∀ (rs : List (List Int)) (seen : List Int), apartGo rs seen = true → seen.Nodup → (∀ r ∈ rs, r.Nodup) → (seen ++ rs.flatten).Nodup
  | [], seen, _, hs, _ => by simpa using hs
  | r :: rs, seen, h, hs, hr => by
    rw [apartGo, Bool.and_eq_true] at h
    obtain ⟨h1, h2⟩ := h
    have hno : ∀ x ∈ r, x ∉ seen := by
      intro x hx hm
      have : (r.any fun x => hasB seen x) = true := List.any_eq_true.2 ⟨x, hx, hasB_iff.2 hm⟩
      rw [this] at h1; cases h1
    have hn : (seen ++ r).Nodup := by
      rw [List.nodup_append]
      exact ⟨hs, hr r (List.mem_cons_self ..), fun a ha b hb e => hno b hb (e ▸ ha)⟩
    have := apartGo_nodup rs (seen ++ r) h2 hn (fun q hq => hr q (List.mem_cons_of_mem _ hq))
    rw [List.flatten_cons, ← List.append_assoc]; exact this
/-- how many roots the first k inputs have -/
def sumR (l : List OpP) (i : Nat) : Nat → Nat
  | 0 => 0
  | k + 1 => sumR l i k + (rootsF l ((insOf l i).getD k 0)).length
theorem sumR_flat (l : List OpP) (i : Nat) : ∀ k, k ≤ (insOf l i).length → sumR l i k = (((insOf l i).take k).map (rootsF l)).flatten.length
  | 0, _ => by simp [sumR]
  | k + 1, hk => by
    rw [sumR, sumR_flat l i k (by omega), List.take_add_one, List.getElem?_eq_getElem (by omega), List.getD_eq_getElem?_getD, List.getElem?_eq_getElem (by omega), List.map_append, List.flatten_append, List.length_append]
    congr 1
    simp
section
variable {g : Int} {l : List OpP}
theorem sum_roots (h : OkJ g l) {i : Nat} (hi : i < l.length) (hk : kindOf l i ≠ 1) : sumR l i (insOf l i).length = (rootsF l i).length := by
  rw [sumR_flat l i _ (Nat.le_refl _), List.take_length]
  have hn : ((insOf l i).map (rootsF l)).flatten.Nodup := by
    have := apartGo_nodup _ [] (h.apart i hi) List.nodup_nil (fun r hr => by
      obtain ⟨x, -, rfl⟩ := List.mem_map.1 hr
      exact rises_nodup (roots_rise l x))
    simpa using this
  have hn2 : (rootsF l i).Nodup := rises_nodup (roots_rise l i)
  have hsub : ∀ x, x ∈ ((insOf l i).map (rootsF l)).flatten ↔ x ∈ rootsF l i := by
    intro x
    rw [roots_in h hi hk, List.mem_flatten]
    constructor
    · rintro ⟨r, hr, hx⟩
      obtain ⟨y, hy, rfl⟩ := List.mem_map.1 hr
      obtain ⟨j, rfl, hj, -⟩ := ins_in (h.alone i hi) y hy
      exact ⟨j, hy, hj, hx⟩
    · rintro ⟨j, hj, -, hx⟩
      exact ⟨_, List.mem_map.2 ⟨_, hj, rfl⟩, hx⟩
  exact Nat.le_antisymm (hn.length_le_of_subset fun x hx => (hsub x).1 hx) (hn2.length_le_of_subset fun x hx => (hsub x).2 hx)
theorem roots_one (h : OkJ g l) {i : Nat} (hi : i < l.length) (hk : kindOf l i = 1) : rootsF l i = [(i : Int)] := by
  have hm : ∀ x, x ∈ rootsF l i ↔ x = i := fun x => roots_src h hi hk
  have hn2 : (rootsF l i).Nodup := rises_nodup (roots_rise l i)
  have h1 : (rootsF l i).length ≤ 1 := hn2.length_le_of_subset (l₂ := [(i : Int)]) fun x hx => by simpa using (hm x).1 hx
  cases hr : rootsF l i with
  | nil => exact absurd hr (roots_some h hi)
  | cons y ys =>
    rw [hr] at h1
    cases ys with
    | nil => have := (hm y).1 (by rw [hr]; simp); rw [this]
    | cons z zs => simp at h1
theorem roots_kind (h : OkJ g l) {i : Nat} (hi : i < l.length) {x : Int} (hx : x ∈ rootsF l i) : x ∈ kindF l 1 := by
  obtain ⟨m, rfl, hm, hkm, -⟩ := (roots_mem h hi).1 hx
  exact kind_mem.2 ⟨m, rfl, hm, hkm⟩
theorem roots_of_in (h : OkJ g l) {i : Nat} (hi : i < l.length) {y : Int} (hy : y ∈ insOf l i) {x : Int} (hx : x ∈ rootsF l y) : x ∈ rootsF l i := by
  have hk : kindOf l i ≠ 1 := fun e => by rw [(ins_many (h.alone i hi)).1 e] at hy; simp at hy
  obtain ⟨j, rfl, hj, -⟩ := ins_in (h.alone i hi) y hy
  exact (roots_in h hi hk).2 ⟨j, hy, hj, hx⟩
/-- an operator is an input just of its users -/
theorem in_users (_h : OkJ g l) {i : Nat} (hi : i < l.length) {x : Int} (hx : x ∈ insOf l i) : (i : Int) ∈ usersF l x := users_mem.2 ⟨i, rfl, hi, hx⟩
end
end Go.Proofs.Ytcechimilefihaa.Sp
