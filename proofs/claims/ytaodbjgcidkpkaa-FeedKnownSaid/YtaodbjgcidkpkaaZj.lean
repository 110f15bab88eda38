/- Jobs that may be: what holds of them; their functions at any number. Jobs that may be, in plain Lean: the order, users, roots. -/
import Derived.Test.YtaodbjgcidkpkaaZi

namespace Go.Proofs.Ytaodbjgcidkpkaa.Sp
open Go.ChangeShapes Go.WideShapes Go.ChangeAt Go.RowKit M

structure OkJ (g : Int) (l : List OpP) : Prop where
  groups : 1 ≤ g ∧ g ≤ 64
  len : 1 ≤ l.length ∧ l.length ≤ 12
  alone : ∀ j, j < l.length → aloneE l j = 0
  fed : ∀ j, j < l.length → fedB l j = true
  order : l.length ≤ (orderF l).length
  apart : ∀ j, j < l.length → apartB l j = true
theorem ok_of {g : Int} {l : List OpP} (h : chkE g l = 0) : OkJ g l := by
  unfold chkE at h
  cases h1 : btw g 1 64 with
  | false => rw [h1] at h; simp at h
  | true =>
  rw [h1] at h
  cases h2 : btw (l.length : Int) 1 12 with
  | false => rw [h2] at h; simp at h
  | true =>
  rw [h2] at h
  simp only [if_true] at h
  by_cases h3 : firstE (aloneE l) l.length = 0
  · rw [if_pos h3] at h
    cases h4 : allB (fedB l) l.length with
    | false => rw [h4] at h; simp at h
    | true =>
    rw [h4] at h
    simp only [if_true] at h
    by_cases h5 : l.length ≤ (orderF l).length
    · rw [if_pos h5] at h
      cases h6 : allB (apartB l) l.length with
      | false => rw [h6] at h; simp at h
      | true =>
        unfold btw at h1 h2
        simp only [Bool.and_eq_true, decide_eq_true_eq] at h1 h2
        exact ⟨⟨h1.1, h1.2⟩, ⟨by omega, by omega⟩, firstE_zero h3, allB_iff.1 h4, h5, allB_iff.1 h6⟩
    · rw [if_neg h5] at h; simp at h
  · rw [if_neg h3] at h; exact absurd h h3
theorem chk_of {g : Int} {l : List OpP} (h : OkJ g l) : chkE g l = 0 :=
  chk_ok (btw_yes h.groups.1 h.groups.2) (btw_yes (by have := h.len.1; omega) (by have := h.len.2; omega)) h.alone h.fed h.order h.apart
theorem OkJ.pure_ {g : Int} {l : List OpP} (h : OkJ g l) : Pure l := fun i hi h1 => (ins_many (h.alone i hi)).1 h1
theorem OkJ.rank {g : Int} {l : List OpP} (h : OkJ g l) : ∃ rank, Ranked l rank := ranked_of h.alone h.order

theorem rootsI_any (g : Int) (A : Option Addr) (c : Nat) (l : List OpP) (p : Nat → Option Addr × Nat) {g' : Int} (hj : OkJ g' l) (op : Int) (w : World) (B : Nat) (hB : B ≤ w.heap.size) (h : IsOps w B A l p) :
    Calls Try.prog 15 #[.agg #[.int .i64 g, .slice A l.length c], .int .i64 op] w (RetInts w (rootsF l op)) := by
  have h12 := hj.len.2
  by_cases hr : 0 ≤ op ∧ op < l.length
  · obtain ⟨i, rfl⟩ := Int.eq_ofNat_of_zero_le hr.1
    obtain ⟨rank, hrk⟩ := hj.rank
    have := roots_any g A c l p rank hrk hj.len.2 i (by omega) w B hB h
    rw [bits_roots hrk hj.pure_ (by omega)] at this
    exact this
  · rw [rootsF_no (by omega)]
    exact roots_no g A c l op (by omega) (by omega) w
theorem refRootsI_any (g : Int) (A : Option Addr) (c : Nat) (l : List OpP) (p : Nat → Option Addr × Nat) {g' : Int} (hj : OkJ g' l) (op : Int) (w : World) (B : Nat) (hB : B ≤ w.heap.size) (h : IsOps w B A l p) :
    Calls Try.prog 18 #[.agg #[.int .i64 g, .slice A l.length c], .int .i64 op] w (RetInts w (rootsF l op)) := by
  have h12 := hj.len.2
  by_cases hr : 0 ≤ op ∧ op < l.length
  · obtain ⟨i, rfl⟩ := Int.eq_ofNat_of_zero_le hr.1
    obtain ⟨rank, hrk⟩ := hj.rank
    exact refRoots_any g A c l p rank hrk (by omega) i (by omega) w B hB h
  · rw [rootsF_no (by omega)]
    exact refRoots_no g A c l p op (by omega) (by omega) w B hB h

/-- a list of the call's own is written over -/
theorem spoil_own (A : Option Addr) (c : Nat) (xs : List Int) (B : Nat) (w : World) (hB : B ≤ w.heap.size) (h : OwnI w B (.slice A xs.length c) xs) (hl : xs.length ≤ 1000000) :
    Calls Try.prog 19 #[.slice A xs.length c] w fun e w' => e = .returned (.tuple #[]) ∧ Below B w w' ∧ w.grownBy w' (Value.slice A xs.length c).ownBlock := by
  refine (spoil_any A c xs B w h hl).mono ?_
  rintro e w' ⟨rfl, hg⟩
  exact ⟨rfl, (Below.refl _ _).grown hg hB (fun g hv => (h.blk g hv).1), hg⟩
theorem own_later {w w' : World} {B1 B2 : Nat} {v u : Value} {xs ys : List Int} (_ha : OwnI w B1 v xs) (hb : OwnI w B2 u ys) (hv : ∀ g, v.ownBlock = some g → g < B2) (hg : w.grownBy w' v.ownBlock) : OwnI w' B2 u ys := by
  refine hb.grown hg ?_
  cases hu : u.ownBlock with
  | none => exact .inl rfl
  | some k =>
    right
    intro e
    have h1 := (hb.blk k hu).1
    have h2 := hv k e.symm
    omega
end Go.Proofs.Ytaodbjgcidkpkaa.Sp

namespace Go.Proofs.Ytaodbjgcidkpkaa.Sp
open Go

theorem idxB_get {xs : List Int} {n : Int} (h : n ∈ xs) : ∃ k : Nat, idxB xs n = k ∧ k < xs.length ∧ xs.getD k 0 = n ∧ ∀ j, j < k → xs.getD j 0 ≠ n := by
  cases hf : xs.findIdx? (· == n) with
  | none =>
    rw [List.findIdx?_eq_none_iff] at hf
    have := hf n h; simp at this
  | some k =>
    have e : idxB xs n = k := by unfold idxB; rw [hf]
    rw [List.findIdx?_eq_some_iff_getElem] at hf
    obtain ⟨hk, hn, hno⟩ := hf
    refine ⟨k, e, hk, ?_, fun j hj => ?_⟩
    · rw [List.getD_eq_getElem?_getD, List.getElem?_eq_getElem hk]; simpa using hn
    · have := hno j hj
      rw [List.getD_eq_getElem?_getD, List.getElem?_eq_getElem (by omega)]
      simpa using this
theorem idxB_pos {xs : List Int} {n : Int} (h : n ∈ xs) : 0 ≤ idxB xs n := by
  obtain ⟨k, e, -⟩ := idxB_get h; omega
theorem idxB_take {xs : List Int} {n : Int} {k : Nat} (h : n ∈ xs.take k) : idxB xs n < k := by
  obtain ⟨j, hj, e⟩ := mem_getD h
  rw [List.length_take] at hj
  have e2 : xs.getD j 0 = n := by
    rw [← e, List.getD_eq_getElem?_getD, List.getD_eq_getElem?_getD, List.getElem?_take_of_lt (by omega)]
  obtain ⟨m, em, hm, -, hno⟩ := idxB_get (List.mem_of_mem_take h)
  rw [em]
  rcases (show m ≤ j ∨ j < m by omega) with h1 | h1
  · omega
  · exact absurd e2 (hno j h1)

section
variable {g : Int} {l : List OpP}
theorem OkJ.olen (h : OkJ g l) : (orderF l).length = l.length := Nat.le_antisymm (ordSt_len l l.length) h.order
theorem OkJ.omem (h : OkJ g l) {i : Nat} (hi : i < l.length) : (i : Int) ∈ orderF l := nodup_full (ordSt_ok l l.length).1 (ordSt_ok l l.length).2.1 h.order i hi
theorem OkJ.rises (h : OkJ g l) {i : Nat} (hi : i < l.length) {x : Int} (hx : x ∈ insOf l i) : idxB (orderF l) x < idxB (orderF l) i := by
  obtain ⟨k, e, hk, hg, -⟩ := idxB_get (h.omem hi)
  rw [e]
  have := (ordSt_ok l l.length).2.2 k hk x (by
    show x ∈ insOf l ((orderF l).getD k 0).toNat
    rw [hg]; simpa using hx)
  exact idxB_take this
theorem users_mem {op : Int} {x : Int} : x ∈ usersF l op ↔ ∃ k : Nat, x = k ∧ k < l.length ∧ op ∈ insOf l k := by
  unfold usersF; rw [whichF_mem]
  constructor
  · rintro ⟨k, a, b, c⟩; exact ⟨k, a, b, hasB_iff.1 c⟩
  · rintro ⟨k, a, b, c⟩; exact ⟨k, a, b, hasB_iff.2 c⟩
theorem kind_mem {kd : Int} {x : Int} : x ∈ kindF l kd ↔ ∃ k : Nat, x = k ∧ k < l.length ∧ kindOf l k = kd := by
  unfold kindF; rw [whichF_mem]
  constructor
  · rintro ⟨k, a, b, c⟩; exact ⟨k, a, b, by simpa using c⟩
  · rintro ⟨k, a, b, c⟩; exact ⟨k, a, b, by simpa using c⟩
/-- they rise -/
theorem whichF_rises (f : Nat → Bool) (n : Nat) : ∀ j k, j < k → k < (whichF f n).length → (whichF f n).getD j 0 < (whichF f n).getD k 0 := by
  induction n with
  | zero => intro j k _ hk; simp [whichF] at hk
  | succ n ih =>
    intro j k hjk hk
    cases h : f n with
    | false => rw [whichF_no h] at hk ⊢; exact ih j k hjk hk
    | true =>
      rw [whichF_yes h] at hk ⊢
      rw [List.length_append] at hk
      simp at hk
      have hj : (whichF f n ++ [(n : Int)]).getD j 0 = (whichF f n).getD j 0 := by
        rw [List.getD_eq_getElem?_getD, List.getD_eq_getElem?_getD, List.getElem?_append_left (by omega)]
      rw [hj]
      rcases (show k < (whichF f n).length ∨ k = (whichF f n).length by omega) with h1 | h1
      · have hk2 : (whichF f n ++ [(n : Int)]).getD k 0 = (whichF f n).getD k 0 := by
          rw [List.getD_eq_getElem?_getD, List.getD_eq_getElem?_getD, List.getElem?_append_left h1]
        rw [hk2]; exact ih j k hjk h1
      · have hk2 : (whichF f n ++ [(n : Int)]).getD k 0 = n := by
          rw [h1, List.getD_eq_getElem?_getD, List.getElem?_append_right (Nat.le_refl _)]; simp
        rw [hk2]
        obtain ⟨m, e, hm, -⟩ := whichF_mem.1 (getD_mem (show j < (whichF f n).length by omega))
        rw [e]; omega
theorem filter_rises {xs : List Int} (q : Int → Bool) (h : ∀ j k, j < k → k < xs.length → xs.getD j 0 < xs.getD k 0) : ∀ j k, j < k → k < (xs.filter q).length → (xs.filter q).getD j 0 < (xs.filter q).getD k 0 := by
  have hp : xs.Pairwise (· < ·) := by
    rw [List.pairwise_iff_getElem]
    intro i j hi hj hij
    have := h i j hij hj
    rw [List.getD_eq_getElem?_getD, List.getD_eq_getElem?_getD, List.getElem?_eq_getElem hi, List.getElem?_eq_getElem hj] at this
    exact this
  have hq := (hp.filter q)
  intro j k hjk hk
  rw [List.pairwise_iff_getElem] at hq
  have := hq j k (by omega) hk hjk
  rw [List.getD_eq_getElem?_getD, List.getD_eq_getElem?_getD, List.getElem?_eq_getElem (by omega), List.getElem?_eq_getElem hk]
  exact this

theorem roots_mem (_h : OkJ g l) {i : Nat} (hi : i < l.length) {x : Int} : x ∈ rootsF l i ↔ ∃ j : Nat, x = j ∧ j < l.length ∧ kindOf l j = 1 ∧ comesF l.length l i j = true := by
  rw [rootsF_at hi, List.mem_filter, kind_mem]
  constructor
  · rintro ⟨⟨k, a, b, c⟩, d⟩; exact ⟨k, a, b, c, by rw [← a]; exact d⟩
  · rintro ⟨k, a, b, c, d⟩; exact ⟨⟨k, a, b, c⟩, by rw [a]; exact d⟩
theorem OkJ.ranks (_ : OkJ g l) {rank : Nat → Nat} (hr : Ranked l rank) {i : Nat} (hi : i < l.length) : rank i ≤ l.length := Nat.le_of_lt (hr i hi).1
/-- what an operator comes of, by its inputs -/
theorem comes_in (h : OkJ g l) {i : Nat} (hi : i < l.length) (r : Int) : comesF l.length l i r = ((i : Int) == r || (insOf l i).any fun x => comesF l.length l x.toNat r) := by
  obtain ⟨rank, hr⟩ := h.rank
  rw [comesF_of hr hi (h.ranks hr hi)]
  congr 1
  rw [Bool.eq_iff_iff, List.any_eq_true, List.any_eq_true]
  constructor
  · rintro ⟨x, hx, hc⟩
    obtain ⟨j, rfl, hj, hrj⟩ := (hr i hi).2 x hx
    refine ⟨_, hx, ?_⟩
    have hi1 := (hr i hi).1
    simp only [Int.toNat_natCast] at hc ⊢
    rw [comesF_same hr r _ j hj (h.ranks hr hj)]
    rw [comesF_same hr r _ j hj (by omega)] at hc; exact hc
  · rintro ⟨x, hx, hc⟩
    obtain ⟨j, rfl, hj, hrj⟩ := (hr i hi).2 x hx
    refine ⟨_, hx, ?_⟩
    have hi1 := (hr i hi).1
    simp only [Int.toNat_natCast] at hc ⊢
    rw [comesF_same hr r _ j hj (by omega)]
    rw [comesF_same hr r _ j hj (h.ranks hr hj)] at hc; exact hc
/-- the roots of an operator that is no source are those of its inputs -/
theorem roots_in (h : OkJ g l) {i : Nat} (hi : i < l.length) (hk : kindOf l i ≠ 1) {x : Int} : x ∈ rootsF l i ↔ ∃ j : Nat, (j : Int) ∈ insOf l i ∧ j < l.length ∧ x ∈ rootsF l j := by
  rw [roots_mem h hi]
  constructor
  · rintro ⟨m, rfl, hm, hkm, hc⟩
    rw [comes_in h hi, Bool.or_eq_true, List.any_eq_true] at hc
    rcases hc with hc | ⟨y, hy, hc⟩
    · have h0 : (i : Int) = (m : Int) := by simpa using hc
      have : i = m := by omega
      rw [this] at hk; exact absurd hkm hk
    · obtain ⟨j, rfl, hj, -⟩ := ins_in (h.alone i hi) y hy
      exact ⟨j, hy, hj, (roots_mem h hj).2 ⟨m, rfl, hm, hkm, by simpa using hc⟩⟩
  · rintro ⟨j, hj1, hj, hx⟩
    obtain ⟨m, rfl, hm, hkm, hc⟩ := (roots_mem h hj).1 hx
    refine ⟨m, rfl, hm, hkm, ?_⟩
    rw [comes_in h hi, Bool.or_eq_true, List.any_eq_true]
    exact .inr ⟨_, hj1, by simpa using hc⟩
theorem roots_src (h : OkJ g l) {i : Nat} (hi : i < l.length) (hk : kindOf l i = 1) {x : Int} : x ∈ rootsF l i ↔ x = i := by
  rw [roots_mem h hi]
  have hin := (ins_many (h.alone i hi)).1 hk
  constructor
  · rintro ⟨m, rfl, hm, hkm, hc⟩
    rw [comes_in h hi, hin] at hc
    have h0 : (i : Int) = (m : Int) := by simpa using hc
    have : i = m := by omega
    omega
  · rintro rfl
    exact ⟨i, rfl, hi, hk, by rw [comes_in h hi]; simp⟩
theorem roots_some (h : OkJ g l) {i : Nat} (hi : i < l.length) : rootsF l i ≠ [] := by
  obtain ⟨rank, hr⟩ := h.rank
  have key : ∀ n i, i < l.length → rank i ≤ n → ∃ x, x ∈ rootsF l i := by
    intro n
    induction n using Nat.strongRecOn with
    | _ n ih =>
      intro i hi hn
      by_cases hk : kindOf l i = 1
      · exact ⟨i, (roots_src h hi hk).2 rfl⟩
      · have hm := ins_many (h.alone i hi)
        have hpos : 0 < (insOf l i).length := by
          by_cases h7 : kindOf l i = 7
          · have := hm.2.1 h7; omega
          · have := hm.2.2 hk h7; omega
        have hx := getD_mem hpos
        obtain ⟨j, e, hj, hrj⟩ := (hr i hi).2 _ hx
        obtain ⟨y, hy⟩ := ih (rank j) (by omega) j hj (Nat.le_refl _)
        exact ⟨y, (roots_in h hi hk).2 ⟨j, by rw [← e]; exact hx, hj, hy⟩⟩
  obtain ⟨x, hx⟩ := key (rank i) i hi (Nat.le_refl _)
  intro e
  rw [e] at hx; simp at hx
theorem roots_rise (l : List OpP) (op : Int) : ∀ j k, j < k → k < (rootsF l op).length → (rootsF l op).getD j 0 < (rootsF l op).getD k 0 := by
  unfold rootsF
  split
  · exact filter_rises _ (whichF_rises _ _)
  · intro j k _ hk; simp at hk
theorem OkJ.fedK (h : OkJ g l) {i : Nat} (hi : i < l.length) : (usersF l i).isEmpty = (kindOf l i == 8) := by
  have := h.fed i hi
  unfold fedB at this; simpa using this
end
end Go.Proofs.Ytaodbjgcidkpkaa.Sp
