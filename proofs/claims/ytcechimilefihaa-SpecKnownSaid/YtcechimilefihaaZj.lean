/- Jobs that may be: what holds of them; their functions at any number. Jobs that may be, in plain Lean: the order, users, roots. Jobs: copied, and held against one another. Jobs: two that are the same. -/
import Derived.Test.YtcechimilefihaaZi

namespace Go.Proofs.Ytcechimilefihaa.Sp
open Go.ChangeShapes Go.WideShapes Go.ChangeAt Go.RowKit M

structure OkJ (g : Int) (l : List OpP) : Prop where
  groups : 1 ≤ g ∧ g ≤ 64
  len : 1 ≤ l.length ∧ l.length ≤ 12
  alone : ∀ j, j < l.length → aloneE l j = 0
  fed : ∀ j, j < l.length → fedB l j = true
  order : l.length ≤ (orderF l).length
  apart : ∀ j, j < l.length → apartB l j = true
theorem ok_of {g : Int} {l : List OpP} (h : chkE g l = 0) : OkJ g l := by
  unfold chkE at h
  cases h1 : btw g 1 64 with
  | false => rw [h1] at h; simp at h
  | true =>
  rw [h1] at h
  cases h2 : btw (l.length : Int) 1 12 with
  | false => rw [h2] at h; simp at h
  | true =>
  rw [h2] at h
  simp only [if_true] at h
  by_cases h3 : firstE (aloneE l) l.length = 0
  · rw [if_pos h3] at h
    cases h4 : allB (fedB l) l.length with
    | false => rw [h4] at h; simp at h
    | true =>
    rw [h4] at h
    simp only [if_true] at h
    by_cases h5 : l.length ≤ (orderF l).length
    · rw [if_pos h5] at h
      cases h6 : allB (apartB l) l.length with
      | false => rw [h6] at h; simp at h
      | true =>
        unfold btw at h1 h2
        simp only [Bool.and_eq_true, decide_eq_true_eq] at h1 h2
        exact ⟨⟨h1.1, h1.2⟩, ⟨by omega, by omega⟩, firstE_zero h3, allB_iff.1 h4, h5, allB_iff.1 h6⟩
    · rw [if_neg h5] at h; simp at h
  · rw [if_neg h3] at h; exact absurd h h3
theorem chk_of {g : Int} {l : List OpP} (h : OkJ g l) : chkE g l = 0 :=
  chk_ok (btw_yes h.groups.1 h.groups.2) (btw_yes (by have := h.len.1; omega) (by have := h.len.2; omega)) h.alone h.fed h.order h.apart
theorem OkJ.pure_ {g : Int} {l : List OpP} (h : OkJ g l) : Pure l := fun i hi h1 => (ins_many (h.alone i hi)).1 h1
theorem OkJ.rank {g : Int} {l : List OpP} (h : OkJ g l) : ∃ rank, Ranked l rank := ranked_of h.alone h.order

theorem rootsI_any (g : Int) (A : Option Addr) (c : Nat) (l : List OpP) (p : Nat → Option Addr × Nat) {g' : Int} (hj : OkJ g' l) (op : Int) (w : World) (B : Nat) (hB : B ≤ w.heap.size) (h : IsOps w B A l p) :
    Calls Try.prog 16 #[.agg #[.int .i64 g, .slice A l.length c], .int .i64 op] w (RetInts w (rootsF l op)) := by
  have h12 := hj.len.2
  by_cases hr : 0 ≤ op ∧ op < l.length
  · obtain ⟨i, rfl⟩ := Int.eq_ofNat_of_zero_le hr.1
    obtain ⟨rank, hrk⟩ := hj.rank
    have := roots_any g A c l p rank hrk hj.len.2 i (by omega) w B hB h
    rw [bits_roots hrk hj.pure_ (by omega)] at this
    exact this
  · rw [rootsF_no (by omega)]
    exact roots_no g A c l op (by omega) (by omega) w
theorem refRootsI_any (g : Int) (A : Option Addr) (c : Nat) (l : List OpP) (p : Nat → Option Addr × Nat) {g' : Int} (hj : OkJ g' l) (op : Int) (w : World) (B : Nat) (hB : B ≤ w.heap.size) (h : IsOps w B A l p) :
    Calls Try.prog 19 #[.agg #[.int .i64 g, .slice A l.length c], .int .i64 op] w (RetInts w (rootsF l op)) := by
  have h12 := hj.len.2
  by_cases hr : 0 ≤ op ∧ op < l.length
  · obtain ⟨i, rfl⟩ := Int.eq_ofNat_of_zero_le hr.1
    obtain ⟨rank, hrk⟩ := hj.rank
    exact refRoots_any g A c l p rank hrk (by omega) i (by omega) w B hB h
  · rw [rootsF_no (by omega)]
    exact refRoots_no g A c l p op (by omega) (by omega) w B hB h

/-- a list of the call's own is written over -/
theorem spoil_own (A : Option Addr) (c : Nat) (xs : List Int) (B : Nat) (w : World) (hB : B ≤ w.heap.size) (h : OwnI w B (.slice A xs.length c) xs) (hl : xs.length ≤ 1000000) :
    Calls Try.prog 20 #[.slice A xs.length c] w fun e w' => e = .returned (.tuple #[]) ∧ Below B w w' ∧ w.grownBy w' (Value.slice A xs.length c).ownBlock := by
  refine (spoil_any A c xs B w h hl).mono ?_
  rintro e w' ⟨rfl, hg⟩
  exact ⟨rfl, (Below.refl _ _).grown hg hB (fun g hv => (h.blk g hv).1), hg⟩
theorem own_later {w w' : World} {B1 B2 : Nat} {v u : Value} {xs ys : List Int} (_ha : OwnI w B1 v xs) (hb : OwnI w B2 u ys) (hv : ∀ g, v.ownBlock = some g → g < B2) (hg : w.grownBy w' v.ownBlock) : OwnI w' B2 u ys := by
  refine hb.grown hg ?_
  cases hu : u.ownBlock with
  | none => exact .inl rfl
  | some k =>
    right
    intro e
    have h1 := (hb.blk k hu).1
    have h2 := hv k e.symm
    omega
end Go.Proofs.Ytcechimilefihaa.Sp

namespace Go.Proofs.Ytcechimilefihaa.Sp
open Go

theorem idxB_get {xs : List Int} {n : Int} (h : n ∈ xs) : ∃ k : Nat, idxB xs n = k ∧ k < xs.length ∧ xs.getD k 0 = n ∧ ∀ j, j < k → xs.getD j 0 ≠ n := by
  cases hf : xs.findIdx? (· == n) with
  | none =>
    rw [List.findIdx?_eq_none_iff] at hf
    have := hf n h; simp at this
  | some k =>
    have e : idxB xs n = k := by unfold idxB; rw [hf]
    rw [List.findIdx?_eq_some_iff_getElem] at hf
    obtain ⟨hk, hn, hno⟩ := hf
    refine ⟨k, e, hk, ?_, fun j hj => ?_⟩
    · rw [List.getD_eq_getElem?_getD, List.getElem?_eq_getElem hk]; simpa using hn
    · have := hno j hj
      rw [List.getD_eq_getElem?_getD, List.getElem?_eq_getElem (by omega)]
      simpa using this
theorem idxB_pos {xs : List Int} {n : Int} (h : n ∈ xs) : 0 ≤ idxB xs n := by
  obtain ⟨k, e, -⟩ := idxB_get h; omega
theorem idxB_take {xs : List Int} {n : Int} {k : Nat} (h : n ∈ xs.take k) : idxB xs n < k := by
  obtain ⟨j, hj, e⟩ := mem_getD h
  rw [List.length_take] at hj
  have e2 : xs.getD j 0 = n := by
    rw [← e, List.getD_eq_getElem?_getD, List.getD_eq_getElem?_getD, List.getElem?_take_of_lt (by omega)]
  obtain ⟨m, em, hm, -, hno⟩ := idxB_get (List.mem_of_mem_take h)
  rw [em]
  rcases (show m ≤ j ∨ j < m by omega) with h1 | h1
  · omega
  · exact absurd e2 (hno j h1)

section
variable {g : Int} {l : List OpP}
theorem OkJ.olen (h : OkJ g l) : (orderF l).length = l.length := Nat.le_antisymm (ordSt_len l l.length) h.order
theorem OkJ.omem (h : OkJ g l) {i : Nat} (hi : i < l.length) : (i : Int) ∈ orderF l := nodup_full (ordSt_ok l l.length).1 (ordSt_ok l l.length).2.1 h.order i hi
theorem OkJ.rises (h : OkJ g l) {i : Nat} (hi : i < l.length) {x : Int} (hx : x ∈ insOf l i) : idxB (orderF l) x < idxB (orderF l) i := by
  obtain ⟨k, e, hk, hg, -⟩ := idxB_get (h.omem hi)
  rw [e]
  have := (ordSt_ok l l.length).2.2 k hk x (by
    show x ∈ insOf l ((orderF l).getD k 0).toNat
    rw [hg]; simpa using hx)
  exact idxB_take this
theorem users_mem {op : Int} {x : Int} : x ∈ usersF l op ↔ ∃ k : Nat, x = k ∧ k < l.length ∧ op ∈ insOf l k := by
  unfold usersF; rw [whichF_mem]
  constructor
  · rintro ⟨k, a, b, c⟩; exact ⟨k, a, b, hasB_iff.1 c⟩
  · rintro ⟨k, a, b, c⟩; exact ⟨k, a, b, hasB_iff.2 c⟩
theorem kind_mem {kd : Int} {x : Int} : x ∈ kindF l kd ↔ ∃ k : Nat, x = k ∧ k < l.length ∧ kindOf l k = kd := by
  unfold kindF; rw [whichF_mem]
  constructor
  · rintro ⟨k, a, b, c⟩; exact ⟨k, a, b, by simpa using c⟩
  · rintro ⟨k, a, b, c⟩; exact ⟨k, a, b, by simpa using c⟩
/-- they rise -/
theorem whichF_rises (f : Nat → Bool) (n : Nat) : ∀ j k, j < k → k < (whichF f n).length → (whichF f n).getD j 0 < (whichF f n).getD k 0 := by
  induction n with
  | zero => intro j k _ hk; simp [whichF] at hk
  | succ n ih =>
    intro j k hjk hk
    cases h : f n with
    | false => rw [whichF_no h] at hk ⊢; exact ih j k hjk hk
    | true =>
      rw [whichF_yes h] at hk ⊢
      rw [List.length_append] at hk
      simp at hk
      have hj : (whichF f n ++ [(n : Int)]).getD j 0 = (whichF f n).getD j 0 := by
        rw [List.getD_eq_getElem?_getD, List.getD_eq_getElem?_getD, List.getElem?_append_left (by omega)]
      rw [hj]
      rcases (show k < (whichF f n).length ∨ k = (whichF f n).length by omega) with h1 | h1
      · have hk2 : (whichF f n ++ [(n : Int)]).getD k 0 = (whichF f n).getD k 0 := by
          rw [List.getD_eq_getElem?_getD, List.getD_eq_getElem?_getD, List.getElem?_append_left h1]
        rw [hk2]; exact ih j k hjk h1
      · have hk2 : (whichF f n ++ [(n : Int)]).getD k 0 = n := by
          rw [h1, List.getD_eq_getElem?_getD, List.getElem?_append_right (Nat.le_refl _)]; simp
        rw [hk2]
        obtain ⟨m, e, hm, -⟩ := whichF_mem.1 (getD_mem (show j < (whichF f n).length by omega))
        rw [e]; omega
theorem filter_rises {xs : List Int} (q : Int → Bool) (h : ∀ j k, j < k → k < xs.length → xs.getD j 0 < xs.getD k 0) : ∀ j k, j < k → k < (xs.filter q).length → (xs.filter q).getD j 0 < (xs.filter q).getD k 0 := by
  have hp : xs.Pairwise (· < ·) := by
    rw [List.pairwise_iff_getElem]
    intro i j hi hj hij
    have := h i j hij hj
    rw [List.getD_eq_getElem?_getD, List.getD_eq_getElem?_getD, List.getElem?_eq_getElem hi, List.getElem?_eq_getElem hj] at this
    exact this
  have hq := (hp.filter q)
  intro j k hjk hk
  rw [List.pairwise_iff_getElem] at hq
  have := hq j k (by omega) hk hjk
  rw [List.getD_eq_getElem?_getD, List.getD_eq_getElem?_getD, List.getElem?_eq_getElem (by omega), List.getElem?_eq_getElem hk]
  exact this

theorem roots_mem (_h : OkJ g l) {i : Nat} (hi : i < l.length) {x : Int} : x ∈ rootsF l i ↔ ∃ j : Nat, x = j ∧ j < l.length ∧ kindOf l j = 1 ∧ comesF l.length l i j = true := by
  rw [rootsF_at hi, List.mem_filter, kind_mem]
  constructor
  · rintro ⟨⟨k, a, b, c⟩, d⟩; exact ⟨k, a, b, c, by rw [← a]; exact d⟩
  · rintro ⟨k, a, b, c, d⟩; exact ⟨⟨k, a, b, c⟩, by rw [a]; exact d⟩
theorem OkJ.ranks (_ : OkJ g l) {rank : Nat → Nat} (hr : Ranked l rank) {i : Nat} (hi : i < l.length) : rank i ≤ l.length := Nat.le_of_lt (hr i hi).1
/-- what an operator comes of, by its inputs -/
theorem comes_in (h : OkJ g l) {i : Nat} (hi : i < l.length) (r : Int) : comesF l.length l i r = ((i : Int) == r || (insOf l i).any fun x => comesF l.length l x.toNat r) := by
  obtain ⟨rank, hr⟩ := h.rank
  rw [comesF_of hr hi (h.ranks hr hi)]
  congr 1
  rw [Bool.eq_iff_iff, List.any_eq_true, List.any_eq_true]
  constructor
  · rintro ⟨x, hx, hc⟩
    obtain ⟨j, rfl, hj, hrj⟩ := (hr i hi).2 x hx
    refine ⟨_, hx, ?_⟩
    have hi1 := (hr i hi).1
    simp only [Int.toNat_natCast] at hc ⊢
    rw [comesF_same hr r _ j hj (h.ranks hr hj)]
    rw [comesF_same hr r _ j hj (by omega)] at hc; exact hc
  · rintro ⟨x, hx, hc⟩
    obtain ⟨j, rfl, hj, hrj⟩ := (hr i hi).2 x hx
    refine ⟨_, hx, ?_⟩
    have hi1 := (hr i hi).1
    simp only [Int.toNat_natCast] at hc ⊢
    rw [comesF_same hr r _ j hj (by omega)]
    rw [comesF_same hr r _ j hj (h.ranks hr hj)] at hc; exact hc
/-- the roots of an operator that is no source are those of its inputs -/
theorem roots_in (h : OkJ g l) {i : Nat} (hi : i < l.length) (hk : kindOf l i ≠ 1) {x : Int} : x ∈ rootsF l i ↔ ∃ j : Nat, (j : Int) ∈ insOf l i ∧ j < l.length ∧ x ∈ rootsF l j := by
  rw [roots_mem h hi]
  constructor
  · rintro ⟨m, rfl, hm, hkm, hc⟩
    rw [comes_in h hi, Bool.or_eq_true, List.any_eq_true] at hc
    rcases hc with hc | ⟨y, hy, hc⟩
    · have h0 : (i : Int) = (m : Int) := by simpa using hc
      have : i = m := by omega
      rw [this] at hk; exact absurd hkm hk
    · obtain ⟨j, rfl, hj, -⟩ := ins_in (h.alone i hi) y hy
      exact ⟨j, hy, hj, (roots_mem h hj).2 ⟨m, rfl, hm, hkm, by simpa using hc⟩⟩
  · rintro ⟨j, hj1, hj, hx⟩
    obtain ⟨m, rfl, hm, hkm, hc⟩ := (roots_mem h hj).1 hx
    refine ⟨m, rfl, hm, hkm, ?_⟩
    rw [comes_in h hi, Bool.or_eq_true, List.any_eq_true]
    exact .inr ⟨_, hj1, by simpa using hc⟩
theorem roots_src (h : OkJ g l) {i : Nat} (hi : i < l.length) (hk : kindOf l i = 1) {x : Int} : x ∈ rootsF l i ↔ x = i := by
  rw [roots_mem h hi]
  have hin := (ins_many (h.alone i hi)).1 hk
  constructor
  · rintro ⟨m, rfl, hm, hkm, hc⟩
    rw [comes_in h hi, hin] at hc
    have h0 : (i : Int) = (m : Int) := by simpa using hc
    have : i = m := by omega
    omega
  · rintro rfl
    exact ⟨i, rfl, hi, hk, by rw [comes_in h hi]; simp⟩
theorem roots_some (h : OkJ g l) {i : Nat} (hi : i < l.length) : rootsF l i ≠ [] := by
  obtain ⟨rank, hr⟩ := h.rank
  have key : ∀ n i, i < l.length → rank i ≤ n → ∃ x, x ∈ rootsF l i := by
    intro n
    induction n using Nat.strongRecOn with
    | _ n ih =>
      intro i hi hn
      by_cases hk : kindOf l i = 1
      · exact ⟨i, (roots_src h hi hk).2 rfl⟩
      · have hm := ins_many (h.alone i hi)
        have hpos : 0 < (insOf l i).length := by
          by_cases h7 : kindOf l i = 7
          · have := hm.2.1 h7; omega
          · have := hm.2.2 hk h7; omega
        have hx := getD_mem hpos
        obtain ⟨j, e, hj, hrj⟩ := (hr i hi).2 _ hx
        obtain ⟨y, hy⟩ := ih (rank j) (by omega) j hj (Nat.le_refl _)
        exact ⟨y, (roots_in h hi hk).2 ⟨j, by rw [← e]; exact hx, hj, hy⟩⟩
  obtain ⟨x, hx⟩ := key (rank i) i hi (Nat.le_refl _)
  intro e
  rw [e] at hx; simp at hx
theorem roots_rise (l : List OpP) (op : Int) : ∀ j k, j < k → k < (rootsF l op).length → (rootsF l op).getD j 0 < (rootsF l op).getD k 0 := by
  unfold rootsF
  split
  · exact filter_rises _ (whichF_rises _ _)
  · intro j k _ hk; simp at hk
theorem OkJ.fedK (h : OkJ g l) {i : Nat} (hi : i < l.length) : (usersF l i).isEmpty = (kindOf l i == 8) := by
  have := h.fed i hi
  unfold fedB at this; simpa using this
end
end Go.Proofs.Ytcechimilefihaa.Sp

namespace Go.Proofs.Ytcechimilefihaa.Sp
open Go.ChangeShapes Go.WideShapes Go.ChangeAt Go.RowKit M

theorem infoO : (Try.prog.info? 40).map (fun i => (i.zero, i.size, i.bytes)) = some (some (.agg #[.int .i64 0, .slice none 0 0, .int .i64 0, .int .i64 0, .int .i64 0, .int .i64 0, .int .i64 0, .int .i64 0]), 8, 80) := by kernel_rfl

/-- operators' cells, one behind the other -/
def opsCells (l : List OpP) (p : Nat → Option Addr × Nat) : List Value := (List.range l.length).flatMap fun i => (opArr (opOf l i) (p i)).toList
theorem flatMap_range_len {f : Nat → List Value} (h : ∀ i, (f i).length = 8) (n : Nat) : ((List.range n).flatMap f).length = n * 8 := by
  induction n with
  | zero => rfl
  | succ n ih => rw [List.range_succ, List.flatMap_append, List.length_append, ih]; simp [h]; omega
theorem opsCells_len (l : List OpP) (p : Nat → Option Addr × Nat) : (opsCells l p).length = l.length * 8 := flatMap_range_len (fun _ => rfl) _
theorem opArr_get (o : OpP) (a : Option Addr × Nat) {j : Nat} (hj : j < 8) : (opArr o a).toList[j]? = some (cellsOp o a j) := by
  rcases (show j = 0 ∨ j = 1 ∨ j = 2 ∨ j = 3 ∨ j = 4 ∨ j = 5 ∨ j = 6 ∨ j = 7 by omega) with rfl | rfl | rfl | rfl | rfl | rfl | rfl | rfl <;> rfl
theorem flatMap_range_get {f : Nat → List Value} (h : ∀ i, (f i).length = 8) {n i j : Nat} (hi : i < n) (hj : j < 8) : ((List.range n).flatMap f)[i * 8 + j]? = (f i)[j]? := by
  induction n with
  | zero => omega
  | succ n ih =>
    rw [List.range_succ, List.flatMap_append]
    have hl := flatMap_range_len h n
    rcases (show i < n ∨ i = n by omega) with h1 | rfl
    · rw [List.getElem?_append_left (by rw [hl]; omega)]; exact ih h1
    · rw [List.getElem?_append_right (by rw [hl]; omega), hl]; simp
theorem opsCells_get {l : List OpP} {p : Nat → Option Addr × Nat} {i j : Nat} (hi : i < l.length) (hj : j < 8) : (opsCells l p)[i * 8 + j]? = some (cellsOp (opOf l i) (p i) j) := by
  unfold opsCells
  rw [flatMap_range_get (fun _ => rfl) hi hj, opArr_get _ _ hj]
def updP (p : Nat → Option Addr × Nat) (n : Nat) (a : Option Addr × Nat) : Nat → Option Addr × Nat := fun i => if i = n then a else p i
theorem opOf_snoc {l : List OpP} {o : OpP} {i : Nat} : opOf (l ++ [o]) i = if i < l.length then opOf l i else if i = l.length then o else default := by
  unfold opOf
  by_cases h : i < l.length
  · rw [if_pos h, List.getD_eq_getElem?_getD, List.getD_eq_getElem?_getD, List.getElem?_append_left h]
  · rw [if_neg h, List.getD_eq_getElem?_getD, List.getElem?_append_right (by omega)]
    by_cases h2 : i = l.length
    · rw [if_pos h2, h2]; simp
    · rw [if_neg h2]
      have : i - l.length ≠ 0 := by omega
      rw [List.getElem?_eq_none (by simp; omega)]; rfl
theorem opsCells_snoc (l : List OpP) (p : Nat → Option Addr × Nat) (o : OpP) (a : Option Addr × Nat) : opsCells (l ++ [o]) (updP p l.length a) = opsCells l p ++ (opArr o a).toList := by
  unfold opsCells
  rw [show (l ++ [o]).length = l.length + 1 by simp, List.range_succ, List.flatMap_append]
  congr 1
  · rw [List.flatMap_def, List.flatMap_def]
    congr 1
    apply List.map_congr_left
    intro i hi
    have hi' : i < l.length := List.mem_range.1 hi
    rw [opOf_snoc, if_pos hi']; unfold updP; rw [if_neg (by omega)]
  · simp [opOf_snoc, updP]

/-- the value v is a list of operators of the call's own, each with inputs of its own -/
def OwnOps (w : World) (B : Nat) (v : Value) (l : List OpP) (p : Nat → Option Addr × Nat) : Prop :=
  w.ownsRow B 40 8 v l.length (opsCells l p) ∧ ∀ i, i < l.length → OpIn (opOf l i) ∧ OwnI w B (.slice (p i).1 (insOf l i).length (p i).2) (insOf l i)
theorem own_ne {w : World} {B B2 : Nat} {v u : Value} {xs : List Int} {n : Nat} {cs : List Value} (h : w.ownsRow B 40 8 v n cs) (k : OwnI w B2 u xs) : u.ownBlock = none ∨ u.ownBlock ≠ v.ownBlock := by
  rcases k.1.2 with ⟨hv, -⟩ | ⟨g, cap, cur, hv, hg, hh, -⟩
  · left; rw [hv]; rfl
  · right
    rw [hv]
    intro e
    rcases h.2 with ⟨hv2, -⟩ | ⟨g2, cap2, cur2, hv2, hg2, hh2, -⟩
    · rw [hv2] at e; cases e
    · rw [hv2] at e
      have : g = g2 := by simpa [Value.ownBlock] using e
      subst this
      rw [hh] at hh2
      injection hh2 with h1
      injection h1 with _ h2
      exact absurd h2 (by decide)
section
variable {w w' : World} {B : Nat} {v : Value} {l : List OpP} {p : Nat → Option Addr × Nat}
theorem OwnOps.nil (w : World) (B : Nat) (p : Nat → Option Addr × Nat) : OwnOps w B (.slice none 0 0) [] p := ⟨World.ownsRow_nil _ _ _ _, fun i hi => absurd hi (by simp)⟩
theorem OwnOps.below (h : OwnOps w B v l p) (hb : Below w.heap.size w w') : OwnOps w' B v l p := by
  refine ⟨h.1.kept (row := none) ⟨hb.os, hb.tape, hb.output, hb.size, fun k hk _ => hb.block k hk⟩ ?_, fun i hi => ⟨(h.2 i hi).1, (h.2 i hi).2.below hb⟩⟩
  cases hv : v.ownBlock with
  | none => exact .inl rfl
  | some g => right; simp
theorem OwnOps.form (h : OwnOps w B v l p) : ∃ A c, v = .slice A l.length c := by
  rcases h.1.2 with ⟨hv, hn⟩ | ⟨g, cap, cur, hv, -⟩
  · exact ⟨none, 0, by rw [hv, hn]⟩
  · exact ⟨_, cap, hv⟩
theorem OwnOps.blk (h : OwnOps w B v l p) : ∀ g, v.ownBlock = some g → B ≤ g ∧ g < w.heap.size := h.1.lt
theorem OwnOps.ops {A : Option Addr} {n c : Nat} (h : OwnOps w B (.slice A n c) l p) : IsOps w w.heap.size A l p := by
  refine ⟨fun hn => ?_, fun i hi => ⟨(h.2 i hi).1, (h.2 i hi).2.ints⟩⟩
  obtain ⟨g, cap, hv, _, hlt⟩ := h.1.form hn
  injection hv with e1 e2 e3
  subst e1
  refine ⟨g, 0, rfl, hlt, fun i hi j hj => ?_⟩
  have := h.1.cells (g := g) rfl (i * 8 + j) _ (opsCells_get hi hj)
  rw [Go.WideShapes.add_plain] at this
  simpa [Nat.add_assoc] using this
end

theorem OwnOps.low {w : World} {B : Nat} {v : Value} {l : List OpP} {p : Nat → Option Addr × Nat} (h : OwnOps w B v l p) {a : Addr} (ha : a.block < B) (u : Value) : OwnOps (w.setCell a u) B v l p :=
  ⟨ownsRow_setCell_below h.1 ha u, fun i hi => ⟨(h.2 i hi).1, (h.2 i hi).2.far (fun e => by have := ((h.2 i hi).2.blk _ e).1; omega) u⟩⟩
theorem OwnOps.mono {w : World} {B B' : Nat} {v : Value} {l : List OpP} {p : Nat → Option Addr × Nat} (h : OwnOps w B v l p) (hB : B' ≤ B) : OwnOps w B' v l p := ⟨h.1.mono hB, fun i hi => ⟨(h.2 i hi).1, (h.2 i hi).2.mono hB⟩⟩

/-- append of one operator -/
theorem app_op {ops : Array Oper} {rest : List Oper} {oo : Oper} {a : Act} {Q : Exit → Act → World → Prop} {w : World} (hgd : oo.guard = none) (s x : Operand)
    (ho : oo.op = .call { callee := .builtin .append, args := #[s, x], argTypes := #[22, 22] }) (B : Nat) {v : Value} {l : List OpP} {p : Nat → Option Addr × Nat} {o : OpP} {q : Option Addr × Nat} (hown : OwnOps w B v l p) (hs : a.eval s = v)
    (hoi : OpIn o) (hoo : OwnI w B (.slice q.1 o.ins.length q.2) o.ins) (hx : a.eval x = .slice (some ⟨w.heap.size, 0, none⟩) 1 1) (hlen : l.length < 1000000) (hB : B ≤ w.heap.size)
    (h : ∀ v' w2, OwnOps w2 B v' (l ++ [o]) (updP p l.length q) → Below B w w2 → wpList Try.prog ops Q rest (a.put oo.dst v') w2) :
    wpList Try.prog ops Q (oo :: rest) a (w.alloc (.cells #[.int .i64 o.kind, .slice q.1 o.ins.length q.2, .int .i64 o.fo, .int .i64 o.fa, .int .i64 o.fb, .int .i64 o.parts, .int .i64 o.rate, .int .i64 o.cost] 40)) := by
  obtain ⟨i0, hi, hz0, hz1, hz2⟩ := info_parts infoO
  have hnew : Blk (w.alloc (.cells (opArr o q) 40)) w.heap.size 40 (opArr o q) := Blk.new w _ _
  refine wpList_append_own _ hgd s x 22 ho B 40 i0 _ 8 80 Try.underlying22 hi hz0 hz1 hz2 rfl (by decide) v l.length _ hs (hown.1.alloc _) ⟨w.heap.size, 0, none⟩ 1 1 (opArr o q).toList hx rfl ?_ ?_ (by unfold maxLen; omega) (by omega) (by simp; omega) ?_
  · intro j u hj
    have hj' : (opArr o q)[j]? = some u := by rw [← Array.getElem?_toList]; exact hj
    rw [Go.WideShapes.add_plain, Nat.zero_add]
    exact (hnew.cell j).trans hj'
  · intro u hu
    unfold opArr at hu
    simp at hu
    rcases hu with rfl | rfl | rfl | rfl | rfl | rfl | rfl | rfl <;> rfl
  · intro v' w' h1 h2 _
    have hk : ∀ {u : Value} {xs : List Int}, OwnI w B u xs → OwnI w' B u xs := fun k => (k.alloc (.cells (opArr o q) 40)).grown h2 (own_ne (hown.1.alloc (.cells (opArr o q) 40)) (k.alloc (.cells (opArr o q) 40)))
    refine h v' w' ⟨?_, fun i hi' => ?_⟩ ((Below.refl _ _).alloc hB _ |>.grown h2 (by simp; omega) (fun g hg => (hown.1.lt g hg).1))
    · rw [opsCells_snoc, List.length_append]; exact h1
    · rw [List.length_append] at hi'
      simp at hi'
      unfold insOf
      rw [opOf_snoc]
      by_cases hlt : i < l.length
      · rw [if_pos hlt]
        unfold updP
        rw [if_neg (by omega)]
        exact ⟨(hown.2 i hlt).1, hk (hown.2 i hlt).2⟩
      · rw [if_neg hlt]
        have : i = l.length := by omega
        subst this
        rw [if_pos rfl]
        unfold updP
        rw [if_pos rfl]
        exact ⟨hoi, hk hoo⟩

/-- a job's copy: new each time -/
def RetSpec (w : World) (g : Int) (l : List OpP) (e : Ending) (w' : World) : Prop := ∃ A c p, e = .returned (.agg #[.int .i64 g, .slice A l.length c]) ∧ OwnOps w' w.heap.size (.slice A l.length c) l p ∧ Below w.heap.size w w'

theorem opTake {l : List OpP} {k : Nat} (hk : k < l.length) : l.take (k + 1) = l.take k ++ [opOf l k] := by
  rw [List.take_add_one, List.getElem?_eq_getElem hk]
  unfold opOf
  rw [List.getD_eq_getElem?_getD, List.getElem?_eq_getElem hk]; rfl

set_option maxHeartbeats 4000000 in
theorem copySpec_any (g : Int) (A : Option Addr) (c : Nat) (l : List OpP) (p : Nat → Option Addr × Nat) (hl : l.length ≤ 1000) (hil : ∀ i, i < l.length → (insOf l i).length ≤ 1000) (w : World) (B : Nat) (hB : B ≤ w.heap.size) (h : IsOps w B A l p) :
    Calls Try.prog 47 #[.agg #[.int .i64 g, .slice A l.length c]] w (RetSpec w g l) := by
  have HH := Lib.hid h
  have HIL := Lib.hid hil
  clear h hil
  go_enter Try.func47, Try.ntmps47
  go_wp2_with fail
  go_loopw [4] (fun q wr => ∃ (k : Nat) (A2 : Option Addr) (c2 : Nat) (p2 : Nat → Option Addr × Nat), k ≤ l.length ∧ q = .int .i64 k ∧ Below (w.heap.size + 1) (w.alloc (.cells #[.int .i64 g, .slice A l.length c] 24)) wr ∧
      Blk wr (w.heap.size + 1) 24 #[.int .i64 0, .slice none 0 0] ∧ Blk wr (w.heap.size + 1 + 1) 24 #[.int .i64 g, .slice A2 k c2] ∧ OwnOps wr (w.heap.size + 3) (.slice A2 k c2) (l.take k) p2) (fun q _ => l.length - (intOf q).toNat)
  case atStart =>
    refine ⟨0, none, 0, fun _ => (none, 0), by omega, rfl, ((Below.refl _ _).alloc (by simp) _).alloc (by simp) _, ?_, ?_, OwnOps.nil _ _ _⟩
    · have := (Blk.new (w.alloc (.cells #[.int .i64 g, .slice A l.length c] 24)) 24 #[.int .i64 0, .slice none 0 0]).alloc (.cells #[.int .i64 g, .slice none 0 0] 24)
      simpa using this
    · have := Blk.new ((w.alloc (.cells #[.int .i64 g, .slice A l.length c] 24)).alloc (.cells #[.int .i64 0, .slice none 0 0] 24)) 24 #[.int .i64 g, .slice none 0 0]
      simpa using this
  case round =>
    obtain ⟨k, A2, c2, p2, hk, rfl, hbl, hb1, hb2, hown⟩ := hrel
    have HB := Lib.hid hbl
    have HB1 := Lib.hid hb1
    have HB2 := Lib.hid hb2
    have HOW := Lib.hid hown
    have hsz : w.heap.size + 3 ≤ wr.heap.size := by have := hb2.lt; omega
    have s1 : wr.cell? ⟨w.heap.size, 1, none⟩ = some (.slice A l.length c) := (hbl.cell (p := ⟨w.heap.size, 1, none⟩) (by show w.heap.size < _; omega)).trans (by go_simp)
    clear hbl hb1 hb2 hown
    by_cases hlt : k < l.length
    · obtain ⟨b, o, rfl, hb, c0, c1, c2', c3, c4, c5, c6, c7, hoi, hin⟩ := (((HH.out.more hB).alloc (Nat.le_refl _) (.cells #[.int .i64 g, .slice A l.length c] 24)).below (HB.out.mono (by omega))).at_ hlt
      have HT := Lib.hid (opTake hlt)
      have HLN : Hid ((l.take k).length = k) := by show _ = _; rw [List.length_take]; omega
      have hxl := HIL.out k hlt
      have HOI := Lib.hid hoi
      have HIN := Lib.hid hin
      unfold kindOf at c0
      unfold insOf at c1 hxl HIN
      clear hoi hin
      generalize opOf l k = O at *
      generalize p k = a at *
      have hbw : b < wr.heap.size := by omega
      go_upto_region 6 with (fail)
      obtain ⟨X, hX⟩ : ∃ X, (wr.alloc (.cells #[.int .i64 O.kind, .slice a.1 O.ins.length a.2, .int .i64 O.fo, .int .i64 O.fa, .int .i64 O.fb, .int .i64 O.parts, .int .i64 O.rate, .int .i64 O.cost] 40)) = X := ⟨_, rfl⟩
      have kO : Blk X wr.heap.size 40 (opArr O a) := hX ▸ Blk.new wr _ _
      have kX : X.heap.size = wr.heap.size + 1 := hX ▸ (by simp)
      have kB : Below wr.heap.size wr X := hX ▸ ((Below.refl _ _).alloc (Nat.le_refl _) _)
      (try rw [hX])
      clear hX c0 c1 c2' c3 c4 c5 c6 c7 s1
      obtain ⟨-, o1, -⟩ := op_blk kO
      have HO := Lib.hid kO
      have HKX := Lib.hid kX
      have HKB := Lib.hid kB
      have HCI := Lib.hid (copyInts_any a.1 a.2 O.ins w.heap.size X (by rw [kX]; omega) (HIN.out.below (kB.mono (by omega))) (by omega))
      clear kO kX kB
      go_wp2_with fail
      refine HCI.out.mono ?_
      rintro e w2 ⟨A5, c5, rfl, hown5, hb5⟩
      have kO2 : Blk w2 wr.heap.size 40 (opArr O a) := HO.out.below hb5 (by rw [HKX.out]; omega)
      obtain ⟨W3, hW3⟩ : ∃ W, w2.setCell ⟨wr.heap.size, 1, none⟩ (.slice A5 O.ins.length c5) = W := ⟨_, rfl⟩
      have kO3 : Blk W3 wr.heap.size 40 (opArr O (A5, c5)) := hW3 ▸ kO2.set_ 1 (.slice A5 O.ins.length c5)
      have hB3 : Below wr.heap.size wr W3 := hW3 ▸ ((HKB.out.trans (hb5.mono (by rw [HKX.out]; omega))).setCell (by simp) _)
      have hown3 : OwnI W3 (w.heap.size + 3) (.slice A5 O.ins.length c5) O.ins := hW3 ▸ ((hown5.far (fun e => by have h9 := (hown5.blk _ e).1; rw [HKX.out] at h9; exact absurd h9 (Nat.not_succ_le_self _)) _).mono (by rw [HKX.out]; omega))
      have HOP := Lib.hid (HOW.out.below hB3)
      have HW1 := Lib.hid (HB1.out.below hB3 (by omega))
      have HW2 := Lib.hid (HB2.out.below hB3 (by omega))
      have HBW := Lib.hid (through HB.out (by simp) hB3)
      have hsz3 : wr.heap.size ≤ W3.heap.size := hB3.size
      have HOWN3 := Lib.hid hown3
      have HSET := Lib.hid hW3
      obtain ⟨o0', o1', o2', o3', o4', o5', o6', o7'⟩ := op_blk kO3
      obtain ⟨-, e1⟩ := spec_blk HW2.out
      have hf2 := HW2.out.frozen 1
      obtain ⟨x0, x1, x2, x3, x4, x5, x6, x7⟩ := op_blk kO2
      have hfr := kO2.frozen 1
      clear hown5 hb5 kO2 kO3 hB3 hown3 o1 hW3
      go_upto_region 7 with (fail)
      rw [HSET.out]
      have HOI3 := HOI
      have HLL := Lib.hid (show (l.take k).length < 1000000 by rw [HLN.out]; omega)
      have HZ := Lib.hid (show w.heap.size + 3 ≤ W3.heap.size by omega)
      clear x0 x1 x2 x3 x4 x5 x6 x7 hfr HSET
      have ha1 : ∀ w4, Below (w.heap.size + 3) W3 w4 → Blk w4 (w.heap.size + 1 + 1) 24 #[.int .i64 g, .slice A2 k c2] := fun w4 h4 => HW2.out.below h4 (by omega)
      have HA1 := Lib.hid ha1
      clear ha1
      go_wp2_with (at_builtin; refine app_op (o := O) (q := (A5, c5)) rfl _ _ rfl (w.heap.size + 3) HOP.out rfl HOI.out HOWN3.out rfl HLL.out HZ.out ?_)
      intro v' w4 hown4 hb4
      obtain ⟨A4, c4, rfl⟩ := hown4.form
      have HO4 := Lib.hid hown4
      have HB4 := Lib.hid hb4
      obtain ⟨n4, hn4⟩ : ∃ n, (l.take k ++ [O]).length = n := ⟨_, rfl⟩
      rw [hn4] at HO4 ⊢
      have HN4 := Lib.hid (show n4 = k + 1 by rw [← hn4, List.length_append, HLN.out]; rfl)
      have kk := HA1.out w4 hb4
      have kc := (spec_blk kk).2
      have kf := kk.frozen 1
      have HKK := Lib.hid kk
      clear hown4 hb4 hn4 kk
      go_wp2
      go_roundw
      case rel =>
        refine ⟨k + 1, A4, c4, updP p2 k (A5, c5), by omega, by go_num, ((HBW.out.trans (HB4.out.mono (by omega))).setCell (by simp) _), ?_, ?_, ?_⟩
        · exact (HW1.out.below HB4.out (by omega)).far (by simp) _
        · have := HKK.out.set_ 1 (.slice A4 n4 c4)
          rw [HN4.out] at this ⊢
          exact this
        · rw [HT.out]
          have := HO4.out.low (a := ⟨w.heap.size + 1 + 1, 1, none⟩) (by show w.heap.size + 1 + 1 < _; omega) (.slice A4 n4 c4)
          rw [HN4.out] at this ⊢
          exact this
      case measure => simp [intOf]; omega
    · obtain rfl : k = l.length := by omega
      have r0 := HB1.out.cell 0
      have r1 := HB1.out.cell 1
      have f0 := HB1.out.frozen 0
      have f1 := HB1.out.frozen 1
      obtain ⟨q0, q1⟩ := spec_blk HB2.out
      have HT : Hid (l.take l.length = l) := List.take_length
      have HRB := Lib.hid (show Below w.heap.size w ((wr.setCell ⟨w.heap.size + 1, 0, none⟩ (.int .i64 g)).setCell ⟨w.heap.size + 1, 1, none⟩ (.slice A2 l.length c2)) from ((through ((Below.refl _ _).alloc (Nat.le_refl _) _) (Nat.le_refl _) (HB.out.mono (by simp))).setCell (by simp) _).setCell (by simp) _)
      have HRO := Lib.hid (show OwnOps ((wr.setCell ⟨w.heap.size + 1, 0, none⟩ (.int .i64 g)).setCell ⟨w.heap.size + 1, 1, none⟩ (.slice A2 l.length c2)) (w.heap.size + 3) (.slice A2 l.length c2) l p2 by
        have := (HOW.out.low (a := ⟨w.heap.size + 1, 0, none⟩) (by show w.heap.size + 1 < _; omega) (.int .i64 g)).low (a := ⟨w.heap.size + 1, 1, none⟩) (by show w.heap.size + 1 < _; omega) (.slice A2 l.length c2)
        rw [HT.out] at this; exact this)
      have HR1 := Lib.hid ((HB1.out.set_ 0 (.int .i64 g)).set_ 1 (.slice A2 l.length c2))
      go_wp2_with fail
      have q0' := HR1.out.cell 0
      have q1' := HR1.out.cell 1
      exact bodyPost_ret (v := .agg #[.int .i64 g, .slice A2 l.length c2]) (by simp [results, Try.results47, go_sem, q0', q1']; try rfl) rfl ⟨A2, c2, p2, rfl, HRO.out.mono (by omega), HRB.out⟩
end Go.Proofs.Ytcechimilefihaa.Sp

namespace Go.Proofs.Ytcechimilefihaa.Sp
open Go.ChangeShapes Go.WideShapes Go.ChangeAt Go.RowKit M

set_option maxHeartbeats 2000000 in
theorem sameOp_any (o : OpP) (a1 a2 : Option Addr × Nat) (B : Nat) (w : World) (hB : B ≤ w.heap.size) (h1 : IsInts w B ⟨a1.1, a1.2, o.ins⟩) (h2 : IsInts w B ⟨a2.1, a2.2, o.ins⟩) :
    Calls Try.prog 96 #[.agg #[.int .i64 o.kind, .slice a1.1 o.ins.length a1.2, .int .i64 o.fo, .int .i64 o.fa, .int .i64 o.fb, .int .i64 o.parts, .int .i64 o.rate, .int .i64 o.cost], .agg #[.int .i64 o.kind, .slice a2.1 o.ins.length a2.2, .int .i64 o.fo, .int .i64 o.fa, .int .i64 o.fb, .int .i64 o.parts, .int .i64 o.rate, .int .i64 o.cost]] w fun e w' => e = .returned (.bool true) ∧ Below w.heap.size w w' := by
  obtain ⟨X, hX⟩ : ∃ X, ((w.alloc (.cells #[.int .i64 o.kind, .slice a1.1 o.ins.length a1.2, .int .i64 o.fo, .int .i64 o.fa, .int .i64 o.fb, .int .i64 o.parts, .int .i64 o.rate, .int .i64 o.cost] 40)).alloc (.cells #[.int .i64 o.kind, .slice a2.1 o.ins.length a2.2, .int .i64 o.fo, .int .i64 o.fa, .int .i64 o.fb, .int .i64 o.parts, .int .i64 o.rate, .int .i64 o.cost] 40)) = X := ⟨_, rfl⟩
  have k1 : Blk X w.heap.size 40 (opArr o a1) := hX ▸ (Blk.new w _ _).alloc _
  have k2 : Blk X (w.heap.size + 1) 40 #[.int .i64 o.kind, .slice a2.1 o.ins.length a2.2, .int .i64 o.fo, .int .i64 o.fa, .int .i64 o.fb, .int .i64 o.parts, .int .i64 o.rate, .int .i64 o.cost] := hX ▸ (by have := Blk.new (w.alloc (.cells #[.int .i64 o.kind, .slice a1.1 o.ins.length a1.2, .int .i64 o.fo, .int .i64 o.fa, .int .i64 o.fb, .int .i64 o.parts, .int .i64 o.rate, .int .i64 o.cost] 40)) 40 #[.int .i64 o.kind, .slice a2.1 o.ins.length a2.2, .int .i64 o.fo, .int .i64 o.fa, .int .i64 o.fb, .int .i64 o.parts, .int .i64 o.rate, .int .i64 o.cost]; simpa using this)
  have k3 : Below w.heap.size w X := hX ▸ (((Below.refl _ _).alloc (Nat.le_refl _) _).alloc (by simp) _)
  have k4 : X.heap.size = w.heap.size + 1 + 1 := hX ▸ (by simp)
  have HS := Lib.hid (sameInts_any a1.1 a2.1 a1.2 a2.2 o.ins o.ins B B X (h1.below (k3.mono hB)) (h2.below (k3.mono hB)))
  rw [sameB_yes rfl] at HS
  have HF : Hid (∀ Y, Below X.heap.size X Y → Blk Y w.heap.size 40 (opArr o a1) ∧ Blk Y (w.heap.size + 1) 40 (opArr o a2) ∧ Below w.heap.size w Y) := fun Y hY => ⟨k1.below hY (by omega), k2.below hY (by omega), through k3 (Nat.le_refl _) hY⟩
  have HX := Lib.hid hX
  clear hX k1 k2 k3 k4 h1 h2
  go_enter Try.func96, Try.ntmps96
  go_upto_region 1 with (fail)
  rw [HX.out]
  obtain ⟨e1, e2, -⟩ := HF.out X (Below.refl _ _)
  obtain ⟨x0, x1, -⟩ := op_blk e1
  obtain ⟨y0, y1, -⟩ := op_blk e2
  clear e1 e2
  go_wp2_with fail
  refine HS.out.mono ?_
  rintro e w1 ⟨rfl, hb1⟩
  obtain ⟨e1, e2, e3⟩ := HF.out w1 hb1
  have HB := Lib.hid e3
  clear x0 x1 y0 y1 hb1 e3
  obtain ⟨-, -, x2, x3, x4, x5, x6, x7⟩ := op_blk e1
  obtain ⟨-, -, y2, y3, y4, y5, y6, y7⟩ := op_blk e2
  clear e1 e2
  go_wp2_with fail
  go_returns
  exact ⟨by first | rfl | simp, HB.out⟩

set_option maxHeartbeats 4000000 in
theorem sameSpec_any (g : Int) (A D : Option Addr) (c d : Nat) (l : List OpP) (p1 p2 : Nat → Option Addr × Nat) (hl : l.length ≤ 1000) (w : World) (B : Nat) (hB : B ≤ w.heap.size) (h1 : IsOps w B A l p1) (h2 : IsOps w B D l p2) :
    Calls Try.prog 51 #[.agg #[.int .i64 g, .slice A l.length c], .agg #[.int .i64 g, .slice D l.length d]] w fun e w' => e = .returned (.bool true) ∧ Below w.heap.size w w' := by
  have HH1 := Lib.hid h1
  have HH2 := Lib.hid h2
  clear h1 h2
  have tg : (g != g) = false := by simp
  have tl : ((l.length : Int) != (l.length : Int)) = false := by simp
  go_enter Try.func51, Try.ntmps51
  go_wp2_with fail
  clear tg tl
  go_loopw [5] (fun q wr => ∃ k : Nat, k ≤ l.length ∧ q = .int .i64 k ∧ Below w.heap.size w wr ∧ Blk wr w.heap.size 24 #[.int .i64 g, .slice A l.length c] ∧ Blk wr (w.heap.size + 1) 24 #[.int .i64 g, .slice D l.length d]) (fun q _ => l.length - (intOf q).toNat)
  case atStart =>
    refine ⟨0, by omega, rfl, ((Below.refl _ _).alloc (Nat.le_refl _) _).alloc (by simp) _, (Blk.new w _ _).alloc _, ?_⟩
    have := Blk.new (w.alloc (.cells #[.int .i64 g, .slice A l.length c] 24)) 24 #[.int .i64 g, .slice D l.length d]
    simpa using this
  case round =>
    obtain ⟨k, hk, rfl, hbl, hb1, hb2⟩ := hrel
    have HB := Lib.hid hbl
    have HB1 := Lib.hid hb1
    have HB2 := Lib.hid hb2
    have hsz : w.heap.size + 2 ≤ wr.heap.size := by have := hb2.lt; omega
    have s1 := (spec_blk hb1).2
    have s2 := (spec_blk hb2).2
    by_cases hlt : k < l.length
    · obtain ⟨b, o, rfl, hb, c0, c1, c2, c3, c4, c5, c6, c7, -, hin1⟩ := (HH1.out.below (hbl.mono hB)).at_ hlt
      obtain ⟨b', o', rfl, hb', d0, d1, d2, d3, d4, d5, d6, d7, -, hin2⟩ := (HH2.out.below (hbl.mono hB)).at_ hlt
      unfold kindOf at c0 d0
      unfold insOf at c1 d1 hin1 hin2
      have HIN1 := Lib.hid hin1
      have HIN2 := Lib.hid hin2
      clear hbl hb1 hb2 hin1 hin2
      generalize opOf l k = O at *
      generalize p1 k = a1 at *
      generalize p2 k = a2 at *
      have HC : Hid (∀ Y, Below wr.heap.size wr Y → Calls Try.prog 96 #[.agg #[.int .i64 O.kind, .slice a1.1 O.ins.length a1.2, .int .i64 O.fo, .int .i64 O.fa, .int .i64 O.fb, .int .i64 O.parts, .int .i64 O.rate, .int .i64 O.cost], .agg #[.int .i64 O.kind, .slice a2.1 O.ins.length a2.2, .int .i64 O.fo, .int .i64 O.fa, .int .i64 O.fb, .int .i64 O.parts, .int .i64 O.rate, .int .i64 O.cost]] Y fun e w' => e = .returned (.bool true) ∧ Below Y.heap.size Y w') := fun Y hY =>
        sameOp_any O a1 a2 B Y (by have := hY.size; omega) (HIN1.out.below (hY.mono (by omega))) (HIN2.out.below (hY.mono (by omega)))
      have HWR := Lib.hid (Below.refl wr.heap.size wr)
      have HBK : Hid (∀ w2, Below wr.heap.size wr w2 → Below w.heap.size w w2 ∧ Blk w2 w.heap.size 24 #[.int .i64 g, .slice (some ⟨b, o, none⟩) l.length c] ∧ Blk w2 (w.heap.size + 1) 24 #[.int .i64 g, .slice (some ⟨b', o', none⟩) l.length d]) := fun w2 h2 =>
        ⟨through HB.out (by omega) h2, HB1.out.below h2 (by omega), HB2.out.below h2 (by omega)⟩
      go_upto_region 6 with (fail)
      go_region_with ((first | (go_at_call 96; refine (HC.out _ (by first | exact HWR.out | exact HWR.out.drew | exact below_drewN HWR.out _)).mono ?_; rintro e w3 ⟨rfl, hb3⟩)))
      all_goals
        obtain ⟨n1, n2, n3⟩ := HBK.out _ (by first | exact hb3 | exact of_drew hb3)
        have N1 := Lib.hid n1
        have N2 := Lib.hid n2
        have N3 := Lib.hid n3
        clear hb3 n1 n2 n3 s1 s2 c0 c1 c2 c3 c4 c5 c6 c7 d0 d1 d2 d3 d4 d5 d6 d7
        go_wp2
        go_roundw
        case rel => exact ⟨k + 1, by omega, by go_num, N1.out, N2.out, N3.out⟩
        case measure => simp [intOf]; omega
    · obtain rfl : k = l.length := by omega
      clear hbl hb1 hb2
      go_wp2_with fail
      go_returns
      exact ⟨rfl, HB.out⟩
end Go.Proofs.Ytcechimilefihaa.Sp
