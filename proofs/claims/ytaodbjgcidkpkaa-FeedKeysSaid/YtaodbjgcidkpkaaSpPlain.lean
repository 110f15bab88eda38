/- Jobs, in plain Lean: what may be, the order, users, roots. No condition. -/
import Derived.Laws.Bits64
import Derived.Laws.BitsLemmas
import Derived.IntWalk
namespace Go.Proofs.Ytaodbjgcidkpkaa.Sp
open Go

/-- an operator -/
structure OpP where
  kind : Int
  ins : List Int
  fo : Int
  fa : Int
  fb : Int
  parts : Int
  rate : Int
  cost : Int
instance : Inhabited OpP := ⟨⟨0, [], 0, 0, 0, 0, 0, 0⟩⟩
theorem OpP.ext_ {a b : OpP} (h1 : a.kind = b.kind) (h2 : a.ins = b.ins) (h3 : a.fo = b.fo) (h4 : a.fa = b.fa) (h5 : a.fb = b.fb) (h6 : a.parts = b.parts) (h7 : a.rate = b.rate) (h8 : a.cost = b.cost) : a = b := by
  cases a; cases b; simp at *; simp [*]

def opOf (l : List OpP) (i : Nat) : OpP := l.getD i default
def insOf (l : List OpP) (i : Nat) : List Int := (opOf l i).ins
def kindOf (l : List OpP) (i : Nat) : Int := (opOf l i).kind
/-- has a list a number? -/
def hasB (xs : List Int) (n : Int) : Bool := xs.contains n
theorem hasB_iff {xs : List Int} {n : Int} : hasB xs n = true ↔ n ∈ xs := by unfold hasB; simp
theorem hasB_no {xs : List Int} {n : Int} : hasB xs n = false ↔ n ∉ xs := by rw [← hasB_iff]; simp
/-- where it stands; -1 -/
def idxB (xs : List Int) (n : Int) : Int := match xs.findIdx? (· == n) with | some k => k | none => -1

theorem getD_mem {xs : List Int} {k : Nat} (h : k < xs.length) : xs.getD k 0 ∈ xs := by
  rw [List.getD_eq_getElem?_getD, List.getElem?_eq_getElem h]; exact List.getElem_mem h
theorem mem_getD {xs : List Int} {n : Int} (h : n ∈ xs) : ∃ k, k < xs.length ∧ xs.getD k 0 = n := by
  obtain ⟨k, hk, e⟩ := List.getElem_of_mem h
  exact ⟨k, hk, by rw [List.getD_eq_getElem?_getD, List.getElem?_eq_getElem hk]; exact e⟩

/-- a search: the first place -/
theorem idxB_at {xs : List Int} {n : Int} {k : Nat} (hk : k < xs.length) (h : xs.getD k 0 = n) (hno : ∀ j, j < k → xs.getD j 0 ≠ n) : idxB xs n = k := by
  have : xs.findIdx? (· == n) = some k := by
    rw [List.findIdx?_eq_some_iff_getElem]
    refine ⟨hk, ?_, fun j hj => ?_⟩
    · rw [List.getD_eq_getElem?_getD, List.getElem?_eq_getElem hk] at h; simpa using h
    · have := hno j hj
      rw [List.getD_eq_getElem?_getD, List.getElem?_eq_getElem (by omega)] at this; simpa using this
  unfold idxB; rw [this]
theorem idxB_none {xs : List Int} {n : Int} (hno : ∀ j, j < xs.length → xs.getD j 0 ≠ n) : idxB xs n = -1 := by
  have : xs.findIdx? (· == n) = none := by
    rw [List.findIdx?_eq_none_iff]
    intro x hx
    obtain ⟨j, hj, rfl⟩ := mem_getD hx
    simpa using hno j hj
  unfold idxB; rw [this]
theorem has_at {xs : List Int} {n : Int} {k : Nat} (hk : k < xs.length) (h : xs.getD k 0 = n) : hasB xs n = true := hasB_iff.2 (h ▸ getD_mem hk)
theorem has_none {xs : List Int} {n : Int} (hno : ∀ j, j < xs.length → xs.getD j 0 ≠ n) : hasB xs n = false := by
  rw [hasB_no]; intro h
  obtain ⟨j, hj, e⟩ := mem_getD h
  exact hno j hj e
theorem idxB_has (xs : List Int) (n : Int) : decide (0 ≤ idxB xs n) = hasB xs n := by
  cases h : xs.findIdx? (· == n) with
  | none =>
    have e : idxB xs n = -1 := by unfold idxB; rw [h]
    rw [e]
    rw [List.findIdx?_eq_none_iff] at h
    have : hasB xs n = false := by rw [hasB_no]; intro hm; have := h n hm; simp at this
    rw [this]; rfl
  | some k =>
    have e : idxB xs n = k := by unfold idxB; rw [h]
    rw [e]
    rw [List.findIdx?_eq_some_iff_getElem] at h
    obtain ⟨hk, hn, -⟩ := h
    have : hasB xs n = true := by rw [hasB_iff]; have e : xs[k] = n := by simpa using hn
                                  rw [← e]; exact List.getElem_mem hk
    rw [this]; simp
theorem idxB_lt (xs : List Int) (n : Int) : idxB xs n < xs.length ∨ xs = [] := by
  cases h : xs.findIdx? (· == n) with
  | none =>
    have e : idxB xs n = -1 := by unfold idxB; rw [h]
    rw [e]; cases xs with
    | nil => exact .inr rfl
    | cons => left; simp; omega
  | some k =>
    have e : idxB xs n = k := by unfold idxB; rw [h]
    rw [e]
    rw [List.findIdx?_eq_some_iff_getElem] at h
    obtain ⟨hk, -⟩ := h
    left; omega

def btw (n lo hi : Int) : Bool := decide (lo ≤ n) && decide (n ≤ hi)
theorem btw_yes {n lo hi : Int} (h1 : lo ≤ n) (h2 : n ≤ hi) : btw n lo hi = true := by simp [btw, h1, h2]
theorem btw_no {n lo hi : Int} (h : n < lo ∨ hi < n) : btw n lo hi = false := by simp [btw]; omega

/-- may an operator of a kind do something? -/
def mayB (k o a b : Int) : Bool :=
  if k = 2 then btw o 1 7 && b == 0 && (o != 5 || decide (0 < a))
  else if k = 3 then (if o = 1 then b == 0 else if o = 2 ∨ o = 3 then decide (0 < a) && btw b 0 (a - 1) else false)
  else if k = 4 then o == 0 && btw a 0 4
  else if k = 5 then btw o 1 4 && b == 0 && a == 0
  else if k = 6 then btw o 1 4 && b == 0 && btw a 1 16
  else o == 0 && a == 0 && b == 0

/-- the first number of something, of n -/
def firstE (f : Nat → Int) : Nat → Int
  | 0 => 0
  | n + 1 => if firstE f n = 0 then f n else firstE f n
theorem firstE_yes {f : Nat → Int} {n k : Nat} (hk : k < n) (h : f k ≠ 0) (hno : ∀ j, j < k → f j = 0) : firstE f n = f k := by
  induction n with
  | zero => omega
  | succ n ih =>
    rw [firstE]
    rcases (show k < n ∨ k = n by omega) with h1 | rfl
    · rw [ih h1, if_neg h]
    · have : ∀ m, m ≤ k → firstE f m = 0 := by
        intro m hm
        induction m with
        | zero => rfl
        | succ m ihm => rw [firstE, ihm (by omega), if_pos rfl]; exact hno m (by omega)
      rw [this k (by omega), if_pos rfl]
theorem firstE_no {f : Nat → Int} {n : Nat} (hno : ∀ j, j < n → f j = 0) : firstE f n = 0 := by
  induction n with
  | zero => rfl
  | succ n ih => rw [firstE, ih (fun j hj => hno j (by omega)), if_pos rfl]; exact hno n (by omega)
theorem firstE_zero {f : Nat → Int} {n : Nat} (h : firstE f n = 0) : ∀ j, j < n → f j = 0 := by
  induction n with
  | zero => intro j hj; omega
  | succ n ih =>
    rw [firstE] at h
    by_cases h0 : firstE f n = 0
    · rw [if_pos h0] at h
      intro j hj
      rcases (show j < n ∨ j = n by omega) with h1 | rfl
      · exact ih h0 j h1
      · exact h
    · rw [if_neg h0] at h; exact absurd h h0

/-- is something so of all below n? -/
def allB (f : Nat → Bool) : Nat → Bool
  | 0 => true
  | n + 1 => allB f n && f n
theorem allB_iff {f : Nat → Bool} {n : Nat} : allB f n = true ↔ ∀ j, j < n → f j = true := by
  induction n with
  | zero => simp [allB]
  | succ n ih =>
    rw [allB, Bool.and_eq_true, ih]
    constructor
    · rintro ⟨a, b⟩ j hj
      rcases (show j < n ∨ j = n by omega) with h | rfl
      · exact a j h
      · exact b
    · intro h; exact ⟨fun j hj => h j (by omega), h n (by omega)⟩
theorem allB_no {f : Nat → Bool} {n k : Nat} (hk : k < n) (h : f k = false) : allB f n = false := by
  cases hb : allB f n with
  | false => rfl
  | true => rw [allB_iff] at hb; rw [hb k hk] at h; cases h
theorem allB_congr {f g : Nat → Bool} {n : Nat} (h : ∀ j, j < n → f j = g j) : allB f n = allB g n := by
  induction n with
  | zero => rfl
  | succ n ih => rw [allB, allB, ih (fun j hj => h j (by omega)), h n (by omega)]

/-- an input, by itself -/
def inB (n i : Nat) (xs : List Int) (k : Nat) : Bool :=
  decide (xs.getD k 0 ≠ i) && btw (xs.getD k 0) 0 (n - 1) && !hasB (xs.take k) (xs.getD k 0)
/-- so many inputs, of a kind -/
def manyB (kind : Int) (n : Nat) : Bool := if kind = 1 then decide (n = 0) else if kind = 7 then decide (2 ≤ n) else decide (n = 1)
def inputsB (n i : Nat) (kind : Int) (xs : List Int) : Bool := allB (inB n i xs) xs.length && manyB kind xs.length
/-- partitions and rate, of a kind -/
def partsB (o : OpP) : Bool := if o.kind = 1 then btw o.parts 1 8 && btw o.rate 1 1048576 else o.parts == 0 && o.rate == 0
/-- what is wrong with an operator of its own -/
def aloneO (n i : Nat) (o : OpP) : Int :=
  if btw o.kind 1 8 then (if inputsB n i o.kind o.ins then (if mayB o.kind o.fo o.fa o.fb && partsB o && btw o.cost 1 1000 then 0 else 1) else 8) else 2
def aloneE (l : List OpP) (i : Nat) : Int := aloneO l.length i (opOf l i)

/-- the numbers below n of which something is so -/
def whichF (f : Nat → Bool) : Nat → List Int
  | 0 => []
  | n + 1 => if f n then whichF f n ++ [(n : Int)] else whichF f n
theorem whichF_mem {f : Nat → Bool} {n : Nat} {x : Int} : x ∈ whichF f n ↔ ∃ k : Nat, x = k ∧ k < n ∧ f k = true := by
  induction n with
  | zero => simp [whichF]
  | succ n ih =>
    rw [whichF]
    constructor
    · intro h
      by_cases hf : f n = true
      · rw [if_pos hf, List.mem_append, ih] at h
        rcases h with ⟨k, a, b, c⟩ | h
        · exact ⟨k, a, by omega, c⟩
        · exact ⟨n, by simpa using h, by omega, hf⟩
      · rw [if_neg hf, ih] at h
        obtain ⟨k, a, b, c⟩ := h
        exact ⟨k, a, by omega, c⟩
    · rintro ⟨k, rfl, b, c⟩
      rcases (show k < n ∨ k = n by omega) with h | rfl
      · split
        · rw [List.mem_append]; exact .inl (ih.2 ⟨k, rfl, h, c⟩)
        · exact ih.2 ⟨k, rfl, h, c⟩
      · rw [if_pos c]; simp
theorem whichF_len (f : Nat → Bool) (n : Nat) : (whichF f n).length ≤ n := by
  induction n with
  | zero => simp [whichF]
  | succ n ih =>
    rw [whichF]; split
    · rw [List.length_append]; simp; omega
    · omega
theorem whichF_yes {f : Nat → Bool} {n : Nat} (h : f n = true) : whichF f (n + 1) = whichF f n ++ [(n : Int)] := by rw [whichF, if_pos h]
theorem whichF_no {f : Nat → Bool} {n : Nat} (h : f n = false) : whichF f (n + 1) = whichF f n := by rw [whichF, h]; simp
theorem whichF_congr {f g : Nat → Bool} {n : Nat} (h : ∀ j, j < n → f j = g j) : whichF f n = whichF g n := by
  induction n with
  | zero => rfl
  | succ n ih => rw [whichF, whichF, ih (fun j hj => h j (by omega)), h n (by omega)]

def usersF (l : List OpP) (op : Int) : List Int := whichF (fun i => hasB (insOf l i) op) l.length
def kindF (l : List OpP) (k : Int) : List Int := whichF (fun i => kindOf l i == k) l.length

/-- may an operator be next? -/
def readyB (l : List OpP) (out : List Int) (i : Nat) : Bool := !hasB out i && (insOf l i).all fun x => hasB out x
/-- the first below n that may -/
def nextF (l : List OpP) (out : List Int) : Nat → Option Nat
  | 0 => none
  | n + 1 => match nextF l out n with | some k => some k | none => if readyB l out n then some n else none
theorem nextF_some {l : List OpP} {out : List Int} {n k : Nat} (h : nextF l out n = some k) : k < n ∧ readyB l out k = true ∧ ∀ j, j < k → readyB l out j = false := by
  induction n with
  | zero => cases h
  | succ n ih =>
    rw [nextF] at h
    cases hn : nextF l out n with
    | some m =>
      rw [hn] at h
      obtain ⟨a, b, c⟩ := ih (hn.trans h)
      exact ⟨by omega, b, c⟩
    | none =>
      rw [hn] at h
      have hnone : ∀ m, nextF l out m = none → ∀ j, j < m → readyB l out j = false := by
        intro m
        induction m with
        | zero => intro _ j hj; omega
        | succ m ihm =>
          intro hm j hj
          rw [nextF] at hm
          cases hq : nextF l out m with
          | some q => rw [hq] at hm; cases hm
          | none =>
            rw [hq] at hm
            rcases (show j < m ∨ j = m by omega) with h1 | rfl
            · exact ihm hq j h1
            · cases hr : readyB l out j with
              | false => rfl
              | true => rw [hr] at hm; simp at hm
      cases hr : readyB l out n with
      | false => rw [hr] at h; simp at h
      | true =>
        rw [hr] at h
        have : n = k := by simpa using h
        subst this
        exact ⟨by omega, hr, hnone n hn⟩
theorem nextF_none {l : List OpP} {out : List Int} {n : Nat} (h : nextF l out n = none) : ∀ j, j < n → readyB l out j = false := by
  induction n with
  | zero => intro j hj; omega
  | succ m ihm =>
    intro j hj
    rw [nextF] at h
    cases hq : nextF l out m with
    | some q => rw [hq] at h; cases h
    | none =>
      rw [hq] at h
      rcases (show j < m ∨ j = m by omega) with h1 | rfl
      · exact ihm hq j h1
      · cases hr : readyB l out j with
        | false => rfl
        | true => rw [hr] at h; simp at h
theorem nextF_is {l : List OpP} {out : List Int} {n k : Nat} (hk : k < n) (h : readyB l out k = true) (hno : ∀ j, j < k → readyB l out j = false) : nextF l out n = some k := by
  cases hq : nextF l out n with
  | none => have := nextF_none hq k hk; rw [h] at this; cases this
  | some q =>
    obtain ⟨a, b, c⟩ := nextF_some hq
    rcases Nat.lt_trichotomy q k with h1 | h1 | h1
    · rw [hno q h1] at b; cases b
    · rw [h1]
    · rw [c k h1] at h; cases h
theorem nextF_no {l : List OpP} {out : List Int} {n : Nat} (hno : ∀ j, j < n → readyB l out j = false) : nextF l out n = none := by
  cases hq : nextF l out n with
  | none => rfl
  | some q =>
    obtain ⟨a, b, c⟩ := nextF_some hq
    rw [hno q a] at b; cases b

/-- the order behind k steps -/
def ordSt (l : List OpP) : Nat → List Int
  | 0 => []
  | k + 1 => match nextF l (ordSt l k) l.length with | some i => ordSt l k ++ [(i : Int)] | none => ordSt l k
def orderF (l : List OpP) : List Int := ordSt l l.length
theorem ordSt_some {l : List OpP} {k i : Nat} (h : nextF l (ordSt l k) l.length = some i) : ordSt l (k + 1) = ordSt l k ++ [(i : Int)] := by rw [ordSt, h]
theorem ordSt_none {l : List OpP} {k : Nat} (h : nextF l (ordSt l k) l.length = none) : ∀ j, k ≤ j → ordSt l j = ordSt l k := by
  intro j hj
  induction j with
  | zero => have : k = 0 := by omega
            rw [this]
  | succ j ih =>
    rcases (show k ≤ j ∨ k = j + 1 by omega) with h1 | rfl
    · rw [ordSt, ih h1, h]
    · rfl
/-- an order so far: below n, none twice, each behind its inputs -/
def OrdOk (l : List OpP) (out : List Int) : Prop :=
  (∀ x ∈ out, ∃ i : Nat, x = i ∧ i < l.length) ∧ out.Nodup ∧ ∀ k, k < out.length → ∀ y ∈ insOf l (out.getD k 0).toNat, y ∈ out.take k
theorem OrdOk.snoc {l : List OpP} {out : List Int} {i : Nat} (h : OrdOk l out) (hi : i < l.length) (hr : readyB l out i = true) : OrdOk l (out ++ [(i : Int)]) := by
  obtain ⟨h1, h2, h3⟩ := h
  unfold readyB at hr
  rw [Bool.and_eq_true, Bool.not_eq_true', hasB_no, List.all_eq_true] at hr
  obtain ⟨r1, r2⟩ := hr
  refine ⟨fun x hx => ?_, ?_, fun k hk y hy => ?_⟩
  · rcases List.mem_append.1 hx with hx | hx
    · exact h1 x hx
    · exact ⟨i, by simpa using hx, hi⟩
  · rw [List.nodup_append]
    exact ⟨h2, by simp, fun a ha b hb e => by
      have : b = (i : Int) := by simpa using hb
      rw [e, this] at ha; exact r1 ha⟩
  · rcases (show k < out.length ∨ k = out.length by simp at hk; omega) with h | rfl
    · have e : (out ++ [(i : Int)]).getD k 0 = out.getD k 0 := by
        rw [List.getD_eq_getElem?_getD, List.getD_eq_getElem?_getD, List.getElem?_append_left h]
      rw [e] at hy
      rw [List.take_append_of_le_length (by omega)]
      exact h3 k h y hy
    · have e : (out ++ [(i : Int)]).getD out.length 0 = i := by
        rw [List.getD_eq_getElem?_getD, List.getElem?_append_right (Nat.le_refl _)]; simp
      rw [e] at hy
      rw [List.take_append_of_le_length (Nat.le_refl _), List.take_length]
      exact hasB_iff.1 (r2 y (by simpa using hy))
theorem ordSt_ok (l : List OpP) (k : Nat) : OrdOk l (ordSt l k) := by
  induction k with
  | zero => exact ⟨fun x hx => absurd hx (by simp [ordSt]), by simp [ordSt], fun k hk => absurd hk (by simp [ordSt])⟩
  | succ k ih =>
    cases h : nextF l (ordSt l k) l.length with
    | none => rw [ordSt, h]; exact ih
    | some i =>
      rw [ordSt_some h]
      obtain ⟨a, b, -⟩ := nextF_some h
      exact ih.snoc a b
/-- numbers below n, none twice: at most n -/
theorem nodup_le {n : Nat} {xs : List Int} (h1 : ∀ x ∈ xs, ∃ i : Nat, x = i ∧ i < n) (h2 : xs.Nodup) : xs.length ≤ n := by
  have hs : xs ⊆ (List.range n).map (fun i : Nat => (i : Int)) := by
    intro x hx
    obtain ⟨i, rfl, hi⟩ := h1 x hx
    exact List.mem_map.2 ⟨i, List.mem_range.2 hi, rfl⟩
  have := h2.length_le_of_subset hs
  simpa using this
theorem nodup_full {n : Nat} {xs : List Int} (h1 : ∀ x ∈ xs, ∃ i : Nat, x = i ∧ i < n) (h2 : xs.Nodup) (h : n ≤ xs.length) (i : Nat) (hi : i < n) : (i : Int) ∈ xs := by
  rcases Classical.em ((i : Int) ∈ xs) with hm | hm
  · exact hm
  · have hs : xs ⊆ ((List.range n).map (fun i : Nat => (i : Int))).erase (i : Int) := by
      intro x hx
      obtain ⟨j, rfl, hj⟩ := h1 x hx
      have hne : (j : Int) ≠ i := fun e => hm (e ▸ hx)
      exact (List.mem_erase_of_ne hne).2 (List.mem_map.2 ⟨j, List.mem_range.2 hj, rfl⟩)
    have := h2.length_le_of_subset hs
    rw [List.length_erase_of_mem (List.mem_map.2 ⟨i, List.mem_range.2 hi, rfl⟩)] at this
    simp at this; omega
theorem ordSt_len (l : List OpP) (k : Nat) : (ordSt l k).length ≤ l.length := nodup_le (ordSt_ok l k).1 (ordSt_ok l k).2.1
theorem ordSt_len' (l : List OpP) (k : Nat) : (ordSt l k).length ≤ k := by
  induction k with
  | zero => simp [ordSt]
  | succ k ih =>
    cases h : nextF l (ordSt l k) l.length with
    | none => rw [ordSt, h]; simpa using Nat.le_succ_of_le ih
    | some i => rw [ordSt_some h]; simp; omega
theorem order_none (l : List OpP) : nextF l (orderF l) l.length = none := by
  have hst : ∀ k, nextF l (ordSt l k) l.length = none ∨ (ordSt l (k + 1)).length = k + 1 := by
    intro k
    induction k with
    | zero =>
      cases h : nextF l (ordSt l 0) l.length with
      | none => exact .inl rfl
      | some i => right; rw [ordSt_some h]; simp [ordSt]
    | succ k ih =>
      cases h : nextF l (ordSt l (k + 1)) l.length with
      | none => exact .inl rfl
      | some i =>
        right
        rw [ordSt_some h]
        rcases ih with h0 | h0
        · rw [ordSt_none h0 (k + 1) (by omega), h0] at h; cases h
        · rw [List.length_append, h0]; rfl
  rcases hst l.length with h | h
  · exact h
  · have := ordSt_len l (l.length + 1); omega

/-- does an operator come of another one? -/
def comesF : Nat → List OpP → Nat → Int → Bool
  | 0, _, op, r => (op : Int) == r
  | f + 1, l, op, r => (op : Int) == r || (insOf l op).any fun x => comesF f l x.toNat r
def rootsF (l : List OpP) (op : Int) : List Int :=
  if 0 ≤ op ∧ op < l.length then (kindF l 1).filter (fun r => comesF l.length l op.toNat r) else []
/-- have lists nothing in common, nor with what was seen? -/
def apartGo : List (List Int) → List Int → Bool
  | [], _ => true
  | r :: rs, seen => !(r.any fun x => hasB seen x) && apartGo rs (seen ++ r)
def apartB (l : List OpP) (i : Nat) : Bool := apartGo ((insOf l i).map (rootsF l)) []
/-- has it users just if it is no sink? -/
def fedB (l : List OpP) (i : Nat) : Bool := (usersF l i).isEmpty == (kindOf l i == 8)

/-- what is wrong with a job -/
def chkE (g : Int) (l : List OpP) : Int :=
  if btw g 1 64 then
    if btw l.length 1 12 then
      if firstE (aloneE l) l.length = 0 then
        if allB (fedB l) l.length then
          if l.length ≤ (orderF l).length then
            if allB (apartB l) l.length then 0 else 10
          else 9
        else 8
      else firstE (aloneE l) l.length
    else 3
  else 1
end Go.Proofs.Ytaodbjgcidkpkaa.Sp
