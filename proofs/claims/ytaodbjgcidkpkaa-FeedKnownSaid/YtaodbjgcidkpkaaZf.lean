/- Jobs, in plain Lean: what may be, the order, users, roots. No condition. Jobs: what the program's and the document's small functions return, each from any memory. Jobs: what is wrong with an operator of its own. Jobs: an operator of its own, whole. Jobs: an operator of its own, whole, as the document has it. A job among the arguments, opened. -/
import Derived.Laws.Bits64
import Derived.Laws.BitsLemmas
import Derived.IntWalk
import Derived.Test.YtaodbjgcidkpkaaRows
import Derived.Test.YtaodbjgcidkpkaaZa
import Derived.WalkKit
import Derived.ProofKit
import Derived.OpenShut
import Derived.Outline
import Derived.Handy
import Derived.WalkLawsBesides
import Derived.Lib.Hide
import Derived.RegionTactic
import Derived.BigRegion
import Derived.Deep.DeepCutAuto
import Derived.Deep.QuietTactic
import Derived.BigQuiet
import Derived.Lib.SmallJoins

namespace Go.Proofs.Ytaodbjgcidkpkaa.Sp
open Go

/-- an operator -/
structure OpP where
  kind : Int
  ins : List Int
  fo : Int
  fa : Int
  fb : Int
  parts : Int
  rate : Int
  cost : Int
instance : Inhabited OpP := ⟨⟨0, [], 0, 0, 0, 0, 0, 0⟩⟩
theorem OpP.ext_ {a b : OpP} (h1 : a.kind = b.kind) (h2 : a.ins = b.ins) (h3 : a.fo = b.fo) (h4 : a.fa = b.fa) (h5 : a.fb = b.fb) (h6 : a.parts = b.parts) (h7 : a.rate = b.rate) (h8 : a.cost = b.cost) : a = b := by
  cases a; cases b; simp at *; simp [*]

def opOf (l : List OpP) (i : Nat) : OpP := l.getD i default
def insOf (l : List OpP) (i : Nat) : List Int := (opOf l i).ins
def kindOf (l : List OpP) (i : Nat) : Int := (opOf l i).kind
/-- has a list a number? -/
def hasB (xs : List Int) (n : Int) : Bool := xs.contains n
theorem hasB_iff {xs : List Int} {n : Int} : hasB xs n = true ↔ n ∈ xs := by unfold hasB; simp
theorem hasB_no {xs : List Int} {n : Int} : hasB xs n = false ↔ n ∉ xs := by rw [← hasB_iff]; simp
/-- where it stands; -1 -/
def idxB (xs : List Int) (n : Int) : Int := match xs.findIdx? (· == n) with | some k => k | none => -1

theorem getD_mem {xs : List Int} {k : Nat} (h : k < xs.length) : xs.getD k 0 ∈ xs := by
  rw [List.getD_eq_getElem?_getD, List.getElem?_eq_getElem h]; exact List.getElem_mem h
theorem mem_getD {xs : List Int} {n : Int} (h : n ∈ xs) : ∃ k, k < xs.length ∧ xs.getD k 0 = n := by
  obtain ⟨k, hk, e⟩ := List.getElem_of_mem h
  exact ⟨k, hk, by rw [List.getD_eq_getElem?_getD, List.getElem?_eq_getElem hk]; exact e⟩

/-- a search: the first place -/
theorem idxB_at {xs : List Int} {n : Int} {k : Nat} (hk : k < xs.length) (h : xs.getD k 0 = n) (hno : ∀ j, j < k → xs.getD j 0 ≠ n) : idxB xs n = k := by
  have : xs.findIdx? (· == n) = some k := by
    rw [List.findIdx?_eq_some_iff_getElem]
    refine ⟨hk, ?_, fun j hj => ?_⟩
    · rw [List.getD_eq_getElem?_getD, List.getElem?_eq_getElem hk] at h; simpa using h
    · have := hno j hj
      rw [List.getD_eq_getElem?_getD, List.getElem?_eq_getElem (by omega)] at this; simpa using this
  unfold idxB; rw [this]
theorem idxB_none {xs : List Int} {n : Int} (hno : ∀ j, j < xs.length → xs.getD j 0 ≠ n) : idxB xs n = -1 := by
  have : xs.findIdx? (· == n) = none := by
    rw [List.findIdx?_eq_none_iff]
    intro x hx
    obtain ⟨j, hj, rfl⟩ := mem_getD hx
    simpa using hno j hj
  unfold idxB; rw [this]
theorem has_at {xs : List Int} {n : Int} {k : Nat} (hk : k < xs.length) (h : xs.getD k 0 = n) : hasB xs n = true := hasB_iff.2 (h ▸ getD_mem hk)
theorem has_none {xs : List Int} {n : Int} (hno : ∀ j, j < xs.length → xs.getD j 0 ≠ n) : hasB xs n = false := by
  rw [hasB_no]; intro h
  obtain ⟨j, hj, e⟩ := mem_getD h
  exact hno j hj e
theorem idxB_has (xs : List Int) (n : Int) : decide (0 ≤ idxB xs n) = hasB xs n := by
  cases h : xs.findIdx? (· == n) with
  | none =>
    have e : idxB xs n = -1 := by unfold idxB; rw [h]
    rw [e]
    rw [List.findIdx?_eq_none_iff] at h
    have : hasB xs n = false := by rw [hasB_no]; intro hm; have := h n hm; simp at this
    rw [this]; rfl
  | some k =>
    have e : idxB xs n = k := by unfold idxB; rw [h]
    rw [e]
    rw [List.findIdx?_eq_some_iff_getElem] at h
    obtain ⟨hk, hn, -⟩ := h
    have : hasB xs n = true := by rw [hasB_iff]; have e : xs[k] = n := by simpa using hn
                                  rw [← e]; exact List.getElem_mem hk
    rw [this]; simp
theorem idxB_lt (xs : List Int) (n : Int) : idxB xs n < xs.length ∨ xs = [] := by
  cases h : xs.findIdx? (· == n) with
  | none =>
    have e : idxB xs n = -1 := by unfold idxB; rw [h]
    rw [e]; cases xs with
    | nil => exact .inr rfl
    | cons => left; simp; omega
  | some k =>
    have e : idxB xs n = k := by unfold idxB; rw [h]
    rw [e]
    rw [List.findIdx?_eq_some_iff_getElem] at h
    obtain ⟨hk, -⟩ := h
    left; omega

def btw (n lo hi : Int) : Bool := decide (lo ≤ n) && decide (n ≤ hi)
theorem btw_yes {n lo hi : Int} (h1 : lo ≤ n) (h2 : n ≤ hi) : btw n lo hi = true := by simp [btw, h1, h2]
theorem btw_no {n lo hi : Int} (h : n < lo ∨ hi < n) : btw n lo hi = false := by simp [btw]; omega

/-- may an operator of a kind do something? -/
def mayB (k o a b : Int) : Bool :=
  if k = 2 then btw o 1 7 && b == 0 && (o != 5 || decide (0 < a))
  else if k = 3 then (if o = 1 then b == 0 else if o = 2 ∨ o = 3 then decide (0 < a) && btw b 0 (a - 1) else false)
  else if k = 4 then o == 0 && btw a 0 4
  else if k = 5 then btw o 1 4 && b == 0 && a == 0
  else if k = 6 then btw o 1 4 && b == 0 && btw a 1 16
  else o == 0 && a == 0 && b == 0

/-- the first number of something, of n -/
def firstE (f : Nat → Int) : Nat → Int
  | 0 => 0
  | n + 1 => if firstE f n = 0 then f n else firstE f n
theorem firstE_yes {f : Nat → Int} {n k : Nat} (hk : k < n) (h : f k ≠ 0) (hno : ∀ j, j < k → f j = 0) : firstE f n = f k := by
  induction n with
  | zero => omega
  | succ n ih =>
    rw [firstE]
    rcases (show k < n ∨ k = n by omega) with h1 | rfl
    · rw [ih h1, if_neg h]
    · have : ∀ m, m ≤ k → firstE f m = 0 := by
        intro m hm
        induction m with
        | zero => rfl
        | succ m ihm => rw [firstE, ihm (by omega), if_pos rfl]; exact hno m (by omega)
      rw [this k (by omega), if_pos rfl]
theorem firstE_no {f : Nat → Int} {n : Nat} (hno : ∀ j, j < n → f j = 0) : firstE f n = 0 := by
  induction n with
  | zero => rfl
  | succ n ih => rw [firstE, ih (fun j hj => hno j (by omega)), if_pos rfl]; exact hno n (by omega)
theorem firstE_zero {f : Nat → Int} {n : Nat} (h : firstE f n = 0) : ∀ j, j < n → f j = 0 := by
  induction n with
  | zero => intro j hj; omega
  | succ n ih =>
    rw [firstE] at h
    by_cases h0 : firstE f n = 0
    · rw [if_pos h0] at h
      intro j hj
      rcases (show j < n ∨ j = n by omega) with h1 | rfl
      · exact ih h0 j h1
      · exact h
    · rw [if_neg h0] at h; exact absurd h h0

/-- is something so of all below n? -/
def allB (f : Nat → Bool) : Nat → Bool
  | 0 => true
  | n + 1 => allB f n && f n
theorem allB_iff {f : Nat → Bool} {n : Nat} : allB f n = true ↔ ∀ j, j < n → f j = true := by
  induction n with
  | zero => simp [allB]
  | succ n ih =>
    rw [allB, Bool.and_eq_true, ih]
    constructor
    · rintro ⟨a, b⟩ j hj
      rcases (show j < n ∨ j = n by omega) with h | rfl
      · exact a j h
      · exact b
    · intro h; exact ⟨fun j hj => h j (by omega), h n (by omega)⟩
theorem allB_no {f : Nat → Bool} {n k : Nat} (hk : k < n) (h : f k = false) : allB f n = false := by
  cases hb : allB f n with
  | false => rfl
  | true => rw [allB_iff] at hb; rw [hb k hk] at h; cases h
theorem allB_congr {f g : Nat → Bool} {n : Nat} (h : ∀ j, j < n → f j = g j) : allB f n = allB g n := by
  induction n with
  | zero => rfl
  | succ n ih => rw [allB, allB, ih (fun j hj => h j (by omega)), h n (by omega)]

/-- an input, by itself -/
def inB (n i : Nat) (xs : List Int) (k : Nat) : Bool :=
  decide (xs.getD k 0 ≠ i) && btw (xs.getD k 0) 0 (n - 1) && !hasB (xs.take k) (xs.getD k 0)
/-- so many inputs, of a kind -/
def manyB (kind : Int) (n : Nat) : Bool := if kind = 1 then decide (n = 0) else if kind = 7 then decide (2 ≤ n) else decide (n = 1)
def inputsB (n i : Nat) (kind : Int) (xs : List Int) : Bool := allB (inB n i xs) xs.length && manyB kind xs.length
/-- partitions and rate, of a kind -/
def partsB (o : OpP) : Bool := if o.kind = 1 then btw o.parts 1 8 && btw o.rate 1 1048576 else o.parts == 0 && o.rate == 0
/-- what is wrong with an operator of its own -/
def aloneO (n i : Nat) (o : OpP) : Int :=
  if btw o.kind 1 8 then (if inputsB n i o.kind o.ins then (if mayB o.kind o.fo o.fa o.fb && partsB o && btw o.cost 1 1000 then 0 else 1) else 8) else 2
def aloneE (l : List OpP) (i : Nat) : Int := aloneO l.length i (opOf l i)

/-- the numbers below n of which something is so -/
def whichF (f : Nat → Bool) : Nat → List Int
  | 0 => []
  | n + 1 => if f n then whichF f n ++ [(n : Int)] else whichF f n
theorem whichF_mem {f : Nat → Bool} {n : Nat} {x : Int} : x ∈ whichF f n ↔ ∃ k : Nat, x = k ∧ k < n ∧ f k = true := by
  induction n with
  | zero => simp [whichF]
  | succ n ih =>
    rw [whichF]
    constructor
    · intro h
      by_cases hf : f n = true
      · rw [if_pos hf, List.mem_append, ih] at h
        rcases h with ⟨k, a, b, c⟩ | h
        · exact ⟨k, a, by omega, c⟩
        · exact ⟨n, by simpa using h, by omega, hf⟩
      · rw [if_neg hf, ih] at h
        obtain ⟨k, a, b, c⟩ := h
        exact ⟨k, a, by omega, c⟩
    · rintro ⟨k, rfl, b, c⟩
      rcases (show k < n ∨ k = n by omega) with h | rfl
      · split
        · rw [List.mem_append]; exact .inl (ih.2 ⟨k, rfl, h, c⟩)
        · exact ih.2 ⟨k, rfl, h, c⟩
      · rw [if_pos c]; simp
theorem whichF_len (f : Nat → Bool) (n : Nat) : (whichF f n).length ≤ n := by
  induction n with
  | zero => simp [whichF]
  | succ n ih =>
    rw [whichF]; split
    · rw [List.length_append]; simp; omega
    · omega
theorem whichF_yes {f : Nat → Bool} {n : Nat} (h : f n = true) : whichF f (n + 1) = whichF f n ++ [(n : Int)] := by rw [whichF, if_pos h]
theorem whichF_no {f : Nat → Bool} {n : Nat} (h : f n = false) : whichF f (n + 1) = whichF f n := by rw [whichF, h]; simp
theorem whichF_congr {f g : Nat → Bool} {n : Nat} (h : ∀ j, j < n → f j = g j) : whichF f n = whichF g n := by
  induction n with
  | zero => rfl
  | succ n ih => rw [whichF, whichF, ih (fun j hj => h j (by omega)), h n (by omega)]

def usersF (l : List OpP) (op : Int) : List Int := whichF (fun i => hasB (insOf l i) op) l.length
def kindF (l : List OpP) (k : Int) : List Int := whichF (fun i => kindOf l i == k) l.length

/-- may an operator be next? -/
def readyB (l : List OpP) (out : List Int) (i : Nat) : Bool := !hasB out i && (insOf l i).all fun x => hasB out x
/-- the first below n that may -/
def nextF (l : List OpP) (out : List Int) : Nat → Option Nat
  | 0 => none
  | n + 1 => match nextF l out n with | some k => some k | none => if readyB l out n then some n else none
theorem nextF_some {l : List OpP} {out : List Int} {n k : Nat} (h : nextF l out n = some k) : k < n ∧ readyB l out k = true ∧ ∀ j, j < k → readyB l out j = false := by
  induction n with
  | zero => cases h
  | succ n ih =>
    rw [nextF] at h
    cases hn : nextF l out n with
    | some m =>
      rw [hn] at h
      obtain ⟨a, b, c⟩ := ih (hn.trans h)
      exact ⟨by omega, b, c⟩
    | none =>
      rw [hn] at h
      have hnone : ∀ m, nextF l out m = none → ∀ j, j < m → readyB l out j = false := by
        intro m
        induction m with
        | zero => intro _ j hj; omega
        | succ m ihm =>
          intro hm j hj
          rw [nextF] at hm
          cases hq : nextF l out m with
          | some q => rw [hq] at hm; cases hm
          | none =>
            rw [hq] at hm
            rcases (show j < m ∨ j = m by omega) with h1 | rfl
            · exact ihm hq j h1
            · cases hr : readyB l out j with
              | false => rfl
              | true => rw [hr] at hm; simp at hm
      cases hr : readyB l out n with
      | false => rw [hr] at h; simp at h
      | true =>
        rw [hr] at h
        have : n = k := by simpa using h
        subst this
        exact ⟨by omega, hr, hnone n hn⟩
theorem nextF_none {l : List OpP} {out : List Int} {n : Nat} (h : nextF l out n = none) : ∀ j, j < n → readyB l out j = false := by
  induction n with
  | zero => intro j hj; omega
  | succ m ihm =>
    intro j hj
    rw [nextF] at h
    cases hq : nextF l out m with
    | some q => rw [hq] at h; cases h
    | none =>
      rw [hq] at h
      rcases (show j < m ∨ j = m by omega) with h1 | rfl
      · exact ihm hq j h1
      · cases hr : readyB l out j with
        | false => rfl
        | true => rw [hr] at h; simp at h
theorem nextF_is {l : List OpP} {out : List Int} {n k : Nat} (hk : k < n) (h : readyB l out k = true) (hno : ∀ j, j < k → readyB l out j = false) : nextF l out n = some k := by
  cases hq : nextF l out n with
  | none => have := nextF_none hq k hk; rw [h] at this; cases this
  | some q =>
    obtain ⟨a, b, c⟩ := nextF_some hq
    rcases Nat.lt_trichotomy q k with h1 | h1 | h1
    · rw [hno q h1] at b; cases b
    · rw [h1]
    · rw [c k h1] at h; cases h
theorem nextF_no {l : List OpP} {out : List Int} {n : Nat} (hno : ∀ j, j < n → readyB l out j = false) : nextF l out n = none := by
  cases hq : nextF l out n with
  | none => rfl
  | some q =>
    obtain ⟨a, b, c⟩ := nextF_some hq
    rw [hno q a] at b; cases b

/-- the order behind k steps -/
def ordSt (l : List OpP) : Nat → List Int
  | 0 => []
  | k + 1 => match nextF l (ordSt l k) l.length with | some i => ordSt l k ++ [(i : Int)] | none => ordSt l k
def orderF (l : List OpP) : List Int := ordSt l l.length
theorem ordSt_some {l : List OpP} {k i : Nat} (h : nextF l (ordSt l k) l.length = some i) : ordSt l (k + 1) = ordSt l k ++ [(i : Int)] := by rw [ordSt, h]
theorem ordSt_none {l : List OpP} {k : Nat} (h : nextF l (ordSt l k) l.length = none) : ∀ j, k ≤ j → ordSt l j = ordSt l k := by
  intro j hj
  induction j with
  | zero => have : k = 0 := by omega
            rw [this]
  | succ j ih =>
    rcases (show k ≤ j ∨ k = j + 1 by omega) with h1 | rfl
    · rw [ordSt, ih h1, h]
    · rfl
/-- an order so far: below n, none twice, each behind its inputs -/
def OrdOk (l : List OpP) (out : List Int) : Prop :=
  (∀ x ∈ out, ∃ i : Nat, x = i ∧ i < l.length) ∧ out.Nodup ∧ ∀ k, k < out.length → ∀ y ∈ insOf l (out.getD k 0).toNat, y ∈ out.take k
theorem OrdOk.snoc {l : List OpP} {out : List Int} {i : Nat} (h : OrdOk l out) (hi : i < l.length) (hr : readyB l out i = true) : OrdOk l (out ++ [(i : Int)]) := by
  obtain ⟨h1, h2, h3⟩ := h
  unfold readyB at hr
  rw [Bool.and_eq_true, Bool.not_eq_true', hasB_no, List.all_eq_true] at hr
  obtain ⟨r1, r2⟩ := hr
  refine ⟨fun x hx => ?_, ?_, fun k hk y hy => ?_⟩
  · rcases List.mem_append.1 hx with hx | hx
    · exact h1 x hx
    · exact ⟨i, by simpa using hx, hi⟩
  · rw [List.nodup_append]
    exact ⟨h2, by simp, fun a ha b hb e => by
      have : b = (i : Int) := by simpa using hb
      rw [e, this] at ha; exact r1 ha⟩
  · rcases (show k < out.length ∨ k = out.length by simp at hk; omega) with h | rfl
    · have e : (out ++ [(i : Int)]).getD k 0 = out.getD k 0 := by
        rw [List.getD_eq_getElem?_getD, List.getD_eq_getElem?_getD, List.getElem?_append_left h]
      rw [e] at hy
      rw [List.take_append_of_le_length (by omega)]
      exact h3 k h y hy
    · have e : (out ++ [(i : Int)]).getD out.length 0 = i := by
        rw [List.getD_eq_getElem?_getD, List.getElem?_append_right (Nat.le_refl _)]; simp
      rw [e] at hy
      rw [List.take_append_of_le_length (Nat.le_refl _), List.take_length]
      exact hasB_iff.1 (r2 y (by simpa using hy))
theorem ordSt_ok (l : List OpP) (k : Nat) : OrdOk l (ordSt l k) := by
  induction k with
  | zero => exact ⟨fun x hx => absurd hx (by simp [ordSt]), by simp [ordSt], fun k hk => absurd hk (by simp [ordSt])⟩
  | succ k ih =>
    cases h : nextF l (ordSt l k) l.length with
    | none => rw [ordSt, h]; exact ih
    | some i =>
      rw [ordSt_some h]
      obtain ⟨a, b, -⟩ := nextF_some h
      exact ih.snoc a b
/-- numbers below n, none twice: at most n -/
theorem nodup_le {n : Nat} {xs : List Int} (h1 : ∀ x ∈ xs, ∃ i : Nat, x = i ∧ i < n) (h2 : xs.Nodup) : xs.length ≤ n := by
  have hs : xs ⊆ (List.range n).map (fun i : Nat => (i : Int)) := by
    intro x hx
    obtain ⟨i, rfl, hi⟩ := h1 x hx
    exact List.mem_map.2 ⟨i, List.mem_range.2 hi, rfl⟩
  have := h2.length_le_of_subset hs
  simpa using this
theorem nodup_full {n : Nat} {xs : List Int} (h1 : ∀ x ∈ xs, ∃ i : Nat, x = i ∧ i < n) (h2 : xs.Nodup) (h : n ≤ xs.length) (i : Nat) (hi : i < n) : (i : Int) ∈ xs := by
  rcases Classical.em ((i : Int) ∈ xs) with hm | hm
  · exact hm
  · have hs : xs ⊆ ((List.range n).map (fun i : Nat => (i : Int))).erase (i : Int) := by
      intro x hx
      obtain ⟨j, rfl, hj⟩ := h1 x hx
      have hne : (j : Int) ≠ i := fun e => hm (e ▸ hx)
      exact (List.mem_erase_of_ne hne).2 (List.mem_map.2 ⟨j, List.mem_range.2 hj, rfl⟩)
    have := h2.length_le_of_subset hs
    rw [List.length_erase_of_mem (List.mem_map.2 ⟨i, List.mem_range.2 hi, rfl⟩)] at this
    simp at this; omega
theorem ordSt_len (l : List OpP) (k : Nat) : (ordSt l k).length ≤ l.length := nodup_le (ordSt_ok l k).1 (ordSt_ok l k).2.1
theorem ordSt_len' (l : List OpP) (k : Nat) : (ordSt l k).length ≤ k := by
  induction k with
  | zero => simp [ordSt]
  | succ k ih =>
    cases h : nextF l (ordSt l k) l.length with
    | none => rw [ordSt, h]; simpa using Nat.le_succ_of_le ih
    | some i => rw [ordSt_some h]; simp; omega
theorem order_none (l : List OpP) : nextF l (orderF l) l.length = none := by
  have hst : ∀ k, nextF l (ordSt l k) l.length = none ∨ (ordSt l (k + 1)).length = k + 1 := by
    intro k
    induction k with
    | zero =>
      cases h : nextF l (ordSt l 0) l.length with
      | none => exact .inl rfl
      | some i => right; rw [ordSt_some h]; simp [ordSt]
    | succ k ih =>
      cases h : nextF l (ordSt l (k + 1)) l.length with
      | none => exact .inl rfl
      | some i =>
        right
        rw [ordSt_some h]
        rcases ih with h0 | h0
        · rw [ordSt_none h0 (k + 1) (by omega), h0] at h; cases h
        · rw [List.length_append, h0]; rfl
  rcases hst l.length with h | h
  · exact h
  · have := ordSt_len l (l.length + 1); omega

/-- does an operator come of another one? -/
def comesF : Nat → List OpP → Nat → Int → Bool
  | 0, _, op, r => (op : Int) == r
  | f + 1, l, op, r => (op : Int) == r || (insOf l op).any fun x => comesF f l x.toNat r
def rootsF (l : List OpP) (op : Int) : List Int :=
  if 0 ≤ op ∧ op < l.length then (kindF l 1).filter (fun r => comesF l.length l op.toNat r) else []
/-- have lists nothing in common, nor with what was seen? -/
def apartGo : List (List Int) → List Int → Bool
  | [], _ => true
  | r :: rs, seen => !(r.any fun x => hasB seen x) && apartGo rs (seen ++ r)
def apartB (l : List OpP) (i : Nat) : Bool := apartGo ((insOf l i).map (rootsF l)) []
/-- has it users just if it is no sink? -/
def fedB (l : List OpP) (i : Nat) : Bool := (usersF l i).isEmpty == (kindOf l i == 8)

/-- what is wrong with a job -/
def chkE (g : Int) (l : List OpP) : Int :=
  if btw g 1 64 then
    if btw l.length 1 12 then
      if firstE (aloneE l) l.length = 0 then
        if allB (fedB l) l.length then
          if l.length ≤ (orderF l).length then
            if allB (apartB l) l.length then 0 else 10
          else 9
        else 8
      else firstE (aloneE l) l.length
    else 3
  else 1
end Go.Proofs.Ytaodbjgcidkpkaa.Sp

namespace Go.Proofs.Ytaodbjgcidkpkaa.Sp
open Go.ChangeShapes Go.WideShapes Go.ChangeAt Go.RowKit M

theorem ret_int {k : IntKind} {a b : Int} (h : a = b) : Ending.returned (.int k a) = .returned (.int k b) := by rw [h]
theorem ret_bool {a b : Bool} (h : a = b) : Ending.returned (.bool a) = .returned (.bool b) := by rw [h]

theorem between_any (n lo hi : Int) (w : World) :
    Calls Try.prog 51 #[.int .i64 n, .int .i64 lo, .int .i64 hi] w fun e w' => e = .returned (.bool (btw n lo hi)) ∧ w = w' := by
  have E := Lib.hid (show btw n lo hi = (decide (lo ≤ n) && decide (n ≤ hi)) from rfl)
  cases h1 : decide (lo ≤ n) <;> cases h2 : decide (n ≤ hi)
  all_goals
    rw [h1, h2] at E
    go_enter Try.func51, Try.ntmps51
    go_wp2
    go_returns
    exact ⟨ret_bool (by rw [E.out]; rfl), rfl⟩


/-- a job in memory -/
def cellsOp (o : OpP) (a : Option Addr × Nat) : Nat → Value
  | 0 => .int .i64 o.kind
  | 1 => .slice a.1 o.ins.length a.2
  | 2 => .int .i64 o.fo
  | 3 => .int .i64 o.fa
  | 4 => .int .i64 o.fb
  | 5 => .int .i64 o.parts
  | 6 => .int .i64 o.rate
  | _ => .int .i64 o.cost
def OpIn (o : OpP) : Prop := In64 o.kind ∧ In64 o.fo ∧ In64 o.fa ∧ In64 o.fb ∧ In64 o.parts ∧ In64 o.rate ∧ In64 o.cost
def IsOps (w : World) (B : Nat) (A : Option Addr) (l : List OpP) (p : Nat → Option Addr × Nat) : Prop :=
  Lies w B 8 A l.length (fun i j => cellsOp (opOf l i) (p i) j) ∧ ∀ i, i < l.length → OpIn (opOf l i) ∧ IsInts w B ⟨(p i).1, (p i).2, insOf l i⟩
section
variable {w w' : World} {B B' : Nat} {A : Option Addr} {l : List OpP} {p : Nat → Option Addr × Nat}
theorem IsOps.below (h : IsOps w B A l p) (hb : Below B w w') : IsOps w' B A l p := ⟨h.1.below hb, fun i hi => ⟨(h.2 i hi).1, (h.2 i hi).2.below hb⟩⟩
theorem IsOps.more (h : IsOps w B A l p) (hB : B ≤ B') : IsOps w B' A l p := ⟨h.1.more hB, fun i hi => ⟨(h.2 i hi).1, (h.2 i hi).2.more hB⟩⟩
theorem IsOps.keep (h : IsOps w B A l p) (hk : ∀ q : Addr, q.block < B → w'.cell? q = w.cell? q) : IsOps w' B A l p := ⟨h.1.keep hk, fun i hi => ⟨(h.2 i hi).1, (h.2 i hi).2.keep hk⟩⟩
theorem IsOps.alloc (h : IsOps w B A l p) (hB : B ≤ w.heap.size) (o : Obj) : IsOps (w.alloc o) B A l p := h.keep fun q hq => World.cell?_alloc_lt w o q (by omega)
theorem IsOps.drew (h : IsOps w B A l p) : IsOps w.drew B A l p := h
theorem IsOps.drewN (h : IsOps w B A l p) (k : Nat) : IsOps (w.drewN k) B A l p := h
/-- operator i -/
theorem IsOps.at_ (h : IsOps w B A l p) {i : Nat} (hi : i < l.length) : ∃ b o, A = some ⟨b, o, none⟩ ∧ b < B ∧
    w.cell? ⟨b, o + i * 8, none⟩ = some (.int .i64 (kindOf l i)) ∧ w.cell? ⟨b, o + i * 8 + 1, none⟩ = some (.slice (p i).1 (insOf l i).length (p i).2) ∧
    w.cell? ⟨b, o + i * 8 + 2, none⟩ = some (.int .i64 (opOf l i).fo) ∧ w.cell? ⟨b, o + i * 8 + 3, none⟩ = some (.int .i64 (opOf l i).fa) ∧ w.cell? ⟨b, o + i * 8 + 4, none⟩ = some (.int .i64 (opOf l i).fb) ∧
    w.cell? ⟨b, o + i * 8 + 5, none⟩ = some (.int .i64 (opOf l i).parts) ∧ w.cell? ⟨b, o + i * 8 + 6, none⟩ = some (.int .i64 (opOf l i).rate) ∧ w.cell? ⟨b, o + i * 8 + 7, none⟩ = some (.int .i64 (opOf l i).cost) ∧
    OpIn (opOf l i) ∧ IsInts w B ⟨(p i).1, (p i).2, insOf l i⟩ := by
  obtain ⟨b, o, e, hb, hc⟩ := h.1.at_ hi
  exact ⟨b, o, e, hb, by simpa [cellsOp, kindOf] using hc 0 (by omega), by simpa [cellsOp, insOf] using hc 1 (by omega), by simpa [cellsOp] using hc 2 (by omega), by simpa [cellsOp] using hc 3 (by omega), by simpa [cellsOp] using hc 4 (by omega),
    by simpa [cellsOp] using hc 5 (by omega), by simpa [cellsOp] using hc 6 (by omega), by simpa [cellsOp] using hc 7 (by omega), (h.2 i hi).1, (h.2 i hi).2⟩
end

set_option maxHeartbeats 4000000 in
theorem may_any (k o a b : Int) (w : World) (ha : In64 a) :
    Calls Try.prog 78 #[.int .i64 k, .agg #[.int .i64 o, .int .i64 a, .int .i64 b]] w fun e w' => e = .returned (.bool (mayB k o a b)) ∧ Below w.heap.size w w' := by
  unfold In64 at ha
  go_enter Try.func78, Try.ntmps78
  go_wp2_with (go_at_call 51; refine (between_any _ _ _ _).mono ?_; rintro e w' ⟨rfl, rfl⟩)
  all_goals (go_returns; exact ⟨ret_bool (by first | (simp_all [mayB, btw]; done) | (simp_all [mayB, btw]; omega) | (simp_all [mayB, btw]; intros; omega) | (unfold mayB btw; simp_all; omega) | (simp_all [mayB, btw]; rw [Bool.eq_iff_iff]; simp; omega)), by go_grown⟩)

set_option maxHeartbeats 4000000 in
theorem refMay_any (k o a b : Int) (w : World) (ha : In64 a) :
    Calls Try.prog 73 #[.int .i64 k, .agg #[.int .i64 o, .int .i64 a, .int .i64 b]] w fun e w' => e = .returned (.bool (mayB k o a b)) ∧ Below w.heap.size w w' := by
  unfold In64 at ha
  go_enter Try.func73, Try.ntmps73
  go_wp2
  all_goals (go_returns; exact ⟨ret_bool (by first | (simp_all [mayB, btw]; done) | (simp_all [mayB, btw]; omega) | (simp_all [mayB, btw]; intros; omega) | (unfold mayB btw; simp_all; omega) | (simp_all [mayB, btw]; rw [Bool.eq_iff_iff]; simp; omega)), by go_grown⟩)

/-- a list's head in memory -/
theorem ints_take {w : World} {B : Nat} {A : Option Addr} {c : Nat} {xs : List Int} (h : IsInts w B ⟨A, c, xs⟩) (k : Nat) (hk : k ≤ xs.length) : IsInts w B ⟨A, c, xs.take k⟩ := by
  obtain ⟨h1, h2, h3, h4⟩ := h
  have hl : (xs.take k).length = k := by rw [List.length_take]; omega
  refine ⟨?_, by rw [hl]; exact Nat.le_trans hk h2, h3, fun x hx => h4 x (List.mem_of_mem_take hx)⟩
  show Lies w B 1 A (xs.take k).length _
  rw [hl]
  exact (h1.less hk).congr fun i hi j _ => by
    show Value.int .i64 (xs.getD i 0) = Value.int .i64 ((xs.take k).getD i 0)
    rw [List.getD_eq_getElem?_getD, List.getD_eq_getElem?_getD, List.getElem?_take_of_lt hi]

theorem ints_at {w : World} {B : Nat} {A : Option Addr} {c : Nat} {xs : List Int} (h : IsInts w B ⟨A, c, xs⟩) {k : Nat} (hk : k < xs.length) :
    ∃ b o v, A = some ⟨b, o, none⟩ ∧ b < B ∧ Hid (xs.getD k 0 = v) ∧ In64 v ∧ w.cell? ⟨b, o + k, none⟩ = some (.int .i64 v) := by
  obtain ⟨b, o, e, hb, hc⟩ := h.1.at1 hk
  exact ⟨b, o, _, e, hb, Lib.hid rfl, h.2.2.2 _ (getD_mem hk), hc⟩

theorem ints_get {w : World} {B b o c : Nat} {xs : List Int} (h : IsInts w B ⟨some ⟨b, o, none⟩, c, xs⟩) {k : Nat} (hk : k < xs.length) :
    ∃ v, Hid (xs.getD k 0 = v) ∧ In64 v ∧ w.cell? ⟨b, o + k, none⟩ = some (.int .i64 v) := by
  obtain ⟨b', o', v, e, hb, hv, h64, hc⟩ := ints_at h hk
  simp only [Option.some.injEq, Addr.mk.injEq, and_true] at e
  obtain ⟨rfl, rfl⟩ := e
  exact ⟨v, hv, h64, hc⟩

theorem index_any (A : Option Addr) (c : Nat) (xs : List Int) (n : Int) (B : Nat) (w : World) (h : IsInts w B ⟨A, c, xs⟩) :
    Calls Try.prog 74 #[.slice A xs.length c, .int .i64 n] w fun e w' => e = .returned (.int .i64 (idxB xs n)) ∧ w = w' := by
  have hlen : xs.length ≤ 9223372036854775807 := by have := h.2.1; have := h.2.2.1; unfold maxLen at this; simp only at *; omega
  have H := Lib.hid h
  clear h
  go_enter Try.func74, Try.ntmps74
  go_wp2
  go_loop [8] (fun i => ∃ k : Nat, k ≤ xs.length ∧ i = .int .i64 k ∧ ∀ j, j < k → xs.getD j 0 ≠ n) (fun i => xs.length - (intOf i).toNat)
  case atStart => exact ⟨0, by omega, rfl, fun j hj => absurd hj (by omega)⟩
  case round =>
    obtain ⟨k, hk, rfl, hno⟩ := hrel
    have HN := Lib.hid hno
    clear hno
    by_cases hlt : k < xs.length
    · obtain ⟨b, o, v, rfl, hb, HV, -, hc⟩ := ints_at H.out hlt
      by_cases hx : n = v
      · have E := Lib.hid (idxB_at hlt (HV.out.trans hx.symm) HN.out)
        have hq : (n == v) = true := beq_iff_eq.2 hx
        clear hx
        go_wp2
        go_returns
        exact ⟨ret_int E.out.symm, rfl⟩
      · have hq : (n == v) = false := beq_eq_false_iff_ne.2 hx
        have HX := Lib.hid hx
        clear hx
        go_wp2
        go_round
        case rel => exact ⟨k + 1, by omega, by go_num, fun j hj => by
          rcases (show j < k ∨ j = k by omega) with h | rfl
          · exact HN.out j h
          · exact fun e => HX.out (e.symm.trans HV.out)⟩
        case measure => simp [intOf]; omega
    · obtain rfl : k = xs.length := by omega
      have E := Lib.hid (idxB_none HN.out)
      go_wp2
      go_returns
      exact ⟨ret_int E.out.symm, rfl⟩

theorem contains_any (A : Option Addr) (c : Nat) (xs : List Int) (n : Int) (B : Nat) (w : World) (h : IsInts w B ⟨A, c, xs⟩) :
    Calls Try.prog 50 #[.slice A xs.length c, .int .i64 n] w fun e w' => e = .returned (.bool (hasB xs n)) ∧ w = w' := by
  have H := Lib.hid (index_any A c xs n B w h)
  have E := Lib.hid (idxB_has xs n)
  clear h
  generalize idxB xs n = q at *
  go_enter Try.func50, Try.ntmps50
  go_wp2_with fail
  refine H.out.mono ?_; rintro e w' ⟨rfl, rfl⟩
  go_wp2
  go_returns
  exact ⟨ret_bool E.out, rfl⟩

theorem refHas_any (A : Option Addr) (c : Nat) (xs : List Int) (n : Int) (B : Nat) (w : World) (h : IsInts w B ⟨A, c, xs⟩) :
    Calls Try.prog 53 #[.slice A xs.length c, .int .i64 n] w fun e w' => e = .returned (.bool (hasB xs n)) ∧ w = w' := by
  have hlen : xs.length ≤ 9223372036854775807 := by have := h.2.1; have := h.2.2.1; unfold maxLen at this; simp only at *; omega
  have H := Lib.hid h
  clear h
  go_enter Try.func53, Try.ntmps53
  go_wp2
  go_loop [5] (fun i => ∃ k : Nat, k ≤ xs.length ∧ i = .int .i64 k ∧ ∀ j, j < k → xs.getD j 0 ≠ n) (fun i => xs.length - (intOf i).toNat)
  case atStart => exact ⟨0, by omega, rfl, fun j hj => absurd hj (by omega)⟩
  case round =>
    obtain ⟨k, hk, rfl, hno⟩ := hrel
    have HN := Lib.hid hno
    clear hno
    by_cases hlt : k < xs.length
    · obtain ⟨b, o, v, rfl, hb, HV, -, hc⟩ := ints_at H.out hlt
      by_cases hx : v = n
      · have E := Lib.hid (has_at hlt (HV.out.trans hx))
        have hq : (v == n) = true := beq_iff_eq.2 hx
        clear hx
        go_wp2
        go_returns
        exact ⟨ret_bool E.out.symm, rfl⟩
      · have hq : (v == n) = false := beq_eq_false_iff_ne.2 hx
        have HX := Lib.hid hx
        clear hx
        go_wp2
        go_round
        case rel => exact ⟨k + 1, by omega, by go_num, fun j hj => by
          rcases (show j < k ∨ j = k by omega) with h | rfl
          · exact HN.out j h
          · exact fun e => HX.out (HV.out.symm.trans e)⟩
        case measure => simp [intOf]; omega
    · obtain rfl : k = xs.length := by omega
      have E := Lib.hid (has_none HN.out)
      go_wp2
      go_returns
      exact ⟨ret_bool E.out.symm, rfl⟩
end Go.Proofs.Ytaodbjgcidkpkaa.Sp

namespace Go.Proofs.Ytaodbjgcidkpkaa.Sp
open Go.ChangeShapes Go.WideShapes Go.ChangeAt Go.RowKit M

theorem containsN_any (A : Option Addr) (c m : Nat) (xs : List Int) (n : Int) (B : Nat) (w : World) (h : IsInts w B ⟨A, c, xs⟩) (hm : xs.length = m) :
    Calls Try.prog 50 #[.slice A m c, .int .i64 n] w fun e w' => e = .returned (.bool (hasB xs n)) ∧ w = w' := by
  subst hm; exact contains_any A c xs n B w h

theorem inB_of {n i : Nat} {xs : List Int} {k : Nat} {v : Int} (h : xs.getD k 0 = v) : inB n i xs k = (!(v == (i : Int)) && btw v 0 ((n : Int) - 1) && !hasB (xs.take k) v) := by
  unfold inB; rw [h]; congr 2
  cases hv : (v == (i : Int)) with
  | true => have : v = i := by simpa using hv
            simp [this]
  | false => have : v ≠ i := by simpa using hv
             simp [this]

set_option maxHeartbeats 2000000 in
theorem inputs_any (g : Int) (A : Option Addr) (c : Nat) (l : List OpP) (p : Nat → Option Addr × Nat) (i : Nat) (w : World) (B : Nat) (hB : B ≤ w.heap.size) (h : IsOps w B A l p) (hi : i < l.length) (hl : l.length ≤ 9223372036854775807) :
    Calls Try.prog 77 #[.agg #[.int .i64 g, .slice A l.length c], .int .i64 i] w fun e w' => e = .returned (.bool (inputsB l.length i (kindOf l i) (insOf l i))) ∧ Below w.heap.size w w' := by
  obtain ⟨b, o, rfl, hb, c0, c1, -, -, -, -, -, -, -, hin⟩ := h.at_ hi
  have HI := Lib.hid (hin.keep (w' := w.alloc (.cells #[.int .i64 g, .slice (some ⟨b, o, none⟩) l.length c] 24)) fun q hq => World.cell?_alloc_lt w _ q (by omega))
  have hlen : (insOf l i).length ≤ 9223372036854775807 := by have := hin.2.1; have := hin.2.2.1; unfold maxLen at this; simp only at *; omega
  have E := Lib.hid (show inputsB l.length i (kindOf l i) (insOf l i) = (allB (inB l.length i (insOf l i)) (insOf l i).length && manyB (kindOf l i) (insOf l i).length) from rfl)
  have EM := Lib.hid (show manyB (kindOf l i) (insOf l i).length = (if kindOf l i = 1 then decide ((insOf l i).length = 0) else if kindOf l i = 7 then decide (2 ≤ (insOf l i).length) else decide ((insOf l i).length = 1)) from rfl)
  generalize p i = a at *
  obtain ⟨pa, pc⟩ := a
  simp only at c1 HI
  generalize insOf l i = xs at *
  generalize kindOf l i = kd at *
  have hbw : b < w.heap.size := by omega
  have hpc : xs.length ≤ pc := HI.out.2.1
  have hpc2 : (pc : Int) ≤ 9223372036854775807 := by have := HI.out.2.2.1; unfold maxLen at this; simp only at *; omega
  clear hin h
  go_enter Try.func77, Try.ntmps77
  go_wp2
  go_loop [17] (fun q => ∃ k : Nat, k ≤ xs.length ∧ q = .int .i64 k ∧ ∀ j, j < k → inB l.length i xs j = true) (fun q => xs.length - (intOf q).toNat)
  case atStart => exact ⟨0, by omega, rfl, fun j hj => absurd hj (by omega)⟩
  case round =>
    obtain ⟨k, hk, rfl, hno⟩ := hrel
    have HN := Lib.hid hno
    clear hno
    by_cases hlt : k < xs.length
    · obtain ⟨b2, o2, v, rfl, hb2, HV, -, hc⟩ := ints_at HI.out hlt
      have EI := Lib.hid (inB_of (n := l.length) (i := i) HV.out)
      have HC := Lib.hid (fun w0 hw => containsN_any (some ⟨b2, o2, none⟩) pc k (xs.take k) v B w0 hw (by rw [List.length_take]; omega))
      have HT := Lib.hid (ints_take HI.out k (by omega))
      cases e1 : (v == (i : Int)) with
      | true =>
        have ER := Lib.hid (show allB (inB l.length i xs) xs.length = false from allB_no hlt (by rw [EI.out, e1]; rfl))
        go_wp2
        go_returns
        exact ⟨ret_bool (by rw [E.out, ER.out]; rfl), by go_grown⟩
      | false =>
        cases e2 : btw v 0 ((l.length : Int) - 1) with
        | false =>
          have ER := Lib.hid (show allB (inB l.length i xs) xs.length = false from allB_no hlt (by rw [EI.out, e1, e2]; rfl))
          go_wp2_with (go_at_call 51; refine (between_any _ _ _ _).mono ?_; rintro e w' ⟨rfl, rfl⟩)
          go_returns
          exact ⟨ret_bool (by rw [E.out, ER.out]; rfl), by go_grown⟩
        | true =>
          cases e3 : hasB (xs.take k) v with
          | true =>
            have ER := Lib.hid (show allB (inB l.length i xs) xs.length = false from allB_no hlt (by rw [EI.out, e1, e2, e3]; rfl))
            go_wp2_with (first | (go_at_call 51; refine (between_any _ _ _ _).mono ?_; rintro e w' ⟨rfl, rfl⟩) | (go_at_call 50; refine (HC.out _ HT.out).mono ?_; rintro e w' ⟨rfl, rfl⟩))
            go_returns
            exact ⟨ret_bool (by rw [E.out, ER.out]; rfl), by go_grown⟩
          | false =>
            have ER := Lib.hid (show inB l.length i xs k = true by rw [EI.out, e1, e2, e3]; rfl)
            go_wp2_with (first | (go_at_call 51; refine (between_any _ _ _ _).mono ?_; rintro e w' ⟨rfl, rfl⟩) | (go_at_call 50; refine (HC.out _ HT.out).mono ?_; rintro e w' ⟨rfl, rfl⟩))
            go_round
            case rel => exact ⟨k + 1, by omega, by go_num, fun j hj => by
              rcases (show j < k ∨ j = k by omega) with h | rfl
              · exact HN.out j h
              · exact ER.out⟩
            case measure => simp [intOf]; omega
    · obtain rfl : k = xs.length := by omega
      have EA := Lib.hid (allB_iff.2 HN.out)
      rw [EA.out] at E
      rw [EM.out] at E
      clear EM
      rcases (show kd = 1 ∨ kd = 7 ∨ (kd ≠ 1 ∧ kd ≠ 7) by omega) with rfl | rfl | ⟨h1, h7⟩
      · go_wp2
        go_returns
        exact ⟨ret_bool (by rw [E.out]; (first | rfl | (rw [Bool.eq_iff_iff]; simp; done) | (rw [Bool.eq_iff_iff]; simp; omega) | (rw [Bool.eq_iff_iff]; simp only [Bool.true_and, if_true, ↓reduceIte, decide_eq_true_eq, beq_iff_eq]; omega) | (rw [Bool.eq_iff_iff]; simp only [Bool.true_and, if_true, ↓reduceIte, decide_eq_true_eq, beq_iff_eq, Int.natCast_eq_zero]))), by go_grown⟩
      · go_wp2
        go_returns
        exact ⟨ret_bool (by rw [E.out]; (first | rfl | (rw [Bool.eq_iff_iff]; simp; done) | (rw [Bool.eq_iff_iff]; simp; omega) | (rw [Bool.eq_iff_iff]; simp only [Bool.true_and, if_true, ↓reduceIte, decide_eq_true_eq, beq_iff_eq]; omega) | (rw [Bool.eq_iff_iff]; simp only [Bool.true_and, if_true, ↓reduceIte, decide_eq_true_eq, beq_iff_eq, Int.natCast_eq_zero]))), by go_grown⟩
      · have h1' : (kd == 1) = false := beq_eq_false_iff_ne.2 h1
        have h7' : (kd == 7) = false := beq_eq_false_iff_ne.2 h7
        go_wp2
        go_returns
        exact ⟨ret_bool (by rw [E.out, if_neg h1, if_neg h7]; (first | rfl | (rw [Bool.eq_iff_iff]; simp; done) | (rw [Bool.eq_iff_iff]; simp; omega) | (rw [Bool.eq_iff_iff]; simp only [Bool.true_and, if_true, ↓reduceIte, decide_eq_true_eq, beq_iff_eq]; omega) | (rw [Bool.eq_iff_iff]; simp only [Bool.true_and, if_true, ↓reduceIte, decide_eq_true_eq, beq_iff_eq, Int.natCast_eq_zero]))), by go_grown⟩

set_option maxHeartbeats 4000000 in
theorem refInputs_any (g : Int) (A : Option Addr) (c : Nat) (l : List OpP) (p : Nat → Option Addr × Nat) (i : Nat) (w : World) (B : Nat) (hB : B ≤ w.heap.size) (h : IsOps w B A l p) (hi : i < l.length) (_hl : l.length ≤ 9223372036854775807) :
    Calls Try.prog 72 #[.agg #[.int .i64 g, .slice A l.length c], .int .i64 i] w fun e w' => e = .returned (.bool (inputsB l.length i (kindOf l i) (insOf l i))) ∧ Below w.heap.size w w' := by
  obtain ⟨b, o, rfl, hb, c0, c1, -, -, -, -, -, -, -, hin⟩ := h.at_ hi
  have HI := Lib.hid (hin.keep (w' := w.alloc (.cells #[.int .i64 g, .slice (some ⟨b, o, none⟩) l.length c] 24)) fun q hq => World.cell?_alloc_lt w _ q (by omega))
  have hlen : (insOf l i).length ≤ 9223372036854775807 := by have := hin.2.1; have := hin.2.2.1; unfold maxLen at this; simp only at *; omega
  have E := Lib.hid (show inputsB l.length i (kindOf l i) (insOf l i) = (allB (inB l.length i (insOf l i)) (insOf l i).length && manyB (kindOf l i) (insOf l i).length) from rfl)
  have EM := Lib.hid (show manyB (kindOf l i) (insOf l i).length = (if kindOf l i = 1 then decide ((insOf l i).length = 0) else if kindOf l i = 7 then decide (2 ≤ (insOf l i).length) else decide ((insOf l i).length = 1)) from rfl)
  generalize p i = a at *
  obtain ⟨pa, pc⟩ := a
  simp only at c1 HI
  generalize insOf l i = xs at *
  generalize kindOf l i = kd at *
  have hbw : b < w.heap.size := by omega
  have hpc : xs.length ≤ pc := HI.out.2.1
  have hpc2 : (pc : Int) ≤ 9223372036854775807 := by have := HI.out.2.2.1; unfold maxLen at this; simp only at *; omega
  clear hin h
  go_enter Try.func72, Try.ntmps72
  go_wp2
  go_loopw [6] (fun q wr => ∃ k : Nat, k ≤ xs.length ∧ q = .int .i64 k ∧ Below (w.heap.size + 1) (w.alloc (.cells #[.int .i64 g, .slice (some ⟨b, o, none⟩) l.length c] 24)) wr ∧ ∀ j, j < k → inB l.length i xs j = true) (fun q _ => xs.length - (intOf q).toNat)
  case atStart => exact ⟨0, by omega, rfl, Below.refl _ _, fun j hj => absurd hj (by omega)⟩
  case round =>
    obtain ⟨k, hk, rfl, hbl, hno⟩ := hrel
    have HN := Lib.hid hno
    have HB := Lib.hid hbl
    clear hno hbl
    have hg : wr.cell? ⟨w.heap.size, 1, none⟩ = some (.slice (some ⟨b, o, none⟩) l.length c) := (HB.out.cell (p := ⟨w.heap.size, 1, none⟩) (by show w.heap.size < _; omega)).trans (by go_simp)
    by_cases hlt : k < xs.length
    · obtain ⟨b2, o2, v, rfl, hb2, HV, -, hc0⟩ := ints_at HI.out hlt
      have hc : wr.cell? ⟨b2, o2 + k, none⟩ = some (.int .i64 v) := (HB.out.cell (p := ⟨b2, o2 + k, none⟩) (by show b2 < _; omega)).trans hc0
      clear hc0 c0 c1
      have EI := Lib.hid (inB_of (n := l.length) (i := i) HV.out)
      by_cases e1 : v < 0
      · have ER := Lib.hid (show allB (inB l.length i xs) xs.length = false from allB_no hlt (by rw [EI.out, btw_no (by omega)]; simp))
        have d1 : decide (v < 0) = true := decide_eq_true e1
        go_wp2
        go_quiet (fail)
        go_wp2
        go_returns
        exact ⟨ret_bool (by rw [E.out, ER.out]; rfl), (by first | exact through ((Below.refl _ _).alloc (Nat.le_refl _) _) (Nat.le_refl _) (HB.out.mono (by simp)) | exact below_drewN (through ((Below.refl _ _).alloc (Nat.le_refl _) _) (Nat.le_refl _) (HB.out.mono (by simp))) _)⟩
      · have d1 : decide (v < 0) = false := decide_eq_false e1
        by_cases e2 : (l.length : Int) ≤ v
        · have ER := Lib.hid (show allB (inB l.length i xs) xs.length = false from allB_no hlt (by rw [EI.out, btw_no (by omega)]; simp))
          have d2 : decide ((l.length : Int) ≤ v) = true := decide_eq_true e2
          go_wp2
          go_quiet (fail)
          go_wp2
          go_returns
          exact ⟨ret_bool (by rw [E.out, ER.out]; rfl), (by first | exact through ((Below.refl _ _).alloc (Nat.le_refl _) _) (Nat.le_refl _) (HB.out.mono (by simp)) | exact below_drewN (through ((Below.refl _ _).alloc (Nat.le_refl _) _) (Nat.le_refl _) (HB.out.mono (by simp))) _)⟩
        · have d2 : decide ((l.length : Int) ≤ v) = false := decide_eq_false e2
          cases e3 : (v == (i : Int)) with
          | true =>
            have ER := Lib.hid (show allB (inB l.length i xs) xs.length = false from allB_no hlt (by rw [EI.out, e3]; rfl))
            go_wp2
            go_quiet (fail)
            go_wp2
            go_returns
            exact ⟨ret_bool (by rw [E.out, ER.out]; rfl), (by first | exact through ((Below.refl _ _).alloc (Nat.le_refl _) _) (Nat.le_refl _) (HB.out.mono (by simp)) | exact below_drewN (through ((Below.refl _ _).alloc (Nat.le_refl _) _) (Nat.le_refl _) (HB.out.mono (by simp))) _)⟩
          | false =>
            have EB := Lib.hid (btw_yes (n := v) (lo := 0) (hi := (l.length : Int) - 1) (by omega) (by omega))
            have e3' : ¬ v = i := by simpa using e3
            go_wp2
            go_quiet (fail)
            go_wp2
            go_loopw [7] (fun q wj => ∃ j : Nat, j ≤ k ∧ q = .int .i64 j ∧ Below (w.heap.size + 1) (w.alloc (.cells #[.int .i64 g, .slice (some ⟨b, o, none⟩) l.length c] 24)) wj ∧ ∀ m, m < j → xs.getD m 0 ≠ v) (fun q _ => k - (intOf q).toNat)
            case atStart => exact ⟨0, by omega, rfl, below_drewN HB.out _, fun j hj => absurd hj (by omega)⟩
            case round =>
              obtain ⟨j, hj, rfl, hbj, hnj⟩ := hrel
              have HJ := Lib.hid hbj
              have HNJ := Lib.hid hnj
              clear hbj hnj hc hg
              by_cases hjk : j < k
              · obtain ⟨u, HU, -, hu0⟩ := ints_get HI.out (show j < xs.length by omega)
                obtain ⟨v', HV', -, hv0⟩ := ints_get HI.out hlt
                obtain rfl : v' = v := HV'.out.symm.trans HV.out
                have hu : wr.cell? ⟨b2, o2 + j, none⟩ = some (.int .i64 u) := (HJ.out.cell (p := ⟨b2, o2 + j, none⟩) (by show b2 < _; omega)).trans hu0
                have hc : wr.cell? ⟨b2, o2 + k, none⟩ = some (.int .i64 v') := (HJ.out.cell (p := ⟨b2, o2 + k, none⟩) (by show b2 < _; omega)).trans hv0
                clear hu0 hv0
                cases e4 : (u == v') with
                | true =>
                  have hh : hasB (xs.take k) v' = true := by
                    refine has_at (k := j) (by rw [List.length_take]; omega) ?_
                    have e : (xs.take k).getD j 0 = xs.getD j 0 := by rw [List.getD_eq_getElem?_getD, List.getD_eq_getElem?_getD, List.getElem?_take_of_lt hjk]
                    rw [e, HU.out]; simpa using e4
                  have ER := Lib.hid (show allB (inB l.length i xs) xs.length = false from allB_no hlt (by rw [EI.out, hh]; simp))
                  clear hh
                  go_wp2
                  go_quiet (fail)
                  go_wp2
                  go_returns
                  exact ⟨ret_bool (by rw [E.out, ER.out]; rfl), (by first | exact through ((Below.refl _ _).alloc (Nat.le_refl _) _) (Nat.le_refl _) (HJ.out.mono (by simp)) | exact below_drewN (through ((Below.refl _ _).alloc (Nat.le_refl _) _) (Nat.le_refl _) (HJ.out.mono (by simp))) _)⟩
                | false =>
                  have HE4 := Lib.hid (show u ≠ v' by simpa using e4)
                  go_wp2
                  go_quiet (fail)
                  go_wp2
                  go_roundw
                  case rel => exact ⟨j + 1, by omega, by go_num, below_drewN HJ.out _, fun m hm => by
                    rcases (show m < j ∨ m = j by omega) with h | rfl
                    · exact HNJ.out m h
                    · rw [HU.out]; exact HE4.out⟩
                  case measure => simp [intOf]; omega
              · obtain rfl : j = k := by omega
                have hh : hasB (xs.take j) v = false := has_none (fun m hm => by
                  rw [List.length_take] at hm
                  have e : (xs.take j).getD m 0 = xs.getD m 0 := by rw [List.getD_eq_getElem?_getD, List.getD_eq_getElem?_getD, List.getElem?_take_of_lt (by omega)]
                  rw [e]; exact HNJ.out m (by omega))
                have ER := Lib.hid (show inB l.length i xs j = true by rw [EI.out, e3, EB.out, hh]; rfl)
                clear hh
                go_wp2
                go_roundw
                case rel => exact ⟨j + 1, by omega, by go_num, HJ.out, fun m hm => by
                  rcases (show m < j ∨ m = j by omega) with h | rfl
                  · exact HN.out m h
                  · exact ER.out⟩
                case measure => simp [intOf]; omega
    · obtain rfl : k = xs.length := by omega
      have hk0 : wr.cell? ⟨b, o + i * 8, none⟩ = some (.int .i64 kd) := (HB.out.cell (p := ⟨b, o + i * 8, none⟩) (by show b < _; omega)).trans (by go_simp)
      have EA := Lib.hid (allB_iff.2 HN.out)
      rw [EA.out] at E
      rw [EM.out] at E
      clear EM
      rcases (show kd = 1 ∨ kd = 7 ∨ (kd ≠ 1 ∧ kd ≠ 7) by omega) with rfl | rfl | ⟨h1, h7⟩
      · go_wp2
        go_returns
        exact ⟨ret_bool (by rw [E.out]; (first | rfl | (rw [Bool.eq_iff_iff]; simp; done) | (rw [Bool.eq_iff_iff]; simp; omega) | (rw [Bool.eq_iff_iff]; simp only [Bool.true_and, if_true, ↓reduceIte, decide_eq_true_eq, beq_iff_eq]; omega) | (rw [Bool.eq_iff_iff]; simp only [Bool.true_and, if_true, ↓reduceIte, decide_eq_true_eq, beq_iff_eq, Int.natCast_eq_zero]))), (by first | exact through ((Below.refl _ _).alloc (Nat.le_refl _) _) (Nat.le_refl _) (HB.out.mono (by simp)) | exact below_drewN (through ((Below.refl _ _).alloc (Nat.le_refl _) _) (Nat.le_refl _) (HB.out.mono (by simp))) _)⟩
      · go_wp2
        go_returns
        exact ⟨ret_bool (by rw [E.out]; (first | rfl | (rw [Bool.eq_iff_iff]; simp; done) | (rw [Bool.eq_iff_iff]; simp; omega) | (rw [Bool.eq_iff_iff]; simp only [Bool.true_and, if_true, ↓reduceIte, decide_eq_true_eq, beq_iff_eq]; omega) | (rw [Bool.eq_iff_iff]; simp only [Bool.true_and, if_true, ↓reduceIte, decide_eq_true_eq, beq_iff_eq, Int.natCast_eq_zero]))), (by first | exact through ((Below.refl _ _).alloc (Nat.le_refl _) _) (Nat.le_refl _) (HB.out.mono (by simp)) | exact below_drewN (through ((Below.refl _ _).alloc (Nat.le_refl _) _) (Nat.le_refl _) (HB.out.mono (by simp))) _)⟩
      · have h1' : (kd == 1) = false := beq_eq_false_iff_ne.2 h1
        have h7' : (kd == 7) = false := beq_eq_false_iff_ne.2 h7
        go_wp2
        go_returns
        exact ⟨ret_bool (by rw [E.out, if_neg h1, if_neg h7]; (first | rfl | (rw [Bool.eq_iff_iff]; simp; done) | (rw [Bool.eq_iff_iff]; simp; omega) | (rw [Bool.eq_iff_iff]; simp only [Bool.true_and, if_true, ↓reduceIte, decide_eq_true_eq, beq_iff_eq]; omega) | (rw [Bool.eq_iff_iff]; simp only [Bool.true_and, if_true, ↓reduceIte, decide_eq_true_eq, beq_iff_eq, Int.natCast_eq_zero]))), (by first | exact through ((Below.refl _ _).alloc (Nat.le_refl _) _) (Nat.le_refl _) (HB.out.mono (by simp)) | exact below_drewN (through ((Below.refl _ _).alloc (Nat.le_refl _) _) (Nat.le_refl _) (HB.out.mono (by simp))) _)⟩
end Go.Proofs.Ytaodbjgcidkpkaa.Sp

namespace Go.Proofs.Ytaodbjgcidkpkaa.Sp
open Go.ChangeShapes Go.WideShapes Go.ChangeAt Go.RowKit M

/-- a job's value -/
def specV (g : Int) (A : Option Addr) (n c : Nat) : Value := .agg #[.int .i64 g, .slice A n c]
theorem spec_blk {X : World} {q : Nat} {t : TypeId} {g : Int} {A : Option Addr} {n c : Nat} (h : Blk X q t #[.int .i64 g, .slice A n c]) :
    X.cell? ⟨q, 0, none⟩ = some (.int .i64 g) ∧ X.cell? ⟨q, 1, none⟩ = some (.slice A n c) := ⟨by rw [h.cell]; rfl, by rw [h.cell]; rfl⟩
/-- an operator's cells, as they stand in a block of their own -/
def opArr (o : OpP) (a : Option Addr × Nat) : Array Value := #[.int .i64 o.kind, .slice a.1 o.ins.length a.2, .int .i64 o.fo, .int .i64 o.fa, .int .i64 o.fb, .int .i64 o.parts, .int .i64 o.rate, .int .i64 o.cost]
theorem op_blk {X : World} {q : Nat} {t : TypeId} {o : OpP} {a : Option Addr × Nat} (h : Blk X q t (opArr o a)) :
    X.cell? ⟨q, 0, none⟩ = some (.int .i64 o.kind) ∧ X.cell? ⟨q, 1, none⟩ = some (.slice a.1 o.ins.length a.2) ∧ X.cell? ⟨q, 2, none⟩ = some (.int .i64 o.fo) ∧ X.cell? ⟨q, 3, none⟩ = some (.int .i64 o.fa) ∧ X.cell? ⟨q, 4, none⟩ = some (.int .i64 o.fb) ∧
    X.cell? ⟨q, 5, none⟩ = some (.int .i64 o.parts) ∧ X.cell? ⟨q, 6, none⟩ = some (.int .i64 o.rate) ∧ X.cell? ⟨q, 7, none⟩ = some (.int .i64 o.cost) :=
  ⟨by rw [h.cell]; rfl, by rw [h.cell]; rfl, by rw [h.cell]; rfl, by rw [h.cell]; rfl, by rw [h.cell]; rfl, by rw [h.cell]; rfl, by rw [h.cell]; rfl, by rw [h.cell]; rfl⟩

theorem aloneO_kind {n i : Nat} {o : OpP} (h : btw o.kind 1 8 = false) : aloneO n i o = 2 := by unfold aloneO; rw [h]; rfl
theorem aloneO_in {n i : Nat} {o : OpP} (h : btw o.kind 1 8 = true) (h2 : inputsB n i o.kind o.ins = false) : aloneO n i o = 8 := by unfold aloneO; rw [h, h2]; rfl
theorem aloneO_arg {n i : Nat} {o : OpP} (h : btw o.kind 1 8 = true) (h2 : inputsB n i o.kind o.ins = true) (h3 : (mayB o.kind o.fo o.fa o.fb && partsB o && btw o.cost 1 1000) = false) : aloneO n i o = 1 := by unfold aloneO; rw [h, h2, h3]; rfl
theorem aloneO_ok {n i : Nat} {o : OpP} (h : btw o.kind 1 8 = true) (h2 : inputsB n i o.kind o.ins = true) (h3 : (mayB o.kind o.fo o.fa o.fb && partsB o && btw o.cost 1 1000) = true) : aloneO n i o = 0 := by unfold aloneO; rw [h, h2, h3]; rfl

set_option maxHeartbeats 4000000 in
theorem alone_any (g : Int) (A : Option Addr) (c : Nat) (l : List OpP) (p : Nat → Option Addr × Nat) (i : Nat) (w : World) (B : Nat) (hB : B ≤ w.heap.size) (h : IsOps w B A l p) (hi : i < l.length) (hl : l.length ≤ 9223372036854775807) :
    Calls Try.prog 61 #[.agg #[.int .i64 g, .slice A l.length c], .int .i64 i] w fun e w' => e = .returned (.int .i64 (aloneE l i)) ∧ Below w.heap.size w w' := by
  obtain ⟨b, o, rfl, hb, c0, c1, c2, c3, c4, c5, c6, c7, hin, -⟩ := h.at_ hi
  obtain ⟨ik, io, ia, ib, ip, ir, ic⟩ := hin
  have hbw : b < w.heap.size := by omega
  have EL := Lib.hid (show aloneE l i = aloneO l.length i (opOf l i) from rfl)
  have HI := Lib.hid (fun X => inputs_any g (some ⟨b, o, none⟩) c l p i X (w.heap.size + 1 + 1))
  unfold kindOf insOf at *
  have HH := Lib.hid h
  clear h
  generalize hO : opOf l i = O at *
  generalize p i = a at *
  go_enter Try.func61, Try.ntmps61
  go_upto_region 2 with (fail)
  obtain ⟨X, hX⟩ : ∃ X, ((w.alloc (.cells #[.int .i64 g, .slice (some ⟨b, o, none⟩) l.length c] 24)).alloc (.cells (opArr O a) 40)) = X := ⟨_, rfl⟩
  have k1 : Blk X w.heap.size 24 #[.int .i64 g, .slice (some ⟨b, o, none⟩) l.length c] := hX ▸ (Blk.new w _ _).alloc _
  have k2 : Blk X (w.heap.size + 1) 40 (opArr O a) := hX ▸ (by have := Blk.new (w.alloc (.cells #[.int .i64 g, .slice (some ⟨b, o, none⟩) l.length c] 24)) 40 (opArr O a); simpa using this)
  have k3 : Below w.heap.size w X := hX ▸ (((Below.refl _ _).alloc (Nat.le_refl _) _).alloc (by simp) _)
  have k4 : X.heap.size = w.heap.size + 1 + 1 := hX ▸ (by simp)
  unfold opArr at hX
  (try rw [hX])
  have HX := Lib.hid k3
  have HS := Lib.hid k4
  have HO := Lib.hid (hX ▸ ((HH.out.alloc hB _).alloc (by simp; omega) _) : IsOps X B (some ⟨b, o, none⟩) l p)
  clear c0 c1 c2 c3 c4 c5 c6 c7 hX k3 k4
  obtain ⟨s0, s1⟩ := spec_blk k1
  obtain ⟨o0, o1, o2, o3, o4, o5, o6, o7⟩ := op_blk k2
  clear k1 k2
  have HY := Lib.hid hO
  clear hO
  obtain ⟨z, hz⟩ : ∃ z, (O.parts == 0 && O.rate == 0) = z := ⟨_, rfl⟩
  have HZ := Lib.hid hz
  clear hz
  go_cut [6] (fun v wc => v = .bool z ∧ wc = X)
  case first =>
    go_wp2
    all_goals go_meet
    all_goals exact ⟨by rw [← HZ.out]; first | (simp_all; done) | (rw [Bool.eq_iff_iff]; simp_all; done), rfl⟩
  case rest =>
    obtain ⟨rfl, rfl⟩ := hcut
    go_upto_if 22 with (fail)
    go_cut [6] (fun v w2 => v = .bool (partsB O) ∧ w2 = wc)
    case first =>
      have EP := Lib.hid (show partsB O = (if O.kind = 1 then btw O.parts 1 8 && btw O.rate 1 1048576 else z) by rw [← HZ.out]; rfl)
      cases ek : (O.kind == 1) with
      | true =>
        have ek' := Lib.hid (show O.kind = 1 by simpa using ek)
        cases eb : btw O.parts 1 8 <;> cases er : btw O.rate 1 1048576
        all_goals
          go_wp2_with (first | (go_at_call 51; refine (between_any _ _ _ _).mono ?_; rintro e w' ⟨rfl, rfl⟩))
          go_meet
          exact ⟨by rw [EP.out, if_pos ek'.out, eb]; first | rfl | (rw [er]; rfl), rfl⟩
      | false =>
        have ek' := Lib.hid (show ¬ O.kind = 1 by simpa using ek)
        go_wp2
        go_meet
        exact ⟨by rw [EP.out, if_neg ek'.out], rfl⟩
    case rest =>
    obtain ⟨rfl, rfl⟩ := hcut
    cases e1 : btw O.kind 1 8 with
    | false =>
      have EV := Lib.hid (EL.out.trans (aloneO_kind e1))
      go_wp2_with (first | (go_at_call 51; refine (between_any _ _ _ _).mono ?_; rintro e w' ⟨rfl, rfl⟩))
      (go_returns; exact ⟨ret_int EV.out.symm, by first | exact HX.out | exact through HX.out (Nat.le_refl _) hbi | exact through (through HX.out (Nat.le_refl _) HBI.out) (Nat.le_refl _) hbm⟩)
    | true =>
      have HJ := Lib.hid (HI.out wc (Nat.le_of_eq HS.out.symm) (HO.out.more (by omega)) hi hl)
      cases e2 : inputsB l.length i O.kind O.ins with
      | false =>
        have EV := Lib.hid (EL.out.trans (aloneO_in e1 e2))
        rw [e2] at HJ
        go_wp2_with (first | (first | (go_at_call 51; refine (between_any _ _ _ _).mono ?_; rintro e w' ⟨rfl, rfl⟩)) | (go_at_call 77; refine HJ.out.mono ?_; rintro e w1 ⟨rfl, hbi⟩))
        (go_returns; exact ⟨ret_int EV.out.symm, by first | exact HX.out | exact through HX.out (Nat.le_refl _) hbi | exact through (through HX.out (Nat.le_refl _) HBI.out) (Nat.le_refl _) hbm⟩)
      | true =>
        rw [e2] at HJ
        have HM := Lib.hid (fun X => may_any O.kind O.fo O.fa O.fb X ia)
        have EA := Lib.hid (fun h => EL.out.trans (aloneO_arg e1 e2 h))
        have EO := Lib.hid (fun h => EL.out.trans (aloneO_ok e1 e2 h))
        obtain ⟨m1, hm1⟩ : ∃ m, mayB O.kind O.fo O.fa O.fb = m := ⟨_, rfl⟩
        obtain ⟨m2, hm2⟩ : ∃ m, partsB O = m := ⟨_, rfl⟩
        rw [hm1] at HM
        rw [hm1, hm2] at EA EO
        rw [hm2]
        clear hm1 hm2
        go_upto_if 36 with (first | (first | (go_at_call 51; refine (between_any _ _ _ _).mono ?_; rintro e w' ⟨rfl, rfl⟩)) | (go_at_call 77; refine HJ.out.mono ?_; rintro e w1 ⟨rfl, hbi⟩))
        obtain ⟨d1, d2⟩ := below_cells hbi
        have o0' := (d1 (w.heap.size + 1) 0 (by rw [HS.out]; omega)).trans o0
        have o2' := (d1 (w.heap.size + 1) 2 (by rw [HS.out]; omega)).trans o2
        have o3' := (d1 (w.heap.size + 1) 3 (by rw [HS.out]; omega)).trans o3
        have o4' := (d1 (w.heap.size + 1) 4 (by rw [HS.out]; omega)).trans o4
        have o7' := (d1 (w.heap.size + 1) 7 (by rw [HS.out]; omega)).trans o7
        have HBI := Lib.hid hbi
        clear d1 d2 o0 o1 o2 o3 o4 o5 o6 o7 hbi HJ HI
        cases m1 with
        | false =>
          have EV := Lib.hid (EA.out rfl)
          clear EA EO
          go_wp2_with (first | (first | (go_at_call 51; refine (between_any _ _ _ _).mono ?_; rintro e w' ⟨rfl, rfl⟩)) | (go_at_call 78; refine (HM.out _).mono ?_; rintro e w3 ⟨rfl, hbm⟩))
          (go_returns; exact ⟨ret_int EV.out.symm, by first | exact HX.out | exact through HX.out (Nat.le_refl _) hbi | exact through (through HX.out (Nat.le_refl _) HBI.out) (Nat.le_refl _) hbm⟩)
        | true =>
          cases m2 with
          | false =>
            have EV := Lib.hid (EA.out rfl)
            clear EA EO
            go_wp2_with (first | (first | (go_at_call 51; refine (between_any _ _ _ _).mono ?_; rintro e w' ⟨rfl, rfl⟩)) | (go_at_call 78; refine (HM.out _).mono ?_; rintro e w3 ⟨rfl, hbm⟩))
            (go_returns; exact ⟨ret_int EV.out.symm, by first | exact HX.out | exact through HX.out (Nat.le_refl _) hbi | exact through (through HX.out (Nat.le_refl _) HBI.out) (Nat.le_refl _) hbm⟩)
          | true =>
            have hfar : ∀ w3, Below w1.heap.size w1 w3 → w3.cell? ⟨w.heap.size + 1, 7, none⟩ = w1.cell? ⟨w.heap.size + 1, 7, none⟩ := fun w3 h3 => h3.cell (p := ⟨w.heap.size + 1, 7, none⟩) (by show w.heap.size + 1 < _; have := HBI.out.size; rw [HS.out] at this; omega)
            have HF := Lib.hid hfar
            clear hfar
            cases e3 : btw O.cost 1 1000 with
            | false =>
              have EV := Lib.hid (EA.out (by rw [e3]; rfl))
              clear EA EO
              go_wp2_with (first | (first | (go_at_call 51; refine (between_any _ _ _ _).mono ?_; rintro e w' ⟨rfl, rfl⟩)) | (go_at_call 78; refine (HM.out _).mono ?_; rintro e w3 ⟨rfl, hbm⟩; have o7'' := (HF.out w3 hbm).trans o7'))
              (go_returns; exact ⟨ret_int EV.out.symm, by first | exact HX.out | exact through HX.out (Nat.le_refl _) hbi | exact through (through HX.out (Nat.le_refl _) HBI.out) (Nat.le_refl _) hbm⟩)
            | true =>
              have EV := Lib.hid (EO.out (by rw [e3]; rfl))
              clear EA EO
              go_wp2_with (first | (first | (go_at_call 51; refine (between_any _ _ _ _).mono ?_; rintro e w' ⟨rfl, rfl⟩)) | (go_at_call 78; refine (HM.out _).mono ?_; rintro e w3 ⟨rfl, hbm⟩; have o7'' := (HF.out w3 hbm).trans o7'))
              (go_returns; exact ⟨ret_int EV.out.symm, by first | exact HX.out | exact through HX.out (Nat.le_refl _) hbi | exact through (through HX.out (Nat.le_refl _) HBI.out) (Nat.le_refl _) hbm⟩)
end Go.Proofs.Ytaodbjgcidkpkaa.Sp

namespace Go.Proofs.Ytaodbjgcidkpkaa.Sp
open Go.ChangeShapes Go.WideShapes Go.ChangeAt Go.RowKit M

set_option maxHeartbeats 4000000 in
theorem refAlone_any (g : Int) (A : Option Addr) (c : Nat) (l : List OpP) (p : Nat → Option Addr × Nat) (i : Nat) (w : World) (B : Nat) (hB : B ≤ w.heap.size) (h : IsOps w B A l p) (hi : i < l.length) (hl : l.length ≤ 9223372036854775807) :
    Calls Try.prog 46 #[.agg #[.int .i64 g, .slice A l.length c], .int .i64 i] w fun e w' => e = .returned (.int .i64 (aloneE l i)) ∧ Below w.heap.size w w' := by
  obtain ⟨b, o, rfl, hb, c0, c1, c2, c3, c4, c5, c6, c7, hin, -⟩ := h.at_ hi
  obtain ⟨ik, io, ia, ib, ip, ir, ic⟩ := hin
  have hbw : b < w.heap.size := by omega
  have EL := Lib.hid (show aloneE l i = aloneO l.length i (opOf l i) from rfl)
  have HI := Lib.hid (fun X => refInputs_any g (some ⟨b, o, none⟩) c l p i X (w.heap.size + 1 + 1))
  unfold kindOf insOf at *
  have HH := Lib.hid h
  clear h
  generalize hO : opOf l i = O at *
  generalize p i = a at *
  go_enter Try.func46, Try.ntmps46
  go_upto_region 2 with (fail)
  obtain ⟨X, hX⟩ : ∃ X, ((w.alloc (.cells #[.int .i64 g, .slice (some ⟨b, o, none⟩) l.length c] 24)).alloc (.cells (opArr O a) 40)) = X := ⟨_, rfl⟩
  have k1 : Blk X w.heap.size 24 #[.int .i64 g, .slice (some ⟨b, o, none⟩) l.length c] := hX ▸ (Blk.new w _ _).alloc _
  have k2 : Blk X (w.heap.size + 1) 40 (opArr O a) := hX ▸ (by have := Blk.new (w.alloc (.cells #[.int .i64 g, .slice (some ⟨b, o, none⟩) l.length c] 24)) 40 (opArr O a); simpa using this)
  have k3 : Below w.heap.size w X := hX ▸ (((Below.refl _ _).alloc (Nat.le_refl _) _).alloc (by simp) _)
  have k4 : X.heap.size = w.heap.size + 1 + 1 := hX ▸ (by simp)
  unfold opArr at hX
  (try rw [hX])
  have HX := Lib.hid k3
  have HS := Lib.hid k4
  have HO := Lib.hid (hX ▸ ((HH.out.alloc hB _).alloc (by simp; omega) _) : IsOps X B (some ⟨b, o, none⟩) l p)
  clear c0 c1 c2 c3 c4 c5 c6 c7 hX k3 k4
  obtain ⟨s0, s1⟩ := spec_blk k1
  obtain ⟨o0, o1, o2, o3, o4, o5, o6, o7⟩ := op_blk k2
  clear k1 k2
  have HY := Lib.hid hO
  clear hO
  by_cases e1 : O.kind < 1 ∨ 8 < O.kind
  · have EV := Lib.hid (EL.out.trans (aloneO_kind (btw_no e1)))
    rcases e1 with e1 | e1
    · have d1 : decide (O.kind < 1) = true := decide_eq_true e1
      go_wp2
      (go_returns; exact ⟨ret_int EV.out.symm, by first | exact HX.out | exact through HX.out (Nat.le_refl _) hbi | exact through (through HX.out (Nat.le_refl _) HBI.out) (Nat.le_refl _) hbm⟩)
    · have d1 : decide (O.kind < 1) = false := decide_eq_false (by omega)
      have d2 : decide (8 < O.kind) = true := decide_eq_true e1
      go_wp2
      (go_returns; exact ⟨ret_int EV.out.symm, by first | exact HX.out | exact through HX.out (Nat.le_refl _) hbi | exact through (through HX.out (Nat.le_refl _) HBI.out) (Nat.le_refl _) hbm⟩)
  · have d1 : decide (O.kind < 1) = false := decide_eq_false (by omega)
    have d2 : decide (8 < O.kind) = false := decide_eq_false (by omega)
    have e1 : btw O.kind 1 8 = true := btw_yes (by omega) (by omega)
    have HJ := Lib.hid (HI.out X (Nat.le_of_eq HS.out.symm) (HO.out.more (by omega)) hi hl)
    cases e2 : inputsB l.length i O.kind O.ins with
    | false =>
      have EV := Lib.hid (EL.out.trans (aloneO_in e1 e2))
      rw [e2] at HJ
      go_wp2_with (go_at_call 72; refine HJ.out.mono ?_; rintro e w1 ⟨rfl, hbi⟩)
      (go_returns; exact ⟨ret_int EV.out.symm, by first | exact HX.out | exact through HX.out (Nat.le_refl _) hbi | exact through (through HX.out (Nat.le_refl _) HBI.out) (Nat.le_refl _) hbm⟩)
    | true =>
      rw [e2] at HJ
      have HM := Lib.hid (fun X => refMay_any O.kind O.fo O.fa O.fb X ia)
      have EA := Lib.hid (fun h => EL.out.trans (aloneO_arg e1 e2 h))
      have EO := Lib.hid (fun h => EL.out.trans (aloneO_ok e1 e2 h))
      obtain ⟨m1, hm1⟩ : ∃ m, mayB O.kind O.fo O.fa O.fb = m := ⟨_, rfl⟩
      obtain ⟨m2, hm2⟩ : ∃ m, partsB O = m := ⟨_, rfl⟩
      rw [hm1] at HM
      rw [hm1, hm2] at EA EO
      have EP := Lib.hid (show m2 = (if O.kind = 1 then btw O.parts 1 8 && btw O.rate 1 1048576 else O.parts == 0 && O.rate == 0) from hm2.symm)
      clear hm1 hm2 e1 e2
      go_upto_region 6 with (go_at_call 72; refine HJ.out.mono ?_; rintro e w1 ⟨rfl, hbi⟩)
      obtain ⟨d1, d2⟩ := below_cells hbi
      have o0' := (d1 (w.heap.size + 1) 0 (by rw [HS.out]; omega)).trans o0
      have o2' := (d1 (w.heap.size + 1) 2 (by rw [HS.out]; omega)).trans o2
      have o3' := (d1 (w.heap.size + 1) 3 (by rw [HS.out]; omega)).trans o3
      have o4' := (d1 (w.heap.size + 1) 4 (by rw [HS.out]; omega)).trans o4
      have o5' := (d1 (w.heap.size + 1) 5 (by rw [HS.out]; omega)).trans o5
      have o6' := (d1 (w.heap.size + 1) 6 (by rw [HS.out]; omega)).trans o6
      have o7' := (d1 (w.heap.size + 1) 7 (by rw [HS.out]; omega)).trans o7
      have hfar : ∀ w3, Below w1.heap.size w1 w3 → w3.cell? ⟨w.heap.size + 1, 7, none⟩ = w1.cell? ⟨w.heap.size + 1, 7, none⟩ := fun w3 h3 => h3.cell (p := ⟨w.heap.size + 1, 7, none⟩) (by show w.heap.size + 1 < _; have := hbi.size; rw [HS.out] at this; omega)
      have HF := Lib.hid hfar
      clear hfar
      have HBI := Lib.hid hbi
      clear d1 d2 o0 o1 o2 o3 o4 o5 o6 o7 hbi HJ HI
      obtain ⟨z, hz⟩ : ∃ z, (O.parts == 0 && O.rate == 0) = z := ⟨_, rfl⟩
      have HZ := Lib.hid hz
      clear hz
      go_cut [6] (fun v wc => v = .bool z ∧ wc = w1)
      case first =>
        go_wp2
        all_goals go_meet
        all_goals exact ⟨by rw [← HZ.out]; first | (simp_all; done) | (rw [Bool.eq_iff_iff]; simp_all; done), rfl⟩
      case rest =>
      obtain ⟨rfl, rfl⟩ := hcut
      go_upto_if 34 with (fail)
      go_cut [6] (fun v w2 => v = .bool m2 ∧ w2 = wc)
      case first =>
        cases ek : (O.kind == 1) with
        | true =>
          have ek' := Lib.hid (show O.kind = 1 by simpa using ek)
          go_wp2
          all_goals go_meet
          all_goals exact ⟨congrArg Value.bool (by rw [EP.out, if_pos ek'.out]; unfold btw; first | (simp_all; done) | (rw [Bool.eq_iff_iff]; simp_all; done) | (rw [Bool.eq_iff_iff]; simp_all; omega) | (rw [Bool.eq_iff_iff]; simp; omega)), rfl⟩
        | false =>
          have ek' := Lib.hid (show ¬ O.kind = 1 by simpa using ek)
          go_wp2
          go_meet
          exact ⟨by rw [EP.out, if_neg ek'.out, HZ.out], rfl⟩
      case rest =>
      obtain ⟨rfl, rfl⟩ := hcut
      cases m1 with
      | false =>
        have EV := Lib.hid (EA.out rfl)
        clear EA EO
        go_wp2_with (go_at_call 73; refine (HM.out _).mono ?_; rintro e w3 ⟨rfl, hbm⟩; have o7'' := (HF.out w3 hbm).trans o7')
        (go_returns; exact ⟨ret_int EV.out.symm, by first | exact HX.out | exact through HX.out (Nat.le_refl _) hbi | exact through (through HX.out (Nat.le_refl _) HBI.out) (Nat.le_refl _) hbm⟩)
      | true =>
        cases m2 with
        | false =>
          have EV := Lib.hid (EA.out rfl)
          clear EA EO
          go_wp2_with (go_at_call 73; refine (HM.out _).mono ?_; rintro e w3 ⟨rfl, hbm⟩; have o7'' := (HF.out w3 hbm).trans o7')
          (go_returns; exact ⟨ret_int EV.out.symm, by first | exact HX.out | exact through HX.out (Nat.le_refl _) hbi | exact through (through HX.out (Nat.le_refl _) HBI.out) (Nat.le_refl _) hbm⟩)
        | true =>
          by_cases e3 : O.cost < 1 ∨ 1000 < O.cost
          · have EV := Lib.hid (EA.out (by rw [btw_no e3]; rfl))
            clear EA EO
            rcases e3 with e3 | e3
            · have d3 : decide (O.cost < 1) = true := decide_eq_true e3
              go_wp2_with (go_at_call 73; refine (HM.out _).mono ?_; rintro e w3 ⟨rfl, hbm⟩; have o7'' := (HF.out w3 hbm).trans o7')
              (go_returns; exact ⟨ret_int EV.out.symm, by first | exact HX.out | exact through HX.out (Nat.le_refl _) hbi | exact through (through HX.out (Nat.le_refl _) HBI.out) (Nat.le_refl _) hbm⟩)
            · have d3 : decide (O.cost < 1) = false := decide_eq_false (by omega)
              have d4 : decide (1000 < O.cost) = true := decide_eq_true e3
              go_wp2_with (go_at_call 73; refine (HM.out _).mono ?_; rintro e w3 ⟨rfl, hbm⟩; have o7'' := (HF.out w3 hbm).trans o7')
              (go_returns; exact ⟨ret_int EV.out.symm, by first | exact HX.out | exact through HX.out (Nat.le_refl _) hbi | exact through (through HX.out (Nat.le_refl _) HBI.out) (Nat.le_refl _) hbm⟩)
          · have EV := Lib.hid (EO.out (by rw [btw_yes (by omega) (by omega)]; rfl))
            clear EA EO
            have d3 : decide (O.cost < 1) = false := decide_eq_false (by omega)
            have d4 : decide (1000 < O.cost) = false := decide_eq_false (by omega)
            go_wp2_with (go_at_call 73; refine (HM.out _).mono ?_; rintro e w3 ⟨rfl, hbm⟩; have o7'' := (HF.out w3 hbm).trans o7')
            (go_returns; exact ⟨ret_int EV.out.symm, by first | exact HX.out | exact through HX.out (Nat.le_refl _) hbi | exact through (through HX.out (Nat.le_refl _) HBI.out) (Nat.le_refl _) hbm⟩)
end Go.Proofs.Ytaodbjgcidkpkaa.Sp

namespace Go.Proofs.Ytaodbjgcidkpkaa.M
open Go.ChangeShapes Go.WideShapes Go.ChangeAt Go.RowKit Go.Joins Go.Deep Sp

theorem cellsSpec : Try.prog.cellsOf 24 = 2 := by kernel_rfl

theorem open_ops {H : Type} {enc : TypeId × Value → H} {W : World} {base : Nat} {spare : Nat → Bool} {held : Bool} {fuel : Nat} {v : Value} {x : DataW H × List MemPlace}
    (h : DataW.trod enc Try.prog W base spare held fuel 22 [v] = some x) : ∃ A c l p, v = .slice A (List.length l) c ∧ l.length ≤ c ∧ c ≤ maxLen ∧ IsOps W W.heap.size A l p := by
  obtain ⟨A, n, c, f, hcs, hn, hc, hl, he⟩ := open_elems (k := 8) Try.underlying22 (by kernel_rfl) (by omega) h
  have hex : ∀ i, i < n → ∃ oa : OpP × (Option Addr × Nat), (∀ j, j < 8 → f i j = cellsOp oa.1 oa.2 j) ∧ OpIn oa.1 ∧ IsInts W W.heap.size ⟨oa.2.1, oa.2.2, oa.1.ins⟩ := by
    intro i hi
    obtain ⟨y, m, hy⟩ := he i hi
    have hu := Try.underlying40
    obtain ⟨z0, e0, b0⟩ := field_int hu hy (i := 0) rfl (by kernel_rfl) Try.underlying3 (v := f i 0) rfl
    obtain ⟨s1, e1, b1⟩ := field_sl hu hy (i := 1) rfl (by kernel_rfl) Try.underlying29 Try.underlying3 (by kernel_rfl) (v := f i 1) rfl
    obtain ⟨yf, mf, hyf⟩ := field_of hu hy (i := 2) rfl (k := 3) (by kernel_rfl)
    have hyf' : DataW.trod enc Try.prog W base spare held mf 37 [f i 2, f i 3, f i 4] = some yf := hyf
    have hv := Try.underlying37
    obtain ⟨z2, e2, b2⟩ := field_int hv hyf' (i := 0) rfl (by kernel_rfl) Try.underlying3 (v := f i 2) rfl
    obtain ⟨z3, e3, b3⟩ := field_int hv hyf' (i := 1) rfl (by kernel_rfl) Try.underlying3 (v := f i 3) rfl
    obtain ⟨z4, e4, b4⟩ := field_int hv hyf' (i := 2) rfl (by kernel_rfl) Try.underlying3 (v := f i 4) rfl
    obtain ⟨z5, e5, b5⟩ := field_int hu hy (i := 3) rfl (by kernel_rfl) Try.underlying3 (v := f i 5) rfl
    obtain ⟨z6, e6, b6⟩ := field_int hu hy (i := 4) rfl (by kernel_rfl) Try.underlying3 (v := f i 6) rfl
    obtain ⟨z7, e7, b7⟩ := field_int hu hy (i := 5) rfl (by kernel_rfl) Try.underlying3 (v := f i 7) rfl
    refine ⟨(⟨z0, s1.xs, z2, z3, z4, z5, z6, z7⟩, (s1.A, s1.c)), fun j hj => ?_, ⟨b0, b2, b3, b4, b5, b6, b7⟩, b1⟩
    rcases (show j = 0 ∨ j = 1 ∨ j = 2 ∨ j = 3 ∨ j = 4 ∨ j = 5 ∨ j = 6 ∨ j = 7 by omega) with rfl | rfl | rfl | rfl | rfl | rfl | rfl | rfl
    · exact e0
    · exact e1
    · exact e2
    · exact e3
    · exact e4
    · exact e5
    · exact e6
    · exact e7
  obtain ⟨q, hq⟩ := choose_lt hex
  have hlen : ((List.range n).map fun i => (q i).1).length = n := by simp
  have hop : ∀ i, i < n → opOf ((List.range n).map fun i => (q i).1) i = (q i).1 := fun i hi => by
    unfold opOf; rw [List.getD_eq_getElem?_getD]; simp [hi]
  refine ⟨A, c, (List.range n).map fun i => (q i).1, fun i => (q i).2, by rw [hlen]; simpa using hcs, by rw [hlen]; exact hn, hc, ?_, fun i hi => ?_⟩
  · rw [hlen]
    exact hl.congr fun i hi j hj => by rw [(hq i hi).1 j hj, hop i hi]
  · rw [hlen] at hi
    unfold insOf
    rw [hop i hi]
    exact (hq i hi).2

set_option maxRecDepth 100000 in
theorem open_spec {H : Type} {enc : TypeId × Value → H} {W : World} {base : Nat} {spare : Nat → Bool} {held : Bool} {v : Value} {d : DataW H} {ps : List MemPlace}
    (hok : Value.okWide Try.prog W .any base 24 v) (h : DataW.Trod enc Try.prog W 0 spare held 24 v d ps) :
    ∃ g A c l p, v = .agg #[.int .i64 g, .slice A (List.length l) c] ∧ M.In64 g ∧ l.length ≤ 9223372036854775807 ∧ IsOps W W.heap.size A l p := by
  obtain ⟨c0, c1, y0, y1, m, rfl, rfl, rfl, hy0, hy1⟩ := open_agg2 Try.underlying24 (by kernel_rfl) cellsSpec hok h
  obtain ⟨g, e0, _, wg⟩ := DataW.trod_int Try.underlying3 hy0
  obtain ⟨A, c, l, p, e1, hn, hc, hi⟩ := open_ops hy1
  refine ⟨g, A, c, l, p, ?_, wf_in64 wg, by unfold maxLen at hc; omega, hi⟩
  have : c0 = .int .i64 g := by simpa using e0
  rw [this, e1]
end Go.Proofs.Ytaodbjgcidkpkaa.M
