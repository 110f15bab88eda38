/- Jobs, in plain Lean: roots as bits, and as a list. -/
import Derived.Test.YtaodbjgcidkpkaaSpP2
namespace Go.Proofs.Ytaodbjgcidkpkaa.Sp
open Go

/-- sources have no inputs -/
def Pure (l : List OpP) : Prop := ∀ i, i < l.length → kindOf l i = 1 → insOf l i = []

theorem foldl_or_bit {F : Int → Nat} (xs : List Int) (z j : Nat) : (xs.foldl (fun z x => z ||| F x) z).testBit j = (z.testBit j || xs.any fun x => (F x).testBit j) := by
  induction xs generalizing z with
  | nil => simp
  | cons y ys ih => rw [List.foldl_cons, ih, Nat.testBit_or, List.any_cons, Bool.or_assoc]

theorem bitsN_bit {l : List OpP} {rank : Nat → Nat} (hr : Ranked l rank) (hs : Pure l) (j : Nat) (f : Nat) : ∀ i, i < l.length → rank i ≤ f → (bitsN f l i).testBit j = (decide (j < l.length) && (kindOf l j == 1) && comesF f l i j) := by
  induction f using Nat.strongRecOn with
  | _ f ih =>
    intro i hi hf
    by_cases hk : kindOf l i = 1
    · rw [bitsN_src hk, Nat.testBit_two_pow, comesF_of hr hi hf, hs i hi hk]
      by_cases hij : i = j
      · subst hij; simp [hi, hk]
      · have : ((i : Int) == (j : Int)) = false := by simp; omega
        simp [hij, this]
    · rw [bitsN_op hr hi hf hk, foldl_or_bit, comesF_of hr hi hf, Nat.zero_testBit, Bool.false_or]
      rw [Bool.eq_iff_iff]
      simp only [List.any_eq_true, Bool.and_eq_true, Bool.or_eq_true, beq_iff_eq, decide_eq_true_eq]
      constructor
      · rintro ⟨x, hx, h⟩
        obtain ⟨m, rfl, hm, hrm⟩ := (hr i hi).2 x hx
        rw [Int.toNat_natCast, ih (f - 1) (by omega) _ hm (by omega)] at h
        simp only [Bool.and_eq_true, beq_iff_eq, decide_eq_true_eq] at h
        exact ⟨h.1, .inr ⟨_, hx, by simpa using h.2⟩⟩
      · rintro ⟨h1, h2 | ⟨x, hx, h⟩⟩
        · have : i = j := by omega
          rw [this] at hk; exact absurd h1.2 hk
        · obtain ⟨m, rfl, hm, hrm⟩ := (hr i hi).2 x hx
          refine ⟨_, hx, ?_⟩
          rw [Int.toNat_natCast, ih (f - 1) (by omega) _ hm (by omega)]
          simp only [Bool.and_eq_true, beq_iff_eq, decide_eq_true_eq]
          exact ⟨h1, by simpa using h⟩

theorem filter_whichF (f : Nat → Bool) (q : Int → Bool) (n : Nat) : (whichF f n).filter q = whichF (fun i => f i && q i) n := by
  induction n with
  | zero => rfl
  | succ n ih =>
    rw [whichF, whichF]
    cases h : f n with
    | false => simp [ih]
    | true =>
      cases hq : q (n : Int) with
      | false => simp [List.filter_append, ih, hq]
      | true => simp [List.filter_append, ih, hq]

theorem bits_roots {l : List OpP} {rank : Nat → Nat} (hr : Ranked l rank) (hs : Pure l) {i : Nat} (hi : i < l.length) : bitsL (bitsN l.length l i) l.length = rootsF l i := by
  rw [rootsF_at hi]
  unfold kindF bitsL
  rw [filter_whichF]
  exact whichF_congr fun j hj => by
    rw [bitsN_bit hr hs j l.length i hi (Nat.le_of_lt (hr i hi).1)]; simp [hj]
theorem mem_roots {l : List OpP} {rank : Nat → Nat} (hr : Ranked l rank) (hs : Pure l) {i : Nat} (hi : i < l.length) (x : Int) : x ∈ rootsF l i ↔ ∃ j : Nat, x = j ∧ (bitsN l.length l i).testBit j = true := by
  rw [← bits_roots hr hs hi]
  unfold bitsL
  rw [whichF_mem]
  constructor
  · rintro ⟨k, a, b, c⟩; exact ⟨k, a, c⟩
  · rintro ⟨k, a, c⟩
    refine ⟨k, a, ?_, c⟩
    have := bitsN_bit hr hs k l.length i hi (Nat.le_of_lt (hr i hi).1)
    rw [c] at this
    simp only [Bool.true_eq, Bool.and_eq_true, decide_eq_true_eq] at this
    exact this.1.1

/-- a mask is a list -/
def MaskOf (m : Nat) (S : List Int) : Prop := ∀ x : Int, x ∈ S ↔ ∃ j : Nat, x = j ∧ m.testBit j = true
theorem MaskOf.zero : MaskOf 0 [] := fun x => by simp
theorem MaskOf.or {m u : Nat} {S r : List Int} (h : MaskOf m S) (k : MaskOf u r) : MaskOf (m ||| u) (S ++ r) := fun x => by
  rw [List.mem_append, h, k]
  constructor
  · rintro (⟨j, a, b⟩ | ⟨j, a, b⟩)
    · exact ⟨j, a, by rw [Nat.testBit_or, b]; rfl⟩
    · exact ⟨j, a, by rw [Nat.testBit_or, b]; simp⟩
  · rintro ⟨j, a, b⟩
    rw [Nat.testBit_or, Bool.or_eq_true] at b
    rcases b with b | b
    · exact .inl ⟨j, a, b⟩
    · exact .inr ⟨j, a, b⟩
theorem MaskOf.and {m u : Nat} {S r : List Int} (h : MaskOf m S) (k : MaskOf u r) : (r.any fun x => hasB S x) = decide (m &&& u ≠ 0) := by
  rw [Bool.eq_iff_iff, List.any_eq_true, decide_eq_true_eq]
  constructor
  · rintro ⟨x, hx, hs⟩ e
    obtain ⟨j, rfl, hj⟩ := (k x).1 hx
    obtain ⟨j', e', hj'⟩ := (h _).1 (hasB_iff.1 hs)
    obtain rfl : j = j' := by omega
    have : (m &&& u).testBit j = true := by rw [Nat.testBit_and, hj, hj']; rfl
    rw [e] at this; simp at this
  · intro hne
    obtain ⟨j, hj⟩ := Nat.exists_testBit_of_ne_zero hne
    rw [Nat.testBit_and, Bool.and_eq_true] at hj
    exact ⟨(j : Int), (k _).2 ⟨j, rfl, hj.2⟩, hasB_iff.2 ((h _).2 ⟨j, rfl, hj.1⟩)⟩
theorem mask_roots {l : List OpP} {rank : Nat → Nat} (hr : Ranked l rank) (hs : Pure l) {i : Nat} (hi : i < l.length) : MaskOf (bitsN l.length l i) (rootsF l i) := fun x => mem_roots hr hs hi x

theorem apart_one {l : List OpP} {i : Nat} (h : (insOf l i).length ≤ 1) : apartB l i = true := by
  unfold apartB
  match hx : insOf l i with
  | [] => rfl
  | [x] => simp [apartGo, hasB]
  | _ :: _ :: _ => rw [hx] at h; simp at h
end Go.Proofs.Ytaodbjgcidkpkaa.Sp
