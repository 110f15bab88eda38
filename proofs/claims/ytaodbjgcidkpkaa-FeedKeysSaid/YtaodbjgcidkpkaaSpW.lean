/- Jobs that may be: what holds of them; their functions at any number. -/
import Derived.Test.YtaodbjgcidkpkaaSp15
namespace Go.Proofs.Ytaodbjgcidkpkaa.Sp
open Go.ChangeShapes Go.WideShapes Go.ChangeAt Go.RowKit M

structure OkJ (g : Int) (l : List OpP) : Prop where
  groups : 1 ≤ g ∧ g ≤ 64
  len : 1 ≤ l.length ∧ l.length ≤ 12
  alone : ∀ j, j < l.length → aloneE l j = 0
  fed : ∀ j, j < l.length → fedB l j = true
  order : l.length ≤ (orderF l).length
  apart : ∀ j, j < l.length → apartB l j = true
theorem ok_of {g : Int} {l : List OpP} (h : chkE g l = 0) : OkJ g l := by
  unfold chkE at h
  cases h1 : btw g 1 64 with
  | false => rw [h1] at h; simp at h
  | true =>
  rw [h1] at h
  cases h2 : btw (l.length : Int) 1 12 with
  | false => rw [h2] at h; simp at h
  | true =>
  rw [h2] at h
  simp only [if_true] at h
  by_cases h3 : firstE (aloneE l) l.length = 0
  · rw [if_pos h3] at h
    cases h4 : allB (fedB l) l.length with
    | false => rw [h4] at h; simp at h
    | true =>
    rw [h4] at h
    simp only [if_true] at h
    by_cases h5 : l.length ≤ (orderF l).length
    · rw [if_pos h5] at h
      cases h6 : allB (apartB l) l.length with
      | false => rw [h6] at h; simp at h
      | true =>
        unfold btw at h1 h2
        simp only [Bool.and_eq_true, decide_eq_true_eq] at h1 h2
        exact ⟨⟨h1.1, h1.2⟩, ⟨by omega, by omega⟩, firstE_zero h3, allB_iff.1 h4, h5, allB_iff.1 h6⟩
    · rw [if_neg h5] at h; simp at h
  · rw [if_neg h3] at h; exact absurd h h3
theorem chk_of {g : Int} {l : List OpP} (h : OkJ g l) : chkE g l = 0 :=
  chk_ok (btw_yes h.groups.1 h.groups.2) (btw_yes (by have := h.len.1; omega) (by have := h.len.2; omega)) h.alone h.fed h.order h.apart
theorem OkJ.pure_ {g : Int} {l : List OpP} (h : OkJ g l) : Pure l := fun i hi h1 => (ins_many (h.alone i hi)).1 h1
theorem OkJ.rank {g : Int} {l : List OpP} (h : OkJ g l) : ∃ rank, Ranked l rank := ranked_of h.alone h.order

theorem rootsI_any (g : Int) (A : Option Addr) (c : Nat) (l : List OpP) (p : Nat → Option Addr × Nat) {g' : Int} (hj : OkJ g' l) (op : Int) (w : World) (B : Nat) (hB : B ≤ w.heap.size) (h : IsOps w B A l p) :
    Calls Try.prog 15 #[.agg #[.int .i64 g, .slice A l.length c], .int .i64 op] w (RetInts w (rootsF l op)) := by
  have h12 := hj.len.2
  by_cases hr : 0 ≤ op ∧ op < l.length
  · obtain ⟨i, rfl⟩ := Int.eq_ofNat_of_zero_le hr.1
    obtain ⟨rank, hrk⟩ := hj.rank
    have := roots_any g A c l p rank hrk hj.len.2 i (by omega) w B hB h
    rw [bits_roots hrk hj.pure_ (by omega)] at this
    exact this
  · rw [rootsF_no (by omega)]
    exact roots_no g A c l op (by omega) (by omega) w
theorem refRootsI_any (g : Int) (A : Option Addr) (c : Nat) (l : List OpP) (p : Nat → Option Addr × Nat) {g' : Int} (hj : OkJ g' l) (op : Int) (w : World) (B : Nat) (hB : B ≤ w.heap.size) (h : IsOps w B A l p) :
    Calls Try.prog 18 #[.agg #[.int .i64 g, .slice A l.length c], .int .i64 op] w (RetInts w (rootsF l op)) := by
  have h12 := hj.len.2
  by_cases hr : 0 ≤ op ∧ op < l.length
  · obtain ⟨i, rfl⟩ := Int.eq_ofNat_of_zero_le hr.1
    obtain ⟨rank, hrk⟩ := hj.rank
    exact refRoots_any g A c l p rank hrk (by omega) i (by omega) w B hB h
  · rw [rootsF_no (by omega)]
    exact refRoots_no g A c l p op (by omega) (by omega) w B hB h

/-- a list of the call's own is written over -/
theorem spoil_own (A : Option Addr) (c : Nat) (xs : List Int) (B : Nat) (w : World) (hB : B ≤ w.heap.size) (h : OwnI w B (.slice A xs.length c) xs) (hl : xs.length ≤ 1000000) :
    Calls Try.prog 19 #[.slice A xs.length c] w fun e w' => e = .returned (.tuple #[]) ∧ Below B w w' ∧ w.grownBy w' (Value.slice A xs.length c).ownBlock := by
  refine (spoil_any A c xs B w h hl).mono ?_
  rintro e w' ⟨rfl, hg⟩
  exact ⟨rfl, (Below.refl _ _).grown hg hB (fun g hv => (h.blk g hv).1), hg⟩
theorem own_later {w w' : World} {B1 B2 : Nat} {v u : Value} {xs ys : List Int} (_ha : OwnI w B1 v xs) (hb : OwnI w B2 u ys) (hv : ∀ g, v.ownBlock = some g → g < B2) (hg : w.grownBy w' v.ownBlock) : OwnI w' B2 u ys := by
  refine hb.grown hg ?_
  cases hu : u.ownBlock with
  | none => exact .inl rfl
  | some k =>
    right
    intro e
    have h1 := (hb.blk k hu).1
    have h2 := hv k e.symm
    omega
end Go.Proofs.Ytaodbjgcidkpkaa.Sp
