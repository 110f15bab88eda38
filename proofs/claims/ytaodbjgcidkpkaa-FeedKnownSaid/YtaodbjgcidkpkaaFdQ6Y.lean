/- Feeds of a call's own: an append onto one partition leaves the others; one feed out of many. -/
import Derived.Test.YtaodbjgcidkpkaaFdQ5Y

namespace Go.Proofs.Ytaodbjgcidkpkaa.Fd
open Go.RowKit M Sp

theorem grown_others {w w2 : World} {B i k : Nat} {v : Value} {fs : List Fp} {q : Nat → Sl} {p : Nat → Nat → Sl} (h : OwnF w B v fs q p) (hi : i < fs.length) (hk : k < (fs.getD i default).parts.length) (hg : w.grownBy w2 (blk (p i k))) :
    w2.ownsRow B 47 2 v fs.length (fedC fs q) ∧
    (∀ j, j < fs.length → In64 (fs.getD j default).op ∧ w2.ownsRow B 49 1 (.slice (q j).1 (fs.getD j default).parts.length (q j).2) (fs.getD j default).parts.length (lisC (fs.getD j default).parts (p j))) ∧
    ∀ j m, j < fs.length → m < (fs.getD j default).parts.length → (j ≠ i ∨ m ≠ k) → OwnR w2 B (.slice (p j m).1 ((fs.getD j default).parts.getD m []).length (p j m).2) ((fs.getD j default).parts.getD m []) := by
  have hr := (h.2.1 i hi).2.2.1 k hk
  have hb : ∀ n, (Value.slice (p i k).1 n (p i k).2).ownBlock = blk (p i k) := fun n => ownBlock_slice _ _
  refine ⟨h.1.kept hg ?_, fun j hj => ⟨(h.2.1 j hj).1, (h.2.1 j hj).2.1.kept hg ?_⟩, fun j m hj hm hne => ((h.2.1 j hj).2.2.1 m hm).grown hg ?_⟩
  · have := rows_ne tFR.symm hr.1 h.1
    rwa [hb] at this
  · have := rows_ne tRL.symm hr.1 (h.2.1 j hj).2.1
    rwa [hb] at this
  · rw [ownBlock_slice]
    cases hbl : blk (p j m) with
    | none => exact .inl rfl
    | some g =>
      right
      intro e
      rcases Nat.lt_trichotomy j i with hlt | rfl | hlt
      · exact h.2.2.2 j i m k hlt hi hm hk g hbl e.symm
      · rcases Nat.lt_trichotomy m k with hlt | rfl | hlt
        · exact (h.2.1 j hi).2.2.2 m k hlt hk g hbl e.symm
        · omega
        · exact (h.2.1 j hi).2.2.2 k m hlt hm g e.symm hbl
      · exact h.2.2.2 i j k m hlt hj hk hm g e.symm hbl
/-- one feed out of many -/
theorem feeds_cut {w : World} {B c b : Nat} {fs : List Fp} (h : IsFeeds w B (some ⟨b, 0, none⟩) c fs) {i : Nat} (hi : i < fs.length) : IsFeeds w B (some ⟨b, i * 2, none⟩) (c - i) [fs.getD i default] := by
  obtain ⟨q, h1, h2, h3, h4, h5⟩ := h
  obtain ⟨b', o', e, hb, hc⟩ := h1 (by omega)
  simp only [Option.some.injEq, Addr.mk.injEq, and_true] at e
  obtain ⟨rfl, rfl⟩ := e
  refine ⟨fun _ => q i, fun _ => ⟨b, i * 2, rfl, hb, fun j hj j2 hj2 => ?_⟩, by simp; omega, by omega, by unfold LB; simp, fun j hj => ?_⟩
  · have hj' : j < 1 := hj
    obtain rfl : j = 0 := by omega
    have := hc i hi j2 hj2
    rw [show 0 + i * 2 + j2 = i * 2 + 0 * 2 + j2 by omega] at this
    exact this
  · have hj' : j < 1 := hj
    obtain rfl : j = 0 := by omega
    exact h5 i hi
theorem more_len {l : List OpP} {fs : List Fp} (h : chkF l fs = 0) : fs.length = (kindF l 1).length := by
  rw [← (chkF_zero.1 h).1]; simp
theorem tdiv7 (a : Int) : a.tdiv 7 = if 0 ≤ a then a / 7 else -((-a) / 7) := by
  split
  · rw [Int.tdiv_eq_ediv_of_nonneg (by assumption)]
  · have e : a.tdiv 7 = -((-a).tdiv 7) := by rw [Int.neg_tdiv, Int.neg_neg]
    rw [e, Int.tdiv_eq_ediv_of_nonneg (by omega)]
theorem in64_div {a : Int} (h : In64 a) : In64 (a.tdiv 7) := by
  unfold In64 at *
  rw [tdiv7]; split <;> omega
end Go.Proofs.Ytaodbjgcidkpkaa.Fd
