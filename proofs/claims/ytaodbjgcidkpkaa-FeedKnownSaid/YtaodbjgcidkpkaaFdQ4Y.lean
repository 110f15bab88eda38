/- Feeds of a call's own, read; a right feed has partitions. -/
import Derived.Test.YtaodbjgcidkpkaaFdQ3Y
import Derived.Test.YtaodbjgcidkpkaaZj
import Derived.Test.YtaodbjgcidkpkaaPickY

namespace Go.Proofs.Ytaodbjgcidkpkaa.Fd
open Go.RowKit M Sp

section
variable {w : World} {B n c : Nat} {A : Option Addr} {ls : List (List Rc)} {fs : List Fp} {q : Nat → Sl} {p : Nat → Nat → Sl}
theorem OwnF.at_ (h : OwnF w B (.slice A n c) fs q p) {i : Nat} (hi : i < fs.length) : ∃ g, A = some ⟨g, 0, none⟩ ∧ B ≤ g ∧ g < w.heap.size ∧
    w.cell? ⟨g, i * 2, none⟩ = some (.int .i64 (fs.getD i default).op) ∧ w.cell? ⟨g, i * 2 + 1, none⟩ = some (.slice (q i).1 (fs.getD i default).parts.length (q i).2) := by
  obtain ⟨g, cap, hv, _, hlt⟩ := World.ownsRow.form h.1 (by omega)
  injection hv with e1 e2 e3
  subst e1
  have h0 := h.1.cells (g := g) rfl (i * 2 + 0) _ (fedC_get hi (by omega))
  have h1 := h.1.cells (g := g) rfl (i * 2 + 1) _ (fedC_get hi (by omega))
  rw [Go.WideShapes.add_plain] at h0 h1
  exact ⟨g, rfl, (h.lt g rfl).1, hlt, by simpa using h0, by simpa using h1⟩
theorem OwnL.at_ (h : OwnL w B (.slice A n c) ls q) {i : Nat} (hi : i < ls.length) : ∃ g, A = some ⟨g, 0, none⟩ ∧ B ≤ g ∧ g < w.heap.size ∧ w.cell? ⟨g, i, none⟩ = some (.slice (q i).1 (ls.getD i []).length (q i).2) := by
  obtain ⟨g, cap, hv, _, hlt⟩ := World.ownsRow.form h.1 (by omega)
  injection hv with e1 e2 e3
  subst e1
  have h0 := h.1.cells (g := g) rfl i _ (lisC_get hi)
  rw [Go.WideShapes.add_plain] at h0
  exact ⟨g, rfl, (h.lt g rfl).1, hlt, by simpa using h0⟩
theorem OwnR.at_ {r : List Rc} (h : OwnR w B (.slice A n c) r) {i : Nat} (hi : i < r.length) : ∃ g, A = some ⟨g, 0, none⟩ ∧ B ≤ g ∧ g < w.heap.size ∧ r.length ≤ c ∧ w.cell? ⟨g, i * 2, none⟩ = some (.int .i64 (r.getD i (0, 0)).1) ∧ w.cell? ⟨g, i * 2 + 1, none⟩ = some (.int .i64 (r.getD i (0, 0)).2) := by
  have hp := h.pairs
  obtain ⟨g, cap, hv, hB, hlt⟩ := World.ownsRow.form h.1 (by omega)
  injection hv with e1 e2 e3
  subst e1
  obtain ⟨b, o, x, e, hb, hx, -, c0, c1⟩ := pairs_at hp hi
  simp only [Option.some.injEq, Addr.mk.injEq, and_true] at e
  obtain ⟨rfl, rfl⟩ := e
  refine ⟨g, rfl, hB, hlt, hp.2.1, ?_, ?_⟩
  · rw [hx.out]; simpa using c0
  · rw [hx.out]; simpa using c1
end
theorem alone_parts {l : List OpP} {n : Nat} (h : aloneE l n = 0) (hk : kindOf l n = 1) : 1 ≤ (opOf l n).parts := by
  unfold aloneE aloneO at h
  unfold kindOf at hk
  split at h
  · split at h
    · split at h
      · rename_i h3
        rw [Bool.and_eq_true, Bool.and_eq_true] at h3
        have h4 := h3.1.2
        unfold partsB at h4
        rw [if_pos hk, Bool.and_eq_true] at h4
        have h5 := h4.1
        unfold btw at h5
        simp at h5
        exact h5.1
      · cases h
    · cases h
  · cases h
theorem parts_pos {g : Int} {l : List OpP} {fs : List Fp} {i : Nat} (hc : chkE g l = 0) (h : chkF l fs = 0) (hi : i < fs.length) : 1 ≤ (fs.getD i default).parts.length := by
  obtain ⟨h1, h2, -⟩ := chkF_zero.1 h
  obtain ⟨n, hfn, hnl, hk⟩ := kind_mem.1 (show (fs.getD i default).op ∈ kindF l 1 by rw [← h1]; exact List.mem_map.2 ⟨_, feeds_mem hi, rfl⟩)
  have h3 := h2 i hi
  unfold manyB at h3
  rw [Bool.and_eq_true, decide_eq_true_eq, hfn] at h3
  have h4 := alone_parts ((ok_of hc).alone n hnl) (by simpa using hk)
  have := h3.1
  rw [show ((n : Int)).toNat = n from by simp] at this
  omega
theorem pick_nat {k : Int} {n : Nat} (h : 0 < n) : ∃ i : Nat, pickF k n = i ∧ i < n := by
  obtain ⟨h1, h2⟩ := pickF_bd (k := k) (n := (n : Int)) (by omega)
  exact ⟨(pickF k n).toNat, by omega, by omega⟩
end Go.Proofs.Ytaodbjgcidkpkaa.Fd
