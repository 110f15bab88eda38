/- A job's copy, written over in one place. -/
import Derived.Test.YtcechimilefihaaSp18Y

namespace Go.Proofs.Ytcechimilefihaa.Sp
open Go.ChangeShapes Go.WideShapes Go.ChangeAt Go.RowKit M

theorem own_put {w : World} {B : Nat} {A : Option Addr} {n c : Nat} {l : List OpP} {p : Nat → Option Addr × Nat} (h : OwnOps w B (.slice A n c) l p) {nn : Nat} (hn : nn < l.length) {j : Nat} (_hj : j < 8) (u : Value) (o' : OpP) (a' : Option Addr × Nat)
    (hcell : ∀ k, k < 8 → cellsOp o' a' k = if k = j then u else cellsOp (opOf l nn) (p nn) k) (hoi : OpIn o') {B2 : Nat} (hin : OwnI w B2 (.slice a'.1 o'.ins.length a'.2) o'.ins) :
    ∃ g, A = some ⟨g, 0, none⟩ ∧ B ≤ g ∧ g < w.heap.size ∧ w.frozen? ⟨g, nn * 8 + j, none⟩ = false ∧ w.cell? ⟨g, nn * 8 + j, none⟩ = some (cellsOp (opOf l nn) (p nn) j) ∧
      ∀ W, w.setCell ⟨g, nn * 8 + j, none⟩ u = W → IsOps W w.heap.size A (setO l nn o') (updP p nn a') := by
  obtain ⟨g, cap, hv, hBg, hlt⟩ := h.1.form (by omega)
  injection hv with e1 e2 e3
  subst e1; subst e2; subst e3
  have hc : ∀ i k, i < l.length → k < 8 → w.cell? ⟨g, i * 8 + k, none⟩ = some (cellsOp (opOf l i) (p i) k) := fun i k hi hk => by
    have := h.1.cells (g := g) rfl (i * 8 + k) _ (opsCells_get hi hk)
    rw [Go.WideShapes.add_plain] at this
    simpa using this
  refine ⟨g, rfl, hBg, hlt, h.1.frozenAt _, hc nn j hn (by omega), ?_⟩
  rintro W rfl
  refine ⟨fun _ => ⟨g, 0, rfl, hlt, fun i hi k hk => ?_⟩, fun i hi => ?_⟩
  · rw [setO_len] at hi
    rw [Nat.zero_add]
    show _ = some (cellsOp (opOf (setO l nn o') i) (updP p nn a' i) k)
    by_cases he : i = nn
    · subst he
      rw [setO_at hn]
      unfold updP
      rw [if_pos rfl, hcell k hk]
      by_cases hk2 : k = j
      · subst hk2; rw [if_pos rfl]; exact World.cell?_setCell_same _ _ _ (hc i k hn hk)
      · rw [if_neg hk2, World.cell?_setCell_other _ _ _ _ (by intro e; injection e with _ e2; omega)]; exact hc i k hi hk
    · rw [setO_ne (Ne.symm he)]
      unfold updP
      rw [if_neg he, World.cell?_setCell_other _ _ _ _ (by intro e; injection e with _ e2; omega)]; exact hc i k hi hk
  · rw [setO_len] at hi
    have hfar : ∀ {x : Value} {xs : List Int} {B3 : Nat}, OwnI w B3 x xs → OwnI (w.setCell ⟨g, nn * 8 + j, none⟩ u) B3 x xs := fun k => k.far (by
      rcases own_ne h.1 k with e | e
      · rw [e]; simp
      · intro e2; exact e (e2.trans rfl)) u
    have hsz : (w.setCell ⟨g, nn * 8 + j, none⟩ u).heap.size = w.heap.size := by simp
    rw [← hsz]
    unfold insOf
    by_cases he : i = nn
    · subst he
      rw [setO_at hn]
      unfold updP
      rw [if_pos rfl]
      exact ⟨hoi, (hfar hin).ints⟩
    · rw [setO_ne (Ne.symm he)]
      unfold updP
      rw [if_neg he]
      exact ⟨(h.2 i hi).1, (hfar (h.2 i hi).2).ints⟩
end Go.Proofs.Ytcechimilefihaa.Sp
