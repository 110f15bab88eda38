/- Feeds of a call's own: what a store into a list of lists needs, and leaves. -/
import Derived.Test.YtaodbjgcidkpkaaFdQ4Y

namespace Go.Proofs.Ytaodbjgcidkpkaa.Fd
open Go.RowKit M Sp

theorem row_blk {w : World} {B g n s n2 c : Nat} {e : TypeId} {xs : List Value} (h : w.ownsRow B e s (.slice (some ⟨g, 0, none⟩) n2 c) n xs) : ∃ cur, Blk w g e cur := by
  rcases h.2 with ⟨hv, hn⟩ | ⟨g2, cap, cur, hv, hg2, hh, -⟩
  · cases hv
  · injection hv with e1
    injection e1 with e1
    injection e1 with e1
    subst e1
    exact ⟨cur, hh⟩
theorem OwnR.other {w : World} {B B2 n s g k : Nat} {v u z : Value} {xs : List Rc} {cs : List Value} (h : OwnR w B2 u xs) (hl : w.ownsRow B 49 s v n cs) (hv : v.ownBlock = some g) : OwnR (w.setCell ⟨g, k, none⟩ z) B2 u xs :=
  ⟨ownsRow_setCell_other h.1 (fun e => by
    have := rows_ne tRL hl h.1
    rw [hv] at this
    rcases this with h | h
    · rw [h] at e; cases e
    · exact h e) _, h.2⟩
/-- the rest of a list, as a slice of it stands -/
theorem rest_at {w : World} {B cr br : Nat} {r : List Rc} (h : IsRecs w B (some ⟨br, 0, none⟩) cr r) (n : Nat) :
    ∃ ad : Addr, (if cr = n + 1 then (some ⟨br, 0, none⟩ : Option Addr) else some ⟨br, (n + 1) * 2, none⟩) = some ad ∧ ∀ i j, i < (r.drop (n + 1)).length → j < 2 → w.cell? (ad.add (i * 2 + j)) = some (cellP ((r.drop (n + 1)).getD i (0, 0)) j) := by
  by_cases hc : cr = n + 1
  · refine ⟨⟨br, 0, none⟩, if_pos hc, fun i j hi => ?_⟩
    have := h.1.2.1
    rw [List.length_drop] at hi
    omega
  · refine ⟨⟨br, (n + 1) * 2, none⟩, if_neg hc, fun i j hi hj => ?_⟩
    have := recs_rest h (n + 1) hi hj
    rw [Go.WideShapes.add_plain]
    rw [show 0 + (n + 1) * 2 + (i * 2 + j) = (n + 1) * 2 + (i * 2 + j) by omega] at this
    exact this
theorem short_set {fs : List Fp} {i k : Nat} {r : List Rc} (h : Short fs) (hi : i < fs.length) (hk : k < (fs.getD i default).parts.length) (hr : r.length ≤ LB) : Short (setP fs i k r) := by
  obtain ⟨h1, h2, h3⟩ := h
  refine ⟨by rw [setP_len]; exact h1, fun j hj => by rw [setP_plen]; rw [setP_len] at hj; exact h2 j hj, fun j m hj hm => ?_⟩
  rw [setP_len] at hj
  rw [setP_plen] at hm
  by_cases hjm : j = i ∧ m = k
  · obtain ⟨rfl, rfl⟩ := hjm
    have : ((setP fs j m r).getD j default).parts.getD m [] = r := partAt_setP hi hk
    rw [this]; exact hr
  · have : ((setP fs i k r).getD j default).parts.getD m [] = (fs.getD j default).parts.getD m [] := partAt_ne hi (by omega)
    rw [this]; exact h3 j m hj hm
theorem filter_take {ks : List Int} {P : Int → Bool} {j : Nat} {y : Int} (hj : j < ks.length) (hy : ks.getD j 0 = y) : (ks.take (j + 1)).filter P = (ks.take j).filter P ++ if P y then [y] else [] := by
  rw [take_snocG hj hy, List.filter_append]
  congr 1
  cases h : P y <;> simp [h]
end Go.Proofs.Ytaodbjgcidkpkaa.Fd
