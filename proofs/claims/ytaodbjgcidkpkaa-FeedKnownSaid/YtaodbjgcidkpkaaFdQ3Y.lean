/- Feeds of a call's own: one partition set to another list; records of a list appended onto another one. -/
import Derived.Test.YtaodbjgcidkpkaaFdQ2Y
import Derived.Test.YtaodbjgcidkpkaaFdLPY

namespace Go.Proofs.Ytaodbjgcidkpkaa.Fd
open Go.RowKit M

theorem recs_take {w : World} {B c : Nat} {A : Option Addr} {r : List Rc} (h : IsRecs w B A c r) (n : Nat) : IsRecs w B A c (r.take n) := by
  obtain ⟨⟨h1, h2, h3, h4⟩, h5⟩ := h
  have hl : (r.take n).length ≤ r.length := by rw [List.length_take]; omega
  refine ⟨⟨fun hn => ?_, by omega, h3, fun x hx => h4 x (List.mem_of_mem_take hx)⟩, by omega⟩
  obtain ⟨b, o, e, hb, hc⟩ := h1 (by omega)
  refine ⟨b, o, e, hb, fun i hi j hj => ?_⟩
  rw [hc i (by omega) j hj]
  show some (cellP (r.getD i (0, 0)) j) = some (cellP ((r.take n).getD i (0, 0)) j)
  rw [getD_el (show i < r.length by omega), getD_el hi]
  congr 2; simp
/-- the cells of a list's rest -/
theorem recs_rest {w : World} {B c b o : Nat} {r : List Rc} (h : IsRecs w B (some ⟨b, o, none⟩) c r) (n : Nat) {i j : Nat} (hi : i < (r.drop n).length) (hj : j < 2) : w.cell? ⟨b, o + n * 2 + (i * 2 + j), none⟩ = some (cellP ((r.drop n).getD i (0, 0)) j) := by
  rw [List.length_drop] at hi
  obtain ⟨b', o', e, -, hc⟩ := h.1.1 (by omega)
  simp only [Option.some.injEq, Addr.mk.injEq, and_true] at e
  obtain ⟨rfl, rfl⟩ := e
  have := hc (n + i) (by omega) j hj
  rw [show o + (n + i) * 2 + j = o + n * 2 + (i * 2 + j) by omega] at this
  rw [this]
  show some (cellP (r.getD (n + i) (0, 0)) j) = some (cellP ((r.drop n).getD i (0, 0)) j)
  rw [getD_el (show n + i < r.length by omega), getD_el (by rw [List.length_drop]; omega)]
  congr 2; simp
/-- append of a list of records -/
theorem wp_recs {o : Oper} {a : Act} {w : World} {v : Value} {xs ys : List Rc} {K : Act → World → Prop} {Q : Exit → Act → World → Prop} (s x : Operand)
    (ho : o.op = .call { callee := .builtin .append, args := #[s, x], argTypes := #[49, 49] }) (B : Nat) (hown : OwnR w B v xs) (hs : a.eval s = v)
    {ad : Addr} {m c : Nat} (hx : a.eval x = .slice (some ad) m c) (hm : ys.length = m) (hin : ∀ y ∈ ys, In2 y) (hy : ∀ i j, i < ys.length → j < 2 → w.cell? (ad.add (i * 2 + j)) = some (cellP (ys.getD i (0, 0)) j))
    (hlen : xs.length + ys.length < 1000000000) (hB : B ≤ w.heap.size)
    (h : ∀ A c w2, OwnR w2 B (.slice A (xs.length + ys.length) c) (xs ++ ys) → w.grownBy w2 v.ownBlock → K (a.put o.dst (.slice A (xs.length + ys.length) c)) w2) : Oper.wp Try.prog o a w K Q := by
  obtain ⟨i0, hi, hz0, hz1, hz2⟩ := info_parts isPT.2
  subst hm
  have hpc : (pairCells ys).length = ys.length * 2 := pairCells_len ys
  obtain ⟨v', w', hr, h1, h2, _, _⟩ := run_append_own_at (P := Try.prog) w B 49 o.type 57 i0 _ 2 16 isPT.1 hi hz0 hz1 hz2 rfl (by decide) v xs.length _ hown.1 ad ys.length c (pairCells ys) hpc (fun j u hj => by
      have hj' : j < ys.length * 2 := by rw [← hpc]; exact (List.getElem?_eq_some_iff.1 hj).1
      have e : j = j / 2 * 2 + j % 2 := by omega
      rw [e] at hj ⊢
      rw [pairCells_get (by omega) (by omega)] at hj
      rw [hy _ _ (by omega) (by omega)]
      exact hj) (fun u hu => by
      unfold pairCells at hu
      obtain ⟨y, -, hy2⟩ := List.mem_flatMap.1 hu
      simp at hy2
      rcases hy2 with rfl | rfl <;> rfl) (by unfold maxLen; omega) (by omega) hB
  have hown2 : OwnR w' B v' (xs ++ ys) := by
    refine ⟨?_, fun y hy2 => ?_⟩
    · rw [List.length_append, show pairCells (xs ++ ys) = pairCells xs ++ pairCells ys from by unfold pairCells; rw [List.flatMap_append]]; exact h1
    · rcases List.mem_append.1 hy2 with hy2 | hy2
      · exact hown.2 y hy2
      · exact hin y hy2
  obtain ⟨A', c', hv⟩ := hown2.form
  rw [List.length_append] at hv
  subst hv
  unfold Oper.wp execOp
  simp only [ho, resolve, invoke, builtin, Sem.run_bind, Sem.run_pure, Result.andThen_ok, List.map_toArray, List.map_cons, List.map_nil, hs, hx, hr]
  exact h A' c' w' hown2 h2

/-- one partition set -/
theorem set_feeds {w : World} {B B' n c g i k : Nat} {A : Option Addr} {fs : List Fp} {q : Nat → Sl} {p : Nat → Nat → Sl} {z : Sl} {r : List Rc}
    (h1 : w.ownsRow B 47 2 (.slice A n c) fs.length (fedC fs q))
    (h2 : ∀ j, j < fs.length → In64 (fs.getD j default).op ∧ w.ownsRow B 49 1 (.slice (q j).1 (fs.getD j default).parts.length (q j).2) (fs.getD j default).parts.length (lisC (fs.getD j default).parts (p j)))
    (h3 : ∀ j m, j < fs.length → m < (fs.getD j default).parts.length → (j ≠ i ∨ m ≠ k) → OwnR w B (.slice (p j m).1 ((fs.getD j default).parts.getD m []).length (p j m).2) ((fs.getD j default).parts.getD m []))
    (h4 : ∀ a b, a < b → b < fs.length → Far (q a) (q b)) (hi : i < fs.length) (hk : k < (fs.getD i default).parts.length) (hg : (q i).1 = some ⟨g, 0, none⟩)
    (hz : OwnR w B' (.slice z.1 r.length z.2) r) (hs : Short (setP fs i k r)) :
    IsFeeds (w.setCell ⟨g, k, none⟩ (.slice z.1 r.length z.2)) (w.setCell ⟨g, k, none⟩ (.slice z.1 r.length z.2)).heap.size A c (setP fs i k r) := by
  have hqi : blk (q i) = some g := by unfold blk; rw [hg]; rfl
  have hob : (Value.slice (q i).1 (fs.getD i default).parts.length (q i).2).ownBlock = some g := by rw [ownBlock_slice]; exact hqi
  have hne1 : (Value.slice A n c).ownBlock ≠ some g := fun e => by
    have := rows_ne tFL h1 (h2 i hi).2
    rw [hob, e] at this
    rcases this with h | h
    · cases h
    · exact h rfl
  have hner : ∀ {B2 : Nat} {u : Value} {xs : List Rc}, OwnR w B2 u xs → OwnR (w.setCell ⟨g, k, none⟩ (.slice z.1 r.length z.2)) B2 u xs := fun k2 => ⟨ownsRow_setCell_other k2.1 (fun e => by
    have := rows_ne tRL (h2 i hi).2 k2.1
    rw [hob] at this
    rcases this with h | h
    · rw [h] at e; cases e
    · exact h e) _, k2.2⟩
  have h1' : (w.setCell ⟨g, k, none⟩ (.slice z.1 r.length z.2)).ownsRow B 47 2 (.slice A n c) fs.length (fedC fs q) := ownsRow_setCell_other h1 hne1 _
  have hw : (w.setCell ⟨g, k, none⟩ (.slice z.1 r.length z.2)).heap.size = w.heap.size := by simp [World.setCell]
  obtain ⟨hs1, hs2, hs3⟩ := hs
  rw [setP_len] at hs1 hs2
  have hrl : r.length ≤ LB := by
    have := hs3 i k (by rw [setP_len]; exact hi) (by rw [setP_plen]; exact hk)
    have e : ((setP fs i k r).getD i default).parts.getD k [] = r := partAt_setP hi hk
    rwa [e] at this
  have hel : ∀ j, j < fs.length → In64 ((setP fs i k r).getD j default).op ∧ IsLists (w.setCell ⟨g, k, none⟩ (.slice z.1 r.length z.2)) (w.setCell ⟨g, k, none⟩ (.slice z.1 r.length z.2)).heap.size (q j).1 (q j).2 ((setP fs i k r).getD j default).parts := by
    intro j hj
    refine ⟨by rw [setP_op]; exact (h2 j hj).1, ?_⟩
    by_cases hji : j = i
    · subst hji
      refine ⟨upQ (p j) k z, ?_, ?_⟩
      · intro hn
        rw [setP_plen] at hn ⊢
        obtain ⟨g2, cap, hv, _, hlt⟩ := World.ownsRow.form (h2 j hj).2 hn
        injection hv with e1 e2 e3
        rw [hg] at e1
        injection e1 with e1
        injection e1 with e1
        subst e1
        refine ⟨g, 0, hg, by rw [hw]; exact hlt, fun m hm j2 hj2 => ?_⟩
        obtain rfl : j2 = 0 := by omega
        rw [show 0 + m * 1 + 0 = m by omega, setP_at hi]
        have hold := (h2 j hj).2.cells (g := g) (by rw [hob]) m _ (lisC_get hm)
        rw [Go.WideShapes.add_plain, Nat.zero_add] at hold
        by_cases hmk : m = k
        · subst hmk
          rw [World.cell?_setCell_same _ _ _ hold]
          show some (Value.slice z.1 r.length z.2) = some (.slice (upQ (p j) m z m).1 (((fs.getD j default).parts.set m r).getD m []).length (upQ (p j) m z m).2)
          rw [upQ_same, getD_el (by simpa using hm)]
          simp
        · rw [World.cell?_setCell_other w _ _ _ (by simp), hold]
          show some (Value.slice (p j m).1 ((fs.getD j default).parts.getD m []).length (p j m).2) = some (.slice (upQ (p j) k z m).1 (((fs.getD j default).parts.set k r).getD m []).length (upQ (p j) k z m).2)
          rw [upQ_ne _ _ hmk]
          simp only [List.getD_eq_getElem?_getD, List.getElem?_set_ne (show k ≠ m by omega)]
      · have hc : (fs.getD j default).parts.length ≤ (q j).2 ∧ (q j).2 ≤ maxLen := by
          rcases (h2 j hj).2.2 with ⟨hv, hn⟩ | ⟨g2, cap, cur, hv, _, _, hc, hm, _⟩
          · omega
          · injection hv with e1 e2 e3
            rw [e3]; exact ⟨hc, hm⟩
        rw [setP_plen]
        refine ⟨hc.1, hc.2, by have := hs2 j hj; rwa [setP_plen] at this, fun m hm => ?_⟩
        have hsm : (((setP fs j k r).getD j default).parts.getD m []).length ≤ LB := hs3 j m (by rw [setP_len]; exact hj) (by rw [setP_plen]; exact hm)
        by_cases hmk : m = k
        · subst hmk
          have e : ((setP fs j m r).getD j default).parts.getD m [] = r := partAt_setP hi hk
          rw [e, upQ_same]
          exact ⟨(hner hz).pairs, hrl⟩
        · have e : ((setP fs j k r).getD j default).parts.getD m [] = (fs.getD j default).parts.getD m [] := partAt_ne hi (.inr hmk)
          rw [e] at hsm ⊢
          rw [upQ_ne _ _ hmk]
          exact ⟨(hner (h3 j m hj hm (.inr hmk))).pairs, hsm⟩
    · have hfar : (Value.slice (q j).1 (fs.getD j default).parts.length (q j).2).ownBlock ≠ some g := by
        rw [ownBlock_slice]
        rcases Nat.lt_or_ge j i with hlt | hge
        · exact fun e => h4 j i hlt hi g e hqi
        · exact fun e => h4 i j (by omega) hj g hqi e
      have hrow := ownsRow_setCell_other (h2 j hj).2 (a := ⟨g, k, none⟩) hfar (.slice z.1 r.length z.2)
      rw [setP_ne hji]
      have hl2 := hs2 j hj
      rw [setP_plen] at hl2
      have hel2 : ∀ m, m < (fs.getD j default).parts.length → IsRecs (w.setCell ⟨g, k, none⟩ (.slice z.1 r.length z.2)) (w.setCell ⟨g, k, none⟩ (.slice z.1 r.length z.2)).heap.size (p j m).1 (p j m).2 ((fs.getD j default).parts.getD m []) := fun m hm => by
        have hsm := hs3 j m (by rw [setP_len]; exact hj) (by rw [setP_plen]; exact hm)
        rw [setP_ne hji] at hsm
        exact ⟨(hner (h3 j m hj hm (.inl hji))).pairs, hsm⟩
      rcases hrow.2 with ⟨hv, hn⟩ | ⟨g2, cap, cur, hv, hg2, hh, hc, hm, hs, ht⟩
      · injection hv with e1 e2 e3
        exact ⟨p j, by rw [hn]; exact Lies.zero _ _, by omega, by rw [e3]; exact Nat.zero_le _, hl2, hel2⟩
      · injection hv with e1 e2 e3
        refine ⟨p j, fun hn => ⟨g2, 0, e1, (hrow.lt g2 (by rw [ownBlock_slice]; unfold blk; rw [e1]; rfl)).2, fun m hm2 j2 hj2 => ?_⟩, by rw [e3]; exact hc, by rw [e3]; exact hm, hl2, hel2⟩
        obtain rfl : j2 = 0 := by omega
        have hcell := hrow.cells (g := g2) (by rw [ownBlock_slice]; unfold blk; rw [e1]; rfl) m _ (lisC_get hm2)
        rw [Go.WideShapes.add_plain] at hcell
        simpa using hcell
  rcases h1'.2 with ⟨hv, hn⟩ | ⟨g2, cap, cur, hv, hg2, hh, hc, hm, hs2', ht⟩
  · omega
  · injection hv with e1 e2 e3
    subst e1; subst e3
    have hlt : g2 < w.heap.size := (h1.lt g2 rfl).2
    refine ⟨q, ?_, by rw [setP_len]; exact hc, hm, by rw [setP_len]; exact hs1, by rw [setP_len]; exact hel⟩
    rw [setP_len]
    refine fun hn => ⟨g2, 0, rfl, by rw [hw]; exact hlt, fun j hj j2 hj2 => ?_⟩
    have hcell := h1'.cells (g := g2) rfl (j * 2 + j2) _ (fedC_get hj hj2)
    rw [Go.WideShapes.add_plain] at hcell
    show _ = some (if j2 = 0 then Value.int .i64 ((setP fs i k r).getD j default).op else .slice (q j).1 ((setP fs i k r).getD j default).parts.length (q j).2)
    rw [setP_op, setP_plen]
    simpa [Nat.add_assoc] using hcell
end Go.Proofs.Ytaodbjgcidkpkaa.Fd
