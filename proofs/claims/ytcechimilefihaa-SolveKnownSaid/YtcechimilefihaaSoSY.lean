/- Other numbers of tasks, measures that are so many times as much, measures that are missing: what solving does then, in plain Lean. No program is named. -/
import Derived.Test.YtcechimilefihaaZo
import Derived.Test.YtcechimilefihaaZn

namespace Go.Proofs.Ytcechimilefihaa.So
open Go Sp Fr

theorem getD_set' {α : Type} {xs : List α} {i j : Nat} {x d : α} : (xs.set i x).getD j d = if i = j ∧ j < xs.length then x else xs.getD j d := by
  rw [List.getD_eq_getElem?_getD, List.getD_eq_getElem?_getD, List.getElem?_set]
  by_cases h : i = j
  · subst h
    by_cases hl : i < xs.length
    · simp [hl]
    · simp [hl]
  · simp [h]
theorem op_at {l : List OpP} (hn : (orderF l).length = l.length) {j : Nat} (hj : j < l.length) : ∃ k, k < l.length ∧ opAt l k = j := by
  have hm : (j : Int) ∈ orderF l := nodup_full (ordSt_ok l l.length).1 (ordSt_ok l l.length).2.1 (show l.length ≤ (orderF l).length by omega) j hj
  obtain ⟨k, hk, e⟩ := mem_getD hm
  have := (opAt_lt hk).2
  exact ⟨k, by omega, by rw [e] at this; omega⟩

section
variable {g most : Int} {l : List OpP} {ms ms' : List Mea} {cur other : List Int}

/-- the numbers of tasks do not count -/
theorem sol_kn : ∀ k, (solSt g most l ms cur k).kn = (solSt g most l ms other k).kn ∧ (solSt g most l ms cur k).first = (solSt g most l ms other k).first := by
  intro k
  induction k with
  | zero => exact ⟨rfl, rfl⟩
  | succ k ih =>
    show (stepF g most l ms (solSt g most l ms cur k) (opAt l k)).kn = (stepF g most l ms (solSt g most l ms other k) (opAt l k)).kn ∧ (stepF g most l ms (solSt g most l ms cur k) (opAt l k)).first = (stepF g most l ms (solSt g most l ms other k) (opAt l k)).first
    unfold stepF
    rw [ih.1, ih.2]
    split
    · split
      · exact ⟨rfl, rfl⟩
      · exact ⟨rfl, rfl⟩
    · exact ih
theorem sol_out (h : Ok g most l ms cur) (ho : other.length = l.length) : ∀ k, k ≤ l.length → (solSt g most l ms other k).out.length = l.length ∧ ∀ j, ((knOf (solSt g most l ms cur k).kn j).is = true → (solSt g most l ms cur k).out.getD j 0 = (solSt g most l ms other k).out.getD j 0) ∧ ((knOf (solSt g most l ms cur k).kn j).is = false → (solSt g most l ms cur k).out.getD j 0 = cur.getD j 0) := by
  intro k
  induction k with
  | zero =>
    intro _
    refine ⟨ho, fun j => ⟨fun e => ?_, fun _ => rfl⟩⟩
    change (knOf (List.replicate l.length default) j).is = true at e
    unfold knOf at e
    rw [replicate_getD] at e; cases e
  | succ k ih =>
    intro hk
    obtain ⟨i1, i2⟩ := ih (by omega)
    have hs := solSt_ok h k (by omega)
    have hlt := (opAt_lt (l := l) (k := k) (by rw [h.olen]; omega)).1
    obtain ⟨e1, e2⟩ := sol_kn (g := g) (most := most) (l := l) (ms := ms) (cur := cur) (other := other) k
    show (stepF g most l ms (solSt g most l ms other k) (opAt l k)).out.length = _ ∧ ∀ j, ((knOf (stepF g most l ms (solSt g most l ms cur k) (opAt l k)).kn j).is = true → (stepF g most l ms (solSt g most l ms cur k) (opAt l k)).out.getD j 0 = (stepF g most l ms (solSt g most l ms other k) (opAt l k)).out.getD j 0) ∧ ((knOf (stepF g most l ms (solSt g most l ms cur k) (opAt l k)).kn j).is = false → (stepF g most l ms (solSt g most l ms cur k) (opAt l k)).out.getD j 0 = cur.getD j 0)
    unfold stepF
    rw [← e1, ← e2]
    generalize hA : solSt g most l ms cur k = a at *
    generalize solSt g most l ms other k = b at *
    by_cases hr : readyF l a.kn (opAt l k) = true
    · rw [if_pos hr, if_pos hr]
      by_cases he : (needR (rateF l a.kn (opAt l k)) (meaOf ms (opAt l k))).e = 0
      · rw [if_pos he, if_pos he]
        refine ⟨by rw [List.length_set]; exact i1, fun j => ?_⟩
        simp only
        rw [knOf_set, getD_set', getD_set', hs.olen, hs.klen, i1]
        by_cases hj : opAt l k = j ∧ j < l.length
        · rw [if_pos hj, if_pos hj, if_pos hj]; exact ⟨fun _ => rfl, fun e => by cases e⟩
        · rw [if_neg hj, if_neg hj, if_neg hj]; exact i2 j
      · rw [if_neg he, if_neg he]; exact ⟨i1, i2⟩
    · rw [if_neg hr, if_neg hr]; exact ⟨i1, i2⟩
/-- where there is no error all is known -/
theorem sol_all (h : Ok g most l ms cur) : ∀ k, k ≤ l.length → (solSt g most l ms cur k).first = 0 → ∀ j, j < k → (knOf (solSt g most l ms cur k).kn (opAt l j)).is = true := by
  intro k
  induction k with
  | zero => intro _ _ j hj; omega
  | succ k ih =>
    intro hk hf j hj
    have hs := solSt_ok h k (by omega)
    have hk' : k < (orderF l).length := by rw [h.olen]; omega
    have hlt := (opAt_lt (l := l) hk').1
    change (stepF g most l ms (solSt g most l ms cur k) (opAt l k)).first = 0 at hf
    show (knOf (stepF g most l ms (solSt g most l ms cur k) (opAt l k)).kn (opAt l j)).is = true
    cases hr : readyF l (solSt g most l ms cur k).kn (opAt l k) with
    | false =>
      rw [step_wait hr] at hf
      exfalso
      have := ih (by omega) hf
      have hr2 : readyF l (solSt g most l ms cur k).kn (opAt l k) = true := by
        unfold readyF
        rw [List.all_eq_true]
        intro x hx
        obtain ⟨i, hi, rfl⟩ := opAt_in h (by omega) hx
        exact this i hi
      rw [hr] at hr2; cases hr2
    | true =>
      by_cases he : (needR (rateF l (solSt g most l ms cur k).kn (opAt l k)) (meaOf ms (opAt l k))).e = 0
      · rw [step_yes hr he] at hf ⊢
        simp only at hf ⊢
        rw [knOf_set, hs.klen]
        split
        · rfl
        · rename_i hne
          refine ih (by omega) hf j ?_
          rcases (show j < k ∨ j = k by omega) with h1 | rfl
          · exact h1
          · exact absurd ⟨rfl, hlt⟩ hne
      · rw [step_no hr he] at hf
        exfalso
        simp only at hf
        split at hf
        · exact he hf
        · rename_i h0; exact h0 hf
theorem ext_getD {xs ys : List Int} (h : xs.length = ys.length) (hh : ∀ j, j < xs.length → xs.getD j 0 = ys.getD j 0) : xs = ys := by
  apply List.ext_getElem h
  intro j h1 h2
  have := hh j h1
  rw [List.getD_eq_getElem?_getD, List.getD_eq_getElem?_getD, List.getElem?_eq_getElem h1, List.getElem?_eq_getElem h2] at this
  exact this
theorem solF_eq (h : Ok g most l ms cur) : solF g most l ms cur = solSt g most l ms cur l.length := by unfold solF; rw [h.olen]
theorem steady_out (h : Ok g most l ms cur) (k : Ok g most l ms other) : (solF g most l ms cur).first = (solF g most l ms other).first ∧ ((solF g most l ms cur).first = 0 → (solF g most l ms cur).out = (solF g most l ms other).out) := by
  rw [solF_eq h, solF_eq k]
  refine ⟨(sol_kn l.length).2, fun hf => ?_⟩
  have o := sol_out h k.clen l.length (Nat.le_refl _)
  have hs := solSt_ok h l.length (Nat.le_refl _)
  refine ext_getD (by rw [hs.olen, o.1]) fun j hj => ?_
  rw [hs.olen] at hj
  obtain ⟨i, hi, rfl⟩ := op_at h.olen hj
  exact (o.2 _).1 (sol_all h l.length (Nat.le_refl _) hf i hi)
/-- solved again, from what was told, it is told the same -/
theorem steady_again (h : Ok g most l ms cur) : Ok g most l ms (solF g most l ms cur).out ∧ (solF g most l ms (solF g most l ms cur).out).first = (solF g most l ms cur).first ∧ (solF g most l ms (solF g most l ms cur).out).out = (solF g most l ms cur).out := by
  have hs := solSt_ok h l.length (Nat.le_refl _)
  have ha : Ok g most l ms (solF g most l ms cur).out := ⟨h.chk, h.mlen, by rw [solF_eq h]; exact hs.olen, h.m1, h.mea, by rw [solF_eq h]; exact hs.oin⟩
  refine ⟨ha, ?_, ?_⟩
  · rw [solF_eq ha, solF_eq h]; exact (sol_kn l.length).2
  · have o := sol_out ha h.clen l.length (Nat.le_refl _)
    have hs2 := solSt_ok ha l.length (Nat.le_refl _)
    rw [solF_eq ha]
    refine ext_getD (by rw [hs2.olen, ha.clen]) fun j _ => ?_
    cases hb : (knOf (solSt g most l ms (solF g most l ms cur).out l.length).kn j).is with
    | false => exact (o.2 j).2 hb
    | true => rw [(o.2 j).1 hb, ← solF_eq h]

/-- alike needs, alike answers -/
theorem sol_same (hn : (orderF l).length = l.length) (h : ∀ op, op < l.length → ∀ r, needR r (meaOf ms' op) = needR r (meaOf ms op)) : ∀ k, k ≤ l.length → solSt g most l ms' cur k = solSt g most l ms cur k := by
  intro k
  induction k with
  | zero => intro _; rfl
  | succ k ih =>
    intro hk
    have hlt := (opAt_lt (l := l) (k := k) (by rw [hn]; omega)).1
    show stepF g most l ms' (solSt g most l ms' cur k) (opAt l k) = stepF g most l ms (solSt g most l ms cur k) (opAt l k)
    rw [ih (by omega)]
    unfold stepF
    rw [h _ hlt]
end

theorem of_scale {n d k : Int} (hn : 0 ≤ n) (hd : 1 ≤ d) (hk : 1 ≤ k) : ofR (n * k) (d * k) = ofR n d := by
  have p1 : 0 ≤ n * k := Int.mul_nonneg hn (by omega)
  have p2 : 1 ≤ d * k := by have := Int.mul_le_mul hd hk (by decide) (by omega); omega
  unfold ofR
  rw [if_neg (by omega), if_neg (by omega), Int.toNat_mul hn (by omega), Int.toNat_mul (by omega) (by omega)]
  exact right_mulk _ _ _ (by omega) (by omega)
theorem need_scale {r : R} {a b c d k x : Int} (ha : 0 ≤ a ∧ a ≤ 1048576) (hb : 0 ≤ b ∧ b ≤ 1048576) (hc : 0 ≤ c ∧ c ≤ 1048576) (hk : 1 ≤ k ∧ k ≤ 1000) : needR r (a * k, b * k, c * k, x) = needR r (a, b, c, d) := by
  have z : ∀ {y : Int}, (y * k = 0 ↔ y = 0) := fun {y} => ⟨fun e => by rcases Int.mul_eq_zero.1 e with h | h; exact h; omega, fun e => by rw [e, Int.zero_mul]⟩
  by_cases h0 : a = 0 ∨ c = 0
  · rw [need_zero (m := (a, b, c, d)) h0, need_zero (m := (a * k, b * k, c * k, x)) (h0.imp z.2 z.2)]
  · have e1 : eachR (a * k, b * k, c * k, x) = eachR (a, b, c, d) := of_scale hb.1 (by omega) hk.1
    have e2 : costR (a * k, b * k, c * k, x) = costR (a, b, c, d) := by
      show ofR (c * k) (a * k * 100) = ofR c (a * 100)
      rw [show a * k * 100 = a * 100 * k by rw [Int.mul_assoc, Int.mul_comm k 100, ← Int.mul_assoc]]
      exact of_scale hc.1 (by omega) hk.1
    have p1 : a * k ≤ 1048576 * 1000 := Int.mul_le_mul ha.2 hk.2 (by omega) (by omega)
    have p0 : 0 ≤ a * k := Int.mul_nonneg ha.1 (by omega)
    have f1 : fits (a * k * 100) = true := by apply fits_yes; unfold I64; omega
    have f2 : fits (a * 100) = true := by apply fits_yes; unfold I64; omega
    unfold needR givesR allR
    rw [e1, e2]
    rw [if_neg (show ¬ (a * k = 0 ∨ c * k = 0) by rw [z, z]; exact h0), if_neg (show ¬ (a = 0 ∨ c = 0) from h0)]
    rw [show fits (((a * k, b * k, c * k, x) : Mea).1 * 100) = true from f1, show fits (((a, b, c, d) : Mea).1 * 100) = true from f2]

/-- measures that are so many times as much -/
def timesF (ts : List Int) (i : Nat) : Int := if i < ts.length then 1 + (ts.getD i 0) % 1000 else 1
theorem timesF_bd (ts : List Int) (i : Nat) : 1 ≤ timesF ts i ∧ timesF ts i ≤ 1000 := by unfold timesF; split <;> omega
def scaleM (ts : List Int) (i : Nat) (m : Mea) : Mea := (m.1 * timesF ts i, m.2.1 * timesF ts i, m.2.2.1 * timesF ts i, (i : Int))
def scaleL (ms : List Mea) (ts : List Int) : List Mea := (List.range ms.length).map fun i => scaleM ts i (meaOf ms i)
theorem scale_len (ms : List Mea) (ts : List Int) : (scaleL ms ts).length = ms.length := by simp [scaleL]
theorem scale_get {ms : List Mea} {ts : List Int} {i : Nat} (hi : i < ms.length) : meaOf (scaleL ms ts) i = scaleM ts i (meaOf ms i) := by
  show ((List.range ms.length).map fun i => scaleM ts i (meaOf ms i)).getD i _ = _
  rw [List.getD_eq_getElem?_getD]; simp [hi]
def smallM (m : Mea) : Prop := m.1 ≤ 1048576 ∧ m.2.1 ≤ 1048576 ∧ m.2.2.1 ≤ 1048576
theorem mul_bd {a k : Int} (h0 : 0 ≤ a) (h1 : a ≤ 1048576) (h2 : 1 ≤ k) (h3 : k ≤ 1000) : 0 ≤ a * k ∧ a * k ≤ 1048576000 := ⟨Int.mul_nonneg h0 (by omega), by have := Int.mul_le_mul h1 h3 (by omega) (by omega); omega⟩
theorem scale_ok {g most : Int} {l : List OpP} {ms : List Mea} {ts cur : List Int} (h : Ok g most l ms cur) (hs : ∀ i, i < l.length → smallM (meaOf ms i)) : Ok g most l (scaleL ms ts) cur ∧ solF g most l (scaleL ms ts) cur = solF g most l ms cur := by
  have hm : ∀ i, i < l.length → meaOf (scaleL ms ts) i = scaleM ts i (meaOf ms i) := fun i hi => scale_get (by rw [h.mlen]; exact hi)
  refine ⟨⟨h.chk, by rw [scale_len]; exact h.mlen, h.clen, h.m1, fun i hi => ?_, h.cin⟩, ?_⟩
  · rw [hm i hi]
    have a := h.mea i hi
    have b := hs i hi
    have c := timesF_bd ts i
    unfold MeaOk smallM at *
    have p1 := mul_bd a.1 b.1 c.1 c.2
    have p2 := mul_bd a.2.2.1 b.2.1 c.1 c.2
    have p3 := mul_bd a.2.2.2.2.1 b.2.2 c.1 c.2
    unfold scaleM
    simp only
    omega
  · unfold solF
    rw [h.olen]
    refine sol_same h.olen (fun op hop r => ?_) l.length (Nat.le_refl _)
    rw [hm op hop]
    have a := h.mea op hop
    have b := hs op hop
    unfold MeaOk smallM at *
    exact need_scale ⟨a.1, b.1⟩ ⟨a.2.2.1, b.2.1⟩ ⟨a.2.2.2.2.1, b.2.2⟩ (timesF_bd ts op)
end Go.Proofs.Ytcechimilefihaa.So
