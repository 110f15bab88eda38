/- Where nothing was measured of some operators: what solving does then, in plain Lean. No program is named. -/
import Derived.Test.YtcechimilefihaaSoSY

namespace Go.Proofs.Ytcechimilefihaa.So
open Go Sp Fr

/-- what was told of all, and what is told where of some nothing was measured -/
structure Miss (g most : Int) (l : List OpP) (ms ms' : List Mea) (cur : List Int) (no : Nat → Bool) : Prop where
  a : Ok g most l ms cur
  b : Ok g most l ms' cur
  gone : ∀ op, op < l.length → no op = true → (meaOf ms' op).1 = 0
  kept : ∀ op, op < l.length → no op = false → meaOf ms' op = meaOf ms op
  fst : (solF g most l ms cur).first = 0

section
variable {g most : Int} {l : List OpP} {ms ms' : List Mea} {cur : List Int} {no : Nat → Bool}

theorem sum_congr {kn kn' : List Kn} {xs : List Int} (h : ∀ x ∈ xs, knOf kn x.toNat = knOf kn' x.toNat) : ∀ k, k ≤ xs.length → sumSt kn xs k = sumSt kn' xs k := by
  intro k
  induction k with
  | zero => intro _; rfl
  | succ k ih => intro hk; rw [sumSt, sumSt, ih (by omega), h _ (getD_mem (by omega))]
theorem rate_congr {kn kn' : List Kn} {op : Nat} (h : ∀ x ∈ insOf l op, knOf kn x.toNat = knOf kn' x.toNat) : rateF l kn op = rateF l kn' op := by
  unfold rateF; rw [sum_congr h _ (Nat.le_refl _)]
theorem ready_of {kn : List Kn} {op : Nat} (h : ∀ x ∈ insOf l op, (knOf kn x.toNat).is = true) : readyF l kn op = true := by
  unfold readyF; rw [List.all_eq_true]; exact fun x hx => h x hx
theorem ready_in {kn : List Kn} {op : Nat} (h : readyF l kn op = true) : ∀ x ∈ insOf l op, (knOf kn x.toNat).is = true := by
  unfold readyF at h; rw [List.all_eq_true] at h; exact h

/-- what is known stays so -/
theorem kn_later (h : Ok g most l ms cur) {j k : Nat} (hj : j < k) (hk : k < l.length) : knOf (solSt g most l ms cur (k + 1)).kn (opAt l j) = knOf (solSt g most l ms cur k).kn (opAt l j) ∧ (solSt g most l ms cur (k + 1)).out.getD (opAt l j) 0 = (solSt g most l ms cur k).out.getD (opAt l j) 0 := by
  have hk' : k < (orderF l).length := by rw [h.olen]; omega
  have hne : ¬ (opAt l k = opAt l j ∧ opAt l j < l.length) := fun e => by have := opAt_inj hk' (by omega) e.1; omega
  have hs := solSt_ok h k (by omega)
  show knOf (stepF g most l ms (solSt g most l ms cur k) (opAt l k)).kn (opAt l j) = _ ∧ (stepF g most l ms (solSt g most l ms cur k) (opAt l k)).out.getD (opAt l j) 0 = _
  unfold stepF
  split
  · split
    · simp only
      rw [knOf_set, getD_set', hs.klen, hs.olen, if_neg hne, if_neg hne]; exact ⟨rfl, rfl⟩
    · exact ⟨rfl, rfl⟩
  · exact ⟨rfl, rfl⟩
theorem kn_keep (h : Ok g most l ms cur) {j : Nat} : ∀ k, j < k → k ≤ l.length → knOf (solSt g most l ms cur k).kn (opAt l j) = knOf (solSt g most l ms cur (j + 1)).kn (opAt l j) ∧ (solSt g most l ms cur k).out.getD (opAt l j) 0 = (solSt g most l ms cur (j + 1)).out.getD (opAt l j) 0 := by
  intro k
  induction k with
  | zero => intro h1; omega
  | succ k ih =>
    intro h1 h2
    rcases (show j < k ∨ j = k by omega) with h3 | rfl
    · have := ih h3 (by omega)
      have q := kn_later h h3 (by omega)
      exact ⟨q.1.trans this.1, q.2.trans this.2⟩
    · exact ⟨rfl, rfl⟩
theorem first_keep : ∀ k d, (solSt g most l ms cur (k + d)).first = 0 → (solSt g most l ms cur k).first = 0 := by
  intro k d
  induction d with
  | zero => exact id
  | succ d ih =>
    intro h
    apply ih
    change (stepF g most l ms (solSt g most l ms cur (k + d)) (opAt l (k + d))).first = 0 at h
    unfold stepF at h
    split at h
    · split at h
      · exact h
      · simp only at h
        split at h
        · assumption
        · exact h
    · exact h
theorem Miss.fst_at (h : Miss g most l ms ms' cur no) {k : Nat} (hk : k ≤ l.length) : (solSt g most l ms cur k).first = 0 := by
  have := h.fst
  rw [solF_eq h.a] at this
  exact first_keep k (l.length - k) (by rw [show k + (l.length - k) = l.length by omega]; exact this)
theorem Miss.allA (h : Miss g most l ms ms' cur no) {k : Nat} (hk : k ≤ l.length) : ∀ j, j < k → (knOf (solSt g most l ms cur k).kn (opAt l j)).is = true :=
  sol_all h.a k hk (h.fst_at hk)
/-- a step of the first: it goes well -/
theorem Miss.yesA (h : Miss g most l ms ms' cur no) {k : Nat} (hk : k < l.length) : readyF l (solSt g most l ms cur k).kn (opAt l k) = true ∧ (needR (rateF l (solSt g most l ms cur k).kn (opAt l k)) (meaOf ms (opAt l k))).e = 0 := by
  have hr : readyF l (solSt g most l ms cur k).kn (opAt l k) = true := ready_of fun x hx => by
    obtain ⟨j, hj, rfl⟩ := opAt_in h.a hk hx
    exact h.allA (by omega) j hj
  refine ⟨hr, ?_⟩
  have hf : (solSt g most l ms cur (k + 1)).first = 0 := h.fst_at (by omega)
  have hf0 : (solSt g most l ms cur k).first = 0 := h.fst_at (by omega)
  by_cases he : (needR (rateF l (solSt g most l ms cur k).kn (opAt l k)) (meaOf ms (opAt l k))).e = 0
  · exact he
  · change (stepF g most l ms (solSt g most l ms cur k) (opAt l k)).first = 0 at hf
    rw [step_no hr he] at hf
    simp only at hf
    rw [if_pos hf0] at hf
    exact absurd hf he

/-- alike so far -/
def Like (g most : Int) (l : List OpP) (ms ms' : List Mea) (cur : List Int) (k : Nat) : Prop := ∀ j, j < k → (knOf (solSt g most l ms' cur k).kn (opAt l j)).is = true →
  knOf (solSt g most l ms' cur k).kn (opAt l j) = knOf (solSt g most l ms cur k).kn (opAt l j) ∧ (solSt g most l ms' cur k).out.getD (opAt l j) 0 = (solSt g most l ms cur k).out.getD (opAt l j) 0
/-- a step of the second -/
theorem Miss.stepB (h : Miss g most l ms ms' cur no) {k : Nat} (hk : k < l.length) (hl : Like g most l ms ms' cur k) :
    (readyF l (solSt g most l ms' cur k).kn (opAt l k) = false ∧ solSt g most l ms' cur (k + 1) = solSt g most l ms' cur k)
    ∨ (readyF l (solSt g most l ms' cur k).kn (opAt l k) = true ∧ no (opAt l k) = true ∧ (solSt g most l ms' cur (k + 1)).kn = (solSt g most l ms' cur k).kn ∧ (solSt g most l ms' cur (k + 1)).out = (solSt g most l ms' cur k).out ∧ (solSt g most l ms' cur (k + 1)).first = if (solSt g most l ms' cur k).first = 0 then 14 else (solSt g most l ms' cur k).first)
    ∨ (readyF l (solSt g most l ms' cur k).kn (opAt l k) = true ∧ no (opAt l k) = false ∧ (knOf (solSt g most l ms' cur (k + 1)).kn (opAt l k)).is = true ∧ knOf (solSt g most l ms' cur (k + 1)).kn (opAt l k) = knOf (solSt g most l ms cur (k + 1)).kn (opAt l k) ∧ (solSt g most l ms' cur (k + 1)).out.getD (opAt l k) 0 = (solSt g most l ms cur (k + 1)).out.getD (opAt l k) 0 ∧ (solSt g most l ms' cur (k + 1)).first = (solSt g most l ms' cur k).first) := by
  have hk' : k < (orderF l).length := by rw [h.a.olen]; omega
  have hlt := (opAt_lt (l := l) hk').1
  have hsA := solSt_ok h.a k (by omega)
  have hsB := solSt_ok h.b k (by omega)
  cases hr : readyF l (solSt g most l ms' cur k).kn (opAt l k) with
  | false => exact .inl ⟨rfl, step_wait hr⟩
  | true =>
    right
    cases hn : no (opAt l k) with
    | true =>
      left
      have hz := need_zero (r := rateF l (solSt g most l ms' cur k).kn (opAt l k)) (m := meaOf ms' (opAt l k)) (.inl (h.gone _ hlt hn))
      have e : solSt g most l ms' cur (k + 1) = stepF g most l ms' (solSt g most l ms' cur k) (opAt l k) := rfl
      rw [e, step_no hr (by rw [hz]; decide), hz]
      exact ⟨rfl, rfl, rfl, rfl, rfl⟩
    | false =>
      right
      obtain ⟨rA, eA⟩ := h.yesA hk
      have hrt : rateF l (solSt g most l ms' cur k).kn (opAt l k) = rateF l (solSt g most l ms cur k).kn (opAt l k) := rate_congr fun x hx => by
        obtain ⟨j, hj, rfl⟩ := opAt_in h.a hk hx
        exact (hl j hj (ready_in hr ((opAt l j : Nat) : Int) hx)).1
      have e1 : solSt g most l ms' cur (k + 1) = stepF g most l ms' (solSt g most l ms' cur k) (opAt l k) := rfl
      have e2 : solSt g most l ms cur (k + 1) = stepF g most l ms (solSt g most l ms cur k) (opAt l k) := rfl
      rw [e1, e2, step_yes hr (by rw [hrt, h.kept _ hlt hn]; exact eA), step_yes rA eA, hrt, h.kept _ hlt hn]
      simp only
      rw [knOf_set, knOf_set, getD_set', getD_set', hsA.klen, hsB.klen, hsA.olen, hsB.olen, if_pos ⟨rfl, hlt⟩, if_pos ⟨rfl, hlt⟩, if_pos ⟨rfl, hlt⟩, if_pos ⟨rfl, hlt⟩]
      refine ⟨?_, ?_, ?_, ?_, ?_, ?_⟩ <;> first | trivial | rfl
theorem Miss.like (h : Miss g most l ms ms' cur no) : ∀ k, k ≤ l.length → Like g most l ms ms' cur k := by
  intro k
  induction k with
  | zero => intro _ j hj; omega
  | succ k ih =>
    intro hk j hj hb
    have hl := ih (by omega)
    rcases (show j < k ∨ j = k by omega) with h1 | rfl
    · have qA := kn_later h.a h1 (by omega)
      have qB := kn_later h.b h1 (by omega)
      rw [qB.1] at hb
      have := hl j h1 hb
      rw [qA.1, qA.2, qB.1, qB.2]; exact this
    · have hsB := solSt_ok h.b j (by omega)
      have hd := hsB.later j (Nat.le_refl _) (by rw [h.a.olen]; omega)
      rcases h.stepB (by omega) hl with ⟨-, e⟩ | ⟨-, -, e, -, -⟩ | ⟨-, -, -, e1, e2, -⟩
      · rw [e, hd] at hb; cases hb
      · rw [e, hd] at hb; cases hb
      · exact ⟨e1, e2⟩
/-- is it lost? -/
theorem Miss.is_at (h : Miss g most l ms ms' cur no) {k : Nat} (hk : k < l.length) : (knOf (solSt g most l ms' cur (k + 1)).kn (opAt l k)).is = (readyF l (solSt g most l ms' cur k).kn (opAt l k) && !no (opAt l k)) := by
  have hsB := solSt_ok h.b k (by omega)
  have hd := hsB.later k (Nat.le_refl _) (by rw [h.a.olen]; omega)
  rcases h.stepB hk (h.like k (by omega)) with ⟨e0, e⟩ | ⟨e0, e1, e, -, -⟩ | ⟨e0, e1, e, -⟩
  · rw [e, hd, e0]; rfl
  · rw [e, hd, e0, e1]; rfl
  · rw [e, e0, e1]; rfl
theorem all_not {α : Type} (xs : List α) (p : α → Bool) : xs.all p = !(xs.any fun x => !p x) := by
  induction xs with
  | nil => rfl
  | cons x xs ih => simp [List.all_cons, List.any_cons, ih]
theorem ready_end (h : Ok g most l ms cur) {k : Nat} (hk : k < l.length) : readyF l (solSt g most l ms cur k).kn (opAt l k) = readyF l (solF g most l ms cur).kn (opAt l k) := by
  have e : ∀ x ∈ insOf l (opAt l k), (knOf (solSt g most l ms cur k).kn x.toNat).is = (knOf (solF g most l ms cur).kn x.toNat).is := fun x hx => by
    obtain ⟨j, hj, rfl⟩ := opAt_in h hk hx
    have a := kn_keep h k hj (by omega)
    have b := kn_keep h (j := j) l.length (by omega) (Nat.le_refl _)
    rw [solF_eq h]
    show (knOf (solSt g most l ms cur k).kn (opAt l j)).is = (knOf (solSt g most l ms cur l.length).kn (opAt l j)).is
    rw [a.1, b.1]
  unfold readyF
  rw [Bool.eq_iff_iff, List.all_eq_true, List.all_eq_true]
  exact ⟨fun q x hx => by rw [← e x hx]; exact q x hx, fun q x hx => by rw [e x hx]; exact q x hx⟩
def lostF (g most : Int) (l : List OpP) (ms' : List Mea) (cur : List Int) (op : Nat) : Bool := !(knOf (solF g most l ms' cur).kn op).is
theorem Miss.lost (h : Miss g most l ms ms' cur no) {k : Nat} (hk : k < l.length) : lostF g most l ms' cur (opAt l k) = (no (opAt l k) || (insOf l (opAt l k)).any fun x => lostF g most l ms' cur x.toNat) := by
  have a := h.is_at hk
  have b := kn_keep h.b (j := k) l.length hk (Nat.le_refl _)
  unfold lostF
  rw [ready_end h.b hk] at a
  unfold readyF at a
  rw [all_not] at a
  rw [solF_eq h.b] at a ⊢
  rw [b.1, a]
  cases no (opAt l k) <;> simp
/-- what each has -/
theorem Miss.outs (h : Miss g most l ms ms' cur no) {op : Nat} (hop : op < l.length) :
    (lostF g most l ms' cur op = true → (solF g most l ms' cur).out.getD op 0 = cur.getD op 0) ∧ (lostF g most l ms' cur op = false → (solF g most l ms' cur).out.getD op 0 = (solF g most l ms cur).out.getD op 0) := by
  obtain ⟨k, hk, rfl⟩ := op_at h.a.olen hop
  have o := (sol_out h.b h.b.clen l.length (Nat.le_refl _)).2 (opAt l k)
  have li := h.like l.length (Nat.le_refl _) k hk
  unfold lostF
  rw [solF_eq h.a, solF_eq h.b]
  exact ⟨fun e => o.2 (by simpa using e), fun e => (li (by simpa using e)).2⟩
/-- the error -/
theorem Miss.err_at (h : Miss g most l ms ms' cur no) : ∀ k, k ≤ l.length → ((∃ j, j < k ∧ no (opAt l j) = true) ∧ (solSt g most l ms' cur k).first = 14) ∨ ((∀ j, j < k → no (opAt l j) = false) ∧ (solSt g most l ms' cur k).first = 0 ∧ ∀ j, j < k → (knOf (solSt g most l ms' cur k).kn (opAt l j)).is = true) := by
  intro k
  induction k with
  | zero => intro _; exact .inr ⟨fun j hj => by omega, rfl, fun j hj => by omega⟩
  | succ k ih =>
    intro hk
    have hl := h.like k (by omega)
    rcases ih (by omega) with ⟨⟨j, hj, hn⟩, hf⟩ | ⟨hn, hf, ha⟩
    · left
      refine ⟨⟨j, by omega, hn⟩, ?_⟩
      rcases h.stepB (by omega) hl with ⟨-, e⟩ | ⟨-, -, -, -, e⟩ | ⟨-, -, -, -, -, e⟩
      · rw [e]; exact hf
      · rw [e, hf]; decide
      · rw [e]; exact hf
    · have hr : readyF l (solSt g most l ms' cur k).kn (opAt l k) = true := ready_of fun x hx => by
        obtain ⟨j, hj, rfl⟩ := opAt_in h.a (by omega) hx
        exact ha j hj
      rcases h.stepB (by omega) hl with ⟨e0, -⟩ | ⟨-, e1, -, -, e⟩ | ⟨-, e1, e2, -, -, e⟩
      · rw [hr] at e0; cases e0
      · left; exact ⟨⟨k, by omega, e1⟩, by rw [e, if_pos hf]⟩
      · right
        refine ⟨fun j hj => ?_, by rw [e]; exact hf, fun j hj => ?_⟩
        · rcases (show j < k ∨ j = k by omega) with h1 | rfl
          · exact hn j h1
          · exact e1
        · rcases (show j < k ∨ j = k by omega) with h1 | rfl
          · rw [(kn_later h.b h1 (by omega)).1]; exact ha j h1
          · exact e2
theorem Miss.err (h : Miss g most l ms ms' cur no) : (solF g most l ms' cur).first = if (List.range l.length).any no then 14 else 0 := by
  rw [solF_eq h.b]
  rcases h.err_at l.length (Nat.le_refl _) with ⟨⟨j, hj, hn⟩, e⟩ | ⟨hn, e, -⟩
  · rw [e, if_pos]
    rw [List.any_eq_true]
    exact ⟨opAt l j, by rw [List.mem_range]; exact (opAt_lt (by rw [h.a.olen]; omega)).1, hn⟩
  · rw [e, if_neg]
    rw [List.any_eq_true]
    rintro ⟨op, hop, hno⟩
    rw [List.mem_range] at hop
    obtain ⟨k, hk, rfl⟩ := op_at h.a.olen hop
    rw [hn k hk] at hno; cases hno
/-- measures of which each is right: no error but 'over' -/
theorem err_over (h : Ok g most l ms cur) (hp : ∀ op, op < l.length → (meaOf ms op).1 ≠ 0 ∧ (meaOf ms op).2.2.1 ≠ 0) : ∀ k, k ≤ l.length → (solSt g most l ms cur k).first = 0 ∨ (solSt g most l ms cur k).first = 15 := by
  intro k
  induction k with
  | zero => intro _; exact .inl rfl
  | succ k ih =>
    intro hk
    have hlt := (opAt_lt (l := l) (k := k) (by rw [h.olen]; omega)).1
    show (stepF g most l ms (solSt g most l ms cur k) (opAt l k)).first = 0 ∨ (stepF g most l ms (solSt g most l ms cur k) (opAt l k)).first = 15
    unfold stepF
    have hi := ih (by omega)
    split
    · split
      · exact hi
      · simp only
        split
        · obtain ⟨p1, p2⟩ := hp _ hlt
          generalize rateF l (solSt g most l ms cur k).kn (opAt l k) = r
          unfold needR
          rw [if_neg (by omega)]
          split
          · exact .inr rfl
          · split
            · exact .inr rfl
            · split
              · exact .inr rfl
              · exact .inl rfl
        · exact hi
    · exact hi
end

/-- measures of which some are missing -/
def noF (none : List Bool) (i : Nat) : Bool := none.getD i false
def missM (none : List Bool) (i : Nat) (m : Mea) : Mea := if noF none i then (0, 3, (i : Int) % 2 * 5, 0) else m
def missL (ms : List Mea) (none : List Bool) (k : Nat) : List Mea := (List.range ms.length).map fun i => if i < k then missM none i (meaOf ms i) else meaOf ms i
theorem miss_len (ms : List Mea) (none : List Bool) (k : Nat) : (missL ms none k).length = ms.length := by simp [missL]
theorem miss_get {ms : List Mea} {none : List Bool} {k i : Nat} (hi : i < ms.length) : meaOf (missL ms none k) i = if i < k then missM none i (meaOf ms i) else meaOf ms i := by
  show ((List.range ms.length).map fun i => if i < k then missM none i (meaOf ms i) else meaOf ms i).getD i _ = _
  rw [List.getD_eq_getElem?_getD]; simp [hi]
theorem miss_zero (ms : List Mea) (none : List Bool) : missL ms none 0 = ms := by
  apply List.ext_getElem (miss_len _ _ _)
  intro i h1 h2
  simp [missL, meaOf, h2]
theorem miss_same {ms : List Mea} {none : List Bool} {k : Nat} (hn : noF none k = false) : missL ms none (k + 1) = missL ms none k := by
  apply List.ext_getElem (by simp [missL])
  intro i h1 h2
  simp only [missL, List.getElem_map, List.getElem_range]
  by_cases h : i < k
  · rw [if_pos (by omega), if_pos h]
  · rw [if_neg h]
    split
    · obtain rfl : i = k := by omega
      unfold missM; rw [hn]; rfl
    · rfl
theorem miss_set {ms : List Mea} {none : List Bool} {k : Nat} (hn : noF none k = true) : missL ms none (k + 1) = (missL ms none k).set k (0, 3, (k : Int) % 2 * 5, 0) := by
  apply List.ext_getElem (by simp [missL])
  intro i h1 h2
  rw [List.getElem_set]
  simp only [missL, List.getElem_map, List.getElem_range]
  by_cases h : k = i
  · subst h; rw [if_pos rfl, if_pos (by omega)]; unfold missM; rw [hn]; rfl
  · rw [if_neg h]
    by_cases h3 : i < k
    · rw [if_pos (by omega), if_pos h3]
    · rw [if_neg (by omega), if_neg h3]
def goodM (m : Mea) : Prop := 1 ≤ m.1 ∧ m.1 ≤ 1024 ∧ 1 ≤ m.2.2.1 ∧ m.2.2.1 ≤ 1024 ∧ m.2.1 ≤ 1024
theorem miss_ok {g most : Int} {l : List OpP} {ms : List Mea} {none : List Bool} {cur : List Int} (h : Ok g most l ms cur) : Ok g most l (missL ms none l.length) cur := by
  refine ⟨h.chk, by rw [miss_len]; exact h.mlen, h.clen, h.m1, fun i hi => ?_, h.cin⟩
  rw [miss_get (by rw [h.mlen]; exact hi), if_pos hi]
  unfold missM
  split
  · unfold MeaOk; simp only; omega
  · exact h.mea i hi
theorem miss_of {g most : Int} {l : List OpP} {ms : List Mea} {none : List Bool} {cur : List Int} (h : Ok g most l ms cur) (hf : (solF g most l ms cur).first = 0) : Miss g most l ms (missL ms none l.length) cur (noF none) := by
  refine ⟨h, miss_ok h, fun op hop hn => ?_, fun op hop hn => ?_, hf⟩
  · rw [miss_get (by rw [h.mlen]; exact hop), if_pos hop]; unfold missM; rw [hn]; rfl
  · rw [miss_get (by rw [h.mlen]; exact hop), if_pos hop]; unfold missM; rw [hn]; rfl
theorem keeps_err {g most : Int} {l : List OpP} {ms : List Mea} {cur : List Int} (h : Ok g most l ms cur) (hg : ∀ op, op < l.length → goodM (meaOf ms op)) : (solF g most l ms cur).first = 0 ∨ (solF g most l ms cur).first = 15 := by
  rw [solF_eq h]
  exact err_over h (fun op hop => by have := hg op hop; unfold goodM at this; omega) _ (Nat.le_refl _)
end Go.Proofs.Ytcechimilefihaa.So
