/- How many tasks are needed, in plain Lean. No condition. How many tasks are needed: the rate of an operator. How many tasks are needed: the rate of an operator that is no source. How many tasks are needed: limits, and parts. -/
import Derived.Test.YtcechimilefihaaZj
import Derived.Test.YtcechimilefihaaZe
import Derived.Deep.RegionHeld3
import Derived.Test.YtcechimilefihaaZa

namespace Go.Proofs.Ytcechimilefihaa.So
open Go Sp Fr

/-- what is known of an operator: what it gives -/
structure Kn where
  n : Int
  d : Int
  is : Bool
instance : Inhabited Kn := ⟨⟨0, 0, false⟩⟩
def knOf (kn : List Kn) (i : Nat) : Kn := kn.getD i default
/-- what was measured of an operator: In, Out, Busy, Wait -/
abbrev Mea := Int × Int × Int × Int
def meaOf (ms : List Mea) (i : Nat) : Mea := ms.getD i (0, 0, 0, 0)
/-- are all inputs known? -/
def readyF (l : List OpP) (kn : List Kn) (op : Nat) : Bool := (insOf l op).all fun x => (knOf kn x.toNat).is
/-- the sum of what the first k inputs give -/
def sumSt (kn : List Kn) (xs : List Int) : Nat → R
  | 0 => ⟨0, 1, true⟩
  | k + 1 => if (sumSt kn xs k).ok then plusR (sumSt kn xs k).n (sumSt kn xs k).d (knOf kn (xs.getD k 0).toNat).n (knOf kn (xs.getD k 0).toNat).d else sumSt kn xs k
/-- the rate of an operator whose inputs are known -/
def rateF (l : List OpP) (kn : List Kn) (op : Nat) : R := if kindOf l op = 1 then ⟨(opOf l op).rate, 1, true⟩ else sumSt kn (insOf l op) (insOf l op).length
/-- tasks, what is given, and the error -/
structure NR where
  t : Int
  n : Int
  d : Int
  e : Int
def costR (m : Mea) : R := ofR m.2.2.1 (m.1 * 100)
def eachR (m : Mea) : R := ofR m.2.1 m.1
def givesR (r : R) (m : Mea) : R := timesR r.n r.d (eachR m).n (eachR m).d
def allR (r : R) (m : Mea) : R := timesR r.n r.d (costR m).n (costR m).d
def needR (r : R) (m : Mea) : NR :=
  if m.1 = 0 ∨ m.2.2.1 = 0 then ⟨0, 0, 0, 14⟩
  else if r.ok = false then ⟨0, 0, 0, 15⟩
  else if fits (m.1 * 100) = false then ⟨0, 0, 0, 15⟩
  else if (givesR r m).ok = false ∨ (allR r m).ok = false then ⟨0, 0, 0, 15⟩
  else ⟨ceilR (allR r m).n (allR r m).d, (givesR r m).n, (givesR r m).d, 0⟩
/-- how many tasks an operator may have -/
def limF (g most : Int) (l : List OpP) (op : Nat) : Int :=
  if kindOf l op = 1 then min (min (min most 8) g) (opOf l op).parts else min (min most 8) g
def cutF (t lim : Int) : Int := if lim < t then lim else if t < 1 then 1 else t
structure St where
  out : List Int
  kn : List Kn
  first : Int
def stepF (g most : Int) (l : List OpP) (ms : List Mea) (st : St) (op : Nat) : St :=
  if readyF l st.kn op then
    if (needR (rateF l st.kn op) (meaOf ms op)).e = 0 then
      ⟨st.out.set op (cutF (needR (rateF l st.kn op) (meaOf ms op)).t (limF g most l op)), st.kn.set op ⟨(needR (rateF l st.kn op) (meaOf ms op)).n, (needR (rateF l st.kn op) (meaOf ms op)).d, true⟩, st.first⟩
    else ⟨st.out, st.kn, if st.first = 0 then (needR (rateF l st.kn op) (meaOf ms op)).e else st.first⟩
  else st
def opAt (l : List OpP) (k : Nat) : Nat := ((orderF l).getD k 0).toNat
def solSt (g most : Int) (l : List OpP) (ms : List Mea) (cur : List Int) : Nat → St
  | 0 => ⟨cur, List.replicate l.length default, 0⟩
  | k + 1 => stepF g most l ms (solSt g most l ms cur k) (opAt l k)
def solF (g most : Int) (l : List OpP) (ms : List Mea) (cur : List Int) : St := solSt g most l ms cur (orderF l).length

theorem replicate_getD {n i : Nat} : (List.replicate n (default : Kn)).getD i default = default := by
  rw [List.getD_eq_getElem?_getD, List.getElem?_replicate]; split <;> rfl
theorem knOf_set {kn : List Kn} {i j : Nat} {x : Kn} : knOf (kn.set i x) j = if i = j ∧ j < kn.length then x else knOf kn j := by
  unfold knOf
  rw [List.getD_eq_getElem?_getD, List.getD_eq_getElem?_getD, List.getElem?_set]
  by_cases h : i = j
  · subst h
    by_cases hl : i < kn.length
    · simp [hl]
    · simp [hl]
  · simp [h]

/-- a table of what is known: right fractions; nothing of what is not known -/
def KnOk (kn : List Kn) : Prop := ∀ i, ((knOf kn i).is = true → Lowest (knOf kn i).n (knOf kn i).d) ∧ ((knOf kn i).is = false → knOf kn i = default)
theorem KnOk.nil (n : Nat) : KnOk (List.replicate n default) := fun i => by
  unfold knOf; rw [replicate_getD]; exact ⟨(fun h => by cases h), fun _ => rfl⟩
theorem KnOk.set {kn : List Kn} (h : KnOk kn) {i : Nat} {n d : Int} (hl : Lowest n d) : KnOk (kn.set i ⟨n, d, true⟩) := fun j => by
  rw [knOf_set]
  split
  · exact ⟨fun _ => hl, fun h => by cases h⟩
  · exact h j

/-- measures that may be -/
def MeaOk (m : Mea) : Prop := 0 ≤ m.1 ∧ m.1 ≤ 9223372036854775807 ∧ 0 ≤ m.2.1 ∧ m.2.1 ≤ 9223372036854775807 ∧ 0 ≤ m.2.2.1 ∧ m.2.2.1 ≤ 9223372036854775807
theorem sum_no {kn : List Kn} {xs : List Int} {k : Nat} (h : (sumSt kn xs k).ok = false) : ∀ j, k ≤ j → sumSt kn xs j = sumSt kn xs k := by
  intro j hj
  induction j with
  | zero => have : k = 0 := by omega
            rw [this]
  | succ j ih =>
    rcases (show k ≤ j ∨ k = j + 1 by omega) with h1 | rfl
    · rw [sumSt, ih h1, h]; rfl
    · rfl
theorem low_zero : Lowest 0 1 := ⟨by decide, by decide, by decide, by decide, by decide⟩
theorem low_one' {n : Int} (h0 : 0 ≤ n) (h1 : n ≤ 9223372036854775807) : Lowest n 1 := ⟨h0, h1, by decide, by decide, Nat.gcd_one_right _⟩
theorem sum_low {kn : List Kn} (hk : KnOk kn) {xs : List Int} (hr : ∀ x ∈ xs, (knOf kn x.toNat).is = true) : ∀ k, k ≤ xs.length → (sumSt kn xs k).ok = true → Lowest (sumSt kn xs k).n (sumSt kn xs k).d := by
  intro k
  induction k with
  | zero => intro _ _; exact low_zero
  | succ k ih =>
    intro hk1 ho
    rw [sumSt] at ho ⊢
    cases h : (sumSt kn xs k).ok with
    | false => rw [h] at ho; simp [h] at ho
    | true =>
      rw [h] at ho
      rw [if_pos rfl] at ho ⊢
      have h1 := ih (by omega) h
      have h2 := (hk (xs.getD k 0).toNat).1 (hr _ (getD_mem (by omega)))
      obtain ⟨-, -, p1, -, -⟩ := h1
      obtain ⟨-, -, p2, -, -⟩ := h2
      exact Lowest.of_right (Nat.mul_pos (by omega) (by omega)) ho
theorem rate_low {l : List OpP} {kn : List Kn} (hk : KnOk kn) {op : Nat} (hrt : kindOf l op = 1 → 0 ≤ (opOf l op).rate ∧ (opOf l op).rate ≤ 9223372036854775807) (hr : readyF l kn op = true) (ho : (rateF l kn op).ok = true) : Lowest (rateF l kn op).n (rateF l kn op).d := by
  unfold rateF at ho ⊢
  by_cases h : kindOf l op = 1
  · rw [if_pos h]; exact low_one' (hrt h).1 (hrt h).2
  · rw [if_neg h] at ho ⊢
    unfold readyF at hr
    rw [List.all_eq_true] at hr
    exact sum_low hk hr _ (Nat.le_refl _) ho
theorem of_ok {n d : Int} (h0 : 0 ≤ n) (h1 : n ≤ 9223372036854775807) (h2 : 1 ≤ d) (h3 : d ≤ 9223372036854775807) : (ofR n d).ok = true ∧ Lowest (ofR n d).n (ofR n d).d := by
  unfold ofR
  rw [if_neg (by omega)]
  have a1 : n.toNat / Nat.gcd n.toNat d.toNat ≤ M63 := Nat.le_trans (Nat.div_le_self _ _) (by unfold M63; omega)
  have a2 : d.toNat / Nat.gcd n.toNat d.toNat ≤ M63 := Nat.le_trans (Nat.div_le_self _ _) (by unfold M63; omega)
  have e : (rightR n.toNat d.toNat).ok = true := by rw [rightR_yes a1 a2]
  exact ⟨e, Lowest.of_right (by omega) e⟩
theorem fits_le {x : Int} (h : fits x = true) : x ≤ 9223372036854775807 := by unfold fits at h; simp at h; omega
theorem cost_ok {m : Mea} (hm : MeaOk m) (h0 : m.1 ≠ 0) (hf : fits (m.1 * 100) = true) : (costR m).ok = true ∧ Lowest (costR m).n (costR m).d := by
  obtain ⟨a0, a1, b0, b1, c0, c1⟩ := hm
  exact of_ok c0 c1 (by omega) (fits_le hf)
theorem each_ok {m : Mea} (hm : MeaOk m) (h0 : m.1 ≠ 0) : (eachR m).ok = true ∧ Lowest (eachR m).n (eachR m).d := by
  obtain ⟨a0, a1, b0, b1, c0, c1⟩ := hm
  exact of_ok b0 b1 (by omega) a1
theorem times_low {a b c d : Int} (h : Lowest a b) (k : Lowest c d) (ho : (timesR a b c d).ok = true) : Lowest (timesR a b c d).n (timesR a b c d).d := by
  obtain ⟨-, -, p1, -, -⟩ := h
  obtain ⟨-, -, p2, -, -⟩ := k
  exact Lowest.of_right (Nat.mul_pos (by omega) (by omega)) ho

theorem need_zero {r : R} {m : Mea} (h : m.1 = 0 ∨ m.2.2.1 = 0) : needR r m = ⟨0, 0, 0, 14⟩ := by unfold needR; rw [if_pos h]
theorem need_rate {r : R} {m : Mea} (h : ¬ (m.1 = 0 ∨ m.2.2.1 = 0)) (hr : r.ok = false) : needR r m = ⟨0, 0, 0, 15⟩ := by unfold needR; rw [if_neg h, if_pos hr]
theorem need_fit {r : R} {m : Mea} (h : ¬ (m.1 = 0 ∨ m.2.2.1 = 0)) (hr : r.ok = true) (hf : fits (m.1 * 100) = false) : needR r m = ⟨0, 0, 0, 15⟩ := by unfold needR; rw [if_neg h, if_neg (by rw [hr]; decide), if_pos hf]
theorem need_over {r : R} {m : Mea} (h : ¬ (m.1 = 0 ∨ m.2.2.1 = 0)) (hr : r.ok = true) (hf : fits (m.1 * 100) = true) (ho : (givesR r m).ok = false ∨ (allR r m).ok = false) : needR r m = ⟨0, 0, 0, 15⟩ := by
  unfold needR; rw [if_neg h, if_neg (by rw [hr]; decide), if_neg (by rw [hf]; decide), if_pos ho]
theorem need_some {r : R} {m : Mea} (h : ¬ (m.1 = 0 ∨ m.2.2.1 = 0)) (hr : r.ok = true) (hf : fits (m.1 * 100) = true) (hg : (givesR r m).ok = true) (ha : (allR r m).ok = true) :
    needR r m = ⟨ceilR (allR r m).n (allR r m).d, (givesR r m).n, (givesR r m).d, 0⟩ := by
  unfold needR; rw [if_neg h, if_neg (by rw [hr]; decide), if_neg (by rw [hf]; decide), if_neg (by rw [hg, ha]; decide)]
/-- what may come -/
theorem need_ways (r : R) (m : Mea) : needR r m = ⟨0, 0, 0, 14⟩ ∨ needR r m = ⟨0, 0, 0, 15⟩ ∨
    (¬ (m.1 = 0 ∨ m.2.2.1 = 0) ∧ r.ok = true ∧ fits (m.1 * 100) = true ∧ (givesR r m).ok = true ∧ (allR r m).ok = true ∧ needR r m = ⟨ceilR (allR r m).n (allR r m).d, (givesR r m).n, (givesR r m).d, 0⟩) := by
  by_cases h : m.1 = 0 ∨ m.2.2.1 = 0
  · exact .inl (need_zero h)
  · cases hr : r.ok with
    | false => exact .inr (.inl (need_rate h hr))
    | true =>
      cases hf : fits (m.1 * 100) with
      | false => exact .inr (.inl (need_fit h hr hf))
      | true =>
        cases hg : (givesR r m).ok with
        | false => exact .inr (.inl (need_over h hr hf (.inl hg)))
        | true =>
          cases ha : (allR r m).ok with
          | false => exact .inr (.inl (need_over h hr hf (.inr ha)))
          | true => exact .inr (.inr ⟨h, rfl, rfl, rfl, rfl, need_some h hr hf hg ha⟩)
theorem need_low {r : R} {m : Mea} (hm : MeaOk m) (hr : r.ok = true → Lowest r.n r.d) (h : (needR r m).e = 0) : Lowest (needR r m).n (needR r m).d ∧ 0 ≤ (needR r m).t ∧ (needR r m).t ≤ 9223372036854775807 := by
  rcases need_ways r m with e | e | ⟨h0, ho, hf, hg, ha, e⟩
  · rw [e] at h; cases h
  · rw [e] at h; cases h
  · rw [e]
    have l1 := times_low (hr ho) (each_ok hm (by omega)).2 hg
    have l2 := times_low (hr ho) (cost_ok hm (by omega) hf).2 ha
    refine ⟨l1, ?_⟩
    obtain ⟨a, b, c, d, -⟩ := l2
    show 0 ≤ ceilR (allR r m).n (allR r m).d ∧ ceilR (allR r m).n (allR r m).d ≤ _
    unfold ceilR allR
    generalize (timesR r.n r.d (costR m).n (costR m).d).n = x at *
    generalize (timesR r.n r.d (costR m).n (costR m).d).d = y at *
    refine ⟨Int.ediv_nonneg (by omega) (by omega), ?_⟩
    rcases (show y = 1 ∨ 2 ≤ y by omega) with rfl | hy
    · rw [Int.ediv_one]; omega
    · refine Int.ediv_le_of_le_mul (by omega) ?_
      have : 9223372036854775807 * 2 ≤ 9223372036854775807 * y := Int.mul_le_mul_of_nonneg_left hy (by decide)
      rcases (show x = 0 ∨ 1 ≤ x by omega) with rfl | hx
      · omega
      · omega

theorem cut_bd {t lim : Int} (hl : 1 ≤ lim) : 1 ≤ cutF t lim ∧ cutF t lim ≤ lim := by unfold cutF; split; (omega); (split <;> omega)
theorem cut_min {t lim : Int} (hl : 1 ≤ lim) : cutF t lim = min (max t 1) lim := by unfold cutF; split; (omega); (split <;> omega)
theorem lim_bd {g most : Int} {l : List OpP} {op : Nat} (hg : 1 ≤ g) (hm : 1 ≤ most) (hp : kindOf l op = 1 → 1 ≤ (opOf l op).parts) : 1 ≤ limF g most l op ∧ limF g most l op ≤ 8 := by
  unfold limF
  split
  · rename_i h; have := hp h; omega
  · omega

section
variable {g most : Int} {l : List OpP} {ms : List Mea} {st : St} {op : Nat}
theorem step_wait (h : readyF l st.kn op = false) : stepF g most l ms st op = st := by unfold stepF; rw [h]; rfl
theorem step_no (h : readyF l st.kn op = true) (he : (needR (rateF l st.kn op) (meaOf ms op)).e ≠ 0) : stepF g most l ms st op = ⟨st.out, st.kn, if st.first = 0 then (needR (rateF l st.kn op) (meaOf ms op)).e else st.first⟩ := by
  unfold stepF; rw [if_pos h, if_neg he]
theorem step_yes (h : readyF l st.kn op = true) (he : (needR (rateF l st.kn op) (meaOf ms op)).e = 0) : stepF g most l ms st op =
    ⟨st.out.set op (cutF (needR (rateF l st.kn op) (meaOf ms op)).t (limF g most l op)), st.kn.set op ⟨(needR (rateF l st.kn op) (meaOf ms op)).n, (needR (rateF l st.kn op) (meaOf ms op)).d, true⟩, st.first⟩ := by
  unfold stepF; rw [if_pos h, if_pos he]
end
/-- what is asked of a job and measures -/
structure Ok (g most : Int) (l : List OpP) (ms : List Mea) (cur : List Int) : Prop where
  chk : chkE g l = 0
  mlen : ms.length = l.length
  clen : cur.length = l.length
  m1 : 1 ≤ most
  mea : ∀ i, i < l.length → MeaOk (meaOf ms i)
  cin : ∀ x ∈ cur, -9223372036854775808 ≤ x ∧ x ≤ 9223372036854775807

/-- the state behind k steps -/
structure StOk (l : List OpP) (k : Nat) (st : St) : Prop where
  olen : st.out.length = l.length
  klen : st.kn.length = l.length
  kok : KnOk st.kn
  later : ∀ j, k ≤ j → j < (orderF l).length → knOf st.kn (opAt l j) = default
  fst : st.first = 0 ∨ st.first = 14 ∨ st.first = 15
  oin : ∀ x ∈ st.out, -9223372036854775808 ≤ x ∧ x ≤ 9223372036854775807

/-! the order: each operator once -/
section
variable {g most : Int} {l : List OpP} {ms : List Mea} {cur : List Int}
theorem opAt_lt {k : Nat} (hk : k < (orderF l).length) : opAt l k < l.length ∧ (orderF l).getD k 0 = (opAt l k : Nat) := by
  obtain ⟨i, hi, hlt⟩ := (ordSt_ok l l.length).1 _ (getD_mem (xs := orderF l) hk)
  unfold opAt
  rw [hi]; exact ⟨by simpa using hlt, by simp⟩
theorem opAt_inj {j k : Nat} (hj : j < (orderF l).length) (hk : k < (orderF l).length) (h : opAt l j = opAt l k) : j = k := by
  have e : (orderF l).getD j 0 = (orderF l).getD k 0 := by rw [(opAt_lt hj).2, (opAt_lt hk).2, h]
  rw [List.getD_eq_getElem?_getD, List.getD_eq_getElem?_getD, List.getElem?_eq_getElem hj, List.getElem?_eq_getElem hk] at e
  have e2 : (orderF l)[j] = (orderF l)[k] := by simpa using e
  have hn : (orderF l).Nodup := (ordSt_ok l l.length).2.1
  exact (List.getElem_inj hn).1 e2
theorem Ok.okJ (h : Ok g most l ms cur) : OkJ g l := ok_of h.chk
theorem Ok.olen (h : Ok g most l ms cur) : (orderF l).length = l.length := h.okJ.olen
theorem Ok.nlen (h : Ok g most l ms cur) : 1 ≤ l.length ∧ l.length ≤ 12 := h.okJ.len
theorem opAt_in (h : Ok g most l ms cur) {k : Nat} (hk : k < l.length) {x : Int} (hx : x ∈ insOf l (opAt l k)) : ∃ j, j < k ∧ x = (opAt l j : Nat) := by
  have hk' : k < (orderF l).length := by rw [h.olen]; exact hk
  have := (ordSt_ok l l.length).2.2 k hk' x hx
  obtain ⟨j, hj, e⟩ := mem_getD this
  rw [List.length_take] at hj
  refine ⟨j, by omega, ?_⟩
  rw [← (opAt_lt (show j < (orderF l).length by omega)).2, ← e, List.getD_eq_getElem?_getD, List.getD_eq_getElem?_getD, List.getElem?_take_of_lt (by omega)]
  rfl
theorem Ok.src (h : Ok g most l ms cur) {i : Nat} (hi : i < l.length) (hk : kindOf l i = 1) : 1 ≤ (opOf l i).rate ∧ (opOf l i).rate ≤ 1048576 ∧ 1 ≤ (opOf l i).parts ∧ (opOf l i).parts ≤ 8 := by
  have hp := (alone_in (h.okJ.alone i hi)).2.2.2.1
  unfold partsB at hp
  unfold kindOf at hk
  rw [if_pos hk] at hp
  unfold btw at hp
  simp only [Bool.and_eq_true, decide_eq_true_eq] at hp
  omega
theorem Ok.lim (h : Ok g most l ms cur) {i : Nat} (hi : i < l.length) : 1 ≤ limF g most l i ∧ limF g most l i ≤ 8 :=
  lim_bd h.okJ.groups.1 h.m1 fun hk => (h.src hi hk).2.2.1
theorem Ok.rlow (h : Ok g most l ms cur) {kn : List Kn} (hk : KnOk kn) {i : Nat} (hi : i < l.length) (hr : readyF l kn i = true) (ho : (rateF l kn i).ok = true) : Lowest (rateF l kn i).n (rateF l kn i).d :=
  rate_low hk (fun e => by have := h.src hi e; omega) hr ho
theorem StOk.zero (h : Ok g most l ms cur) : StOk l 0 ⟨cur, List.replicate l.length default, 0⟩ :=
  ⟨h.clen, List.length_replicate, KnOk.nil _, fun j _ _ => by unfold knOf; exact replicate_getD, .inl rfl, h.cin⟩
theorem StOk.step (h : Ok g most l ms cur) {k : Nat} {st : St} (hs : StOk l k st) (hk : k < l.length) : StOk l (k + 1) (stepF g most l ms st (opAt l k)) := by
  have hk' : k < (orderF l).length := by rw [h.olen]; exact hk
  have hlt := (opAt_lt hk').1
  cases hr : readyF l st.kn (opAt l k) with
  | false =>
    rw [step_wait hr]
    exact ⟨hs.olen, hs.klen, hs.kok, fun j hj => hs.later j (by omega), hs.fst, hs.oin⟩
  | true =>
    by_cases he : (needR (rateF l st.kn (opAt l k)) (meaOf ms (opAt l k))).e = 0
    · rw [step_yes hr he]
      obtain ⟨n1, n2, n3⟩ := need_low (h.mea _ hlt) (h.rlow hs.kok hlt hr) he
      obtain ⟨b1, b2⟩ := h.lim hlt
      have c1 := cut_bd (t := (needR (rateF l st.kn (opAt l k)) (meaOf ms (opAt l k))).t) b1
      refine ⟨by rw [List.length_set]; exact hs.olen, by rw [List.length_set]; exact hs.klen, hs.kok.set n1, fun j hj hjo => ?_, hs.fst, fun x hx => ?_⟩
      · show knOf (st.kn.set _ _) _ = _
        rw [knOf_set, if_neg (fun e => by have := opAt_inj hk' hjo e.1; omega)]
        exact hs.later j (by omega) hjo
      · rcases List.mem_or_eq_of_mem_set hx with hx | rfl
        · exact hs.oin x hx
        · omega
    · rw [step_no hr he]
      refine ⟨hs.olen, hs.klen, hs.kok, fun j hj => hs.later j (by omega), ?_, hs.oin⟩
      show (if st.first = 0 then _ else st.first) = 0 ∨ _ ∨ _
      split
      · rcases need_ways (rateF l st.kn (opAt l k)) (meaOf ms (opAt l k)) with e | e | ⟨-, -, -, -, -, e⟩
        · rw [e]; exact .inr (.inl rfl)
        · rw [e]; exact .inr (.inr rfl)
        · rw [e]; exact .inl rfl
      · exact hs.fst
theorem solSt_ok (h : Ok g most l ms cur) : ∀ k, k ≤ l.length → StOk l k (solSt g most l ms cur k) := by
  intro k
  induction k with
  | zero => intro _; exact StOk.zero h
  | succ k ih => intro hk; exact StOk.step h (ih (by omega)) (by omega)
end
end Go.Proofs.Ytcechimilefihaa.So

namespace Go.Proofs.Ytcechimilefihaa.So
open Go.ChangeShapes Go.WideShapes Go.ChangeAt Go.RowKit M Sp Fr

/-- what is known, in memory -/
def knL (kn : List Kn) : List Value := kn.flatMap fun x => [.int .i64 x.n, .int .i64 x.d, .bool x.is]
def knCells (kn : List Kn) : Array Value := (knL kn).toArray
theorem knL_get : ∀ {kn : List Kn} {i : Nat}, i < kn.length → (knL kn)[i * 3]? = some (.int .i64 (knOf kn i).n) ∧ (knL kn)[i * 3 + 1]? = some (.int .i64 (knOf kn i).d) ∧ (knL kn)[i * 3 + 2]? = some (.bool (knOf kn i).is)
  | [], i, h => by simp at h
  | x :: kn, 0, _ => ⟨rfl, rfl, rfl⟩
  | x :: kn, i + 1, h => by
    have ih := knL_get (kn := kn) (i := i) (by simpa using h)
    have e : ∀ j, (i + 1) * 3 + j = (i * 3 + j) + 1 + 1 + 1 := by intro j; omega
    have e0 := e 0
    simp only [Nat.add_zero] at e0
    rw [e 1, e 2, e0]
    simpa [knL, knOf] using ih
theorem knL_set : ∀ {kn : List Kn} {i : Nat} {n d : Int} {b : Bool}, i < kn.length → (((knL kn).set (i * 3) (.int .i64 n)).set (i * 3 + 1) (.int .i64 d)).set (i * 3 + 2) (.bool b) = knL (kn.set i ⟨n, d, b⟩)
  | [], i, n, d, b, h => by simp at h
  | x :: kn, 0, n, d, b, _ => by simp [knL]
  | x :: kn, i + 1, n, d, b, h => by
    have ih := knL_set (kn := kn) (i := i) (n := n) (d := d) (b := b) (by simpa using h)
    have e1 : (i + 1) * 3 = i * 3 + 1 + 1 + 1 := by omega
    simp only [knL, List.flatMap_cons, e1] at *
    simpa using ih
def IsKn (w : World) (o : Nat) (kn : List Kn) : Prop := Blk w o 99 (knCells kn)
section
variable {w w' : World} {o : Nat} {kn : List Kn}
theorem IsKn.lt (h : IsKn w o kn) : o < w.heap.size := Blk.lt h
theorem IsKn.at_ (h : IsKn w o kn) {i : Nat} (hi : i < kn.length) : w.cell? ⟨o, i * 3, none⟩ = some (.int .i64 (knOf kn i).n) ∧ w.cell? ⟨o, i * 3 + 1, none⟩ = some (.int .i64 (knOf kn i).d) ∧ w.cell? ⟨o, i * 3 + 2, none⟩ = some (.bool (knOf kn i).is) := by
  obtain ⟨a, b, c⟩ := knL_get hi
  refine ⟨(Blk.cell h _).trans ?_, (Blk.cell h _).trans ?_, (Blk.cell h _).trans ?_⟩
  · simpa [knCells] using a
  · simpa [knCells] using b
  · simpa [knCells] using c
theorem IsKn.free (h : IsKn w o kn) (j : Nat) : w.frozen? ⟨o, j, none⟩ = false := Blk.frozen h j
theorem IsKn.below (h : IsKn w o kn) (hb : Below w.heap.size w w') : IsKn w' o kn := Blk.below h hb (Blk.lt h)
theorem IsKn.set_ (h : IsKn w o kn) {i : Nat} (hi : i < kn.length) (n d : Int) (b : Bool) : IsKn (((w.setCell ⟨o, i * 3, none⟩ (.int .i64 n)).setCell ⟨o, i * 3 + 1, none⟩ (.int .i64 d)).setCell ⟨o, i * 3 + 2, none⟩ (.bool b)) o (kn.set i ⟨n, d, b⟩) := by
  have := ((Blk.set_ h (i * 3) (.int .i64 n)).set_ (i * 3 + 1) (.int .i64 d)).set_ (i * 3 + 2) (.bool b)
  unfold IsKn
  have e : (((knCells kn).setIfInBounds (i * 3) (.int .i64 n)).setIfInBounds (i * 3 + 1) (.int .i64 d)).setIfInBounds (i * 3 + 2) (.bool b) = knCells (kn.set i ⟨n, d, b⟩) := by
    unfold knCells
    simp only [List.setIfInBounds_toArray]
    rw [knL_set hi]
  rwa [e] at this
end
/-- the solver, in memory -/
def IsSo (w : World) (q o : Nat) (g : Int) (A : Option Addr) (n c : Nat) (M : Option Addr) (mc : Nat) (most : Int) : Prop :=
  Blk w q 95 #[.int .i64 g, .slice A n c, .slice M n mc, .int .i64 most, .slice (some ⟨o, 0, none⟩) n n]
section
variable {w w' : World} {q o n c mc : Nat} {g most : Int} {A M : Option Addr}
theorem IsSo.cells (h : IsSo w q o g A n c M mc most) : w.cell? ⟨q, 0, none⟩ = some (.int .i64 g) ∧ w.cell? ⟨q, 1, none⟩ = some (.slice A n c) ∧ w.cell? ⟨q, 2, none⟩ = some (.slice M n mc) ∧ w.cell? ⟨q, 3, none⟩ = some (.int .i64 most) ∧ w.cell? ⟨q, 4, none⟩ = some (.slice (some ⟨o, 0, none⟩) n n) :=
  ⟨Blk.cell h 0, Blk.cell h 1, Blk.cell h 2, Blk.cell h 3, Blk.cell h 4⟩
theorem IsSo.lt (h : IsSo w q o g A n c M mc most) : q < w.heap.size := Blk.lt h
theorem IsSo.below (h : IsSo w q o g A n c M mc most) (hb : Below w.heap.size w w') : IsSo w' q o g A n c M mc most := Blk.below h hb (Blk.lt h)
end

def tup3 (n d e : Int) (b : Bool) : Value := .tuple #[.agg #[.int .i64 n, .int .i64 d], .int .i64 e, .bool b]
def rateV (l : List OpP) (kn : List Kn) (i : Nat) : Value :=
  if readyF l kn i then (if (rateF l kn i).ok then tup3 (rateF l kn i).n (rateF l kn i).d 0 true else tup3 0 0 15 false) else tup3 0 0 0 false

theorem of_one {n : Int} (h0 : 1 ≤ n) (h1 : n ≤ 1048576) : ofR n 1 = ⟨n, 1, true⟩ := by
  unfold ofR
  rw [if_neg (by omega), show (1 : Int).toNat = 1 from rfl]
  rw [rightR_yes (by rw [Nat.gcd_one_right, Nat.div_one]; unfold M63; omega) (by rw [Nat.gcd_one_right]; decide), Nat.gcd_one_right, Nat.div_one]
  congr 1; omega

theorem res3 {fn : Func} {a t u : Tmp} (h : fn.results = #[.cell a 43, .tmp t, .tmp u]) (tmps : Array Value) (w : World) {g : Nat} {x y : Value} (hp : tmps.getD a undef = .pointer (some ⟨g, 0, none⟩))
    (c0 : w.cell? ⟨g, 0, none⟩ = some x) (c1 : w.cell? ⟨g, 1, none⟩ = some y) : (results fn tmps).run Try.prog w = .ok (.tuple #[.agg #[x, y], tmps.getD t undef, tmps.getD u undef]) w := by
  simp [results, h, go_sem] at hp ⊢
  simp [hp, go_sem, c0, c1]
theorem put2 {w : World} {g : Nat} {u0 u1 : Value} (c0 : w.cell? ⟨g, 0, none⟩ = some u0) (c1 : w.cell? ⟨g, 1, none⟩ = some u1) (x y : Value) :
    ((w.setCell ⟨g, 0, none⟩ x).setCell ⟨g, 1, none⟩ y).cell? ⟨g, 0, none⟩ = some x ∧ ((w.setCell ⟨g, 0, none⟩ x).setCell ⟨g, 1, none⟩ y).cell? ⟨g, 1, none⟩ = some y := by
  constructor
  · rw [World.cell?_setCell_other (w.setCell ⟨g, 0, none⟩ x) ⟨g, 1, none⟩ ⟨g, 0, none⟩ y (by simp)]
    exact World.cell?_setCell_same' w _ x (by rw [c0]; rfl)
  · refine World.cell?_setCell_same' _ _ y ?_
    rw [World.cell?_setCell_other w ⟨g, 0, none⟩ ⟨g, 1, none⟩ x (by simp), c1]; rfl
theorem put2a {w : World} {g : Nat} {x y : Value} {o : Obj} (h : w.cell? ⟨g, 0, none⟩ = some x ∧ w.cell? ⟨g, 1, none⟩ = some y) (hg : g < w.heap.size) : (w.alloc o).cell? ⟨g, 0, none⟩ = some x ∧ (w.alloc o).cell? ⟨g, 1, none⟩ = some y :=
  ⟨(World.cell?_alloc_lt w o ⟨g, 0, none⟩ hg).trans h.1, (World.cell?_alloc_lt w o ⟨g, 1, none⟩ hg).trans h.2⟩

/-- a source's rate -/
theorem rate_src (g most : Int) (A M : Option Addr) (c mc : Nat) (l : List OpP) (p : Nat → Option Addr × Nat) (kn : List Kn) (q o i : Nat) (w : World) (B : Nat) (hB : B ≤ w.heap.size) (h : IsOps w B A l p) (hs : IsSo w q o g A l.length c M mc most) (hi : i < l.length) (_hlen : l.length ≤ 12)
    (hk : kindOf l i = 1) (hin : insOf l i = []) (hr : 1 ≤ (opOf l i).rate ∧ (opOf l i).rate ≤ 1048576) :
    Calls Try.prog 115 #[.pointer (some ⟨q, 0, none⟩), .int .i64 i] w fun e w' => e = .returned (rateV l kn i) ∧ Below w.heap.size w w' := by
  have E := Lib.hid (show rateV l kn i = tup3 (opOf l i).rate 1 0 true by
    unfold rateV readyF rateF
    rw [hin, if_pos hk]; rfl)
  obtain ⟨s0, s1, s2, s3, s4⟩ := hs.cells
  have hq := hs.lt
  obtain ⟨b, ob, rfl, hb, c0, c1, c2, c3, c4, c5, c6, c7, -, -⟩ := h.at_ hi
  rw [hk] at c0
  rw [hin] at c1
  have HO := Lib.hid (fun X => of_any (opOf l i).rate 1 X (by unfold I64; omega) (by unfold I64; omega))
  rw [of_one hr.1 hr.2] at HO
  generalize (opOf l i).rate = rt at *
  clear h hs hk hin
  have hbw : b < w.heap.size := by omega
  go_enter Try.func115, Try.ntmps115
  go_wp2_with fail
  refine (HO.out _).mono ?_
  rintro e w1 ⟨rfl, hb1⟩
  obtain ⟨hc, hf⟩ := below_cells hb1
  have hz : w.heap.size + 1 < w1.heap.size := by have := hb1.size; simp at this; omega
  have hz0 : w.heap.size < w1.heap.size := by omega
  have HB1 := Lib.hid hb1
  clear hb1
  have k0 : w1.cell? ⟨w.heap.size, 0, none⟩ = some (.int .i64 0) := by rw [hc _ _ (by simp; omega)]; go_simp
  have k1 : w1.cell? ⟨w.heap.size, 1, none⟩ = some (.int .i64 0) := by rw [hc _ _ (by simp; omega)]; go_simp
  have HK := Lib.hid (put2 k0 k1 (.int .i64 rt) (.int .i64 1))
  go_wp2_with fail
  obtain ⟨q0, q1⟩ := put2a (o := .cells #[.int .i64 rt, .int .i64 1] 43) HK.out (by simpa using hz0)
  refine bodyPost_ret (res3 rfl _ _ rfl q0 q1) rfl ?_
  exact ⟨by rw [E.out]; rfl, (((through (((Below.refl _ _).alloc (Nat.le_refl _) _).alloc (by simp) _) (Nat.le_refl _) HB1.out).setCell (Nat.le_refl _) _).setCell (Nat.le_refl _) _).alloc (by simp; omega) _⟩
end Go.Proofs.Ytcechimilefihaa.So

namespace Go.Proofs.Ytcechimilefihaa.So
open Go.ChangeShapes Go.WideShapes Go.ChangeAt Go.RowKit M Sp Fr

theorem ready_no {l : List OpP} {kn : List Kn} {i k : Nat} (hk : k < (insOf l i).length) (h : (knOf kn ((insOf l i).getD k 0).toNat).is = false) : readyF l kn i = false := by
  cases hr : readyF l kn i with
  | false => rfl
  | true =>
    unfold readyF at hr
    rw [List.all_eq_true] at hr
    rw [hr _ (getD_mem hk)] at h; cases h
theorem ready_yes {l : List OpP} {kn : List Kn} {i : Nat} (h : ∀ j, j < (insOf l i).length → (knOf kn ((insOf l i).getD j 0).toNat).is = true) : readyF l kn i = true := by
  unfold readyF
  rw [List.all_eq_true]
  intro x hx
  obtain ⟨j, hj, rfl⟩ := mem_getD hx
  exact h j hj
/-- in the loop that adds -/
def Sum2 (w : World) (B Z : Nat) (n d : Int) (wr : World) : Prop := Below B w wr ∧ FracAt wr B 0 0 ∧ FracAt wr Z n d
theorem sumSt_succ {kn : List Kn} {xs : List Int} {k : Nat} {n d : Int} (h : sumSt kn xs k = ⟨n, d, true⟩) {j : Nat} (hj : (xs.getD k 0).toNat = j) : sumSt kn xs (k + 1) = plusR n d (knOf kn j).n (knOf kn j).d := by
  rw [sumSt, h, hj]; rfl

theorem frac_aft {w w1 : World} {Z : Nat} {n d : Int} (h : FracAt w Z n d) (hb : Below w.drew.heap.size w.drew w1) : FracAt w1 Z n d := Blk.below (Blk.drew h) hb (Blk.lt h)
section
variable {w w1 : World} {q o j Z : Nat} {v0 v1 v2 : Value}
theorem s3_below (hq : q < w.heap.size) (ho : o < w.heap.size) (h : w.cell? ⟨q, 4, none⟩ = some v0 ∧ w.cell? ⟨o, j * 3, none⟩ = some v1 ∧ w.cell? ⟨o, j * 3 + 1, none⟩ = some v2) (hb : Below w.drew.heap.size w.drew w1) :
    w1.cell? ⟨q, 4, none⟩ = some v0 ∧ w1.cell? ⟨o, j * 3, none⟩ = some v1 ∧ w1.cell? ⟨o, j * 3 + 1, none⟩ = some v2 :=
  ⟨(hb.cell (p := ⟨q, 4, none⟩) hq).trans h.1, (hb.cell (p := ⟨o, j * 3, none⟩) ho).trans h.2.1, (hb.cell (p := ⟨o, j * 3 + 1, none⟩) ho).trans h.2.2⟩
theorem s3_set (hq : q ≠ Z) (ho : o ≠ Z) (h : w.cell? ⟨q, 4, none⟩ = some v0 ∧ w.cell? ⟨o, j * 3, none⟩ = some v1 ∧ w.cell? ⟨o, j * 3 + 1, none⟩ = some v2) (u u' : Value) :
    ((w.setCell ⟨Z, 0, none⟩ u).setCell ⟨Z, 1, none⟩ u').cell? ⟨q, 4, none⟩ = some v0 ∧ ((w.setCell ⟨Z, 0, none⟩ u).setCell ⟨Z, 1, none⟩ u').cell? ⟨o, j * 3, none⟩ = some v1 ∧ ((w.setCell ⟨Z, 0, none⟩ u).setCell ⟨Z, 1, none⟩ u').cell? ⟨o, j * 3 + 1, none⟩ = some v2 := by
  have e : ∀ b k, b ≠ Z → ((w.setCell ⟨Z, 0, none⟩ u).setCell ⟨Z, 1, none⟩ u').cell? ⟨b, k, none⟩ = w.cell? ⟨b, k, none⟩ := fun b k hb => by
    rw [World.cell?_setCell_other _ _ _ _ (by intro e; injection e with e; exact hb e.symm), World.cell?_setCell_other _ _ _ _ (by intro e; injection e with e; exact hb e.symm)]
  exact ⟨(e _ _ hq).trans h.1, (e _ _ ho).trans h.2.1, (e _ _ ho).trans h.2.2⟩
end

theorem Sum2.step {w wr w1 : World} {B Z : Nat} {n d x y : Int} (h : Sum2 w B Z n d wr) (hB : B ≤ w.heap.size) (hZ : B < Z) (hb : Below wr.drew.heap.size wr.drew w1) : Sum2 w B Z x y ((w1.setCell ⟨Z, 0, none⟩ (.int .i64 x)).setCell ⟨Z, 1, none⟩ (.int .i64 y)) :=
  ⟨((through h.1.drew hB hb).setCell (Nat.le_of_lt hZ) _).setCell (Nat.le_of_lt hZ) _, (frac_aft h.2.1 hb).far (by omega) _ _, (frac_aft h.2.2 hb).put⟩
theorem rateV_over {l : List OpP} {kn : List Kn} {i k : Nat} {n d : Int} (hk : kindOf l i ≠ 1) (hr : readyF l kn i = true) (hlt : k ≤ (insOf l i).length) (h : sumSt kn (insOf l i) k = ⟨n, d, false⟩) : rateV l kn i = tup3 0 0 15 false := by
  have e := sum_no (kn := kn) (xs := insOf l i) (k := k) (by rw [h]) _ hlt
  unfold rateV rateF
  rw [if_pos hr, if_neg hk, e, h]; rfl
theorem rateV_sum {l : List OpP} {kn : List Kn} {i : Nat} {n d : Int} (hk : kindOf l i ≠ 1) (hr : readyF l kn i = true) (h : sumSt kn (insOf l i) (insOf l i).length = ⟨n, d, true⟩) : rateV l kn i = tup3 n d 0 true := by
  unfold rateV rateF
  rw [if_pos hr, if_neg hk, h]; rfl

set_option maxHeartbeats 4000000 in
theorem rate_in (g most : Int) (A M : Option Addr) (c mc : Nat) (l : List OpP) (p : Nat → Option Addr × Nat) (kn : List Kn) (q o i : Nat) (w : World) (B : Nat) (hB : B ≤ w.heap.size) (h : IsOps w B A l p) (hs : IsSo w q o g A l.length c M mc most) (hkn : IsKn w o kn) (hko : KnOk kn) (hkl : kn.length = l.length) (hi : i < l.length) (_hlen : l.length ≤ 12)
    (hk : kindOf l i ≠ 1) (hin : ∀ x ∈ insOf l i, ∃ j : Nat, x = j ∧ j < l.length) (hnl : (insOf l i).length ≤ 12) (hpos : 0 < (insOf l i).length) :
    Calls Try.prog 115 #[.pointer (some ⟨q, 0, none⟩), .int .i64 i] w fun e w' => e = .returned (rateV l kn i) ∧ Below w.heap.size w w' := by
  obtain ⟨s0, s1, s2, s3, s4⟩ := hs.cells
  have hq := hs.lt
  have ho := hkn.lt
  obtain ⟨b, ob, rfl, hb, c0, c1, c2, c3, c4, c5, c6, c7, -, hints⟩ := h.at_ hi
  generalize p i = pp at *
  obtain ⟨pa, pc⟩ := pp
  simp only at c1 hints
  obtain ⟨b2, o2, -, rfl, hb2, -⟩ := Sp.ints_at hints hpos
  have HI := Lib.hid hints
  have HIN := Lib.hid hin
  have HKN := Lib.hid hkn
  have HKO := Lib.hid hko
  have HKL := Lib.hid hkl
  have tk : (kindOf l i == 1) = false := by simpa using hk
  have HK := Lib.hid hk
  clear h hs hin hkn hko hkl hints hk
  have hbw : b < w.heap.size := by omega
  obtain ⟨X, hX⟩ : ∃ X, ((w.alloc (fob 0 0)).alloc (.cells #[.int .i64 (kindOf l i), .slice (some ⟨b2, o2, none⟩) (insOf l i).length pc, .int .i64 (opOf l i).fo, .int .i64 (opOf l i).fa, .int .i64 (opOf l i).fb, .int .i64 (opOf l i).parts, .int .i64 (opOf l i).rate, .int .i64 (opOf l i).cost] 40)) = X := ⟨_, rfl⟩
  have xb : Below w.heap.size w X := by rw [← hX]; exact ((Below.refl _ _).alloc (Nat.le_refl _) _).alloc (by simp) _
  have xf : FracAt X w.heap.size 0 0 := by rw [← hX]; exact (frac_at _ _ _ _ rfl).alloc _
  have xo : Blk X (w.heap.size + 1) 40 #[.int .i64 (kindOf l i), .slice (some ⟨b2, o2, none⟩) (insOf l i).length pc, .int .i64 (opOf l i).fo, .int .i64 (opOf l i).fa, .int .i64 (opOf l i).fb, .int .i64 (opOf l i).parts, .int .i64 (opOf l i).rate, .int .i64 (opOf l i).cost] := by
    have := Blk.new (w.alloc (fob 0 0)) 40 #[.int .i64 (kindOf l i), .slice (some ⟨b2, o2, none⟩) (insOf l i).length pc, .int .i64 (opOf l i).fo, .int .i64 (opOf l i).fa, .int .i64 (opOf l i).fb, .int .i64 (opOf l i).parts, .int .i64 (opOf l i).rate, .int .i64 (opOf l i).cost]
    rw [← hX]; simpa using this
  have HXB := Lib.hid xb
  have HXF := Lib.hid xf
  have HXO := Lib.hid xo
  have HXZ := Lib.hid (show X.heap.size = w.heap.size + 2 by rw [← hX]; simp)
  clear xb xf xo
  unfold fob at hX
  go_enter Try.func115, Try.ntmps115
  go_upto_region 2 with (fail)
  clear hX c0 c1 c2 c3 c4 c5 c6 c7 s0 s1 s2 s3
  have o0 : X.cell? ⟨w.heap.size + 1, 0, none⟩ = some (.int .i64 (kindOf l i)) := HXO.out.cell 0
  have o1 : X.cell? ⟨w.heap.size + 1, 1, none⟩ = some (.slice (some ⟨b2, o2, none⟩) (insOf l i).length pc) := HXO.out.cell 1
  have s5 : X.cell? ⟨q, 4, none⟩ = some (.slice (some ⟨o, 0, none⟩) l.length l.length) := (HXB.out.cell (p := ⟨q, 4, none⟩) hq).trans s4
  have hXs : w.heap.size + 1 < X.heap.size := by rw [HXZ.out]; omega
  have hXq : q < X.heap.size := by omega
  have hXo : o < X.heap.size := by omega
  obtain ⟨f0, f1, f2, f3⟩ := HXF.out.cells
  have HS4 := Lib.hid s4
  clear s4
  go_wp2_with fail
  go_loop [37] (fun u => ∃ k : Nat, k ≤ (insOf l i).length ∧ u = .int .i64 k ∧ ∀ j, j < k → (knOf kn ((insOf l i).getD j 0).toNat).is = true) (fun u => (insOf l i).length - (intOf u).toNat)
  case atStart => exact ⟨0, by omega, rfl, fun j hj => absurd hj (by omega)⟩
  case round =>
    obtain ⟨k, hk, rfl, hall⟩ := hrel
    have HA := Lib.hid hall
    clear hall
    by_cases hlt : k < (insOf l i).length
    · obtain ⟨v, HV, hv64, d0⟩ := Sp.ints_get (HI.out.below (HXB.out.mono hB)) hlt
      obtain ⟨jn, rfl, hjn⟩ : ∃ j : Nat, v = j ∧ j < l.length := HIN.out v (HV.out ▸ getD_mem hlt)
      obtain ⟨e0, e1, e2⟩ := (HKN.out.below HXB.out).at_ (show jn < kn.length by rw [HKL.out]; exact hjn)
      have HJ := Lib.hid (show ((insOf l i).getD k 0).toNat = jn by rw [HV.out]; simp)
      clear e0 e1 hv64
      cases hkis : (knOf kn jn).is with
      | false =>
        have E := Lib.hid (show rateV l kn i = tup3 0 0 0 false by unfold rateV; rw [ready_no hlt (by rw [HJ.out]; exact hkis)]; rfl)
        rw [hkis] at e2
        clear hkis
        have HP := Lib.hid (put2 f0 f1 (.int .i64 0) (.int .i64 0))
        go_wp2_with fail
        obtain ⟨q0, q1⟩ := HP.out
        refine bodyPost_ret (res3 rfl _ _ rfl q0 q1) rfl ?_
        exact ⟨by rw [E.out]; rfl, (HXB.out.setCell (Nat.le_refl _) _).setCell (Nat.le_refl _) _⟩
      | true =>
        rw [hkis] at e2
        have HS := Lib.hid hkis
        clear hkis
        go_wp2_with fail
        go_round
        case rel => exact ⟨k + 1, by omega, by go_num, fun j hj => by
          rcases (show j < k ∨ j = k by omega) with h | rfl
          · exact HA.out j h
          · rw [HJ.out]; exact HS.out⟩
        case measure => simp [intOf]; omega
    · obtain rfl : k = (insOf l i).length := by omega
      have HR := Lib.hid (ready_yes HA.out)
      clear HA hk
      go_upto_region 12 with (fail)
      obtain ⟨Y, hY⟩ : ∃ Y, X.alloc (fob 0 1) = Y := ⟨_, rfl⟩
      have HT := Lib.hid (show Sum2 w w.heap.size X.heap.size 0 1 Y from ⟨hY ▸ HXB.out.alloc (by omega) _, hY ▸ HXF.out.alloc _, hY ▸ frac_at _ _ _ _ rfl⟩)
      have o2 : Y.cell? ⟨w.heap.size + 1, 1, none⟩ = some (.slice (some ⟨b2, o2, none⟩) (insOf l i).length pc) := hY ▸ (HXO.out.alloc (fob 0 1)).cell 1
      unfold fob at hY
      rw [hY]
      clear hY o0 o1 s5 f0 f1 f2 f3
      go_wp2_with fail
      go_loopw [56] (fun u wr => ∃ (k : Nat) (n d : Int), k ≤ (insOf l i).length ∧ u = .int .i64 k ∧ sumSt kn (insOf l i) k = ⟨n, d, true⟩ ∧ Sum2 w w.heap.size X.heap.size n d wr) (fun u _ => (insOf l i).length - (intOf u).toNat)
      case atStart => exact ⟨0, 0, 1, by omega, rfl, rfl, HT.out⟩
      case round =>
        obtain ⟨k, n, d, hk, rfl, hst, htr⟩ := hrel
        have HS := Lib.hid hst
        have HTR := Lib.hid htr
        clear hst htr
        by_cases hlt : k < (insOf l i).length
        · obtain ⟨v, HV, hv64, d0⟩ := Sp.ints_get (HI.out.below (HTR.out.1.mono hB)) hlt
          obtain ⟨jn, rfl, hjn⟩ : ∃ j : Nat, v = j ∧ j < l.length := HIN.out v (HV.out ▸ getD_mem hlt)
          obtain ⟨e0, e1, e2⟩ := (HKN.out.below HTR.out.1).at_ (show jn < kn.length by rw [HKL.out]; exact hjn)
          have HJ := Lib.hid (show ((insOf l i).getD k 0).toNat = jn by rw [HV.out]; simp)
          have s6 : wr.cell? ⟨q, 4, none⟩ = some (.slice (some ⟨o, 0, none⟩) l.length l.length) := (HTR.out.1.cell (p := ⟨q, 4, none⟩) hq).trans HS4.out
          obtain ⟨z0, z1, z2, z3⟩ := HTR.out.2.2.cells
          have hln : Lowest n d := by
            have := sum_low HKO.out (fun x hx => by have := HR.out; unfold readyF at this; rw [List.all_eq_true] at this; exact this x hx) k (by omega) (by rw [HS.out])
            rw [HS.out] at this; exact this
          have hlk : Lowest (knOf kn jn).n (knOf kn jn).d := (HKO.out jn).1 (by
            have := HR.out; unfold readyF at this; rw [List.all_eq_true] at this; have := this _ (getD_mem hlt); rwa [HJ.out] at this)
          have hfp := fun Z => fPlus_any n d (knOf kn jn).n (knOf kn jn).d Z hln hlk
          have hst1 := sumSt_succ HS.out HJ.out
          generalize (knOf kn jn).n = kn1 at *
          generalize (knOf kn jn).d = kd1 at *
          generalize plusR n d kn1 kd1 = r at *
          obtain ⟨xn, xd, xo⟩ := r
          have HS1 := Lib.hid hst1
          have HFP := Lib.hid hfp
          clear hln hlk hfp hst1 e2
          go_upto_region 16 with (fail)
          have hqr : q < wr.heap.size := Nat.lt_of_lt_of_le hq HTR.out.1.size
          have hor : o < wr.heap.size := Nat.lt_of_lt_of_le ho HTR.out.1.size
          have hqX : q ≠ X.heap.size := by omega
          have hoX : o ≠ X.heap.size := by omega
          unfold rV at HFP
          simp only at HFP
          refine wp_region_held_drew (S := fun w' => w'.cell? ⟨q, 4, none⟩ = some (.slice (some ⟨o, 0, none⟩) l.length l.length) ∧ w'.cell? ⟨o, jn * 3, none⟩ = some (.int .i64 kn1) ∧ w'.cell? ⟨o, jn * 3 + 1, none⟩ = some (.int .i64 kd1)) (by kernel_rfl) ⟨s6, e0, e1⟩ (fun hHeld => ?_)
          (refine held_take 1 (by kernel_rfl) (by kernel_rfl) (by kernel_rfl) (by assumption) ?_; simp only [List.getElem?_toArray, List.getElem?_cons_succ, List.getElem?_cons_zero]; refine ⟨fun _ _ _ _ h => h, ?_, Or.inl ⟨by kernel_rfl, ?_⟩, ?_⟩; rotate_left; (focus (intro wS hSw; (try dsimp only at hSw); go_simp; try with_reducible rfl)); (try simp only [Act.put, List.setIfInBounds_toArray, List.set_cons_zero, List.set_cons_succ]))
          (refine held_take 2 (by kernel_rfl) (by kernel_rfl) (by kernel_rfl) (by assumption) ?_; simp only [List.getElem?_toArray, List.getElem?_cons_succ, List.getElem?_cons_zero]; refine ⟨fun _ _ _ _ h => h, ?_, Or.inl ⟨by kernel_rfl, ?_⟩, ?_⟩; rotate_left; (focus (intro wS hSw; (try dsimp only at hSw); go_simp; try with_reducible rfl)); (try simp only [Act.put, List.setIfInBounds_toArray, List.set_cons_zero, List.set_cons_succ]))
          (refine held_take 3 (by kernel_rfl) (by kernel_rfl) (by kernel_rfl) (by assumption) ?_; simp only [List.getElem?_toArray, List.getElem?_cons_succ, List.getElem?_cons_zero]; refine ⟨fun _ _ _ _ h => h, ?_, Or.inl ⟨by kernel_rfl, ?_⟩, ?_⟩; rotate_left; (focus (intro wS hSw; (try dsimp only at hSw); go_simp; try with_reducible rfl)); (try simp only [Act.put, List.setIfInBounds_toArray, List.set_cons_zero, List.set_cons_succ]))
          (refine held_take 4 (by kernel_rfl) (by kernel_rfl) (by kernel_rfl) (by assumption) ?_; simp only [List.getElem?_toArray, List.getElem?_cons_succ, List.getElem?_cons_zero]; refine ⟨fun _ _ _ _ h => h, ?_, Or.inl ⟨by kernel_rfl, ?_⟩, ?_⟩; rotate_left; (focus (intro wS hSw; (try dsimp only at hSw); go_simp; try with_reducible rfl)); (try simp only [Act.put, List.setIfInBounds_toArray, List.set_cons_zero, List.set_cons_succ]))
          (refine held_take 5 (by kernel_rfl) (by kernel_rfl) (by kernel_rfl) (by assumption) ?_; simp only [List.getElem?_toArray, List.getElem?_cons_succ, List.getElem?_cons_zero]; refine ⟨fun _ _ _ _ h => h, ?_, Or.inl ⟨by kernel_rfl, ?_⟩, ?_⟩; rotate_left; (focus (intro wS hSw; (try dsimp only at hSw); go_simp; try with_reducible rfl)); (try simp only [Act.put, List.setIfInBounds_toArray, List.set_cons_zero, List.set_cons_succ]))
          (refine held_take 6 (by kernel_rfl) (by kernel_rfl) (by kernel_rfl) (by assumption) ?_; simp only [List.getElem?_toArray, List.getElem?_cons_succ, List.getElem?_cons_zero]; refine ⟨fun _ _ _ _ h => h, ?_, Or.inl ⟨by kernel_rfl, ?_⟩, ?_⟩; rotate_left; (focus (intro wS hSw; (try dsimp only at hSw); go_simp; try with_reducible rfl)); (try simp only [Act.put, List.setIfInBounds_toArray, List.set_cons_zero, List.set_cons_succ]))
          (refine held_take 7 (by kernel_rfl) (by kernel_rfl) (by kernel_rfl) (by assumption) ?_; simp only [List.getElem?_toArray, List.getElem?_cons_succ, List.getElem?_cons_zero]; refine ⟨fun _ _ _ _ h => h, ?_, Or.inl ⟨by kernel_rfl, ?_⟩, ?_⟩; rotate_left; (focus (intro wS hSw; (try dsimp only at hSw); go_simp; try with_reducible rfl)); (try simp only [Act.put, List.setIfInBounds_toArray, List.set_cons_zero, List.set_cons_succ]))
          (refine held_take 8 (by kernel_rfl) (by kernel_rfl) (by kernel_rfl) (by assumption) ?_; simp only [List.getElem?_toArray, List.getElem?_cons_succ, List.getElem?_cons_zero]; refine ⟨fun _ _ _ _ h => h, ?_, Or.inl ⟨by kernel_rfl, ?_⟩, ?_⟩; rotate_left; (focus (intro wS hSw; (try dsimp only at hSw); go_simp; try with_reducible rfl)); (try simp only [Act.put, List.setIfInBounds_toArray, List.set_cons_zero, List.set_cons_succ]))
          (refine held_one 0 (by kernel_rfl) ?_; simp only [List.getElem?_toArray, List.getElem?_cons_zero]; intro K hK; go_simp)
          clear hHeld
          (go_wp2_with fail; refine hK.out _ _ ?_ (fun hHeld => ?_); (focus (exact ⟨s6, e0, e1⟩)); clear hK K; (try simp only [Act.put, List.setIfInBounds_toArray, List.set_cons_zero, List.set_cons_succ]))
          (refine held_one 9 (by kernel_rfl) ?_; simp only [List.getElem?_toArray, List.getElem?_cons_succ, List.getElem?_cons_zero]; intro K hK; go_simp)
          refine (HFP.out _).mono ?_
          rintro e w1 ⟨rfl, hb1⟩
          obtain ⟨r0, r1, r2, r3⟩ := (frac_aft HTR.out.2.2 hb1).cells
          clear hHeld
          (go_wp2_with fail; refine hK.out _ _ ?_ (fun hHeld => ?_); (focus (exact s3_below hqr hor ⟨s6, e0, e1⟩ hb1)); clear hK K; (try simp only [Act.put, List.setIfInBounds_toArray, List.set_cons_zero, List.set_cons_succ]))
          (refine held_take 10 (by kernel_rfl) (by kernel_rfl) (by kernel_rfl) (by assumption) ?_; simp only [List.getElem?_toArray, List.getElem?_cons_succ, List.getElem?_cons_zero]; refine ⟨fun _ _ _ _ h => h, ?_, Or.inl ⟨by kernel_rfl, ?_⟩, ?_⟩; rotate_left; (focus (intro wS hSw; (try dsimp only at hSw); go_simp; try with_reducible rfl)); (try simp only [Act.put, List.setIfInBounds_toArray, List.set_cons_zero, List.set_cons_succ]))
          (refine held_take 11 (by kernel_rfl) (by kernel_rfl) (by kernel_rfl) (by assumption) ?_; simp only [List.getElem?_toArray, List.getElem?_cons_succ, List.getElem?_cons_zero]; refine ⟨fun _ _ _ _ h => h, ?_, Or.inl ⟨by kernel_rfl, ?_⟩, ?_⟩; rotate_left; (focus (intro wS hSw; (try dsimp only at hSw); go_simp; try with_reducible rfl)); (try simp only [Act.put, List.setIfInBounds_toArray, List.set_cons_zero, List.set_cons_succ]))
          (refine held_take 12 (by kernel_rfl) (by kernel_rfl) (by kernel_rfl) (by assumption) ?_; simp only [List.getElem?_toArray, List.getElem?_cons_succ, List.getElem?_cons_zero]; refine ⟨fun _ _ _ _ h => h, ?_, Or.inl ⟨by kernel_rfl, ?_⟩, ?_⟩; rotate_left; (focus (intro wS hSw; (try dsimp only at hSw); go_simp; try with_reducible rfl)); (try simp only [Act.put, List.setIfInBounds_toArray, List.set_cons_zero, List.set_cons_succ]))
          (refine held_one 13 (by kernel_rfl) ?_; simp only [List.getElem?_toArray, List.getElem?_cons_succ, List.getElem?_cons_zero]; intro K hK; go_simp)
          clear hHeld
          (go_wp2_with fail; refine hK.out _ _ ?_ (fun hHeld => ?_); (focus (exact s3_set hqX hoX (s3_below hqr hor ⟨s6, e0, e1⟩ hb1) _ _)); clear hK K; (try simp only [Act.put, List.setIfInBounds_toArray, List.set_cons_zero, List.set_cons_succ]))
          (refine held_take 14 (by kernel_rfl) (by kernel_rfl) (by kernel_rfl) (by assumption) ?_; simp only [List.getElem?_toArray, List.getElem?_cons_succ, List.getElem?_cons_zero]; refine ⟨fun _ _ _ _ h => h, ?_, Or.inl ⟨by kernel_rfl, ?_⟩, ?_⟩; rotate_left; (focus (intro wS hSw; (try dsimp only at hSw); go_simp; try with_reducible rfl)); (try simp only [Act.put, List.setIfInBounds_toArray, List.set_cons_zero, List.set_cons_succ]))
          (refine wpAnyH_done (by kernel_rfl) ?_ _)
          clear hHeld
          clear s6 e0 e1 z0 z1 z2 z3
          have HN := Lib.hid (HTR.out.step (x := xn) (y := xd) (Nat.le_refl _) (by omega) hb1)
          clear hb1 r0 r1 r2 r3
          generalize ((w1.setCell ⟨X.heap.size, 0, none⟩ (.int .i64 xn)).setCell ⟨X.heap.size, 1, none⟩ (.int .i64 xd)) = W2 at *
          cases xo with
          | true =>
            go_wp2_with fail
            go_roundw
            case rel => exact ⟨k + 1, xn, xd, by omega, by go_num, HS1.out, HN.out⟩
            case measure => simp [intOf]; omega
          | false =>
            have E := Lib.hid (rateV_over HK.out HR.out hlt HS1.out)
            obtain ⟨f0, f1, f2, f3⟩ := HN.out.2.1.cells
            have HP := Lib.hid (put2 f0 f1 (.int .i64 0) (.int .i64 0))
            go_wp2_with fail
            obtain ⟨q0, q1⟩ := HP.out
            refine bodyPost_ret (res3 rfl _ _ rfl q0 q1) rfl ?_
            exact ⟨by rw [E.out]; rfl, (HN.out.1.setCell (Nat.le_refl _) _).setCell (Nat.le_refl _) _⟩
        · obtain rfl : k = (insOf l i).length := by omega
          have E := Lib.hid (rateV_sum HK.out HR.out HS.out)
          obtain ⟨f0, f1, f2, f3⟩ := HTR.out.2.1.cells
          obtain ⟨z0, z1, z2, z3⟩ := HTR.out.2.2.cells
          have HP := Lib.hid (put2 f0 f1 (.int .i64 n) (.int .i64 d))
          go_wp2_with fail
          obtain ⟨q0, q1⟩ := HP.out
          refine bodyPost_ret (res3 rfl _ _ rfl q0 q1) rfl ?_
          exact ⟨by rw [E.out]; rfl, (HTR.out.1.setCell (Nat.le_refl _) _).setCell (Nat.le_refl _) _⟩
end Go.Proofs.Ytcechimilefihaa.So

namespace Go.Proofs.Ytcechimilefihaa.So
open Go.ChangeShapes Go.WideShapes Go.ChangeAt Go.RowKit M Sp Fr

def partR (a b c : Int) : R := if fits (b * c) then ofR a (b * c) else ⟨0, 0, false⟩
theorem part_any (a b c : Int) (w : World) (ha : I64 a) (hb : I64 b) (hc : I64 c) :
    Calls Try.prog 116 #[.int .i64 a, .int .i64 b, .int .i64 c] w fun e w' => e = rV (partR a b c) ∧ Below w.heap.size w w' := by
  have HM := Lib.hid (fun X => mul_any b c X hb hc)
  cases hf : fits (b * c) with
  | false =>
    have E := Lib.hid (show partR a b c = ⟨0, 0, false⟩ by unfold partR; rw [hf]; rfl)
    rw [hf] at HM
    clear hf ha hb hc
    go_enter Try.func116, Try.ntmps116
    go_wp2_with fail
    refine (HM.out _).mono ?_; rintro e w1 ⟨rfl, rfl⟩
    go_wp2_with fail
    go_returns
    exact ⟨by rw [E.out]; rfl, by go_grown⟩
  | true =>
    have E := Lib.hid (show partR a b c = ofR a (b * c) by unfold partR; rw [hf]; rfl)
    have hv : Fr.asInt (b * c) = b * c := by unfold Fr.asInt; rw [hf]; rfl
    have hbc : I64 (b * c) := by
      rcases Classical.em (I64 (b * c)) with h | h
      · exact h
      · rw [fits_no h] at hf; cases hf
    rw [hf, hv] at HM
    generalize b * c = m at *
    have HO := Lib.hid (fun X => of_any a m X ha hbc)
    generalize ofR a m = r at *
    obtain ⟨rn, rd, ro⟩ := r
    simp only at HO
    clear hf ha hb hc hv hbc
    go_enter Try.func116, Try.ntmps116
    go_wp2_with fail
    refine (HM.out _).mono ?_; rintro e w1 ⟨rfl, rfl⟩
    obtain ⟨X, hX⟩ : ∃ X, w.alloc (fob 0 0) = X := ⟨_, rfl⟩
    have hT : Below w.heap.size w X ∧ FracAt X w.heap.size 0 0 := ⟨hX ▸ (Below.refl _ _).alloc (Nat.le_refl _) _, hX ▸ frac_at _ _ _ _ rfl⟩
    have HT := Lib.hid hT
    clear hT
    unfold fob at hX
    (try rw [hX])
    clear hX
    go_wp2_with fail
    refine (HO.out _).mono ?_; rintro e w1 ⟨rfl, hb1⟩
    obtain ⟨r0, r1, r2, r3⟩ := (HT.out.2.below hb1 HT.out.2.lt).cells
    have HP := Lib.hid (put2 r0 r1 (.int .i64 rn) (.int .i64 rd))
    have HB := Lib.hid (((through HT.out.1 (Nat.le_refl _) hb1).setCell (p := ⟨w.heap.size, 0, none⟩) (Nat.le_refl _) (.int .i64 rn)).setCell (p := ⟨w.heap.size, 1, none⟩) (Nat.le_refl _) (.int .i64 rd))
    clear hb1
    go_wp2_with fail
    obtain ⟨q0, q1⟩ := HP.out
    refine bodyPost_ret (frac_results rfl _ _ rfl q0 q1) rfl ?_
    exact ⟨by rw [E.out]; rfl, HB.out⟩

theorem in_facts {g : Int} {l : List OpP} (hj : OkJ g l) {i : Nat} (hi : i < l.length) (hk : kindOf l i ≠ 1) : 0 < (insOf l i).length ∧ (∀ x ∈ insOf l i, ∃ j : Nat, x = j ∧ j < l.length) ∧ (insOf l i).length ≤ 12 := by
  have hm := ins_many (hj.alone i hi)
  have hpos : 0 < (insOf l i).length := by
    by_cases h7 : kindOf l i = 7
    · have := hm.2.1 h7; omega
    · have := hm.2.2 hk h7; omega
  have hin : ∀ x ∈ insOf l i, ∃ j : Nat, x = j ∧ j < l.length := fun x hx => by
    obtain ⟨j, a, b, -⟩ := ins_in (hj.alone i hi) x hx
    exact ⟨j, a, b⟩
  have hnd : (insOf l i).Nodup := by
    rw [List.nodup_iff_pairwise_ne, List.pairwise_iff_getElem]
    intro a b ha hb hab e
    have hh := ins_nodup (hj.alone i hi) a b hab hb
    rw [List.getD_eq_getElem?_getD, List.getD_eq_getElem?_getD, List.getElem?_eq_getElem ha, List.getElem?_eq_getElem hb] at hh
    exact hh (by simpa using e)
  exact ⟨hpos, hin, Nat.le_trans (nodup_le hin hnd) hj.len.2⟩
theorem rate_any {g most : Int} {A M : Option Addr} {c mc : Nat} {l : List OpP} {p : Nat → Option Addr × Nat} {kn : List Kn} {q o i : Nat} {w : World} {B : Nat} (hB : B ≤ w.heap.size) (h : IsOps w B A l p) (hs : IsSo w q o g A l.length c M mc most) (hkn : IsKn w o kn) (hko : KnOk kn) (hkl : kn.length = l.length) (hi : i < l.length) {g' : Int} (hj : OkJ g' l) :
    Calls Try.prog 115 #[.pointer (some ⟨q, 0, none⟩), .int .i64 i] w fun e w' => e = .returned (rateV l kn i) ∧ Below w.heap.size w w' := by
  by_cases hk : kindOf l i = 1
  · have := alone_in (hj.alone i hi)
    have hr : 1 ≤ (opOf l i).rate ∧ (opOf l i).rate ≤ 1048576 := by
      have hp := this.2.2.2.1
      unfold partsB at hp
      unfold kindOf at hk
      rw [if_pos hk] at hp
      unfold btw at hp
      simp only [Bool.and_eq_true, decide_eq_true_eq] at hp
      omega
    exact rate_src g most A M c mc l p kn q o i w B hB h hs hi hj.len.2 hk ((ins_many (hj.alone i hi)).1 hk) hr
  · obtain ⟨hpos, hin, hn⟩ := in_facts hj hi hk
    exact rate_in g most A M c mc l p kn q o i w B hB h hs hkn hko hkl hi hj.len.2 hk hin hn hpos

set_option maxHeartbeats 1000000 in
theorem limit_any (g most : Int) (A M : Option Addr) (c mc : Nat) (l : List OpP) (p : Nat → Option Addr × Nat) (q o i : Nat) (w : World) (B : Nat) (hB : B ≤ w.heap.size) (h : IsOps w B A l p) (hs : IsSo w q o g A l.length c M mc most) (hi : i < l.length) (_hlen : l.length ≤ 12) :
    Calls Try.prog 117 #[.pointer (some ⟨q, 0, none⟩), .int .i64 i] w fun e w' => e = .returned (.int .i64 (limF g most l i)) ∧ Below w.heap.size w w' := by
  obtain ⟨s0, s1, s2, s3, s4⟩ := hs.cells
  have hq := hs.lt
  obtain ⟨b, ob, rfl, hb, c0, c1, c2, c3, c4, c5, c6, c7, -, -⟩ := h.at_ hi
  have hbw : b < w.heap.size := by omega
  have E := Lib.hid (show limF g most l i = if kindOf l i = 1 then min (min (min most 8) g) (opOf l i).parts else min (min most 8) g from rfl)
  generalize (opOf l i).parts = pr at *
  clear h hs
  by_cases hk : kindOf l i = 1
  · rw [if_pos hk] at E
    rw [hk] at c0
    clear hk
    go_enter Try.func117, Try.ntmps117
    go_wp2_with fail
    go_region
    all_goals go_wp2_with fail
    all_goals go_returns
    all_goals exact ⟨Sp.ret_int (by rw [E.out]; omega), by go_grown⟩
  · rw [if_neg hk] at E
    have hkb : (kindOf l i == 1) = false := by simpa using hk
    go_enter Try.func117, Try.ntmps117
    go_wp2_with fail
    go_region
    all_goals go_wp2_with fail
    all_goals go_returns
    all_goals exact ⟨Sp.ret_int (by rw [E.out]; omega), by go_grown⟩
end Go.Proofs.Ytcechimilefihaa.So
