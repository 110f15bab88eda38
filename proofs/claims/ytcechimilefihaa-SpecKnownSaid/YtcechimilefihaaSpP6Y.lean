/- Jobs turned: operators numbered the other way round, in plain Lean; and jobs spoiled in one place. -/
import Derived.Test.YtcechimilefihaaSpP5Y

namespace Go.Proofs.Ytcechimilefihaa.Sp
open Go

def sig (n : Nat) (x : Int) : Int := (n : Int) - 1 - x
theorem sig_inj {n : Nat} {x y : Int} : sig n x = sig n y ↔ x = y := by unfold sig; omega
theorem sig_sig (n : Nat) (x : Int) : sig n (sig n x) = x := by unfold sig; omega
theorem sig_nat {n i : Nat} (hi : i < n) : sig n (i : Int) = ((n - 1 - i : Nat) : Int) := by unfold sig; omega
def turnO (n : Nat) (o : OpP) : OpP := { o with ins := o.ins.map (sig n) }
def turnL (l : List OpP) : List OpP := (List.range l.length).map fun i => turnO l.length (opOf l (l.length - 1 - i))
theorem turnL_len (l : List OpP) : (turnL l).length = l.length := by simp [turnL]
theorem turn_op {l : List OpP} {i : Nat} (hi : i < l.length) : opOf (turnL l) i = turnO l.length (opOf l (l.length - 1 - i)) := by
  show (turnL l).getD i default = _
  unfold turnL
  rw [List.getD_eq_getElem?_getD, List.getElem?_map, List.getElem?_range hi]; rfl
theorem turn_ins {l : List OpP} {i : Nat} (hi : i < l.length) : insOf (turnL l) i = (insOf l (l.length - 1 - i)).map (sig l.length) := by unfold insOf; rw [turn_op hi]; rfl
theorem turn_kind {l : List OpP} {i : Nat} (hi : i < l.length) : kindOf (turnL l) i = kindOf l (l.length - 1 - i) := by unfold kindOf; rw [turn_op hi]; rfl
theorem hasB_sig {n : Nat} {xs : List Int} {y : Int} : hasB (xs.map (sig n)) (sig n y) = hasB xs y := by
  rw [Bool.eq_iff_iff, hasB_iff, hasB_iff, List.mem_map]
  constructor
  · rintro ⟨x, hx, e⟩; rw [sig_inj] at e; exact e ▸ hx
  · intro h; exact ⟨y, h, rfl⟩
theorem mem_sig {n : Nat} {xs : List Int} {y : Int} : y ∈ xs.map (sig n) ↔ sig n y ∈ xs := by
  rw [List.mem_map]
  constructor
  · rintro ⟨x, hx, rfl⟩; rw [sig_sig]; exact hx
  · intro h; exact ⟨_, h, sig_sig n y⟩
theorem getD_sig {n : Nat} {xs : List Int} {k : Nat} (hk : k < xs.length) : (xs.map (sig n)).getD k 0 = sig n (xs.getD k 0) := by
  rw [List.getD_eq_getElem?_getD, List.getD_eq_getElem?_getD, List.getElem?_map, List.getElem?_eq_getElem hk]; rfl
theorem inB_sig {n i : Nat} {xs : List Int} {k : Nat} (hi : i < n) (hk : k < xs.length) : inB n i (xs.map (sig n)) k = inB n (n - 1 - i) xs k := by
  unfold inB
  rw [getD_sig hk, ← List.map_take, hasB_sig]
  congr 1
  congr 1
  · rw [Bool.eq_iff_iff]; simp only [decide_eq_true_eq]; unfold sig; omega
  · rw [Bool.eq_iff_iff]; unfold btw sig; simp only [Bool.and_eq_true, decide_eq_true_eq]; omega
theorem inputs_sig {n i : Nat} {kd : Int} {xs : List Int} (hi : i < n) : inputsB n i kd (xs.map (sig n)) = inputsB n (n - 1 - i) kd xs := by
  unfold inputsB
  rw [List.length_map]
  congr 1
  exact allB_congr fun j hj => inB_sig hi hj
theorem turn_alone {l : List OpP} {i : Nat} (hi : i < l.length) : aloneE (turnL l) i = aloneE l (l.length - 1 - i) := by
  unfold aloneE aloneO
  rw [turn_op hi, turnL_len]
  show (if btw (opOf l (l.length - 1 - i)).kind 1 8 then (if inputsB l.length i (opOf l (l.length - 1 - i)).kind ((opOf l (l.length - 1 - i)).ins.map (sig l.length)) then _ else _) else _) = _
  rw [inputs_sig hi]; rfl
theorem turn_users {l : List OpP} {i : Nat} (hi : i < l.length) : (usersF (turnL l) i).isEmpty = (usersF l ((l.length - 1 - i : Nat) : Int)).isEmpty := by
  rw [Bool.eq_iff_iff, List.isEmpty_iff, List.isEmpty_iff, List.eq_nil_iff_forall_not_mem, List.eq_nil_iff_forall_not_mem]
  constructor
  · intro h x hx
    obtain ⟨k, rfl, hk, hm⟩ := users_mem.1 hx
    refine h ((l.length - 1 - k : Nat) : Int) (users_mem.2 ⟨l.length - 1 - k, rfl, by rw [turnL_len]; omega, ?_⟩)
    rw [turn_ins (by omega), mem_sig, sig_nat hi]
    rw [show l.length - 1 - (l.length - 1 - k) = k by omega]; exact hm
  · intro h x hx
    obtain ⟨k, rfl, hk, hm⟩ := users_mem.1 hx
    rw [turnL_len] at hk
    rw [turn_ins hk, mem_sig, sig_nat hi] at hm
    exact h _ (users_mem.2 ⟨l.length - 1 - k, rfl, by omega, hm⟩)
theorem turn_fed {l : List OpP} {i : Nat} (hi : i < l.length) : fedB (turnL l) i = fedB l (l.length - 1 - i) := by
  unfold fedB; rw [turn_users hi, turn_kind hi]

/-- where there is a rank the order has all -/
theorem order_full {l : List OpP} {rank : Nat → Nat} (hr : Ranked l rank) : l.length ≤ (orderF l).length := by
  have hin : ∀ n i, i < l.length → rank i ≤ n → (i : Int) ∈ orderF l := by
    intro n
    induction n using Nat.strongRecOn with
    | _ n ih =>
      intro i hi hn
      rcases Classical.em ((i : Int) ∈ orderF l) with h | h
      · exact h
      · have := nextF_none (order_none l) i hi
        unfold readyB at this
        have h1 : hasB (orderF l) i = false := hasB_no.2 h
        have h2 : ((insOf l i).all fun x => hasB (orderF l) x) = true := by
          rw [List.all_eq_true]
          intro x hx
          obtain ⟨j, rfl, hj, hrj⟩ := (hr i hi).2 x hx
          exact hasB_iff.2 (ih (rank j) (by omega) j hj (Nat.le_refl _))
        rw [h1, h2] at this; cases this
  have hs : (List.range l.length).map (fun i : Nat => (i : Int)) ⊆ orderF l := by
    intro x hx
    obtain ⟨i, hi, rfl⟩ := List.mem_map.1 hx
    exact hin _ i (List.mem_range.1 hi) (Nat.le_refl _)
  have hn : ((List.range l.length).map (fun i : Nat => (i : Int))).Nodup := by
    rw [List.nodup_iff_pairwise_ne, List.pairwise_map]
    exact (List.nodup_iff_pairwise_ne.1 List.nodup_range).imp fun h e => h (by omega)
  have := hn.length_le_of_subset hs
  simpa using this
theorem turn_ranked {l : List OpP} {rank : Nat → Nat} (hr : Ranked l rank) : Ranked (turnL l) (fun i => rank (l.length - 1 - i)) := by
  intro i hi
  rw [turnL_len] at hi ⊢
  obtain ⟨h1, h2⟩ := hr (l.length - 1 - i) (by omega)
  refine ⟨h1, fun x hx => ?_⟩
  rw [turn_ins hi, mem_sig] at hx
  obtain ⟨j, e, hj, hrj⟩ := h2 _ hx
  refine ⟨l.length - 1 - j, ?_, by omega, ?_⟩
  · unfold sig at e; omega
  · show rank (l.length - 1 - (l.length - 1 - j)) < _
    rw [show l.length - 1 - (l.length - 1 - j) = j by omega]; exact hrj

/-- what it comes of -/
theorem turn_comes {l : List OpP} (hin : ∀ i, i < l.length → ∀ x ∈ insOf l i, ∃ j : Nat, x = j ∧ j < l.length) (r : Int) (f : Nat) : ∀ i, i < l.length → comesF f (turnL l) i r = comesF f l (l.length - 1 - i) (sig l.length r) := by
  induction f with
  | zero =>
    intro i hi
    show ((i : Int) == r) = (((l.length - 1 - i : Nat) : Int) == sig l.length r)
    rw [Bool.eq_iff_iff]; simp only [beq_iff_eq]; unfold sig; omega
  | succ f ih =>
    intro i hi
    show (((i : Int) == r) || (insOf (turnL l) i).any fun x => comesF f (turnL l) x.toNat r) = ((((l.length - 1 - i : Nat) : Int) == sig l.length r) || (insOf l (l.length - 1 - i)).any fun x => comesF f l x.toNat (sig l.length r))
    congr 1
    · rw [Bool.eq_iff_iff]; simp only [beq_iff_eq]; unfold sig; omega
    · rw [turn_ins hi, List.any_map, Bool.eq_iff_iff, List.any_eq_true, List.any_eq_true]
      have hj : ∀ x ∈ insOf l (l.length - 1 - i), comesF f (turnL l) (sig l.length x).toNat r = comesF f l x.toNat (sig l.length r) := by
        intro x hx
        obtain ⟨j, rfl, hj⟩ := hin _ (by omega) x hx
        rw [sig_nat hj, Int.toNat_natCast, Int.toNat_natCast, ih _ (by omega)]
        rw [show l.length - 1 - (l.length - 1 - j) = j by omega]
      constructor
      · rintro ⟨x, hx, h⟩; exact ⟨x, hx, by rw [← hj x hx]; exact h⟩
      · rintro ⟨x, hx, h⟩; exact ⟨x, hx, by show comesF f (turnL l) (sig l.length x).toNat r = true; rw [hj x hx]; exact h⟩
theorem turn_roots {l : List OpP} (hin : ∀ i, i < l.length → ∀ x ∈ insOf l i, ∃ j : Nat, x = j ∧ j < l.length) {i : Nat} (hi : i < l.length) {x : Int} : x ∈ rootsF (turnL l) i ↔ sig l.length x ∈ rootsF l ((l.length - 1 - i : Nat) : Int) := by
  rw [rootsF_at (by rw [turnL_len]; exact hi), rootsF_at (by omega), List.mem_filter, List.mem_filter, kind_mem, kind_mem, turnL_len, turn_comes hin _ _ i hi]
  constructor
  · rintro ⟨⟨k, rfl, hk, hkd⟩, h⟩
    exact ⟨⟨l.length - 1 - k, sig_nat hk, by omega, by rw [← turn_kind hk]; exact hkd⟩, h⟩
  · rintro ⟨⟨k, e, hk, hkd⟩, h⟩
    refine ⟨⟨l.length - 1 - k, by unfold sig at e; omega, by omega, ?_⟩, h⟩
    rw [turn_kind (by omega), show l.length - 1 - (l.length - 1 - k) = k by omega]; exact hkd

/-- lists with nothing in common -/
theorem apartGo_iff : ∀ (rs : List (List Int)) (seen : List Int), apartGo rs seen = true ↔ (∀ r ∈ rs, ∀ x ∈ r, x ∉ seen) ∧ rs.Pairwise (fun a b => ∀ x ∈ b, x ∉ a)
  | [], seen => by simp [apartGo]
  | r :: rs, seen => by
    rw [apartGo, Bool.and_eq_true, apartGo_iff rs (seen ++ r), List.pairwise_cons]
    have h1 : (!(r.any fun x => hasB seen x)) = true ↔ ∀ x ∈ r, x ∉ seen := by
      rw [Bool.not_eq_true', List.any_eq_false]
      constructor
      · intro h x hx; have := h x hx; rw [hasB_iff] at this; exact this
      · intro h x hx; rw [hasB_iff]; exact h x hx
    rw [h1]
    constructor
    · rintro ⟨a, b, c⟩
      refine ⟨fun q hq x hx => ?_, fun q hq x hx hr => b q hq x hx (List.mem_append.2 (.inr hr)), c⟩
      rcases List.mem_cons.1 hq with rfl | hq
      · exact a x hx
      · exact fun hs => b q hq x hx (List.mem_append.2 (.inl hs))
    · rintro ⟨a, b, c⟩
      refine ⟨a r (List.mem_cons_self ..), fun q hq x hx hs => ?_, c⟩
      rcases List.mem_append.1 hs with hs | hs
      · exact a q (List.mem_cons_of_mem _ hq) x hx hs
      · exact b q hq x hx hs
theorem turn_apart {l : List OpP} (hin : ∀ i, i < l.length → ∀ x ∈ insOf l i, ∃ j : Nat, x = j ∧ j < l.length) {i : Nat} (hi : i < l.length) (h : apartB l (l.length - 1 - i) = true) : apartB (turnL l) i = true := by
  unfold apartB at h ⊢
  rw [apartGo_iff] at h ⊢
  refine ⟨fun r _ x _ => by simp, ?_⟩
  obtain ⟨-, h⟩ := h
  rw [turn_ins hi, List.pairwise_map, List.pairwise_map]
  rw [List.pairwise_map] at h
  refine h.imp_of_mem ?_
  intro a b ha hb hab x hx hxa
  obtain ⟨ja, rfl, hja⟩ := hin _ (by omega) a ha
  obtain ⟨jb, rfl, hjb⟩ := hin _ (by omega) b hb
  rw [sig_nat hjb, turn_roots hin (by omega), show l.length - 1 - (l.length - 1 - jb) = jb by omega] at hx
  rw [sig_nat hja, turn_roots hin (by omega), show l.length - 1 - (l.length - 1 - ja) = ja by omega] at hxa
  exact hab _ hx hxa

theorem turn_ok {g : Int} {l : List OpP} (h : OkJ g l) : OkJ g (turnL l) := by
  have hin : ∀ i, i < l.length → ∀ x ∈ insOf l i, ∃ j : Nat, x = j ∧ j < l.length := fun i hi x hx => by
    obtain ⟨j, e, hj, -⟩ := ins_in (h.alone i hi) x hx
    exact ⟨j, e, hj⟩
  obtain ⟨rank, hr⟩ := h.rank
  refine ⟨h.groups, by rw [turnL_len]; exact h.len, fun j hj => ?_, fun j hj => ?_, ?_, fun j hj => ?_⟩
  · rw [turnL_len] at hj; rw [turn_alone hj]; exact h.alone _ (by omega)
  · rw [turnL_len] at hj; rw [turn_fed hj]; exact h.fed _ (by omega)
  · exact order_full (turn_ranked hr)
  · rw [turnL_len] at hj; exact turn_apart hin hj (h.apart _ (by omega))

/-- as many of a kind -/
theorem whichF_count (f : Nat → Bool) (n : Nat) : (whichF f n).length = (List.range n).countP f := by
  induction n with
  | zero => rfl
  | succ n ih =>
    rw [List.range_succ, List.countP_append, ← ih, whichF]
    cases h : f n <;> simp [h]
theorem countP_rev (f : Nat → Bool) (n : Nat) : (List.range n).countP (fun i => f (n - 1 - i)) = (List.range n).countP f := by
  have h := List.countP_map (p := f) (f := fun i => n - 1 - i) (l := List.range n)
  have e : (List.range n).map (fun i => n - 1 - i) = (List.range n).reverse := by
    apply List.ext_getElem?
    intro i
    by_cases hi : i < n
    · rw [List.getElem?_map, List.getElem?_range hi, List.getElem?_reverse (by simpa using hi)]
      simp [List.length_range, List.getElem?_range (show n - 1 - i < n by omega)]
    · rw [List.getElem?_eq_none (by simp; omega), List.getElem?_eq_none (by simp; omega)]
  rw [e, List.countP_reverse] at h
  exact h.symm
theorem turn_kinds (l : List OpP) (kd : Int) : (kindF (turnL l) kd).length = (kindF l kd).length := by
  unfold kindF
  rw [turnL_len, whichF_count, whichF_count, ← countP_rev (fun i => kindOf l i == kd)]
  apply List.countP_congr
  intro i hi
  rw [turn_kind (List.mem_range.1 hi)]

/-- operator n in another way -/
def setO (l : List OpP) (n : Nat) (o : OpP) : List OpP := l.set n o
theorem setO_len (l : List OpP) (n : Nat) (o : OpP) : (setO l n o).length = l.length := by simp [setO]
theorem setO_at {l : List OpP} {n : Nat} (hn : n < l.length) (o : OpP) : opOf (setO l n o) n = o := by
  unfold opOf setO; rw [List.getD_eq_getElem?_getD, List.getElem?_set_self hn]; rfl
theorem setO_ne {l : List OpP} {n i : Nat} (h : n ≠ i) (o : OpP) : opOf (setO l n o) i = opOf l i := by
  unfold opOf setO; rw [List.getD_eq_getElem?_getD, List.getD_eq_getElem?_getD, List.getElem?_set_ne h]
theorem chk_set {g : Int} {l : List OpP} (h : OkJ g l) {n : Nat} (hn : n < l.length) (o : OpP) (hne : aloneO l.length n o ≠ 0) : chkE g (setO l n o) = aloneO l.length n o := by
  have e : aloneE (setO l n o) n = aloneO l.length n o := by unfold aloneE; rw [setO_at hn, setO_len]
  rw [← e]
  refine chk_a (btw_yes h.groups.1 h.groups.2) (by rw [setO_len]; exact btw_yes (by have := h.len.1; omega) (by have := h.len.2; omega)) (by rw [setO_len]; exact hn) (by rw [e]; exact hne) (fun j hj => ?_)
  unfold aloneE
  rw [setO_ne (by omega), setO_len]
  exact h.alone j (by omega)
theorem chk_cost {g : Int} {l : List OpP} (h : OkJ g l) {n : Nat} (hn : n < l.length) : chkE g (setO l n { opOf l n with cost := 1001 }) = 1 := by
  obtain ⟨h1, h2, -⟩ := alone_in (h.alone n hn)
  have e : aloneO l.length n { opOf l n with cost := 1001 } = 1 := by
    unfold aloneO
    show (if btw (kindOf l n) 1 8 then (if inputsB l.length n (kindOf l n) (insOf l n) then (if _ && _ && btw 1001 1 1000 then 0 else 1) else 8) else 2) = (1 : Int)
    rw [h1, h2]; simp [btw]
  rw [chk_set h hn _ (by rw [e]; decide), e]
theorem chk_kind {g : Int} {l : List OpP} (h : OkJ g l) {n : Nat} (hn : n < l.length) : chkE g (setO l n { opOf l n with kind := 9 }) = 2 := by
  have e : aloneO l.length n { opOf l n with kind := 9 } = 2 := rfl
  rw [chk_set h hn _ (by rw [e]; decide), e]
theorem chk_self {g : Int} {l : List OpP} (h : OkJ g l) {n : Nat} (hn : n < l.length) : chkE g (setO l n { opOf l n with ins := insOf l n ++ [(n : Int)] }) = 8 := by
  obtain ⟨h1, -⟩ := alone_in (h.alone n hn)
  have h2 : inputsB l.length n (kindOf l n) (insOf l n ++ [(n : Int)]) = false := by
    unfold inputsB
    rw [allB_no (k := (insOf l n).length) (by simp)]
    · rfl
    · unfold inB
      have : (insOf l n ++ [(n : Int)]).getD (insOf l n).length 0 = n := by rw [List.getD_eq_getElem?_getD, List.getElem?_append_right (Nat.le_refl _)]; simp
      rw [this]; simp
  have e : aloneO l.length n { opOf l n with ins := insOf l n ++ [(n : Int)] } = 8 := by
    unfold aloneO
    show (if btw (kindOf l n) 1 8 then (if inputsB l.length n (kindOf l n) (insOf l n ++ [(n : Int)]) then _ else 8) else 2) = (8 : Int)
    rw [h1, h2]; rfl
  rw [chk_set h hn _ (by rw [e]; decide), e]
theorem chk_groups {l : List OpP} : chkE 65 l = 1 := rfl
end Go.Proofs.Ytcechimilefihaa.Sp
