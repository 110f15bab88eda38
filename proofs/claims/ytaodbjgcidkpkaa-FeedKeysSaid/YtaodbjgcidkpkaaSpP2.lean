/- Jobs, in plain Lean: what follows where nothing is wrong so far; roots as bits and as lists. -/
import Derived.Test.YtaodbjgcidkpkaaSp11
namespace Go.Proofs.Ytaodbjgcidkpkaa.Sp
open Go

theorem chk_g {g : Int} {l : List OpP} (h : btw g 1 64 = false) : chkE g l = 1 := by unfold chkE; rw [h]; rfl
theorem chk_n {g : Int} {l : List OpP} (h : btw g 1 64 = true) (h2 : btw l.length 1 12 = false) : chkE g l = 3 := by unfold chkE; rw [h, h2]; rfl
theorem chk_a {g : Int} {l : List OpP} (h : btw g 1 64 = true) (h2 : btw l.length 1 12 = true) {k : Nat} (hk : k < l.length) (h3 : aloneE l k ≠ 0) (hno : ∀ j, j < k → aloneE l j = 0) : chkE g l = aloneE l k := by
  have e := firstE_yes hk h3 hno
  unfold chkE; rw [h, h2, e]; simp [h3]
theorem chk_f {g : Int} {l : List OpP} (h : btw g 1 64 = true) (h2 : btw l.length 1 12 = true) (h3 : ∀ j, j < l.length → aloneE l j = 0) {k : Nat} (hk : k < l.length) (h4 : fedB l k = false) : chkE g l = 8 := by
  unfold chkE; rw [h, h2, firstE_no h3, allB_no hk h4]; rfl
theorem chk_o {g : Int} {l : List OpP} (h : btw g 1 64 = true) (h2 : btw l.length 1 12 = true) (h3 : ∀ j, j < l.length → aloneE l j = 0) (h4 : ∀ j, j < l.length → fedB l j = true) (h5 : ¬ l.length ≤ (orderF l).length) : chkE g l = 9 := by
  unfold chkE; rw [h, h2, firstE_no h3, allB_iff.2 h4]; simp [h5]
theorem chk_k {g : Int} {l : List OpP} (h : btw g 1 64 = true) (h2 : btw l.length 1 12 = true) (h3 : ∀ j, j < l.length → aloneE l j = 0) (h4 : ∀ j, j < l.length → fedB l j = true) (h5 : l.length ≤ (orderF l).length) {k : Nat} (hk : k < l.length) (h6 : apartB l k = false) : chkE g l = 10 := by
  unfold chkE; rw [h, h2, firstE_no h3, allB_iff.2 h4, if_pos h5, allB_no hk h6]; rfl
theorem chk_ok {g : Int} {l : List OpP} (h : btw g 1 64 = true) (h2 : btw l.length 1 12 = true) (h3 : ∀ j, j < l.length → aloneE l j = 0) (h4 : ∀ j, j < l.length → fedB l j = true) (h5 : l.length ≤ (orderF l).length) (h6 : ∀ j, j < l.length → apartB l j = true) : chkE g l = 0 := by
  unfold chkE; rw [h, h2, firstE_no h3, allB_iff.2 h4, if_pos h5, allB_iff.2 h6]; rfl

/-- an operator that is right by itself -/
theorem alone_in {l : List OpP} {i : Nat} (h : aloneE l i = 0) : btw (kindOf l i) 1 8 = true ∧ inputsB l.length i (kindOf l i) (insOf l i) = true ∧ mayB (opOf l i).kind (opOf l i).fo (opOf l i).fa (opOf l i).fb = true ∧ partsB (opOf l i) = true ∧ btw (opOf l i).cost 1 1000 = true := by
  unfold aloneE aloneO at h
  unfold kindOf insOf
  cases h1 : btw (opOf l i).kind 1 8 with
  | false => rw [h1] at h; simp at h
  | true =>
    rw [h1] at h
    cases h2 : inputsB l.length i (opOf l i).kind (opOf l i).ins with
    | false => rw [h2] at h; simp at h
    | true =>
      rw [h2] at h
      simp only [if_true] at h
      split at h
      · rename_i h3
        simp only [Bool.and_eq_true] at h3
        exact ⟨rfl, rfl, h3.1.1, h3.1.2, h3.2⟩
      · simp at h
theorem ins_in {l : List OpP} {i : Nat} (h : aloneE l i = 0) : ∀ x ∈ insOf l i, ∃ j : Nat, x = j ∧ j < l.length ∧ j ≠ i := by
  intro x hx
  obtain ⟨-, h2, -⟩ := alone_in h
  unfold inputsB at h2
  rw [Bool.and_eq_true, allB_iff] at h2
  obtain ⟨k, hk, e⟩ := mem_getD hx
  have := h2.1 k hk
  unfold inB btw at this
  rw [e] at this
  simp only [Bool.and_eq_true, decide_eq_true_eq] at this
  refine ⟨x.toNat, by omega, by omega, by omega⟩
theorem ins_nodup {l : List OpP} {i : Nat} (h : aloneE l i = 0) : ∀ j k, j < k → k < (insOf l i).length → (insOf l i).getD j 0 ≠ (insOf l i).getD k 0 := by
  intro j k hjk hk
  obtain ⟨-, h2, -⟩ := alone_in h
  unfold inputsB at h2
  rw [Bool.and_eq_true, allB_iff] at h2
  have := h2.1 k hk
  unfold inB at this
  simp only [Bool.and_eq_true, Bool.not_eq_true'] at this
  have h3 := this.2
  rw [hasB_no] at h3
  intro e
  apply h3
  rw [← e]
  have e2 : (List.take k (insOf l i)).getD j 0 = (insOf l i).getD j 0 := by rw [List.getD_eq_getElem?_getD, List.getD_eq_getElem?_getD, List.getElem?_take_of_lt hjk]
  rw [← e2]
  exact getD_mem (by rw [List.length_take]; omega)
theorem ins_many {l : List OpP} {i : Nat} (h : aloneE l i = 0) : (kindOf l i = 1 → insOf l i = []) ∧ (kindOf l i = 7 → 2 ≤ (insOf l i).length) ∧ (kindOf l i ≠ 1 → kindOf l i ≠ 7 → (insOf l i).length = 1) := by
  obtain ⟨-, h2, -⟩ := alone_in h
  unfold inputsB at h2
  rw [Bool.and_eq_true] at h2
  have := h2.2
  unfold manyB at this
  refine ⟨fun e => ?_, fun e => ?_, fun e1 e2 => ?_⟩
  · rw [if_pos e] at this; exact List.eq_nil_of_length_eq_zero (by simpa using this)
  · rw [if_neg (by omega), if_pos e] at this; simpa using this
  · rw [if_neg e1, if_neg e2] at this; simpa using this

/-- the order makes a rank -/
theorem ranked_of {l : List OpP} (h3 : ∀ j, j < l.length → aloneE l j = 0) (h5 : l.length ≤ (orderF l).length) : ∃ rank, Ranked l rank := by
  obtain ⟨o1, o2, o3⟩ := ordSt_ok l l.length
  have hlen : (orderF l).length ≤ l.length := ordSt_len l l.length
  have hfull := fun i hi => nodup_full o1 o2 h5 i hi
  have hidx : ∀ i : Nat, i < l.length → ∃ k, k < l.length ∧ (orderF l).getD k 0 = (i : Int) := fun i hi => by
    obtain ⟨k, hk, e⟩ := mem_getD (hfull i hi)
    exact ⟨k, Nat.lt_of_lt_of_le hk hlen, e⟩
  obtain ⟨rank, hrank⟩ := Classical.axiomOfChoice (r := fun (i : Nat) (k : Nat) => i < l.length → k < l.length ∧ (orderF l).getD k 0 = (i : Int)) (fun i => by
    by_cases hi : i < l.length
    · obtain ⟨k, hk⟩ := hidx i hi; exact ⟨k, fun _ => hk⟩
    · exact ⟨0, fun h => absurd h hi⟩)
  refine ⟨rank, fun i hi => ?_⟩
  obtain ⟨r1, r2⟩ := hrank i hi
  refine ⟨r1, fun x hx => ?_⟩
  obtain ⟨j, rfl, hj, -⟩ := ins_in (h3 i hi) x hx
  refine ⟨j, rfl, hj, ?_⟩
  obtain ⟨s1, s2⟩ := hrank j hj
  have hk : rank i < (orderF l).length := by omega
  have hm := o3 (rank i) hk (j : Int) (by
    have : (orderF l).getD (rank i) 0 = (i : Int) := r2
    show (j : Int) ∈ insOf l ((ordSt l l.length).getD (rank i) 0).toNat
    unfold orderF at this
    rw [this]; simpa using hx)
  obtain ⟨m, hm1, hm2⟩ := mem_getD hm
  rw [List.length_take] at hm1
  have hm3 : (orderF l).getD m 0 = (j : Int) := by
    rw [← hm2]
    show (ordSt l l.length).getD m 0 = _
    rw [List.getD_eq_getElem?_getD, List.getD_eq_getElem?_getD, List.getElem?_take_of_lt (by omega)]
  have hmlt : m < (orderF l).length := by omega
  -- none twice
  have : m = rank j := by
    have n1 : (orderF l)[m]'(by omega) = (orderF l)[rank j]'(by omega) := by
      have a1 : (orderF l).getD m 0 = (orderF l)[m]'(by omega) := by rw [List.getD_eq_getElem?_getD, List.getElem?_eq_getElem (by omega)]; rfl
      have a2 : (orderF l).getD (rank j) 0 = (orderF l)[rank j]'(by omega) := by rw [List.getD_eq_getElem?_getD, List.getElem?_eq_getElem (by omega)]; rfl
      rw [← a1, ← a2, hm3, s2]
    exact (List.getElem_inj o2).1 n1
  omega

/-- a rank's own: enough steps are enough -/
theorem comesF_same {l : List OpP} {rank : Nat → Nat} (hr : Ranked l rank) (r : Int) (f : Nat) : ∀ i, i < l.length → rank i ≤ f → comesF f l i r = comesF (rank i) l i r := by
  induction f with
  | zero => intro i hi hf; rw [show rank i = 0 by omega]
  | succ f ih =>
    intro i hi hf
    rw [comesF_of hr hi hf, comesF_of hr hi (Nat.le_refl _)]
    congr 1
    have hin := (hr i hi).2
    apply Bool.eq_iff_iff.2
    rw [List.any_eq_true, List.any_eq_true]
    constructor
    · rintro ⟨x, hx, h⟩
      obtain ⟨j, rfl, hj, hrj⟩ := hin x hx
      refine ⟨_, hx, ?_⟩
      have e1 := ih j hj (by omega)
      have e2 : comesF (rank i - 1) l j r = comesF (rank j) l j r := by
        have : ∀ m, rank j ≤ m → m ≤ f → comesF m l j r = comesF (rank j) l j r := by
          intro m
          induction m with
          | zero => intro h1 _; rw [show rank j = 0 by omega]
          | succ m ihm =>
            intro h1 h2
            exact cm hr r (m + 1) j hj h1
        exact this _ (by omega) (by omega)
      simp only [Int.toNat_natCast] at h ⊢
      rw [e2]; rw [show f + 1 - 1 = f from rfl, e1] at h; exact h
    · rintro ⟨x, hx, h⟩
      obtain ⟨j, rfl, hj, hrj⟩ := hin x hx
      refine ⟨_, hx, ?_⟩
      have e1 := ih j hj (by omega)
      have e2 := cm hr r (rank i - 1) j hj (by omega)
      simp only [Int.toNat_natCast] at h ⊢
      rw [show f + 1 - 1 = f from rfl, e1]; rw [e2] at h; exact h
where
  cm {l : List OpP} {rank : Nat → Nat} (hr : Ranked l rank) (r : Int) (f : Nat) : ∀ i, i < l.length → rank i ≤ f → comesF f l i r = comesF (rank i) l i r := by
    induction f using Nat.strongRecOn with
    | _ f ih =>
      intro i hi hf
      rw [comesF_of hr hi hf, comesF_of hr hi (Nat.le_refl _)]
      congr 1
      apply Bool.eq_iff_iff.2
      rw [List.any_eq_true, List.any_eq_true]
      constructor
      · rintro ⟨x, hx, h⟩
        obtain ⟨j, rfl, hj, hrj⟩ := (hr i hi).2 x hx
        refine ⟨_, hx, ?_⟩
        simp only [Int.toNat_natCast] at h ⊢
        rw [ih (f - 1) (by omega) j hj (by omega)] at h
        rcases (show rank i - 1 < f ∨ rank i - 1 = f by omega) with h1 | h1
        · rw [ih (rank i - 1) h1 j hj (by omega)]; exact h
        · omega
      · rintro ⟨x, hx, h⟩
        obtain ⟨j, rfl, hj, hrj⟩ := (hr i hi).2 x hx
        refine ⟨_, hx, ?_⟩
        simp only [Int.toNat_natCast] at h ⊢
        rw [ih (f - 1) (by omega) j hj (by omega)]
        rcases (show rank i - 1 < f ∨ rank i - 1 = f by omega) with h1 | h1
        · rw [ih (rank i - 1) h1 j hj (by omega)] at h; exact h
        · omega
end Go.Proofs.Ytaodbjgcidkpkaa.Sp
