/- All edges: marks of places, one list among its numbers. Plain Lean but for the row of marks. -/
import Derived.Test.YtjinpmengjfmpaaGpX
import Derived.OwnWalk
namespace Go.Proofs.Ytjinpmengjfmpaa.Gp
open Go.RowKit Go M Sp

/-! marks -/
def seenF (N : Nat) (E : List (Int × Int)) (i q : Nat) : Bool := (E.take i).any fun e => e.1 * (N : Int) + e.2 == (q : Int)
theorem seenF_zero (N : Nat) (E : List (Int × Int)) (q : Nat) : seenF N E 0 q = false := by simp [seenF]
theorem take_snoc {E : List (Int × Int)} {i : Nat} {y : Int × Int} (hi : i < E.length) (hy : E.getD i (0, 0) = y) : E.take (i + 1) = E.take i ++ [y] := by
  rw [List.take_succ_eq_append_getElem hi]
  rw [List.getD_eq_getElem?_getD, List.getElem?_eq_getElem hi] at hy
  simp only [Option.getD_some] at hy
  rw [hy]
theorem seenF_succ {N : Nat} {E : List (Int × Int)} {i f t q : Nat} (hi : i < E.length) (hy : E.getD i (0, 0) = ((f : Int), (t : Int))) (hq : (f : Int) * (N : Int) + (t : Int) = (q : Int)) (x : Nat) :
    seenF N E (i + 1) x = (seenF N E i x || (x == q)) := by
  unfold seenF
  rw [take_snoc hi hy, List.any_append]
  congr 1
  rw [Bool.eq_iff_iff]
  simp [hq]
  omega
theorem seenF_new {N : Nat} {E : List (Int × Int)} {i f t q : Nat} (hnd : E.Nodup) (hbd : ∀ e ∈ E, 0 ≤ e.2 ∧ e.2 < (N : Int)) (hi : i < E.length) (hy : E.getD i (0, 0) = ((f : Int), (t : Int))) (hq : (f : Int) * (N : Int) + (t : Int) = (q : Int)) :
    seenF N E i q = false := by
  unfold seenF
  rw [List.any_eq_false]
  intro e he hc
  have hc : e.1 * (N : Int) + e.2 = (q : Int) := by simpa using hc
  obtain ⟨a, ha, ea⟩ := List.getElem_of_mem he
  rw [List.length_take] at ha
  rw [List.getElem_take] at ea
  have h1 := hbd e (List.mem_of_mem_take he)
  have h2 := hbd _ (pairs_mem hi)
  rw [hy] at h2
  simp only at h2
  have hN : (N : Int) ≠ 0 := by omega
  have d1 : (e.2 + e.1 * (N : Int)) / (N : Int) = e.1 := by rw [Int.add_mul_ediv_right _ _ hN, Int.ediv_eq_zero_of_lt h1.1 h1.2]; omega
  have d2 : ((t : Int) + (f : Int) * (N : Int)) / (N : Int) = (f : Int) := by rw [Int.add_mul_ediv_right _ _ hN, Int.ediv_eq_zero_of_lt h2.1 h2.2]; omega
  have e3 : e.2 + e.1 * (N : Int) = (t : Int) + (f : Int) * (N : Int) := by omega
  rw [e3, d2] at d1
  have e4 : e.2 = (t : Int) := by rw [← d1] at e3; omega
  have : e = ((f : Int), (t : Int)) := Prod.ext d1.symm e4
  rw [List.nodup_iff_pairwise_ne] at hnd
  refine (List.pairwise_iff_getElem.1 hnd) a i (by omega) hi (by omega) ?_
  rw [List.getD_eq_getElem?_getD, List.getElem?_eq_getElem hi] at hy
  simp only [Option.getD_some] at hy
  rw [ea, hy, this]
theorem place_nat {N f t : Nat} (hf : f < N) (ht : t < N) : f * N + t < N * N := by
  have : (f + 1) * N ≤ N * N := Nat.mul_le_mul_right _ hf
  rw [Nat.add_mul] at this
  omega

/-! is it among an operator's inputs? -/
def hasN (ins : List Int) (m k : Nat) : Bool := (ins.take k).any fun x => x == (m : Int)
theorem hasN_zero (ins : List Int) (m : Nat) : hasN ins m 0 = false := by simp [hasN]
theorem hasN_succ {ins : List Int} {m k v : Nat} (hk : k < ins.length) (hv : ins.getD k 0 = (v : Int)) : hasN ins m (k + 1) = (hasN ins m k || (v == m)) := by
  unfold hasN
  rw [List.take_succ_eq_append_getElem hk, List.any_append]
  rw [List.getD_eq_getElem?_getD, List.getElem?_eq_getElem hk] at hv
  simp only [Option.getD_some] at hv
  rw [hv]
  congr 1
  rw [Bool.eq_iff_iff]
  simp
  omega
theorem hasN_all {ins : List Int} {m k : Nat} (hk : k < ins.length) (hv : ins.getD k 0 = (m : Int)) : hasN ins m ins.length = true := by
  unfold hasN
  rw [List.take_length, List.any_eq_true]
  exact ⟨_, getD_mem hk, by rw [hv]; simp⟩

/-! how many, at most -/
theorem wantF_le {l : List OpP} {par : List Int} (h8 : ∀ x ∈ par, x ≤ 8) (hin : ∀ i, i < par.length → (insOf l i).length ≤ 12) (h96 : (spotsP par).length ≤ 96) {i : Nat} (hi : i ≤ par.length) : wantF l par i ≤ 9216 := by
  unfold wantF
  have h1 := edgesTo_len (l := l) (par := par) h8 hin (upto par i).length
  have h2 : (upto par i).length ≤ (upto par par.length).length := by
    rcases Nat.lt_or_ge i par.length with h | h
    · exact upto_mono (par := par) (i := i) (j := par.length) (by omega)
    · have : i = par.length := by omega
      rw [this]; exact Nat.le_refl _
  have h3 : (upto par par.length).length = (spotsP par).length := by rw [spotsP_len]; rfl
  omega

/-! the row of marks -/
def Seen (w : World) (g n : Nat) (f : Nat → Bool) : Prop := ∃ cs, Blk w g 4 cs ∧ ∀ q, q < n → cs[q]? = some (.bool (f q))
section
variable {w w' : World} {g n q B : Nat} {f : Nat → Bool}
theorem Seen.lt (h : Seen w g n f) : g < w.heap.size := h.choose_spec.1.lt
theorem Seen.cell (h : Seen w g n f) (hq : q < n) : w.cell? ⟨g, q, none⟩ = some (.bool (f q)) := by
  obtain ⟨cs, hb, hc⟩ := h
  rw [hb.cell, hc q hq]
theorem Seen.frozen (h : Seen w g n f) (q : Nat) : w.frozen? ⟨g, q, none⟩ = false := by
  obtain ⟨cs, hb, -⟩ := h
  exact hb.frozen q
theorem Seen.set (h : Seen w g n f) (q : Nat) : Seen (w.setCell ⟨g, q, none⟩ (.bool true)) g n (fun x => f x || (x == q)) := by
  obtain ⟨cs, hb, hc⟩ := h
  refine ⟨_, hb.set_ q _, fun x hx => ?_⟩
  have hx2 := hc x hx
  have hsz : x < cs.size := by
    rcases Nat.lt_or_ge x cs.size with h | h
    · exact h
    · rw [Array.getElem?_eq_none h] at hx2; cases hx2
  rw [Array.getElem?_setIfInBounds]
  by_cases e : q = x
  · subst e; simp [hsz]
  · rw [if_neg e, hx2]
    have : (x == q) = false := by simp; omega
    show some (Value.bool (f x)) = some (Value.bool (f x || x == q))
    rw [this, Bool.or_false]
theorem Seen.below (h : Seen w g n f) (hb : Below B w w') (hg : g < B) : Seen w' g n f := by
  obtain ⟨cs, h1, h2⟩ := h
  exact ⟨cs, h1.below hb hg, h2⟩
theorem Seen.alloc (h : Seen w g n f) (o : Obj) : Seen (w.alloc o) g n f := by
  obtain ⟨cs, h1, h2⟩ := h
  exact ⟨cs, h1.alloc o, h2⟩
theorem Seen.congr {f' : Nat → Bool} (h : Seen w g n f) (e : ∀ q, f' q = f q) : Seen w g n f' := by
  obtain ⟨cs, h1, h2⟩ := h
  exact ⟨cs, h1, fun q hq => by rw [h2 q hq, e]⟩
theorem seen_made {base : Nat} (h : w.ownsRow base 4 1 (.slice (some ⟨g, 0, none⟩) n n) n (madeCells (Value.bool false).cells (n * 1)).toList) : Seen w g n fun _ => false := by
  rw [show (Value.bool false).cells = #[Value.bool false] from rfl, Nat.mul_one, toList_madeCells_one] at h
  rcases h.2 with ⟨h', -⟩ | ⟨g', cap, cur, h', -, hg, hnc, -, hs, ht⟩
  · cases h'
  · simp only [Value.slice.injEq, Option.some.injEq, Addr.mk.injEq, and_true, true_and] at h'
    obtain ⟨rfl, rfl⟩ := h'
    refine ⟨cur, hg, fun q hq => ?_⟩
    have : (cur.toList.take (n * 1))[q]? = some (.bool false) := by rw [ht, List.getElem?_replicate, if_pos hq]
    rw [List.getElem?_take, if_pos (by omega), Array.getElem?_toList] at this
    exact this
end
theorem ops_get {w : World} {B b o : Nat} {l : List OpP} {p : Nat → Option Addr × Nat} (h : IsOps w B (some ⟨b, o, none⟩) l p) {i : Nat} (hi : i < l.length) :
    w.cell? ⟨b, o + i * 8, none⟩ = some (.int .i64 (kindOf l i)) ∧ w.cell? ⟨b, o + i * 8 + 1, none⟩ = some (.slice (p i).1 (insOf l i).length (p i).2) ∧ IsInts w B ⟨(p i).1, (p i).2, insOf l i⟩ := by
  obtain ⟨b', o', e, -, d0, d1, -, -, -, -, -, -, -, hins⟩ := h.at_ hi
  simp only [Option.some.injEq, Addr.mk.injEq, and_true] at e
  obtain ⟨rfl, rfl⟩ := e
  exact ⟨d0, d1, hins⟩
theorem par_nat {par : List Int} (h : ∀ x ∈ par, 1 ≤ x ∧ x ≤ 8) {i : Nat} (hi : i < par.length) : ∃ T : Nat, par.getD i 0 = (T : Int) ∧ 1 ≤ T ∧ T ≤ 8 := by
  have := h _ (getD_mem hi)
  exact ⟨(par.getD i 0).toNat, by omega, by omega, by omega⟩
theorem infoB : (Try.prog.info? 4).map (fun i => (i.zero, i.size, i.bytes)) = some (some (.bool false), 1, 1) := by kernel_rfl
end Go.Proofs.Ytjinpmengjfmpaa.Gp
