/- How many records have a key; in plain Lean. No program is named. -/
import Derived.Test.YtaodbjgcidkpkaaFd2Y

namespace Go.Proofs.Ytaodbjgcidkpkaa.Fd
open Go

def kL (ls : List (List Rc)) (y : Int) : Nat := (ls.map fun r => (ofF r y).length).sum
def kF (fs : List Fp) (y : Int) : Nat := (fs.map fun f => kL f.parts y).sum
def kS (fs : List Fp) (ks : List Int) : Nat := (ks.map fun y => kF fs y).sum
theorem ofF_count (r : List Rc) (y : Int) : (ofF r y).length = (keysR r).count y := by
  unfold ofF keysR
  rw [List.length_map, List.count_eq_countP, List.countP_map, List.countP_eq_length_filter]
  congr 1
theorem kL_count (ls : List (List Rc)) (y : Int) : kL ls y = (keysL ls).count y := by
  unfold kL keysL
  induction ls with
  | nil => rfl
  | cons r ls ih => rw [List.map_cons, List.sum_cons, List.flatMap_cons, List.count_append, ih, ofF_count]
theorem kF_count (fs : List Fp) (y : Int) : kF fs y = (keysA fs).count y := by
  unfold kF keysA
  induction fs with
  | nil => rfl
  | cons f fs ih => rw [List.map_cons, List.sum_cons, List.flatMap_cons, List.count_append, ih, kL_count]
theorem zero_sum (ks : List Int) : (ks.map fun _ => 0).sum = 0 := by
  induction ks with
  | nil => rfl
  | cons _ ks ih => rw [List.map_cons, List.sum_cons, ih]
theorem counts_all : ∀ (L ks : List Int), ks.Nodup → (∀ x ∈ L, x ∈ ks) → (ks.map fun y => L.count y).sum = L.length
  | [], ks, _, _ => by
    have : (ks.map fun y => ([] : List Int).count y) = ks.map fun _ => 0 := List.map_congr_left fun y _ => List.count_nil
    rw [this]; exact zero_sum ks
  | x :: L, ks, hn, hin => by
    have ih := counts_all L ks hn fun z hz => hin z (List.mem_cons_of_mem _ hz)
    have key : ∀ ks : List Int, (ks.map fun y => (x :: L).count y).sum = (ks.map fun y => L.count y).sum + ks.count x := by
      intro ks
      induction ks with
      | nil => rfl
      | cons y ks ih2 =>
        rw [List.map_cons, List.sum_cons, List.map_cons, List.sum_cons, ih2, List.count_cons, List.count_cons]
        have e : (x == y) = (y == x) := BEq.comm
        rw [e]
        omega
    rw [key, ih, hn.count (a := x), if_pos (hin x (by simp)), List.length_cons]
theorem keysF_nodup (fs : List Fp) : (keysF fs).Nodup := (keysF_rise fs).imp (fun h e => by omega)
theorem kS_all (fs : List Fp) : kS fs (keysF fs) = cntF fs := by
  unfold kS
  have : (keysF fs).map (fun y => kF fs y) = (keysF fs).map fun y => (keysA fs).count y := List.map_congr_left fun y _ => kF_count fs y
  rw [this, counts_all _ _ (keysF_nodup fs) fun x hx => keysF_mem.2 hx, keysA_len]
theorem kF_pos {fs : List Fp} {y : Int} (h : y ∈ keysF fs) : 0 < kF fs y := by
  rw [kF_count]; exact List.count_pos_iff.2 (keysF_mem.1 h)
theorem kL_take {ls : List (List Rc)} {y : Int} {k : Nat} {r : List Rc} (hk : k < ls.length) (hr : ls.getD k [] = r) : kL (ls.take (k + 1)) y = kL (ls.take k) y + (ofF r y).length := sum_take _ hk hr
theorem kF_take {fs : List Fp} {y : Int} {k : Nat} {f : Fp} (hk : k < fs.length) (hf : fs.getD k default = f) : kF (fs.take (k + 1)) y = kF (fs.take k) y + kL f.parts y := sum_take _ hk hf
theorem kS_take {fs : List Fp} {ks : List Int} {k : Nat} {y : Int} (hk : k < ks.length) (hy : ks.getD k 0 = y) : kS fs (ks.take (k + 1)) = kS fs (ks.take k) + kF fs y := sum_take _ hk hy
theorem kL_le (ls : List (List Rc)) (y : Int) (k : Nat) : kL (ls.take k) y ≤ kL ls y := sum_le _ _ _
theorem kF_le (fs : List Fp) (y : Int) (k : Nat) : kF (fs.take k) y ≤ kF fs y := sum_le _ _ _
theorem kS_le (fs : List Fp) (ks : List Int) (k : Nat) : kS fs (ks.take k) ≤ kS fs ks := sum_le _ _ _
theorem rise_at {xs : List Int} (h : xs.Pairwise (· < ·)) {j k : Nat} (hj : j < k) (hk : k < xs.length) : xs.getD j 0 < xs.getD k 0 := by
  have := List.pairwise_iff_getElem.1 h j k (by omega) hk hj
  rwa [List.getD_eq_getElem?_getD, List.getElem?_eq_getElem (by omega), List.getD_eq_getElem?_getD, List.getElem?_eq_getElem hk]
end Go.Proofs.Ytaodbjgcidkpkaa.Fd
