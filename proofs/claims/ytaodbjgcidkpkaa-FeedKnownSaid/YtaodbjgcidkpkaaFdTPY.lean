/- Feeds put the other way round; in plain Lean. No program is named. -/
import Derived.Test.YtaodbjgcidkpkaaFdCY

namespace Go.Proofs.Ytaodbjgcidkpkaa.Fd
open Go Sp

def turnL (ls : List (List Rc)) : List (List Rc) := ls.reverse.map List.reverse
def turnP (f : Fp) : Fp := ⟨f.op, turnL f.parts⟩
def turnF (fs : List Fp) : List Fp := fs.map turnP
theorem turnL_len (ls : List (List Rc)) : (turnL ls).length = ls.length := by simp [turnL]
theorem turnF_len (fs : List Fp) : (turnF fs).length = fs.length := by simp [turnF]
theorem keysR_rev {r : List Rc} {x : Int} : x ∈ keysR r.reverse ↔ x ∈ keysR r := by simp [keysR]
theorem cntL_turn (ls : List (List Rc)) : cntL (turnL ls) = cntL ls := by
  unfold cntL turnL
  have : (ls.reverse.map List.reverse).map List.length = (ls.map List.length).reverse := by
    rw [List.map_map, ← List.map_reverse]
    apply List.map_congr_left
    intro r _; simp
  rw [this, List.sum_reverse]
theorem cntF_turn (fs : List Fp) : cntF (turnF fs) = cntF fs := by
  unfold cntF turnF
  rw [List.map_map]
  congr 1
  apply List.map_congr_left
  intro f _; exact cntL_turn f.parts
theorem prtF_turn (fs : List Fp) : prtF (turnF fs) = prtF fs := by
  unfold prtF turnF
  rw [List.map_map]
  congr 1
  apply List.map_congr_left
  intro f _; exact turnL_len f.parts
theorem keysL_turn {ls : List (List Rc)} {x : Int} : x ∈ keysL (turnL ls) ↔ x ∈ keysL ls := by
  unfold keysL turnL
  rw [List.mem_flatMap, List.mem_flatMap]
  constructor
  · rintro ⟨r, hr, hx⟩
    obtain ⟨r', hr', rfl⟩ := List.mem_map.1 hr
    exact ⟨r', by simpa using hr', keysR_rev.1 hx⟩
  · rintro ⟨r, hr, hx⟩
    exact ⟨r.reverse, List.mem_map.2 ⟨r, by simpa using hr, rfl⟩, keysR_rev.2 hx⟩
theorem keysA_turn {fs : List Fp} {x : Int} : x ∈ keysA (turnF fs) ↔ x ∈ keysA fs := by
  unfold keysA turnF
  rw [List.mem_flatMap, List.mem_flatMap]
  constructor
  · rintro ⟨f, hf, hx⟩
    obtain ⟨f', hf', rfl⟩ := List.mem_map.1 hf
    exact ⟨f', hf', keysL_turn.1 hx⟩
  · rintro ⟨f, hf, hx⟩
    exact ⟨turnP f, List.mem_map.2 ⟨f, hf, rfl⟩, keysL_turn.2 hx⟩
theorem keysF_turn (fs : List Fp) : keysF (turnF fs) = keysF fs :=
  rise_unique (keysF_rise _) (keysF_rise _) fun z => by rw [keysF_mem, keysF_mem, keysA_turn]
theorem manyB_turn (l : List OpP) (f : Fp) : manyB l (turnP f) = manyB l f := by
  unfold manyB turnP
  simp only
  rw [turnL_len, cntL_turn]
theorem noSh_sym {a b : List Rc} (h : NoSh a b) : NoSh b a := fun x hx hy => h x hy hx
theorem noSh_rev {a b : List Rc} : NoSh a.reverse b.reverse ↔ NoSh a b :=
  ⟨fun h x hx hy => h x (keysR_rev.2 hx) (keysR_rev.2 hy), fun h x hx hy => h x (keysR_rev.1 hx) (keysR_rev.1 hy)⟩
theorem parts_turn (fs : List Fp) : ((turnF fs).flatMap (·.parts)).Perm ((fs.flatMap (·.parts)).map List.reverse) := by
  unfold turnF
  induction fs with
  | nil => exact List.Perm.nil
  | cons f fs ih =>
    rw [List.map_cons, List.flatMap_cons, List.flatMap_cons, List.map_append]
    refine List.Perm.append ?_ ih
    show (turnL f.parts).Perm _
    unfold turnL
    rw [List.map_reverse]
    exact List.reverse_perm _
theorem apart_turn (fs : List Fp) : Apart (turnF fs) ↔ Apart fs := by
  unfold Apart
  rw [List.Perm.pairwise_iff (fun {x y} h => noSh_sym h) (parts_turn fs), List.pairwise_map]
  constructor
  · exact fun h => h.imp fun {a b} k => noSh_rev.1 k
  · exact fun h => h.imp fun {a b} k => noSh_rev.2 k
theorem chkF_turn (l : List OpP) (fs : List Fp) : chkF l (turnF fs) = chkF l fs := by
  have h1 : (turnF fs).map (·.op) = fs.map (·.op) := by unfold turnF; rw [List.map_map]; rfl
  have h2 : (turnF fs).all (manyB l) = fs.all (manyB l) := by
    unfold turnF
    rw [List.all_map]
    congr 1
    funext f; exact manyB_turn l f
  have h3 : keysE (turnF fs) = keysE fs := by
    unfold keysE
    by_cases h : Apart fs
    · rw [if_pos h, if_pos ((apart_turn fs).2 h)]
    · rw [if_neg h, if_neg (fun k => h ((apart_turn fs).1 k))]
  unfold chkF
  rw [h1, h2, h3]
theorem turnF_take (fs : List Fp) {k : Nat} {f : Fp} (hk : k < fs.length) (hf : fs.getD k default = f) : turnF (fs.take (k + 1)) = turnF (fs.take k) ++ [turnP f] := by
  unfold turnF; rw [take_snocG hk hf]; simp
/-- what stands at a place from behind -/
theorem rev_take {α : Type} {xs : List α} {j z : Nat} {x d : α} (h : j + z + 1 = xs.length) (hx : xs.getD z d = x) : xs.reverse.take (j + 1) = xs.reverse.take j ++ [x] := by
  refine take_snocG (d := d) (by simp; omega) ?_
  rw [getD_el (by simp; omega), List.getElem_reverse, ← hx, getD_el (show z < xs.length by omega)]
  congr 1; omega
theorem turnL_take {ls : List (List Rc)} {j z : Nat} {r : List Rc} (h : j + z + 1 = ls.length) (hr : ls.getD z [] = r) : (turnL ls).take (j + 1) = (turnL ls).take j ++ [r.reverse] := by
  unfold turnL
  rw [← List.map_take, ← List.map_take, rev_take h hr]; simp
end Go.Proofs.Ytaodbjgcidkpkaa.Fd
