/- Feeds in memory: lists of records, lists of these, feeds. No program's function is named. -/
import Derived.Test.YtaodbjgcidkpkaaZa

namespace Go.Proofs.Ytaodbjgcidkpkaa.Fd
open Go.RowKit M

abbrev Rc := Int × Int
/-- no list is longer (the form's own reach) -/
def LB : Nat := 8796093022208
def IsRecs (w : World) (B : Nat) (A : Option Addr) (c : Nat) (xs : List Rc) : Prop := IsPairs w B A c xs ∧ xs.length ≤ LB
/-- lists of records -/
def IsLists (w : World) (B : Nat) (A : Option Addr) (c : Nat) (ls : List (List Rc)) : Prop := ∃ q : Nat → Option Addr × Nat,
  Lies w B 1 A ls.length (fun i _ => .slice (q i).1 (ls.getD i []).length (q i).2) ∧ ls.length ≤ c ∧ c ≤ maxLen ∧ ls.length ≤ LB ∧ ∀ i, i < ls.length → IsRecs w B (q i).1 (q i).2 (ls.getD i [])
/-- what a source has -/
structure Fp where
  op : Int
  parts : List (List Rc)
instance : Inhabited Fp := ⟨⟨0, []⟩⟩
def IsFeeds (w : World) (B : Nat) (A : Option Addr) (c : Nat) (fs : List Fp) : Prop := ∃ q : Nat → Option Addr × Nat,
  Lies w B 2 A fs.length (fun i j => if j = 0 then .int .i64 (fs.getD i default).op else .slice (q i).1 (fs.getD i default).parts.length (q i).2) ∧ fs.length ≤ c ∧ c ≤ maxLen ∧ fs.length ≤ LB ∧
    ∀ i, i < fs.length → In64 (fs.getD i default).op ∧ IsLists w B (q i).1 (q i).2 (fs.getD i default).parts
section
variable {w w' : World} {B B' c : Nat} {A : Option Addr} {xs : List Rc} {ls : List (List Rc)} {fs : List Fp}
theorem IsRecs.below (h : IsRecs w B A c xs) (hb : Below B w w') : IsRecs w' B A c xs := ⟨h.1.below hb, h.2⟩
theorem IsRecs.more (h : IsRecs w B A c xs) (hB : B ≤ B') : IsRecs w B' A c xs := ⟨h.1.more hB, h.2⟩
theorem IsLists.below (h : IsLists w B A c ls) (hb : Below B w w') : IsLists w' B A c ls := by
  obtain ⟨q, h1, h2, h3, h4, h5⟩ := h
  exact ⟨q, h1.below hb, h2, h3, h4, fun i hi => (h5 i hi).below hb⟩
theorem IsLists.more (h : IsLists w B A c ls) (hB : B ≤ B') : IsLists w B' A c ls := by
  obtain ⟨q, h1, h2, h3, h4, h5⟩ := h
  exact ⟨q, h1.more hB, h2, h3, h4, fun i hi => (h5 i hi).more hB⟩
theorem IsFeeds.below (h : IsFeeds w B A c fs) (hb : Below B w w') : IsFeeds w' B A c fs := by
  obtain ⟨q, h1, h2, h3, h4, h5⟩ := h
  exact ⟨q, h1.below hb, h2, h3, h4, fun i hi => ⟨(h5 i hi).1, (h5 i hi).2.below hb⟩⟩
theorem IsFeeds.more (h : IsFeeds w B A c fs) (hB : B ≤ B') : IsFeeds w B' A c fs := by
  obtain ⟨q, h1, h2, h3, h4, h5⟩ := h
  exact ⟨q, h1.more hB, h2, h3, h4, fun i hi => ⟨(h5 i hi).1, (h5 i hi).2.more hB⟩⟩
theorem IsLists.len (h : IsLists w B A c ls) : ls.length ≤ LB := by obtain ⟨q, h1, h2, h3, h4, h5⟩ := h; exact h4
theorem IsFeeds.len (h : IsFeeds w B A c fs) : fs.length ≤ LB := by obtain ⟨q, h1, h2, h3, h4, h5⟩ := h; exact h4
theorem lists_at (h : IsLists w B A c ls) {k : Nat} (hk : k < ls.length) : ∃ b o, ∃ r : List Rc, ∃ A' c', A = some ⟨b, o, none⟩ ∧ b < B ∧ Hid (ls.getD k [] = r) ∧ w.cell? ⟨b, o + k, none⟩ = some (.slice A' r.length c') ∧ IsRecs w B A' c' r := by
  obtain ⟨q, h1, h2, h3, h4, h5⟩ := h
  obtain ⟨b, o, e, hb, hc⟩ := h1.at1 hk
  exact ⟨b, o, _, _, _, e, hb, Lib.hid rfl, hc, h5 k hk⟩
theorem feeds_at (h : IsFeeds w B A c fs) {k : Nat} (hk : k < fs.length) : ∃ b o, ∃ f : Fp, ∃ A' c', A = some ⟨b, o, none⟩ ∧ b < B ∧ Hid (fs.getD k default = f) ∧ In64 f.op ∧
    w.cell? ⟨b, o + k * 2, none⟩ = some (.int .i64 f.op) ∧ w.cell? ⟨b, o + k * 2 + 1, none⟩ = some (.slice A' f.parts.length c') ∧ IsLists w B A' c' f.parts := by
  obtain ⟨q, h1, h2, h3, h4, h5⟩ := h
  obtain ⟨b, o, e, hb, hc⟩ := h1.at_ hk
  exact ⟨b, o, _, _, _, e, hb, Lib.hid rfl, (h5 k hk).1, by simpa using hc 0 (by omega), by simpa using hc 1 (by omega), (h5 k hk).2⟩
theorem lists_mem {k : Nat} (hk : k < ls.length) : ls.getD k [] ∈ ls := by
  rw [List.getD_eq_getElem?_getD, List.getElem?_eq_getElem hk]; exact List.getElem_mem hk
theorem feeds_mem {k : Nat} (hk : k < fs.length) : fs.getD k default ∈ fs := by
  rw [List.getD_eq_getElem?_getD, List.getElem?_eq_getElem hk]; exact List.getElem_mem hk
theorem take_snocG {α : Type} {xs : List α} {k : Nat} {x d : α} (hk : k < xs.length) (hx : xs.getD k d = x) : xs.take (k + 1) = xs.take k ++ [x] := by
  rw [List.take_add_one, List.getElem?_eq_getElem hk]
  have : xs[k] = x := by rw [← hx, List.getD_eq_getElem?_getD, List.getElem?_eq_getElem hk]; rfl
  rw [this]; rfl
end

/-- how many records -/
def cntL (ls : List (List Rc)) : Nat := (ls.map List.length).sum
def cntF (fs : List Fp) : Nat := (fs.map fun f => cntL f.parts).sum
def prtF (fs : List Fp) : Nat := (fs.map fun f => f.parts.length).sum
theorem sum_take {α : Type} (g : α → Nat) {xs : List α} {k : Nat} {x d : α} (hk : k < xs.length) (hx : xs.getD k d = x) : ((xs.take (k + 1)).map g).sum = ((xs.take k).map g).sum + g x := by
  rw [take_snocG hk hx]; simp
theorem sum_le {α : Type} (g : α → Nat) (xs : List α) (k : Nat) : ((xs.take k).map g).sum ≤ (xs.map g).sum := by
  have : xs.map g = (xs.take k).map g ++ (xs.drop k).map g := by rw [← List.map_append, List.take_append_drop]
  rw [this, List.sum_append]; omega
theorem sum_mem {α : Type} (g : α → Nat) {xs : List α} {x : α} (h : x ∈ xs) : g x ≤ (xs.map g).sum := by
  induction xs with
  | nil => cases h
  | cons y ys ih =>
    rw [List.map_cons, List.sum_cons]
    rcases List.mem_cons.1 h with rfl | h
    · omega
    · have := ih h; omega
theorem sum_bd {α : Type} (g : α → Nat) {xs : List α} {n b : Nat} (hn : xs.length ≤ n) (hb : ∀ x ∈ xs, g x ≤ b) : (xs.map g).sum ≤ n * b := by
  induction xs generalizing n with
  | nil => simp
  | cons y ys ih =>
    rw [List.map_cons, List.sum_cons]
    rw [List.length_cons] at hn
    obtain ⟨m, rfl⟩ : ∃ m, n = m + 1 := ⟨n - 1, by omega⟩
    have h1 := ih (n := m) (by omega) (fun x hx => hb x (List.mem_cons_of_mem _ hx))
    have h2 := hb y (by simp)
    rw [Nat.succ_mul]; omega
theorem cntL_take {ls : List (List Rc)} {k : Nat} {r : List Rc} (hk : k < ls.length) (hr : ls.getD k [] = r) : cntL (ls.take (k + 1)) = cntL (ls.take k) + r.length := sum_take _ hk hr
theorem cntF_take {fs : List Fp} {k : Nat} {f : Fp} (hk : k < fs.length) (hf : fs.getD k default = f) : cntF (fs.take (k + 1)) = cntF (fs.take k) + cntL f.parts := sum_take _ hk hf
theorem prtF_take {fs : List Fp} {k : Nat} {f : Fp} (hk : k < fs.length) (hf : fs.getD k default = f) : prtF (fs.take (k + 1)) = prtF (fs.take k) + f.parts.length := sum_take _ hk hf
theorem cntL_le (ls : List (List Rc)) (k : Nat) : cntL (ls.take k) ≤ cntL ls := sum_le _ _ _
theorem cntF_le (fs : List Fp) (k : Nat) : cntF (fs.take k) ≤ cntF fs := sum_le _ _ _
theorem prtF_le (fs : List Fp) (k : Nat) : prtF (fs.take k) ≤ prtF fs := sum_le _ _ _
theorem cntF_mem {fs : List Fp} {f : Fp} (h : f ∈ fs) : cntL f.parts ≤ cntF fs := sum_mem (fun f : Fp => cntL f.parts) h
theorem prtF_mem {fs : List Fp} {f : Fp} (h : f ∈ fs) : f.parts.length ≤ prtF fs := sum_mem (fun f : Fp => f.parts.length) h
theorem cntL_mem {ls : List (List Rc)} {r : List Rc} (h : r ∈ ls) : r.length ≤ cntL ls := sum_mem _ h
theorem cntL_bd {w : World} {B c : Nat} {A : Option Addr} {ls : List (List Rc)} (h : IsLists w B A c ls) {n : Nat} (hn : ls.length ≤ n) : cntL ls ≤ n * LB := by
  obtain ⟨q, h1, h2, h3, h4, h5⟩ := h
  refine sum_bd _ hn fun x hx => ?_
  obtain ⟨i, hi, rfl⟩ := List.mem_iff_getElem.1 hx
  have := (h5 i hi).2
  rw [List.getD_eq_getElem?_getD, List.getElem?_eq_getElem hi] at this
  exact this
end Go.Proofs.Ytaodbjgcidkpkaa.Fd
