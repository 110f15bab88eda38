/- Feeds in memory of a call's own: lists of records, lists of these, feeds; append onto them. No program's function is named. -/
import Derived.Test.YtaodbjgcidkpkaaFdMY
import Derived.Test.YtaodbjgcidkpkaaZa
import Derived.Lib.Hide

namespace Go.Proofs.Ytaodbjgcidkpkaa.Fd
open Go.RowKit M

theorem isPT : IsPT 57 49 := ⟨Try.underlying49, by kernel_rfl⟩
theorem infoLs : (Try.prog.info? 49).map (fun i => (i.zero, i.size, i.bytes)) = some (some (.slice none 0 0), 1, 24) := by kernel_rfl
theorem infoFd : (Try.prog.info? 47).map (fun i => (i.zero, i.size, i.bytes)) = some (some (.agg #[.int .i64 0, .slice none 0 0]), 2, 32) := by kernel_rfl

abbrev Sl := Option Addr × Nat
def blk (a : Sl) : Option Nat := a.1.map (·.block)
def Far (a b : Sl) : Prop := ∀ g, blk a = some g → blk b ≠ some g
theorem Far.symm {a b : Sl} (h : Far a b) : Far b a := fun g hb ha => h g ha hb
theorem ownBlock_slice (a : Sl) (n : Nat) : (Value.slice a.1 n a.2).ownBlock = blk a := by
  unfold blk; cases a.1 <;> rfl
def upQ {α : Type} (q : Nat → α) (n : Nat) (a : α) : Nat → α := fun i => if i = n then a else q i
theorem upQ_same {α : Type} (q : Nat → α) (n : Nat) (a : α) : upQ q n a n = a := if_pos rfl
theorem upQ_ne {α : Type} (q : Nat → α) {n i : Nat} (a : α) (h : i ≠ n) : upQ q n a i = q i := if_neg h
theorem getD_lt {α : Type} {xs : List α} {u d : α} {i : Nat} (h : i < xs.length) : (xs ++ [u]).getD i d = xs.getD i d := by
  rw [List.getD_eq_getElem?_getD, List.getD_eq_getElem?_getD, List.getElem?_append_left h]
theorem getD_last {α : Type} (xs : List α) (u d : α) : (xs ++ [u]).getD xs.length d = u := by
  rw [List.getD_eq_getElem?_getD, List.getElem?_append_right (Nat.le_refl _)]; simp

def lisC (ls : List (List Rc)) (q : Nat → Sl) : List Value := (List.range ls.length).map fun i => .slice (q i).1 (ls.getD i []).length (q i).2
def fedC (fs : List Fp) (q : Nat → Sl) : List Value := (List.range fs.length).flatMap fun i => [.int .i64 (fs.getD i default).op, .slice (q i).1 (fs.getD i default).parts.length (q i).2]
theorem lisC_get {ls : List (List Rc)} {q : Nat → Sl} {i : Nat} (hi : i < ls.length) : (lisC ls q)[i]? = some (.slice (q i).1 (ls.getD i []).length (q i).2) := by
  unfold lisC; rw [List.getElem?_map, List.getElem?_range hi]; rfl
theorem lisC_snoc (ls : List (List Rc)) (q : Nat → Sl) (r : List Rc) (a : Sl) : lisC (ls ++ [r]) (upQ q ls.length a) = lisC ls q ++ [.slice a.1 r.length a.2] := by
  unfold lisC
  rw [show (ls ++ [r]).length = ls.length + 1 by simp, List.range_succ, List.map_append]
  congr 1
  · apply List.map_congr_left
    intro i hi
    have hi' : i < ls.length := List.mem_range.1 hi
    rw [getD_lt hi', upQ_ne _ _ (by omega)]
  · rw [List.map_cons, List.map_nil, getD_last, upQ_same]
theorem flat2_len {f : Nat → List Value} (h : ∀ i, (f i).length = 2) (n : Nat) : ((List.range n).flatMap f).length = n * 2 := by
  induction n with
  | zero => rfl
  | succ n ih => rw [List.range_succ, List.flatMap_append, List.length_append, ih]; simp [h]; omega
theorem flat2_get {f : Nat → List Value} (h : ∀ i, (f i).length = 2) {n i j : Nat} (hi : i < n) (hj : j < 2) : ((List.range n).flatMap f)[i * 2 + j]? = (f i)[j]? := by
  induction n with
  | zero => omega
  | succ n ih =>
    rw [List.range_succ, List.flatMap_append]
    have hl := flat2_len h n
    rcases (show i < n ∨ i = n by omega) with h1 | rfl
    · rw [List.getElem?_append_left (by rw [hl]; omega)]; exact ih h1
    · rw [List.getElem?_append_right (by rw [hl]; omega), hl]; simp
theorem fedC_get {fs : List Fp} {q : Nat → Sl} {i j : Nat} (hi : i < fs.length) (hj : j < 2) : (fedC fs q)[i * 2 + j]? = some (if j = 0 then .int .i64 (fs.getD i default).op else .slice (q i).1 (fs.getD i default).parts.length (q i).2) := by
  unfold fedC
  rw [flat2_get (fun _ => rfl) hi hj]
  rcases (show j = 0 ∨ j = 1 by omega) with rfl | rfl <;> rfl
theorem fedC_snoc (fs : List Fp) (q : Nat → Sl) (f : Fp) (a : Sl) : fedC (fs ++ [f]) (upQ q fs.length a) = fedC fs q ++ [.int .i64 f.op, .slice a.1 f.parts.length a.2] := by
  unfold fedC
  rw [show (fs ++ [f]).length = fs.length + 1 by simp, List.range_succ, List.flatMap_append]
  congr 1
  · rw [List.flatMap_def, List.flatMap_def]
    congr 1
    apply List.map_congr_left
    intro i hi
    have hi' : i < fs.length := List.mem_range.1 hi
    rw [getD_lt hi', upQ_ne _ _ (by omega)]
  · rw [List.flatMap_cons, List.flatMap_nil, getD_last, upQ_same, List.append_nil]

/-- rows of unlike types stand in unlike blocks -/
theorem rows_ne {w : World} {B B2 : Nat} {e e2 : TypeId} (he : e ≠ e2) {v u : Value} {n n2 s s2 : Nat} {cs cs2 : List Value} (h : w.ownsRow B e s v n cs) (k : w.ownsRow B2 e2 s2 u n2 cs2) : u.ownBlock = none ∨ u.ownBlock ≠ v.ownBlock := by
  rcases k.2 with ⟨hv, -⟩ | ⟨g, cap, cur, hv, hg, hh, -⟩
  · left; rw [hv]; rfl
  · right
    rw [hv]
    intro e0
    rcases h.2 with ⟨hv2, -⟩ | ⟨g2, cap2, cur2, hv2, hg2, hh2, -⟩
    · rw [hv2] at e0; cases e0
    · rw [hv2] at e0
      have : g = g2 := by simpa [Value.ownBlock] using e0
      subst this
      rw [hh] at hh2
      injection hh2 with h1
      injection h1 with _ h2
      exact absurd h2.symm he
theorem tRL : 49 ≠ 57 := by decide
theorem tFR : 47 ≠ 57 := by decide
theorem tFL : 47 ≠ 49 := by decide

abbrev OwnR (w : World) (B : Nat) (v : Value) (xs : List Rc) : Prop := OwnP 57 w B v xs
/-- lists of records, each of the call's own, in blocks apart -/
def OwnL (w : World) (B : Nat) (v : Value) (ls : List (List Rc)) (q : Nat → Sl) : Prop :=
  w.ownsRow B 49 1 v ls.length (lisC ls q) ∧ (∀ i, i < ls.length → OwnR w B (.slice (q i).1 (ls.getD i []).length (q i).2) (ls.getD i [])) ∧ ∀ i j, i < j → j < ls.length → Far (q i) (q j)
/-- feeds, likewise -/
def OwnF (w : World) (B : Nat) (v : Value) (fs : List Fp) (q : Nat → Sl) (p : Nat → Nat → Sl) : Prop :=
  w.ownsRow B 47 2 v fs.length (fedC fs q) ∧ (∀ i, i < fs.length → In64 (fs.getD i default).op ∧ OwnL w B (.slice (q i).1 (fs.getD i default).parts.length (q i).2) (fs.getD i default).parts (p i)) ∧
    (∀ i j, i < j → j < fs.length → Far (q i) (q j)) ∧ ∀ i j k m, i < j → j < fs.length → k < (fs.getD i default).parts.length → m < (fs.getD j default).parts.length → Far (p i k) (p j m)
theorem below_grown {w w' : World} (hb : Below w.heap.size w w') : w.grownBy w' none := ⟨hb.os, hb.tape, hb.output, hb.size, fun k hk _ => hb.block k hk⟩
theorem ne_none (o : Option Nat) : o = none ∨ o ≠ none := by cases o <;> simp
section
variable {w w' : World} {B B' : Nat} {v : Value} {ls : List (List Rc)} {fs : List Fp} {q : Nat → Sl} {p : Nat → Nat → Sl} {row : Option Nat}
theorem OwnL.nil (w : World) (B : Nat) (q : Nat → Sl) : OwnL w B (.slice none 0 0) [] q := ⟨World.ownsRow_nil _ _ _ _, fun i hi => absurd hi (by simp), fun i j _ hj => absurd hj (by simp)⟩
theorem OwnL.mono (h : OwnL w B v ls q) (hB : B' ≤ B) : OwnL w B' v ls q := ⟨h.1.mono hB, fun i hi => (h.2.1 i hi).mono hB, h.2.2⟩
theorem OwnL.grown (h : OwnL w B v ls q) (hg : w.grownBy w' row) (hne : v.ownBlock = none ∨ v.ownBlock ≠ row) (hne2 : ∀ i, i < ls.length → blk (q i) = none ∨ blk (q i) ≠ row) : OwnL w' B v ls q :=
  ⟨h.1.kept hg hne, fun i hi => (h.2.1 i hi).grown hg (by rw [ownBlock_slice]; exact hne2 i hi), h.2.2⟩
theorem OwnL.below (h : OwnL w B v ls q) (hb : Below w.heap.size w w') : OwnL w' B v ls q := h.grown (below_grown hb) (ne_none _) (fun _ _ => ne_none _)
theorem OwnL.alloc (h : OwnL w B v ls q) (o : Obj) : OwnL (w.alloc o) B v ls q := h.below ((Below.refl _ _).alloc (Nat.le_refl _) o)
theorem OwnL.form (h : OwnL w B v ls q) : ∃ A c, v = .slice A ls.length c := by
  rcases h.1.2 with ⟨hv, hn⟩ | ⟨g, cap, cur, hv, -⟩
  · exact ⟨none, 0, by rw [hv, hn]⟩
  · exact ⟨_, cap, hv⟩
theorem OwnL.lt (h : OwnL w B v ls q) : ∀ g, v.ownBlock = some g → B ≤ g ∧ g < w.heap.size := h.1.lt
theorem OwnL.ltQ (h : OwnL w B v ls q) {i : Nat} (hi : i < ls.length) {g : Nat} (hg : blk (q i) = some g) : B ≤ g ∧ g < w.heap.size := (h.2.1 i hi).blk g (by rw [ownBlock_slice]; exact hg)
theorem OwnL.lists {A : Option Addr} {n c : Nat} (h : OwnL w B (.slice A n c) ls q) (hl : ls.length ≤ LB) (hr : ∀ i, i < ls.length → (ls.getD i []).length ≤ LB) : IsLists w w.heap.size A c ls := by
  have he : ∀ i, i < ls.length → IsRecs w w.heap.size (q i).1 (q i).2 (ls.getD i []) := fun i hi => ⟨(h.2.1 i hi).pairs, hr i hi⟩
  rcases h.1.2 with ⟨hv, hn⟩ | ⟨g, cap, cur, hv, hg, hh, hc, hm, hs, ht⟩
  · injection hv with e1 e2 e3
    subst e1; subst e3
    exact ⟨q, by rw [hn]; exact Lies.zero _ _, by omega, Nat.zero_le _, hl, he⟩
  · injection hv with e1 e2 e3
    subst e1; subst e3
    have hlt : g < w.heap.size := (h.1.lt g rfl).2
    refine ⟨q, fun hn => ⟨g, 0, rfl, hlt, fun i hi j hj => ?_⟩, hc, hm, hl, he⟩
    have hcell := h.1.cells (g := g) rfl i _ (lisC_get hi)
    obtain rfl : j = 0 := by omega
    rw [Go.WideShapes.add_plain] at hcell
    simpa using hcell
theorem OwnF.nil (w : World) (B : Nat) (q : Nat → Sl) (p : Nat → Nat → Sl) : OwnF w B (.slice none 0 0) [] q p := ⟨World.ownsRow_nil _ _ _ _, fun i hi => absurd hi (by simp), fun i j _ hj => absurd hj (by simp), fun i j _ _ _ hj => absurd hj (by simp)⟩
theorem OwnF.mono (h : OwnF w B v fs q p) (hB : B' ≤ B) : OwnF w B' v fs q p := ⟨h.1.mono hB, fun i hi => ⟨(h.2.1 i hi).1, (h.2.1 i hi).2.mono hB⟩, h.2.2⟩
theorem OwnF.below (h : OwnF w B v fs q p) (hb : Below w.heap.size w w') : OwnF w' B v fs q p := ⟨h.1.kept (below_grown hb) (ne_none _), fun i hi => ⟨(h.2.1 i hi).1, (h.2.1 i hi).2.below hb⟩, h.2.2⟩
theorem OwnF.form (h : OwnF w B v fs q p) : ∃ A c, v = .slice A fs.length c := by
  rcases h.1.2 with ⟨hv, hn⟩ | ⟨g, cap, cur, hv, -⟩
  · exact ⟨none, 0, by rw [hv, hn]⟩
  · exact ⟨_, cap, hv⟩
theorem OwnF.lt (h : OwnF w B v fs q p) : ∀ g, v.ownBlock = some g → B ≤ g ∧ g < w.heap.size := h.1.lt
/-- no list is longer than the statements go through -/
def Short (fs : List Fp) : Prop := fs.length ≤ LB ∧ (∀ i, i < fs.length → (fs.getD i default).parts.length ≤ LB) ∧ ∀ i k, i < fs.length → k < (fs.getD i default).parts.length → ((fs.getD i default).parts.getD k []).length ≤ LB
theorem OwnF.feeds {A : Option Addr} {n c : Nat} (h : OwnF w B (.slice A n c) fs q p) (hs : Short fs) : IsFeeds w w.heap.size A c fs := by
  have he : ∀ i, i < fs.length → In64 (fs.getD i default).op ∧ IsLists w w.heap.size (q i).1 (q i).2 (fs.getD i default).parts := fun i hi => ⟨(h.2.1 i hi).1, (h.2.1 i hi).2.lists (hs.2.1 i hi) (fun k hk => hs.2.2 i k hi hk)⟩
  rcases h.1.2 with ⟨hv, hn⟩ | ⟨g, cap, cur, hv, hg, hh, hc, hm, hs2, ht⟩
  · injection hv with e1 e2 e3
    subst e1; subst e3
    exact ⟨q, by rw [hn]; exact Lies.zero _ _, by omega, Nat.zero_le _, hs.1, he⟩
  · injection hv with e1 e2 e3
    subst e1; subst e3
    have hlt : g < w.heap.size := (h.1.lt g rfl).2
    refine ⟨q, fun hn => ⟨g, 0, rfl, hlt, fun i hi j hj => ?_⟩, hc, hm, hs.1, he⟩
    have hcell := h.1.cells (g := g) rfl (i * 2 + j) _ (fedC_get hi hj)
    rw [Go.WideShapes.add_plain] at hcell
    simpa [Nat.add_assoc] using hcell
end

section
variable {o : Oper} {a : Act} {w : World} {B : Nat} {v : Value} {ls : List (List Rc)} {fs : List Fp} {q : Nat → Sl} {p : Nat → Nat → Sl}
theorem OwnL.snoc {w' : World} {v' : Value} {r : List Rc} {x : Sl} (h : OwnL w B v ls q) (hr : OwnR w B (.slice x.1 r.length x.2) r) (hf : ∀ i, i < ls.length → Far (q i) x)
    (h1 : w'.ownsRow B 49 1 v' (ls.length + 1) (lisC ls q ++ [.slice x.1 r.length x.2])) (hg : w.grownBy w' v.ownBlock) : OwnL w' B v' (ls ++ [r]) (upQ q ls.length x) := by
  have hne : ∀ {u : Value} {xs : List Rc}, OwnR w B u xs → u.ownBlock = none ∨ u.ownBlock ≠ v.ownBlock := fun k => rows_ne tRL h.1 k.1
  refine ⟨?_, fun i hi => ?_, fun i j hij hj => ?_⟩
  · rw [List.length_append, lisC_snoc]; exact h1
  · rw [List.length_append] at hi
    simp at hi
    by_cases hlt : i < ls.length
    · rw [getD_lt hlt, upQ_ne _ _ (by omega)]
      exact (h.2.1 i hlt).grown hg (hne (h.2.1 i hlt))
    · obtain rfl : i = ls.length := by omega
      rw [getD_last, upQ_same]
      exact hr.grown hg (hne hr)
  · rw [List.length_append] at hj
    simp at hj
    rw [upQ_ne _ _ (show i ≠ ls.length by omega)]
    by_cases hlt : j < ls.length
    · rw [upQ_ne _ _ (by omega)]; exact h.2.2 i j hij hlt
    · obtain rfl : j = ls.length := by omega
      rw [upQ_same]; exact hf i hij
theorem OwnF.snoc {w' : World} {v' : Value} {f : Fp} {x : Sl} {px : Nat → Sl} (h : OwnF w B v fs q p) (h64 : In64 f.op) (hr : OwnL w B (.slice x.1 f.parts.length x.2) f.parts px) (hf : ∀ i, i < fs.length → Far (q i) x)
    (hf2 : ∀ i k m, i < fs.length → k < (fs.getD i default).parts.length → m < f.parts.length → Far (p i k) (px m))
    (h1 : w'.ownsRow B 47 2 v' (fs.length + 1) (fedC fs q ++ [.int .i64 f.op, .slice x.1 f.parts.length x.2])) (hg : w.grownBy w' v.ownBlock) : OwnF w' B v' (fs ++ [f]) (upQ q fs.length x) (upQ p fs.length px) := by
  have hne : ∀ {u : Value} {xs : List (List Rc)} {qq : Nat → Sl}, OwnL w B u xs qq → OwnL w' B u xs qq := fun k => k.grown hg (rows_ne tFL h.1 k.1) (fun i hi => by
    have := rows_ne tFR h.1 (k.2.1 i hi).1
    rwa [ownBlock_slice] at this)
  refine ⟨?_, fun i hi => ?_, fun i j hij hj => ?_, fun i j k m hij hj hk hm => ?_⟩
  · rw [List.length_append, fedC_snoc]; exact h1
  · rw [List.length_append] at hi
    simp at hi
    by_cases hlt : i < fs.length
    · rw [getD_lt hlt, upQ_ne _ _ (by omega), upQ_ne _ _ (by omega)]
      exact ⟨(h.2.1 i hlt).1, hne (h.2.1 i hlt).2⟩
    · obtain rfl : i = fs.length := by omega
      rw [getD_last, upQ_same, upQ_same]
      exact ⟨h64, hne hr⟩
  · rw [List.length_append] at hj
    simp at hj
    rw [upQ_ne _ _ (show i ≠ fs.length by omega)]
    by_cases hlt : j < fs.length
    · rw [upQ_ne _ _ (by omega)]; exact h.2.2.1 i j hij hlt
    · obtain rfl : j = fs.length := by omega
      rw [upQ_same]; exact hf i hij
  · rw [List.length_append] at hj
    simp at hj
    rw [getD_lt (show i < fs.length by omega)] at hk
    rw [upQ_ne _ _ (show i ≠ fs.length by omega)]
    by_cases hlt : j < fs.length
    · rw [getD_lt hlt] at hm
      rw [upQ_ne _ _ (by omega)]; exact h.2.2.2 i j k m hij hlt hk hm
    · obtain rfl : j = fs.length := by omega
      rw [getD_last] at hm
      rw [upQ_same]; exact hf2 i k m hij hk hm
/-- append of one list of records -/
theorem app_lists {ops : Array Oper} {rest : List Oper} {Q : Exit → Act → World → Prop} (hgd : o.guard = none) (s x : Operand)
    (ho : o.op = .call { callee := .builtin .append, args := #[s, x], argTypes := #[45, 45] }) (B : Nat) {r : List Rc} {z : Sl} (hown : OwnL w B v ls q) (hs : a.eval s = v) (hr : OwnR w B (.slice z.1 r.length z.2) r) (hf : ∀ i, i < ls.length → Far (q i) z)
    (hx : a.eval x = .slice (some ⟨w.heap.size, 0, none⟩) 1 1) (hlen : ls.length < 1000000000) (hB : B ≤ w.heap.size)
    (h : ∀ v' w2, OwnL w2 B v' (ls ++ [r]) (upQ q ls.length z) → Below B w w2 → wpList Try.prog ops Q rest (a.put o.dst v') w2) : wpList Try.prog ops Q (o :: rest) a (w.alloc (.cells #[.slice z.1 r.length z.2] 49)) := by
  obtain ⟨i0, hi, hz0, hz1, hz2⟩ := info_parts infoLs
  have hb := Blk.new w 49 #[.slice z.1 r.length z.2]
  refine wpList_append_own _ hgd s x 45 ho B 49 i0 _ 1 24 Try.underlying45 hi hz0 hz1 hz2 rfl (by decide) v ls.length _ hs (hown.1.alloc _) ⟨w.heap.size, 0, none⟩ 1 1 [.slice z.1 r.length z.2] hx rfl ?_ ?_ (by unfold maxLen; omega) (by omega) (by simp; omega) ?_
  · intro j u hj
    match j, hj with
    | 0, hj => simp at hj; subst hj; exact hb.cell 0
    | j + 1, hj => simp at hj
  · intro u hu
    have : u = .slice z.1 r.length z.2 := by simpa using hu
    subst this; rfl
  · intro v' w' h1 h2 _
    exact h v' w' ((hown.alloc _).snoc (hr.alloc _) hf h1 h2) (((Below.refl _ _).alloc hB _).grown h2 (by simp; omega) (fun g hg => (hown.lt g hg).1))
/-- append of one feed -/
theorem app_feed {ops : Array Oper} {rest : List Oper} {Q : Exit → Act → World → Prop} (hgd : o.guard = none) (s x : Operand)
    (ho : o.op = .call { callee := .builtin .append, args := #[s, x], argTypes := #[42, 42] }) (B : Nat) {f : Fp} {z : Sl} {px : Nat → Sl} (hown : OwnF w B v fs q p) (hs : a.eval s = v) (h64 : In64 f.op) (hr : OwnL w B (.slice z.1 f.parts.length z.2) f.parts px) (hf : ∀ i, i < fs.length → Far (q i) z)
    (hf2 : ∀ i k m, i < fs.length → k < (fs.getD i default).parts.length → m < f.parts.length → Far (p i k) (px m))
    (hx : a.eval x = .slice (some ⟨w.heap.size, 0, none⟩) 1 1) (hlen : fs.length < 1000000000) (hB : B ≤ w.heap.size)
    (h : ∀ v' w2, OwnF w2 B v' (fs ++ [f]) (upQ q fs.length z) (upQ p fs.length px) → Below B w w2 → wpList Try.prog ops Q rest (a.put o.dst v') w2) : wpList Try.prog ops Q (o :: rest) a (w.alloc (.cells #[.int .i64 f.op, .slice z.1 f.parts.length z.2] 47)) := by
  obtain ⟨i0, hi, hz0, hz1, hz2⟩ := info_parts infoFd
  have hb := Blk.new w 47 #[.int .i64 f.op, .slice z.1 f.parts.length z.2]
  refine wpList_append_own _ hgd s x 42 ho B 47 i0 _ 2 32 Try.underlying42 hi hz0 hz1 hz2 rfl (by decide) v fs.length _ hs (hown.1.alloc _) ⟨w.heap.size, 0, none⟩ 1 1 [.int .i64 f.op, .slice z.1 f.parts.length z.2] hx rfl ?_ ?_ (by unfold maxLen; omega) (by omega) (by simp; omega) ?_
  · intro j u hj
    match j, hj with
    | 0, hj => simp at hj; subst hj; exact hb.cell 0
    | 1, hj => simp at hj; subst hj; exact hb.cell 1
    | j + 2, hj => simp at hj
  · intro u hu
    simp at hu
    rcases hu with rfl | rfl <;> rfl
  · intro v' w' h1 h2 _
    exact h v' w' ((hown.below ((Below.refl _ _).alloc (Nat.le_refl _) _)).snoc h64 (hr.alloc _) hf hf2 h1 h2) (((Below.refl _ _).alloc hB _).grown h2 (by simp; omega) (fun g hg => (hown.lt g hg).1))
/-- the same in a region that draws its order -/
theorem wp_feed {K : Act → World → Prop} {Q : Exit → Act → World → Prop} (s x : Operand)
    (ho : o.op = .call { callee := .builtin .append, args := #[s, x], argTypes := #[42, 42] }) (B : Nat) {f : Fp} {z : Sl} {px : Nat → Sl} (hown : OwnF w B v fs q p) (hs : a.eval s = v) (h64 : In64 f.op) (hr : OwnL w B (.slice z.1 f.parts.length z.2) f.parts px) (hf : ∀ i, i < fs.length → Far (q i) z)
    (hf2 : ∀ i k m, i < fs.length → k < (fs.getD i default).parts.length → m < f.parts.length → Far (p i k) (px m))
    {g : Nat} (hx : a.eval x = .slice (some ⟨g, 0, none⟩) 1 1) (hb : Blk w g 47 #[.int .i64 f.op, .slice z.1 f.parts.length z.2]) (hlen : fs.length < 1000000000) (hB : B ≤ w.heap.size)
    (h : ∀ A c w2, OwnF w2 B (.slice A (fs.length + 1) c) (fs ++ [f]) (upQ q fs.length z) (upQ p fs.length px) → Below B w w2 → K (a.put o.dst (.slice A (fs.length + 1) c)) w2) : Oper.wp Try.prog o a w K Q := by
  obtain ⟨i0, hi, hz0, hz1, hz2⟩ := info_parts infoFd
  refine wp_append_lies w s x 42 ho B 47 i0 _ 2 32 Try.underlying42 hi hz0 hz1 hz2 rfl (by decide) v fs.length _ hs hown.1 ⟨g, 0, none⟩ 1 1 [.int .i64 f.op, .slice z.1 f.parts.length z.2] hx rfl ?_ ?_ (by decide) (by unfold maxLen; omega) (by omega) hB _ rfl ?_
  · intro j u hj
    match j, hj with
    | 0, hj => simp at hj; subst hj; exact hb.cell 0
    | 1, hj => simp at hj; subst hj; exact hb.cell 1
    | j + 2, hj => simp at hj
  · intro u hu
    simp at hu
    rcases hu with rfl | rfl <;> rfl
  · intro g' cap w' r1 r2 _ _
    exact h _ cap w' (hown.snoc h64 hr hf hf2 r1 r2) ((Below.refl _ _).grown r2 hB (fun g hg => (hown.lt g hg).1))
end

/-- calls that return feeds of their own -/
def RetLists (w : World) (ls : List (List Rc)) (e : Ending) (w' : World) : Prop := ∃ A c q, e = .returned (.slice A ls.length c) ∧ OwnL w' w.heap.size (.slice A ls.length c) ls q ∧ Below w.heap.size w w'
def RetFeeds (w : World) (fs : List Fp) (e : Ending) (w' : World) : Prop := ∃ A c q p, e = .returned (.slice A fs.length c) ∧ OwnF w' w.heap.size (.slice A fs.length c) fs q p ∧ Below w.heap.size w w'
theorem ret_lists {w w' : World} {v : Value} {ls : List (List Rc)} {q : Nat → Sl} (h : OwnL w' w.heap.size v ls q) (hb : Below w.heap.size w w') : RetLists w ls (.returned v) w' := by
  obtain ⟨A, c, rfl⟩ := h.form
  exact ⟨A, c, q, rfl, h, hb⟩
theorem ret_feeds {w w' : World} {v : Value} {fs : List Fp} {q : Nat → Sl} {p : Nat → Nat → Sl} (h : OwnF w' w.heap.size v fs q p) (hb : Below w.heap.size w w') : RetFeeds w fs (.returned v) w' := by
  obtain ⟨A, c, rfl⟩ := h.form
  exact ⟨A, c, q, p, rfl, h, hb⟩
end Go.Proofs.Ytaodbjgcidkpkaa.Fd
