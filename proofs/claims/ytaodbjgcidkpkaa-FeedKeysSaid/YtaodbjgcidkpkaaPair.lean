/- Lists of pairs of numbers (structs of two ints): read, made, appended to. No program's function is named. -/
import Derived.Test.YtaodbjgcidkpkaaOwn
import Derived.Deep.AppendLies
namespace Go.Proofs.Ytaodbjgcidkpkaa.M
open Go.RowKit

def cellP (x : Int × Int) : Nat → Value
  | 0 => .int .i64 x.1
  | _ => .int .i64 x.2
def In2 (x : Int × Int) : Prop := In64 x.1 ∧ In64 x.2
def IsPairs (w : World) (B : Nat) (A : Option Addr) (c : Nat) (xs : List (Int × Int)) : Prop :=
  Lies w B 2 A xs.length (fun i j => cellP (xs.getD i (0, 0)) j) ∧ xs.length ≤ c ∧ c ≤ maxLen ∧ ∀ x ∈ xs, In2 x
section
variable {w w' : World} {B B' : Nat} {A : Option Addr} {c : Nat} {xs : List (Int × Int)}
theorem IsPairs.below (h : IsPairs w B A c xs) (hb : Below B w w') : IsPairs w' B A c xs := ⟨h.1.below hb, h.2⟩
theorem IsPairs.more (h : IsPairs w B A c xs) (hB : B ≤ B') : IsPairs w B' A c xs := ⟨h.1.more hB, h.2⟩
theorem pairs_mem {k : Nat} (hk : k < xs.length) : xs.getD k (0, 0) ∈ xs := by
  rw [List.getD_eq_getElem?_getD, List.getElem?_eq_getElem hk]; exact List.getElem_mem hk
theorem pairs_at (h : IsPairs w B A c xs) {k : Nat} (hk : k < xs.length) : ∃ b o, ∃ x : Int × Int, A = some ⟨b, o, none⟩ ∧ b < B ∧ Hid (xs.getD k (0, 0) = x) ∧ In2 x ∧
    w.cell? ⟨b, o + k * 2, none⟩ = some (.int .i64 x.1) ∧ w.cell? ⟨b, o + k * 2 + 1, none⟩ = some (.int .i64 x.2) := by
  obtain ⟨b, o, e, hb, hc⟩ := h.1.at_ hk
  exact ⟨b, o, _, e, hb, Lib.hid rfl, h.2.2.2 _ (pairs_mem hk), by simpa [cellP] using hc 0 (by omega), by simpa [cellP] using hc 1 (by omega)⟩
theorem pairs_get {b o : Nat} (h : IsPairs w B (some ⟨b, o, none⟩) c xs) {k : Nat} (hk : k < xs.length) : ∃ x : Int × Int, Hid (xs.getD k (0, 0) = x) ∧ In2 x ∧
    w.cell? ⟨b, o + k * 2, none⟩ = some (.int .i64 x.1) ∧ w.cell? ⟨b, o + k * 2 + 1, none⟩ = some (.int .i64 x.2) := by
  obtain ⟨b', o', x, e, hb, hx, h2, c0, c1⟩ := pairs_at h hk
  simp only [Option.some.injEq, Addr.mk.injEq, and_true] at e
  obtain ⟨rfl, rfl⟩ := e
  exact ⟨x, hx, h2, c0, c1⟩
theorem IsPairs.len (h : IsPairs w B A c xs) : xs.length ≤ 9223372036854775807 := by have := h.2.1; have := h.2.2.1; unfold maxLen at this; omega
end

def pairCells (xs : List (Int × Int)) : List Value := xs.flatMap fun x => [.int .i64 x.1, .int .i64 x.2]
theorem pairCells_snoc (xs : List (Int × Int)) (u : Int × Int) : pairCells (xs ++ [u]) = pairCells xs ++ [.int .i64 u.1, .int .i64 u.2] := by simp [pairCells]
theorem pairCells_len (xs : List (Int × Int)) : (pairCells xs).length = xs.length * 2 := by
  induction xs with
  | nil => rfl
  | cons x xs ih => simp [pairCells] at *; omega
theorem pairCells_get {xs : List (Int × Int)} {i j : Nat} (hi : i < xs.length) (hj : j < 2) : (pairCells xs)[i * 2 + j]? = some (cellP (xs.getD i (0, 0)) j) := by
  induction xs generalizing i with
  | nil => simp at hi
  | cons x xs ih =>
    cases i with
    | zero => rcases (show j = 0 ∨ j = 1 by omega) with rfl | rfl <;> rfl
    | succ i =>
      have e : (i + 1) * 2 + j = (i * 2 + j) + 1 + 1 := by omega
      rw [e]
      have := ih (i := i) (by simpa using hi)
      simpa [pairCells] using this

/-- the value v is a list of the call's own, from block B on, of the pairs xs, of element type T -/
def OwnP (T : TypeId) (w : World) (B : Nat) (v : Value) (xs : List (Int × Int)) : Prop := w.ownsRow B T 2 v xs.length (pairCells xs) ∧ ∀ x ∈ xs, In2 x
section
variable {T : TypeId} {w w' : World} {B B' : Nat} {v : Value} {xs : List (Int × Int)}
theorem OwnP.nil (T : TypeId) (w : World) (B : Nat) : OwnP T w B (.slice none 0 0) [] := ⟨World.ownsRow_nil _ _ _ _, fun x hx => absurd hx (by simp)⟩
theorem OwnP.mono (h : OwnP T w B v xs) (hB : B' ≤ B) : OwnP T w B' v xs := ⟨h.1.mono hB, h.2⟩
theorem OwnP.blk (h : OwnP T w B v xs) : ∀ g, v.ownBlock = some g → B ≤ g ∧ g < w.heap.size := h.1.lt
theorem OwnP.below (h : OwnP T w B v xs) (hb : Below w.heap.size w w') : OwnP T w' B v xs := by
  refine ⟨h.1.kept (row := none) ⟨hb.os, hb.tape, hb.output, hb.size, fun k hk _ => hb.block k hk⟩ ?_, h.2⟩
  cases hv : v.ownBlock with
  | none => exact .inl rfl
  | some g => right; simp
theorem OwnP.drew (h : OwnP T w B v xs) : OwnP T w.drew B v xs := h
theorem OwnP.drewN (h : OwnP T w B v xs) (n : Nat) : OwnP T (w.drewN n) B v xs := h
theorem OwnP.alloc (h : OwnP T w B v xs) (o : Obj) : OwnP T (w.alloc o) B v xs := ⟨h.1.alloc o, h.2⟩
theorem OwnP.grown (h : OwnP T w B v xs) {row : Option Nat} (hg : w.grownBy w' row) (hne : v.ownBlock = none ∨ v.ownBlock ≠ row) : OwnP T w' B v xs := ⟨h.1.kept hg hne, h.2⟩
theorem OwnP.form (h : OwnP T w B v xs) : ∃ A c, v = .slice A xs.length c := by
  rcases h.1.2 with ⟨hv, hn⟩ | ⟨g, cap, cur, hv, -⟩
  · exact ⟨none, 0, by rw [hv, hn]⟩
  · exact ⟨_, cap, hv⟩
theorem OwnP.pairs {A : Option Addr} {n c : Nat} (h : OwnP T w B (.slice A n c) xs) : IsPairs w w.heap.size A c xs := by
  rcases h.1.2 with ⟨hv, hn⟩ | ⟨g, cap, cur, hv, hg, hh, hc, hm, hs, ht⟩
  · injection hv with e1 e2 e3
    subst e1; subst e3
    have : xs = [] := List.eq_nil_of_length_eq_zero hn
    subst this
    exact ⟨Lies.zero _ _, Nat.le_refl _, Nat.zero_le _, fun x hx => absurd hx (by simp)⟩
  · injection hv with e1 e2 e3
    subst e1; subst e3
    have hlt : g < w.heap.size := (h.1.lt g rfl).2
    refine ⟨fun hn => ⟨g, 0, rfl, hlt, fun i hi j hj => ?_⟩, hc, hm, h.2⟩
    have hcell := h.1.cells (g := g) rfl (i * 2 + j) _ (pairCells_get hi hj)
    rw [Go.WideShapes.add_plain] at hcell
    simpa [Nat.add_assoc] using hcell
theorem OwnP.own {A : Option Addr} {n c : Nat} (h : OwnP T w B (.slice A n c) xs) {b o : Nat} {s : Option Nat} (hA : A = some ⟨b, o, s⟩) : B ≤ b ∧ o = 0 ∧ s = none := by
  rcases h.1.2 with ⟨hv, hn⟩ | ⟨g, cap, cur, hv, hg, -⟩
  · injection hv with e1; rw [e1] at hA; cases hA
  · injection hv with e1; rw [e1] at hA; injection hA with hA; injection hA with a1 a2 a3; subst a1; subst a2; subst a3; exact ⟨hg, rfl, rfl⟩
end

/-- the tables say: T is a struct of two ints, ST a slice of them -/
def IsPT (T ST : TypeId) : Prop := Try.prog.underlying ST = some (.slice T) ∧ (Try.prog.info? T).map (fun i => (i.zero, i.size, i.bytes)) = some (some (.agg #[.int .i64 0, .int .i64 0]), 2, 16)

section
variable {T ST : TypeId} {o : Oper} {a : Act} {w : World} {B : Nat} {v : Value} {xs : List (Int × Int)} {u : Int × Int}
theorem news_pair {ad : Addr} (h0 : w.cell? ad = some (.int .i64 u.1)) (h1 : w.cell? (ad.add 1) = some (.int .i64 u.2)) : ∀ j x, [Value.int .i64 u.1, .int .i64 u.2][j]? = some x → w.cell? (ad.add j) = some x := by
  intro j x hj
  match j, hj with
  | 0, hj => simp at hj; subst hj; simpa [Addr.add] using h0
  | 1, hj => simp at hj; subst hj; exact h1
  | j + 2, hj => simp at hj
theorem news_one : ∀ x ∈ [Value.int .i64 u.1, .int .i64 u.2], x.oneCell' = true := by
  intro x hx
  simp at hx
  rcases hx with rfl | rfl <;> rfl
theorem own_pair {A : Value} {n : Nat} (hn : n = xs.length) (h1 : w.ownsRow B T 2 A (n + 1) (pairCells xs ++ [.int .i64 u.1, .int .i64 u.2])) (h2 : ∀ x ∈ xs, In2 x) (hu : In2 u) : OwnP T w B A (xs ++ [u]) := by
  subst hn
  refine ⟨?_, fun y hy => ?_⟩
  · rw [List.length_append, pairCells_snoc]; exact h1
  · rcases List.mem_append.1 hy with hy | hy
    · exact h2 y hy
    · have : y = u := by simpa using hy
      rw [this]; exact hu
/-- append of one pair -/
theorem app_pair (hT : IsPT T ST) {ops : Array Oper} {rest : List Oper} {Q : Exit → Act → World → Prop} (hgd : o.guard = none) (s x : Operand)
    (ho : o.op = .call { callee := .builtin .append, args := #[s, x], argTypes := #[ST, ST] }) (B : Nat) (hown : OwnP T w B v xs) (hs : a.eval s = v) (hu : In2 u)
    (hx : a.eval x = .slice (some ⟨w.heap.size, 0, none⟩) 1 1) (hlen : xs.length < 1000000000) (hB : B ≤ w.heap.size)
    (h : ∀ v' w2, OwnP T w2 B v' (xs ++ [u]) → Below B w w2 → wpList Try.prog ops Q rest (a.put o.dst v') w2) : wpList Try.prog ops Q (o :: rest) a (w.alloc (.cells #[.int .i64 u.1, .int .i64 u.2] T)) := by
  obtain ⟨i0, hi, hz0, hz1, hz2⟩ := info_parts hT.2
  have hb := Blk.new w T #[.int .i64 u.1, .int .i64 u.2]
  refine wpList_append_own _ hgd s x ST ho B T i0 _ 2 16 hT.1 hi hz0 hz1 hz2 rfl (by decide) v xs.length _ hs (hown.1.alloc _) ⟨w.heap.size, 0, none⟩ 1 1 [.int .i64 u.1, .int .i64 u.2] hx rfl (news_pair (hb.cell 0) (hb.cell 1)) news_one (by unfold maxLen; omega) (by omega) (by simp; omega) ?_
  intro v' w' h1 h2 _
  exact h v' w' (own_pair rfl h1 hown.2 hu) (((Below.refl _ _).alloc hB _).grown h2 (by simp; omega) (fun g hg => (hown.blk g hg).1))
/-- the same, the new block's number by an equation -/
theorem app_pairN (hT : IsPT T ST) {ops : Array Oper} {rest : List Oper} {Q : Exit → Act → World → Prop} (hgd : o.guard = none) (s x : Operand)
    (ho : o.op = .call { callee := .builtin .append, args := #[s, x], argTypes := #[ST, ST] }) (B : Nat) (hown : OwnP T w B v xs) (hs : a.eval s = v) (hu : In2 u)
    (n : Nat) (hn : w.heap.size = n) (hx : a.eval x = .slice (some ⟨n, 0, none⟩) 1 1) (hlen : xs.length < 1000000000) (hB : B ≤ w.heap.size)
    (h : ∀ v' w2, OwnP T w2 B v' (xs ++ [u]) → Below B w w2 → wpList Try.prog ops Q rest (a.put o.dst v') w2) : wpList Try.prog ops Q (o :: rest) a (w.alloc (.cells #[.int .i64 u.1, .int .i64 u.2] T)) := by
  subst hn; exact app_pair hT hgd s x ho B hown hs hu hx hlen hB h
/-- append of one pair, in a region that draws its order; the new cells at an address -/
theorem wp_pair (hT : IsPT T ST) {K : Act → World → Prop} {Q : Exit → Act → World → Prop} (s x : Operand)
    (ho : o.op = .call { callee := .builtin .append, args := #[s, x], argTypes := #[ST, ST] }) (B : Nat) (hs : a.eval s = v) (hown : OwnP T w B v xs) (hu : In2 u)
    (ad : Addr) {c : Nat} (hx : a.eval x = .slice (some ad) 1 c) (h0 : w.cell? ad = some (.int .i64 u.1)) (h1 : w.cell? (ad.add 1) = some (.int .i64 u.2)) (hlen : xs.length < 1000000000) (hB : B ≤ w.heap.size)
    (h : ∀ A c w', OwnP T w' B (.slice A (xs.length + 1) c) (xs ++ [u]) → w.grownBy w' v.ownBlock → K (a.put o.dst (.slice A (xs.length + 1) c)) w') :
    Oper.wp Try.prog o a w K Q := by
  obtain ⟨i0, hi, hz0, hz1, hz2⟩ := info_parts hT.2
  refine wp_append_lies w s x ST ho B T i0 _ 2 16 hT.1 hi hz0 hz1 hz2 rfl (by decide) v xs.length _ hs hown.1 ad 1 c [.int .i64 u.1, .int .i64 u.2] hx rfl (news_pair h0 h1) news_one (by decide) (by unfold maxLen; omega) (by omega) hB _ rfl ?_
  intro g cap w' h1 h2 _ _
  exact h _ cap w' (own_pair rfl h1 hown.2 hu) h2
end

/-- a call returns a list of its own -/
def RetPairs (T : TypeId) (w : World) (xs : List (Int × Int)) (e : Ending) (w' : World) : Prop := ∃ A c, e = .returned (.slice A xs.length c) ∧ OwnP T w' w.heap.size (.slice A xs.length c) xs ∧ Below w.heap.size w w'
theorem ret_pairs {T : TypeId} {w w' : World} {v : Value} {xs : List (Int × Int)} (h : OwnP T w' w.heap.size v xs) (hb : Below w.heap.size w w') : RetPairs T w xs (.returned v) w' := by
  obtain ⟨A, c, rfl⟩ := h.form
  exact ⟨A, c, rfl, h, hb⟩
/-- a list's head of pairs, one more -/
theorem pairs_take {xs : List (Int × Int)} {k : Nat} {x : Int × Int} (hk : k < xs.length) (hx : xs.getD k (0, 0) = x) : xs.take (k + 1) = xs.take k ++ [x] := by
  rw [List.take_add_one, List.getElem?_eq_getElem hk]
  have : xs[k] = x := by rw [← hx, List.getD_eq_getElem?_getD, List.getElem?_eq_getElem hk]; rfl
  rw [this]; rfl
end Go.Proofs.Ytaodbjgcidkpkaa.M
