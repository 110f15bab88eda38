/- Lists of fours of numbers (structs of four ints): read, made, appended to. No program's function is named. -/
import Derived.Test.YtaodbjgcidkpkaaOwn
import Derived.Deep.AppendLies
namespace Go.Proofs.Ytaodbjgcidkpkaa.M
open Go.RowKit

abbrev Q4 := Int × Int × Int × Int
def z4 : Q4 := (0, 0, 0, 0)
def cellQ (x : Q4) : Nat → Value
  | 0 => .int .i64 x.1
  | 1 => .int .i64 x.2.1
  | 2 => .int .i64 x.2.2.1
  | _ => .int .i64 x.2.2.2
def In4 (x : Q4) : Prop := In64 x.1 ∧ In64 x.2.1 ∧ In64 x.2.2.1 ∧ In64 x.2.2.2
def IsQuads (w : World) (B : Nat) (A : Option Addr) (c : Nat) (xs : List (Q4)) : Prop :=
  Lies w B 4 A xs.length (fun i j => cellQ (xs.getD i z4) j) ∧ xs.length ≤ c ∧ c ≤ maxLen ∧ ∀ x ∈ xs, In4 x
section
variable {w w' : World} {B B' : Nat} {A : Option Addr} {c : Nat} {xs : List (Q4)}
theorem IsQuads.below (h : IsQuads w B A c xs) (hb : Below B w w') : IsQuads w' B A c xs := ⟨h.1.below hb, h.2⟩
theorem IsQuads.more (h : IsQuads w B A c xs) (hB : B ≤ B') : IsQuads w B' A c xs := ⟨h.1.more hB, h.2⟩
theorem quads_mem {k : Nat} (hk : k < xs.length) : xs.getD k z4 ∈ xs := by
  rw [List.getD_eq_getElem?_getD, List.getElem?_eq_getElem hk]; exact List.getElem_mem hk
theorem quads_at (h : IsQuads w B A c xs) {k : Nat} (hk : k < xs.length) : ∃ b o, ∃ x : Q4, A = some ⟨b, o, none⟩ ∧ b < B ∧ Hid (xs.getD k z4 = x) ∧ In4 x ∧
    w.cell? ⟨b, o + k * 4, none⟩ = some (.int .i64 x.1) ∧ w.cell? ⟨b, o + k * 4 + 1, none⟩ = some (.int .i64 x.2.1) ∧ w.cell? ⟨b, o + k * 4 + 2, none⟩ = some (.int .i64 x.2.2.1) ∧ w.cell? ⟨b, o + k * 4 + 3, none⟩ = some (.int .i64 x.2.2.2) := by
  obtain ⟨b, o, e, hb, hc⟩ := h.1.at_ hk
  exact ⟨b, o, _, e, hb, Lib.hid rfl, h.2.2.2 _ (quads_mem hk), by simpa [cellQ] using hc 0 (by omega), by simpa [cellQ] using hc 1 (by omega), by simpa [cellQ] using hc 2 (by omega), by simpa [cellQ] using hc 3 (by omega)⟩
theorem quads_get {b o : Nat} (h : IsQuads w B (some ⟨b, o, none⟩) c xs) {k : Nat} (hk : k < xs.length) : ∃ x : Q4, Hid (xs.getD k z4 = x) ∧ In4 x ∧
    w.cell? ⟨b, o + k * 4, none⟩ = some (.int .i64 x.1) ∧ w.cell? ⟨b, o + k * 4 + 1, none⟩ = some (.int .i64 x.2.1) ∧ w.cell? ⟨b, o + k * 4 + 2, none⟩ = some (.int .i64 x.2.2.1) ∧ w.cell? ⟨b, o + k * 4 + 3, none⟩ = some (.int .i64 x.2.2.2) := by
  obtain ⟨b', o', x, e, hb, hx, h2, c0, c1, c2, c3⟩ := quads_at h hk
  simp only [Option.some.injEq, Addr.mk.injEq, and_true] at e
  obtain ⟨rfl, rfl⟩ := e
  exact ⟨x, hx, h2, c0, c1, c2, c3⟩
theorem IsQuads.len (h : IsQuads w B A c xs) : xs.length ≤ 9223372036854775807 := by have := h.2.1; have := h.2.2.1; unfold maxLen at this; omega
end

def quadCells (xs : List (Q4)) : List Value := xs.flatMap fun x => [.int .i64 x.1, .int .i64 x.2.1, .int .i64 x.2.2.1, .int .i64 x.2.2.2]
theorem quadCells_snoc (xs : List (Q4)) (u : Q4) : quadCells (xs ++ [u]) = quadCells xs ++ [.int .i64 u.1, .int .i64 u.2.1, .int .i64 u.2.2.1, .int .i64 u.2.2.2] := by simp [quadCells]
theorem quadCells_len (xs : List (Q4)) : (quadCells xs).length = xs.length * 4 := by
  induction xs with
  | nil => rfl
  | cons x xs ih => simp [quadCells] at *; omega
theorem quadCells_get {xs : List (Q4)} {i j : Nat} (hi : i < xs.length) (hj : j < 4) : (quadCells xs)[i * 4 + j]? = some (cellQ (xs.getD i z4) j) := by
  induction xs generalizing i with
  | nil => simp at hi
  | cons x xs ih =>
    cases i with
    | zero => rcases (show j = 0 ∨ j = 1 ∨ j = 2 ∨ j = 3 by omega) with rfl | rfl | rfl | rfl <;> rfl
    | succ i =>
      have e : (i + 1) * 4 + j = (i * 4 + j) + 1 + 1 + 1 + 1 := by omega
      rw [e]
      have := ih (i := i) (by simpa using hi)
      simpa [quadCells] using this

/-- the value v is a list of the call's own, from block B on, of the pairs xs, of element type T -/
def OwnQ (T : TypeId) (w : World) (B : Nat) (v : Value) (xs : List (Q4)) : Prop := w.ownsRow B T 4 v xs.length (quadCells xs) ∧ ∀ x ∈ xs, In4 x
section
variable {T : TypeId} {w w' : World} {B B' : Nat} {v : Value} {xs : List (Q4)}
theorem OwnQ.nil (T : TypeId) (w : World) (B : Nat) : OwnQ T w B (.slice none 0 0) [] := ⟨World.ownsRow_nil _ _ _ _, fun x hx => absurd hx (by simp)⟩
theorem OwnQ.mono (h : OwnQ T w B v xs) (hB : B' ≤ B) : OwnQ T w B' v xs := ⟨h.1.mono hB, h.2⟩
theorem OwnQ.blk (h : OwnQ T w B v xs) : ∀ g, v.ownBlock = some g → B ≤ g ∧ g < w.heap.size := h.1.lt
theorem OwnQ.below (h : OwnQ T w B v xs) (hb : Below w.heap.size w w') : OwnQ T w' B v xs := by
  refine ⟨h.1.kept (row := none) ⟨hb.os, hb.tape, hb.output, hb.size, fun k hk _ => hb.block k hk⟩ ?_, h.2⟩
  cases hv : v.ownBlock with
  | none => exact .inl rfl
  | some g => right; simp
theorem OwnQ.drew (h : OwnQ T w B v xs) : OwnQ T w.drew B v xs := h
theorem OwnQ.drewN (h : OwnQ T w B v xs) (n : Nat) : OwnQ T (w.drewN n) B v xs := h
theorem OwnQ.alloc (h : OwnQ T w B v xs) (o : Obj) : OwnQ T (w.alloc o) B v xs := ⟨h.1.alloc o, h.2⟩
theorem OwnQ.grown (h : OwnQ T w B v xs) {row : Option Nat} (hg : w.grownBy w' row) (hne : v.ownBlock = none ∨ v.ownBlock ≠ row) : OwnQ T w' B v xs := ⟨h.1.kept hg hne, h.2⟩
theorem OwnQ.form (h : OwnQ T w B v xs) : ∃ A c, v = .slice A xs.length c := by
  rcases h.1.2 with ⟨hv, hn⟩ | ⟨g, cap, cur, hv, -⟩
  · exact ⟨none, 0, by rw [hv, hn]⟩
  · exact ⟨_, cap, hv⟩
theorem OwnQ.quads {A : Option Addr} {n c : Nat} (h : OwnQ T w B (.slice A n c) xs) : IsQuads w w.heap.size A c xs := by
  rcases h.1.2 with ⟨hv, hn⟩ | ⟨g, cap, cur, hv, hg, hh, hc, hm, hs, ht⟩
  · injection hv with e1 e2 e3
    subst e1; subst e3
    have : xs = [] := List.eq_nil_of_length_eq_zero hn
    subst this
    exact ⟨Lies.zero _ _, Nat.le_refl _, Nat.zero_le _, fun x hx => absurd hx (by simp)⟩
  · injection hv with e1 e2 e3
    subst e1; subst e3
    have hlt : g < w.heap.size := (h.1.lt g rfl).2
    refine ⟨fun hn => ⟨g, 0, rfl, hlt, fun i hi j hj => ?_⟩, hc, hm, h.2⟩
    have hcell := h.1.cells (g := g) rfl (i * 4 + j) _ (quadCells_get hi hj)
    rw [Go.WideShapes.add_plain] at hcell
    simpa [Nat.add_assoc] using hcell
theorem OwnQ.own {A : Option Addr} {n c : Nat} (h : OwnQ T w B (.slice A n c) xs) {b o : Nat} {s : Option Nat} (hA : A = some ⟨b, o, s⟩) : B ≤ b ∧ o = 0 ∧ s = none := by
  rcases h.1.2 with ⟨hv, hn⟩ | ⟨g, cap, cur, hv, hg, -⟩
  · injection hv with e1; rw [e1] at hA; cases hA
  · injection hv with e1; rw [e1] at hA; injection hA with hA; injection hA with a1 a2 a3; subst a1; subst a2; subst a3; exact ⟨hg, rfl, rfl⟩
end

/-- the tables say: T is a struct of four ints, ST a slice of them -/
def IsQT (T ST : TypeId) : Prop := Try.prog.underlying ST = some (.slice T) ∧ (Try.prog.info? T).map (fun i => (i.zero, i.size, i.bytes)) = some (some (.agg #[.int .i64 0, .int .i64 0, .int .i64 0, .int .i64 0]), 4, 32)

section
variable {T ST : TypeId} {o : Oper} {a : Act} {w : World} {B : Nat} {v : Value} {xs : List (Q4)} {u : Q4}
theorem news_quad {ad : Addr} (h0 : w.cell? ad = some (.int .i64 u.1)) (h1 : w.cell? (ad.add 1) = some (.int .i64 u.2.1)) (h2 : w.cell? (ad.add 2) = some (.int .i64 u.2.2.1)) (h3 : w.cell? (ad.add 3) = some (.int .i64 u.2.2.2)) : ∀ j x, [Value.int .i64 u.1, .int .i64 u.2.1, .int .i64 u.2.2.1, .int .i64 u.2.2.2][j]? = some x → w.cell? (ad.add j) = some x := by
  intro j x hj
  match j, hj with
  | 0, hj => simp at hj; subst hj; simpa [Addr.add] using h0
  | 1, hj => simp at hj; subst hj; exact h1
  | 2, hj => simp at hj; subst hj; exact h2
  | 3, hj => simp at hj; subst hj; exact h3
  | j + 4, hj => simp at hj
theorem news_one4 : ∀ x ∈ [Value.int .i64 u.1, .int .i64 u.2.1, .int .i64 u.2.2.1, .int .i64 u.2.2.2], x.oneCell' = true := by
  intro x hx
  simp at hx
  rcases hx with rfl | rfl | rfl | rfl <;> rfl
theorem own_quad {A : Value} {n : Nat} (hn : n = xs.length) (h1 : w.ownsRow B T 4 A (n + 1) (quadCells xs ++ [.int .i64 u.1, .int .i64 u.2.1, .int .i64 u.2.2.1, .int .i64 u.2.2.2])) (h2 : ∀ x ∈ xs, In4 x) (hu : In4 u) : OwnQ T w B A (xs ++ [u]) := by
  subst hn
  refine ⟨?_, fun y hy => ?_⟩
  · rw [List.length_append, quadCells_snoc]; exact h1
  · rcases List.mem_append.1 hy with hy | hy
    · exact h2 y hy
    · have : y = u := by simpa using hy
      rw [this]; exact hu
/-- append of one pair -/
theorem app_quad (hT : IsQT T ST) {ops : Array Oper} {rest : List Oper} {Q : Exit → Act → World → Prop} (hgd : o.guard = none) (s x : Operand)
    (ho : o.op = .call { callee := .builtin .append, args := #[s, x], argTypes := #[ST, ST] }) (B : Nat) (hown : OwnQ T w B v xs) (hs : a.eval s = v) (hu : In4 u)
    (hx : a.eval x = .slice (some ⟨w.heap.size, 0, none⟩) 1 1) (hlen : xs.length < 1000000000) (hB : B ≤ w.heap.size)
    (h : ∀ v' w2, OwnQ T w2 B v' (xs ++ [u]) → Below B w w2 → wpList Try.prog ops Q rest (a.put o.dst v') w2) : wpList Try.prog ops Q (o :: rest) a (w.alloc (.cells #[.int .i64 u.1, .int .i64 u.2.1, .int .i64 u.2.2.1, .int .i64 u.2.2.2] T)) := by
  obtain ⟨i0, hi, hz0, hz1, hz2⟩ := info_parts hT.2
  have hb := Blk.new w T #[.int .i64 u.1, .int .i64 u.2.1, .int .i64 u.2.2.1, .int .i64 u.2.2.2]
  refine wpList_append_own _ hgd s x ST ho B T i0 _ 4 32 hT.1 hi hz0 hz1 hz2 rfl (by decide) v xs.length _ hs (hown.1.alloc _) ⟨w.heap.size, 0, none⟩ 1 1 [.int .i64 u.1, .int .i64 u.2.1, .int .i64 u.2.2.1, .int .i64 u.2.2.2] hx rfl (news_quad (hb.cell 0) (hb.cell 1) (hb.cell 2) (hb.cell 3)) news_one4 (by unfold maxLen; omega) (by omega) (by simp; omega) ?_
  intro v' w' h1 h2 _
  exact h v' w' (own_quad rfl h1 hown.2 hu) (((Below.refl _ _).alloc hB _).grown h2 (by simp; omega) (fun g hg => (hown.blk g hg).1))
/-- the same, the new block's number by an equation -/
theorem app_quadN (hT : IsQT T ST) {ops : Array Oper} {rest : List Oper} {Q : Exit → Act → World → Prop} (hgd : o.guard = none) (s x : Operand)
    (ho : o.op = .call { callee := .builtin .append, args := #[s, x], argTypes := #[ST, ST] }) (B : Nat) (hown : OwnQ T w B v xs) (hs : a.eval s = v) (hu : In4 u)
    (n : Nat) (hn : w.heap.size = n) (hx : a.eval x = .slice (some ⟨n, 0, none⟩) 1 1) (hlen : xs.length < 1000000000) (hB : B ≤ w.heap.size)
    (h : ∀ v' w2, OwnQ T w2 B v' (xs ++ [u]) → Below B w w2 → wpList Try.prog ops Q rest (a.put o.dst v') w2) : wpList Try.prog ops Q (o :: rest) a (w.alloc (.cells #[.int .i64 u.1, .int .i64 u.2.1, .int .i64 u.2.2.1, .int .i64 u.2.2.2] T)) := by
  subst hn; exact app_quad hT hgd s x ho B hown hs hu hx hlen hB h
/-- append of one pair, in a region that draws its order; the new cells at an address -/
theorem wp_quad (hT : IsQT T ST) {K : Act → World → Prop} {Q : Exit → Act → World → Prop} (s x : Operand)
    (ho : o.op = .call { callee := .builtin .append, args := #[s, x], argTypes := #[ST, ST] }) (B : Nat) (hs : a.eval s = v) (hown : OwnQ T w B v xs) (hu : In4 u)
    (ad : Addr) {c : Nat} (hx : a.eval x = .slice (some ad) 1 c) (h0 : w.cell? ad = some (.int .i64 u.1)) (h1 : w.cell? (ad.add 1) = some (.int .i64 u.2.1)) (h2 : w.cell? (ad.add 2) = some (.int .i64 u.2.2.1)) (h3 : w.cell? (ad.add 3) = some (.int .i64 u.2.2.2)) (hlen : xs.length < 1000000000) (hB : B ≤ w.heap.size)
    (h : ∀ A c w', OwnQ T w' B (.slice A (xs.length + 1) c) (xs ++ [u]) → w.grownBy w' v.ownBlock → K (a.put o.dst (.slice A (xs.length + 1) c)) w') :
    Oper.wp Try.prog o a w K Q := by
  obtain ⟨i0, hi, hz0, hz1, hz2⟩ := info_parts hT.2
  refine wp_append_lies w s x ST ho B T i0 _ 4 32 hT.1 hi hz0 hz1 hz2 rfl (by decide) v xs.length _ hs hown.1 ad 1 c [.int .i64 u.1, .int .i64 u.2.1, .int .i64 u.2.2.1, .int .i64 u.2.2.2] hx rfl (news_quad h0 h1 h2 h3) news_one4 (by decide) (by unfold maxLen; omega) (by omega) hB _ rfl ?_
  intro g cap w' r1 r2 _ _
  exact h _ cap w' (own_quad rfl r1 hown.2 hu) r2
end

/-- a call returns a list of its own -/
def RetQuads (T : TypeId) (w : World) (xs : List (Q4)) (e : Ending) (w' : World) : Prop := ∃ A c, e = .returned (.slice A xs.length c) ∧ OwnQ T w' w.heap.size (.slice A xs.length c) xs ∧ Below w.heap.size w w'
theorem ret_quads {T : TypeId} {w w' : World} {v : Value} {xs : List (Q4)} (h : OwnQ T w' w.heap.size v xs) (hb : Below w.heap.size w w') : RetQuads T w xs (.returned v) w' := by
  obtain ⟨A, c, rfl⟩ := h.form
  exact ⟨A, c, rfl, h, hb⟩
/-- a list's head of pairs, one more -/
theorem quads_take {xs : List (Q4)} {k : Nat} {x : Q4} (hk : k < xs.length) (hx : xs.getD k z4 = x) : xs.take (k + 1) = xs.take k ++ [x] := by
  rw [List.take_add_one, List.getElem?_eq_getElem hk]
  have : xs[k] = x := by rw [← hx, List.getD_eq_getElem?_getD, List.getElem?_eq_getElem hk]; rfl
  rw [this]; rfl
end Go.Proofs.Ytaodbjgcidkpkaa.M
