/- A list of numbers that a call made itself; append onto it. No program's function is named. -/
import Derived.Test.YtaodbjgcidkpkaaRows
import Derived.Test.YtaodbjgcidkpkaaOpen
import Derived.WalkKit
import Derived.Deep.AppendLies
import Derived.Deep.Onto
import Derived.Laws.AppendOwnNone
import Derived.Lib.Hide
namespace Go.Proofs.Ytaodbjgcidkpkaa.M
open Go.RowKit

theorem infoI : (Try.prog.info? 3).map (fun i => (i.zero, i.size, i.bytes)) = some (some (.int .i64 0), 1, 8) := by kernel_rfl

/-- the value v is a list of the call's own, from block B on, of the numbers xs -/
def OwnI (w : World) (B : Nat) (v : Value) (xs : List Int) : Prop := w.ownsRow B 3 1 v xs.length (xs.map (Value.int .i64)) ∧ ∀ x ∈ xs, In64 x

section
variable {w w' : World} {B B' : Nat} {v : Value} {xs : List Int}
theorem OwnI.nil (w : World) (B : Nat) : OwnI w B (.slice none 0 0) [] := ⟨World.ownsRow_nil _ _ _ _, fun x hx => absurd hx (by simp)⟩
theorem OwnI.mono (h : OwnI w B v xs) (hB : B' ≤ B) : OwnI w B' v xs := ⟨h.1.mono hB, h.2⟩
theorem OwnI.blk (h : OwnI w B v xs) : ∀ g, v.ownBlock = some g → B ≤ g ∧ g < w.heap.size := h.1.lt
theorem OwnI.below (h : OwnI w B v xs) (hb : Below w.heap.size w w') : OwnI w' B v xs := by
  refine ⟨h.1.kept (row := none) ⟨hb.os, hb.tape, hb.output, hb.size, fun k hk _ => hb.block k hk⟩ ?_, h.2⟩
  cases hv : v.ownBlock with
  | none => exact .inl rfl
  | some g => right; simp
theorem OwnI.drew (h : OwnI w B v xs) : OwnI w.drew B v xs := h
theorem OwnI.drewN (h : OwnI w B v xs) (n : Nat) : OwnI (w.drewN n) B v xs := h
theorem OwnI.alloc (h : OwnI w B v xs) (o : Obj) : OwnI (w.alloc o) B v xs := ⟨h.1.alloc o, h.2⟩
theorem OwnI.far (h : OwnI w B v xs) {a : Addr} (ha : v.ownBlock ≠ some a.block) (u : Value) : OwnI (w.setCell a u) B v xs := ⟨ownsRow_setCell_other h.1 ha u, h.2⟩
theorem OwnI.grown (h : OwnI w B v xs) {row : Option Nat} (hg : w.grownBy w' row) (hne : v.ownBlock = none ∨ v.ownBlock ≠ row) : OwnI w' B v xs := ⟨h.1.kept hg hne, h.2⟩
/-- its form -/
theorem OwnI.form (h : OwnI w B v xs) : ∃ A c, v = .slice A xs.length c := by
  rcases h.1.2 with ⟨hv, hn⟩ | ⟨g, cap, cur, hv, -⟩
  · exact ⟨none, 0, by rw [hv, hn]⟩
  · exact ⟨_, cap, hv⟩
theorem OwnI.ints {A : Option Addr} {n c : Nat} (h : OwnI w B (.slice A n c) xs) : IsInts w w.heap.size ⟨A, c, xs⟩ := by
  rcases h.1.2 with ⟨hv, hn⟩ | ⟨g, cap, cur, hv, hg, hh, hc, hm, hs, ht⟩
  · injection hv with e1 e2 e3
    subst e1; subst e3
    have : xs = [] := List.eq_nil_of_length_eq_zero hn
    subst this
    exact ⟨Lies.zero _ _, Nat.le_refl _, Nat.zero_le _, fun x hx => absurd hx (by simp)⟩
  · injection hv with e1 e2 e3
    subst e1; subst e3
    have hlt : g < w.heap.size := (h.1.lt g rfl).2
    refine ⟨fun hn => ⟨g, 0, rfl, hlt, fun i hi j hj => ?_⟩, hc, hm, h.2⟩
    have hcell := h.1.cells (g := g) rfl i (.int .i64 (xs.getD i 0)) (by
      have hi' : i < xs.length := hi
      rw [List.getElem?_map, List.getElem?_eq_getElem hi', List.getD_eq_getElem?_getD, List.getElem?_eq_getElem hi']; rfl)
    obtain rfl : j = 0 := by omega
    rw [Go.WideShapes.add_plain] at hcell
    simpa using hcell
/-- where it is new: its block stands from B on -/
theorem OwnI.ints_own {A : Option Addr} {n c : Nat} (h : OwnI w B (.slice A n c) xs) {b o : Nat} {s : Option Nat} (hA : A = some ⟨b, o, s⟩) : B ≤ b ∧ o = 0 ∧ s = none := by
  rcases h.1.2 with ⟨hv, hn⟩ | ⟨g, cap, cur, hv, hg, -⟩
  · injection hv with e1; rw [e1] at hA; cases hA
  · injection hv with e1; rw [e1] at hA; injection hA with hA; injection hA with a1 a2 a3; subst a1; subst a2; subst a3; exact ⟨hg, rfl, rfl⟩
end

/-- append of one number -/
theorem app_int {ops : Array Oper} {rest : List Oper} {o : Oper} {a : Act} {Q : Exit → Act → World → Prop} {w : World} (hgd : o.guard = none) (s x : Operand)
    (ho : o.op = .call { callee := .builtin .append, args := #[s, x], argTypes := #[29, 29] }) (B : Nat) {v : Value} {xs : List Int} {u : Int} (hs : a.eval s = v) (hown : OwnI w B v xs) (hu : In64 u)
    (ad : Addr) {c : Nat} (hx : a.eval x = .slice (some ad) 1 c) (hc : w.cell? ad = some (.int .i64 u)) (hlen : xs.length < 1000000000) (hB : B ≤ w.heap.size)
    (h : ∀ v' w', OwnI w' B v' (xs ++ [u]) → w.grownBy w' v.ownBlock → wpList Try.prog ops Q rest (a.put o.dst v') w') : wpList Try.prog ops Q (o :: rest) a w := by
  obtain ⟨i0, hi, hz0, hz1, hz2⟩ := info_parts infoI
  refine wpList_append_own _ hgd s x 29 ho B 3 i0 (.int .i64 0) 1 8 Try.underlying29 hi hz0 hz1 hz2 rfl (by decide) v xs.length _ hs hown.1 ad 1 c [.int .i64 u] hx rfl ?_ ?_ (by unfold maxLen; omega) (by omega) hB ?_
  · intro j u' hj
    match j, hj with
    | 0, hj => simp at hj; subst hj; simpa [Addr.add] using hc
    | j + 1, hj => simp at hj
  · intro u' hu'; have : u' = .int .i64 u := by simpa using hu'
    subst this; rfl
  · intro v' w' h1 h2 _
    refine h v' w' ⟨?_, fun y hy => ?_⟩ h2
    · rw [List.length_append, List.map_append]; exact h1
    · rcases List.mem_append.1 hy with hy | hy
      · exact hown.2 y hy
      · have : y = u := by simpa using hy
        rw [this]; exact hu

/-- behind an append -/
theorem grown_below {B : Nat} {w wr w2 : World} {v : Value} {xs : List Int} {o : Obj} (h : Below B w wr) (hown : OwnI wr B v xs) (hg : (wr.alloc o).grownBy w2 v.ownBlock) (hB : B ≤ wr.heap.size) : Below B w w2 :=
  (h.alloc hB o).grown hg (by simp; omega) (fun g hv => (hown.blk g hv).1)

/-- append of one number, the walk's own form -/
theorem app_new {ops : Array Oper} {rest : List Oper} {o : Oper} {a : Act} {Q : Exit → Act → World → Prop} {w : World} (hgd : o.guard = none) (s x : Operand)
    (ho : o.op = .call { callee := .builtin .append, args := #[s, x], argTypes := #[29, 29] }) (B : Nat) {v : Value} {xs : List Int} {u : Int} (hown : OwnI w B v xs) (hs : a.eval s = v) (hu : In64 u)
    (hx : a.eval x = .slice (some ⟨w.heap.size, 0, none⟩) 1 1) (hlen : xs.length < 1000000000) (hB : B ≤ w.heap.size)
    (h : ∀ v' w2, OwnI w2 B v' (xs ++ [u]) → Below B w w2 → wpList Try.prog ops Q rest (a.put o.dst v') w2) : wpList Try.prog ops Q (o :: rest) a (w.alloc (.cells #[.int .i64 u] 3)) :=
  app_int hgd s x ho B hs (hown.alloc _) hu ⟨w.heap.size, 0, none⟩ hx (by rw [(Blk.new w _ _).cell]; rfl) hlen (by simp; omega) fun v' w2 h1 h2 => h v' w2 h1 (grown_below (Below.refl _ _) hown h2 hB)

/-- append of one number, the new cell's block by its number -/
theorem app_newN {ops : Array Oper} {rest : List Oper} {o : Oper} {a : Act} {Q : Exit → Act → World → Prop} {w : World} (hgd : o.guard = none) (s x : Operand)
    (ho : o.op = .call { callee := .builtin .append, args := #[s, x], argTypes := #[29, 29] }) (B : Nat) {v : Value} {xs : List Int} {u : Int} (hown : OwnI w B v xs) (hs : a.eval s = v) (hu : In64 u)
    (n : Nat) (hn : w.heap.size = n) (hx : a.eval x = .slice (some ⟨n, 0, none⟩) 1 1) (hlen : xs.length < 1000000000) (hB : B ≤ w.heap.size)
    (h : ∀ v' w2, OwnI w2 B v' (xs ++ [u]) → Below B w w2 → wpList Try.prog ops Q rest (a.put o.dst v') w2) : wpList Try.prog ops Q (o :: rest) a (w.alloc (.cells #[.int .i64 u] 3)) :=
  app_int hgd s x ho B hs (hown.alloc _) hu ⟨n, 0, none⟩ hx (by subst hn; rw [(Blk.new w _ _).cell]; rfl) hlen (by simp; omega) fun v' w2 h1 h2 => h v' w2 h1 (grown_below (Below.refl _ _) hown h2 hB)

/-- append of a list that a call made itself -/
theorem app_list {ops : Array Oper} {rest : List Oper} {o : Oper} {a : Act} {Q : Exit → Act → World → Prop} {w : World} (hgd : o.guard = none) (s x : Operand)
    (ho : o.op = .call { callee := .builtin .append, args := #[s, x], argTypes := #[29, 29] }) (B : Nat) {v : Value} {xs : List Int} (hown : OwnI w B v xs) (hs : a.eval s = v)
    {B2 : Nat} {A : Option Addr} {n c : Nat} {ys : List Int} (hr : OwnI w B2 (.slice A n c) ys) (hx : a.eval x = .slice A n c) (hlen : xs.length + ys.length < 1000000000) (hB : B ≤ w.heap.size)
    (h : ∀ v' w2, OwnI w2 B v' (xs ++ ys) → Below B w w2 → wpList Try.prog ops Q rest (a.put o.dst v') w2) : wpList Try.prog ops Q (o :: rest) a w := by
  obtain ⟨i0, hi, hz0, hz1, hz2⟩ := info_parts infoI
  have hI := hr.ints
  rcases hr.1.2 with ⟨hv, hn⟩ | ⟨g, cap, cur, hv, hg, hh, hc, hm, hsz, ht⟩
  · have : ys = [] := List.eq_nil_of_length_eq_zero hn
    subst this
    refine wpList_append_own_none hgd s x 29 ho B 3 i0 1 Try.underlying29 hi v xs.length _ hs hown.1 (hx.trans hv) (h v w ?_ (Below.refl _ _))
    rw [List.append_nil]; exact hown
  · injection hv with e1 e2 e3
    subst e1; subst e2; subst e3
    refine wpList_append_own _ hgd s x 29 ho B 3 i0 (.int .i64 0) 1 8 Try.underlying29 hi hz0 hz1 hz2 rfl (by decide) v xs.length _ hs hown.1 ⟨g, 0, none⟩ ys.length _ (ys.map (Value.int .i64)) hx (by simp) ?_ ?_ (by unfold maxLen; omega) (by omega) hB ?_
    · intro j u hj; exact hr.1.cells (g := g) rfl j u hj
    · intro u hu
      obtain ⟨y, -, rfl⟩ := List.mem_map.1 hu
      rfl
    · intro v' w' h1 h2 _
      refine h v' w' ⟨?_, fun y hy => ?_⟩ ((Below.refl _ _).grown h2 hB (fun k hk => (hown.blk k hk).1))
      · rw [List.length_append, List.map_append]; exact h1
      · rcases List.mem_append.1 hy with hy | hy
        · exact hown.2 y hy
        · exact hr.2 y hy

/-- a call returns a list of its own -/
def RetInts (w : World) (xs : List Int) (e : Ending) (w' : World) : Prop := ∃ A c, e = .returned (.slice A xs.length c) ∧ OwnI w' w.heap.size (.slice A xs.length c) xs ∧ Below w.heap.size w w'
theorem ret_ints {w w' : World} {v : Value} {xs : List Int} (h : OwnI w' w.heap.size v xs) (hb : Below w.heap.size w w') : RetInts w xs (.returned v) w' := by
  obtain ⟨A, c, rfl⟩ := h.form
  exact ⟨A, c, rfl, h, hb⟩
end Go.Proofs.Ytaodbjgcidkpkaa.M
