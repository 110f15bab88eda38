/- A map of the call's own whose elements are pairs. -/
import Derived.Test.YtaodbjgcidkpkaaFdKY

namespace Go.Proofs.Ytaodbjgcidkpkaa.Fd
open Go.ChangeShapes Go.WideShapes Go.ChangeAt Go.RowKit Go.Maps M

def pv (p : Int × Int) : Value := .agg #[.int .i64 p.1, .int .i64 p.2]
def pd (p : Int × Int) : DataW Unit := .agg [.lit (.int .i64 p.1), .lit (.int .i64 p.2)]
/-- how a pair reads -/
def pairE : Value → Option (DataW Unit × List MemPlace)
  | .agg ⟨[.int .i64 a, .int .i64 b]⟩ => some (pd (a, b), [])
  | _ => none
theorem pairE_mk (p : Int × Int) : pairE (pv p) = some (pd p, []) := rfl
theorem pairE_inv {v : Value} {z : DataW Unit × List MemPlace} (h : pairE v = some z) : ∃ p, v = pv p ∧ z = (pd p, []) := by
  unfold pairE at h
  split at h
  · rename_i a b
    injection h with h
    exact ⟨(a, b), rfl, h.symm⟩
  · cases h
theorem pd_inj {p q : Int × Int} (h : pd p = pd q) : p = q := by
  obtain ⟨a, b⟩ := p
  obtain ⟨c, d⟩ := q
  injection h with h
  injection h with h1 h2
  injection h2 with h2 _
  injection h1 with h1
  injection h1 with _ h1
  injection h2 with h2
  injection h2 with _ h2
  simp only at h1 h2
  rw [h1, h2]
/-- block b is a map of at most n keys: where each key stands -/
def MapAt (w : World) (b n : Nat) (F : Int → Option (Int × Int)) : Prop :=
  ∃ D : DataW Unit, w.ownsMap Try.prog 3 pairE b n D ∧ ∀ x : Int, Maps.has D (.int .i64 x) = (F x).isSome ∧ ∀ p, F x = some p → D.atKey (.int .i64 x) (pd (0, 0)) = pd p
section
variable {w w' : World} {b n : Nat} {F : Int → Option (Int × Int)}
theorem MapAt.made (w : World) : MapAt (w.alloc (.map #[] 0)) w.heap.size 0 (fun _ => none) := ⟨.map [], World.ownsMap_made _ _ _ _, fun x => ⟨by simp [Maps.has_eq], fun p h => by cases h⟩⟩
theorem MapAt.alloc (h : MapAt w b n F) (o : Obj) : MapAt (w.alloc o) b n F := by obtain ⟨D, h1, h2⟩ := h; exact ⟨D, h1.alloc o, h2⟩
theorem MapAt.drew (h : MapAt w b n F) : MapAt w.drew b n F := h
theorem MapAt.lt (h : MapAt w b n F) : b < w.heap.size := by obtain ⟨D, h1, h2⟩ := h; exact h1.lt
theorem keyI {x : Int} (hx : In64 x) : keyOf Try.prog 3 (.int .i64 x) = some (.int .i64 x) := keyOf_int_mk Try.underlying3 (wf64 hx)
theorem zeroPl (w : World) : (zeroValue 83).run Try.prog w = .ok (pv (0, 0)) w := by kernel_rfl
/-- where the walk looks up -/
theorem look_at {ops : Array Oper} {rest : List Oper} {o : Oper} {a : Act} {Q : Exit → Act → World → Prop} (hg : o.guard = none) (m x : Operand) (hop : o.op = Op.lookup 81 m x true)
    (hm : a.eval m = .map (some b)) (h : MapAt w b n F) {i : Int} (hx : a.eval x = .int .i64 i) (hi : In64 i)
    (hK : ∀ p : Int × Int, (∀ q, F i = some q → p = q) → wpList Try.prog ops Q rest (a.put o.dst (.tuple #[pv p, .bool (F i).isSome])) w) : wpList Try.prog ops Q (o :: rest) a w := by
  obtain ⟨D, h1, h2⟩ := h
  refine wpList_lookup_own_ok w hg m x _ hop 3 83 lawI Try.underlying81 pairE (zeroPl w) (pd (0, 0)) [] (pairE_mk _) b n D hm h1 _ _ hx (keyI hi) fun v ps hv => ?_
  obtain ⟨p, rfl, hp⟩ := pairE_inv hv
  rw [(h2 i).1]
  refine hK p fun q hq => pd_inj ?_
  rw [← (h2 i).2 q hq]
  exact (congrArg Prod.fst hp).symm
theorem look_some {ops : Array Oper} {rest : List Oper} {o : Oper} {a : Act} {Q : Exit → Act → World → Prop} (hg : o.guard = none) (m x : Operand) (hop : o.op = Op.lookup 81 m x true)
    (hm : a.eval m = .map (some b)) (h : MapAt w b n F) {i : Int} (hx : a.eval x = .int .i64 i) (hi : In64 i) {q : Int × Int} (hq : F i = some q)
    (hK : wpList Try.prog ops Q rest (a.put o.dst (.tuple #[.agg #[.int .i64 q.1, .int .i64 q.2], .bool true])) w) : wpList Try.prog ops Q (o :: rest) a w :=
  look_at hg m x hop hm h hx hi fun p hp => by
    rw [hp q hq, hq]; exact hK
theorem look_none {ops : Array Oper} {rest : List Oper} {o : Oper} {a : Act} {Q : Exit → Act → World → Prop} (hg : o.guard = none) (m x : Operand) (hop : o.op = Op.lookup 81 m x true)
    (hm : a.eval m = .map (some b)) (h : MapAt w b n F) {i : Int} (hx : a.eval x = .int .i64 i) (hi : In64 i) (hq : F i = none)
    (hK : ∀ p1 p2 : Int, wpList Try.prog ops Q rest (a.put o.dst (.tuple #[.agg #[.int .i64 p1, .int .i64 p2], .bool false])) w) : wpList Try.prog ops Q (o :: rest) a w :=
  look_at hg m x hop hm h hx hi fun p hp => by
    rw [hq]; exact hK p.1 p.2
/-- where the walk stores -/
theorem store_at {ops : Array Oper} {rest : List Oper} {o : Oper} {a : Act} {Q : Exit → Act → World → Prop} (hg : o.guard = none) (m x v : Operand) (hop : o.op = Op.mapUpdate 81 m x v)
    (hm : a.eval m = .map (some b)) (h : MapAt w b n F) (hn : n < maxLen) {i : Int} (hx : a.eval x = .int .i64 i) (hi : In64 i) (p : Int × Int) (hv : a.eval v = pv p)
    (hK : ∀ w', MapAt w' b (n + 1) (fun y => if y = i then some p else F y) → w.grownBy w' (some b) → wpList Try.prog ops Q rest (a.put o.dst undef) w') : wpList Try.prog ops Q (o :: rest) a w := by
  obtain ⟨D, h1, h2⟩ := h
  refine wpList_mapUpdate_own w hg m x v _ hop 3 83 lawI Try.underlying81 pairE b n D hm h1 hn _ _ _ hx hv (keyI hi) (pd p) [] (pairE_mk p) fun w' h3 h4 => hK w' ⟨_, h3, fun y => ?_⟩ h4
  dsimp only
  by_cases e : y = i
  · subst e
    rw [if_pos rfl]
    exact ⟨has_put_same (k := .int .i64 y) h1.isMap (show WideAt.IsKeyLit (.int .i64 y) from trivial) _, fun q hq => by
      injection hq with hq
      subst hq
      exact atKey_put_same (k := .int .i64 y) h1.isMap (show WideAt.IsKeyLit (.int .i64 y) from trivial) _ _⟩
  · rw [if_neg e]
    have hne : (Lit.int .i64 y) ≠ .int .i64 i := fun h => e (by injection h)
    exact ⟨(has_put_other hne _).trans (h2 y).1, fun q hq => (atKey_put_other hne _ _).trans ((h2 y).2 q hq)⟩
theorem MapAt.below {B : Nat} (h : MapAt w b n F) (hb : Below B w w') (hB : b < B) : MapAt w' b n F := by
  obtain ⟨D, ⟨es, clock, h1, h3⟩, h2⟩ := h
  exact ⟨D, ⟨es, clock, (hb.block b hB).trans h1, h3⟩, h2⟩
end
end Go.Proofs.Ytaodbjgcidkpkaa.Fd
