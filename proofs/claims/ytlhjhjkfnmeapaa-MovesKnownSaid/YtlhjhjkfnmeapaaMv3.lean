/- The program's plan of moves: what it returns, from any memory. -/
import Derived.Test.YtlhjhjkfnmeapaaMv2
import Derived.WideLaws
import Derived.Maps.AppendAt
namespace Go.Proofs.Ytlhjhjkfnmeapaa.Mv
open Go.ChangeShapes Go.WideShapes Go.ChangeAt Go.RowKit Go.Shelf M
attribute [local go_sem] Oper.semAt_some

section
variable (P : Program) (w : World) (a : Addr)
@[go_sem] theorem run_store_func (f : Fn) (i c : Array Value) (m : Mode) : (store a (.func f i c) m).run P w = stored P w a (.func f i c) m := run_store P w a _ m rfl
end

theorem kp_b {Bg Bf bo bg bp : Nat} {old par : Int} {G : Nat} (W : World) (l : Nat) (o o' : Obj) (h : W.heap[l]? = some o) (hc : o.isCells = false)
    (c : CaughtR W Bg Bf bo bg bp old par G) : CaughtR (W.putObj l o') Bg Bf bo bg bp old par G :=
  have k : ∀ {a : Addr} {v : Value}, W.cell? a = some v → (W.putObj l o').cell? a = some v := fun hv => cell_kept hv (grownBy_putObj' W l o') (fun r e => by cases e; exact ⟨o, h, hc⟩)
  ⟨k c.g, k c.f, ⟨k c.c.o, k c.c.g, k c.c.p⟩⟩

theorem runs_stops (n : Nat) (hn : 1 ≤ n) (Bg Bf bo bg bp : Nat) (old par : Int) (G : Nat) (hG : G ≤ 64) (w : World) (hC : CaughtR w Bg Bf bo bg bp old par G) :
    SeqStopsK Fence.wide n Try.prog 64 #[.pointer (some ⟨Bg, 0, none⟩), .pointer (some ⟨Bf, 0, none⟩)] (fun x : Nat × Nat => #[Value.int .i64 (x.1 : Int), .int .i64 (x.2 : Int)])
      (fun A B => CaughtR A Bg Bf bo bg bp old par G → CaughtR B Bg Bf bo bg bp old par G) (fun ys => Runs old par G 0 ys G) (fun pre => ∃ b, Runs old par G 0 pre b) G w :=
  fun l J Jx W hW hJ _ hY h0 => runs1_in n hn l Bg Bf bo bg bp old par G hG J Jx
    (fun pre A B hA hB => hJ pre A B none hA ⟨hB.os, hB.tape, hB.output, hB.size, fun k hk _ => hB.block k hk⟩ (fun r e => by cases e)) hY W (hC.on hW) h0

/-- the move of a run, where its groups go elsewhere -/
def mv (old par : Int) (G : Nat) (x : Nat × Nat) : Option Q4 :=
  if (ow old par G x.1).1 = (ow old par G x.1).2 then none else some ((ow old par G x.1).1, (ow old par G x.1).2, (x.1 : Int), (x.2 : Int))
def movesOf (old par : Int) (G : Nat) (xs : List (Nat × Nat)) : List Q4 := xs.filterMap (mv old par G)

theorem moves_miss {old par : Int} {G : Nat} {pre : List (Nat × Nat)} {x : Nat × Nat} (h : (ow old par G x.1).1 = (ow old par G x.1).2) : movesOf old par G (pre ++ [x]) = movesOf old par G pre := by
  simp [movesOf, mv, h]
theorem moves_hit {old par : Int} {G : Nat} {pre : List (Nat × Nat)} {x : Nat × Nat} (h : (ow old par G x.1).1 ≠ (ow old par G x.1).2) : movesOf old par G (pre ++ [x]) = movesOf old par G pre ++ [((ow old par G x.1).1, (ow old par G x.1).2, (x.1 : Int), (x.2 : Int))] := by
  simp [movesOf, mv, h]
theorem moves_in {old par : Int} {G : Nat} (hG : G ≤ 64) : ∀ {xs : List (Nat × Nat)} {a b : Nat}, Runs old par G a xs b → ∀ m ∈ movesOf old par G xs, In4 m
  | [], _, _, _, m, hm => absurd hm (by simp [movesOf])
  | x :: xs, _, _, h, m, hm => by
    have h1 := h.2.1.lt
    have h2 := h.2.1.le
    have o1 := Gr.ownerG_bd (x.1 : Int) old (G : Int)
    have o2 := Gr.ownerG_bd (x.1 : Int) par (G : Int)
    simp only [movesOf, List.filterMap_cons] at hm
    split at hm
    · exact moves_in hG h.2.2 m hm
    · rename_i y hy
      rcases List.mem_cons.1 hm with rfl | hm
      · unfold mv at hy
        split at hy
        · cases hy
        · injection hy with hy
          subst hy
          simp only [In4, In64, ow]
          omega
      · exact moves_in hG h.2.2 m hm
theorem row_below {w w' : World} {B : Nat} {e : TypeId} {size k : Nat} {v : Value} {xs : List Value} (h : w.ownsRow B e size v k xs) (hb : Below w.heap.size w w') : w'.ownsRow B e size v k xs := by
  refine h.kept (row := none) ⟨hb.os, hb.tape, hb.output, hb.size, fun k hk _ => hb.block k hk⟩ ?_
  cases hv : v.ownBlock with
  | none => exact .inl rfl
  | some g => right; simp
theorem caught_own {β : Type} (Bg Bf bo bg bp : Nat) (old par : Int) (G : Nat) : Own (fun (_ : β) W => CaughtR W Bg Bf bo bg bp old par G) := fun _ _ _ _ c hg hr =>
  ⟨cell_kept c.g hg hr, cell_kept c.f hg hr, ⟨cell_kept c.c.o hg hr, cell_kept c.c.g hg hr, cell_kept c.c.p hg hr⟩⟩
theorem quadT : IsQT 34 22 := ⟨Try.underlying22, by kernel_rfl⟩

theorem seven (w : World) (c1 c2 c3 c4 c5 c6 c7 : Value) (t1 t2 t3 t4 t5 t6 t7 : TypeId) (W : World)
    (hW : (((((((w.alloc (.cells #[c1] t1)).alloc (.cells #[c2] t2)).alloc (.cells #[c3] t3)).alloc (.cells #[c4] t4)).alloc (.cells #[c5] t5)).alloc (.cells #[c6] t6)).alloc (.cells #[c7] t7)) = W) :
    Boxed W w.heap.size t1 c1 ∧ Boxed W (w.heap.size + 1) t2 c2 ∧ Boxed W (w.heap.size + 1 + 1) t3 c3 ∧ Boxed W (w.heap.size + 1 + 1 + 1) t4 c4 ∧ Boxed W (w.heap.size + 1 + 1 + 1 + 1) t5 c5 ∧ Boxed W (w.heap.size + 1 + 1 + 1 + 1 + 1) t6 c6 ∧ Boxed W (w.heap.size + 1 + 1 + 1 + 1 + 1 + 1) t7 c7 ∧
    Below w.heap.size w W ∧ W.heap.size = w.heap.size + 1 + 1 + 1 + 1 + 1 + 1 + 1 := by
  subst hW
  have n1 := Boxed.new w t1 c1
  have n2 := Boxed.new (w.alloc (.cells #[c1] t1)) t2 c2
  have n3 := Boxed.new ((w.alloc (.cells #[c1] t1)).alloc (.cells #[c2] t2)) t3 c3
  have n4 := Boxed.new (((w.alloc (.cells #[c1] t1)).alloc (.cells #[c2] t2)).alloc (.cells #[c3] t3)) t4 c4
  have n5 := Boxed.new ((((w.alloc (.cells #[c1] t1)).alloc (.cells #[c2] t2)).alloc (.cells #[c3] t3)).alloc (.cells #[c4] t4)) t5 c5
  have n6 := Boxed.new (((((w.alloc (.cells #[c1] t1)).alloc (.cells #[c2] t2)).alloc (.cells #[c3] t3)).alloc (.cells #[c4] t4)).alloc (.cells #[c5] t5)) t6 c6
  have n7 := Boxed.new ((((((w.alloc (.cells #[c1] t1)).alloc (.cells #[c2] t2)).alloc (.cells #[c3] t3)).alloc (.cells #[c4] t4)).alloc (.cells #[c5] t5)).alloc (.cells #[c6] t6)) t7 c7
  simp only [World.size_alloc] at n1 n2 n3 n4 n5 n6 n7
  refine ⟨(((((n1.alloc _).alloc _).alloc _).alloc _).alloc _).alloc _, ((((n2.alloc _).alloc _).alloc _).alloc _).alloc _, (((n3.alloc _).alloc _).alloc _).alloc _, ((n4.alloc _).alloc _).alloc _, (n5.alloc _).alloc _, n6.alloc _, n7, ?_, by simp only [World.size_alloc]⟩
  have l1 := (Below.refl w.heap.size w).alloc (Nat.le_refl _) (.cells #[c1] t1)
  have l2 := l1.alloc l1.size (.cells #[c2] t2)
  have l3 := l2.alloc l2.size (.cells #[c3] t3)
  have l4 := l3.alloc l3.size (.cells #[c4] t4)
  have l5 := l4.alloc l4.size (.cells #[c5] t5)
  have l6 := l5.alloc l5.size (.cells #[c6] t6)
  exact l6.alloc l6.size (.cells #[c7] t7)

/-- the plan's boxes, from block n on, and its iterator's -/
structure Boxes (W : World) (n : Nat) (old par : Int) (G : Nat) : Prop where
  o : Boxed W n 3 (.int .i64 old)
  p : Boxed W (n + 1) 3 (.int .i64 par)
  g : Boxed W (n + 1 + 1) 3 (.int .i64 (G : Int))
  f : Boxed W (n + 1 + 1 + 1) 68 (Value.func (.func 43) #[] #[.pointer (some ⟨n, 0, none⟩), .pointer (some ⟨n + 1 + 1, 0, none⟩), .pointer (some ⟨n + 1, 0, none⟩)])
  h : Boxed W (n + 1 + 1 + 1 + 1 + 1) 3 (.int .i64 (G : Int))
  k : Boxed W (n + 1 + 1 + 1 + 1 + 1 + 1) 68 (Value.func (.func 43) #[] #[.pointer (some ⟨n, 0, none⟩), .pointer (some ⟨n + 1 + 1, 0, none⟩), .pointer (some ⟨n + 1, 0, none⟩)])
section
variable {W W' : World} {n : Nat} {old par : Int} {G : Nat}
theorem Boxes.caught (b : Boxes W n old par G) : CaughtR W (n + 1 + 1 + 1 + 1 + 1) (n + 1 + 1 + 1 + 1 + 1 + 1) n (n + 1 + 1) (n + 1) old par G := ⟨b.h.cell, b.k.cell, ⟨b.o.cell, b.g.cell, b.p.cell⟩⟩
theorem Boxes.map {W' : World} (b : Boxes W n old par G) (h : ∀ {B : Nat} {t : TypeId} {v : Value}, (t = 3 ∨ t = 68) → B ≠ n + 1 + 1 + 1 + 1 → Boxed W B t v → Boxed W' B t v) : Boxes W' n old par G :=
  ⟨h (.inl rfl) (by omega) b.o, h (.inl rfl) (by omega) b.p, h (.inl rfl) (by omega) b.g, h (.inr rfl) (by omega) b.f, h (.inl rfl) (by omega) b.h, h (.inr rfl) (by omega) b.k⟩
theorem Boxes.on (b : Boxes W n old par G) (hb : Below W.heap.size W W') : Boxes W' n old par G := b.map fun _ _ h => (hb.block _ h.lt).trans h
theorem Boxes.alloc (b : Boxes W n old par G) (o : Obj) : Boxes (W.alloc o) n old par G := b.map fun _ _ h => h.alloc o
theorem boxes_own {β : Type} (n : Nat) (old par : Int) (G : Nat) : Own (fun (_ : β) W => Boxes W n old par G) := fun _ _ _ _ b hg hr => b.map fun _ _ h => h.kept hg (fun e => by
  obtain ⟨o, ho, hc⟩ := hr _ e.symm
  rw [show _ = _ from h] at ho; cases ho; cases hc)
/-- behind an append onto the list in the box beside them -/
theorem Boxes.appended {w1 : World} {base k : Nat} {v u : Value} {xs : List Value} {tmp : Obj} (b : Boxes W n old par G) (hr : W.ownsRow base 34 4 v k xs) (hg : (W.alloc tmp).grownBy w1 v.ownBlock) : Boxes (w1.setCell ⟨n + 1 + 1 + 1 + 1, 0, none⟩ u) n old par G :=
  b.map fun ht hne h => ((h.alloc tmp).kept hg (h.not_row (by rcases ht with rfl | rfl <;> decide) hr)).other hne u
end

set_option maxRecDepth 100000 in
set_option maxHeartbeats 4000000 in
theorem plan_fit (old par : Int) (G : Nat) (w : World) (hG : 1 ≤ G ∧ G ≤ 64) (ho : 1 ≤ old ∧ old ≤ G) (hp : 1 ≤ par ∧ par ≤ G) :
    Calls Try.prog 13 #[.int .i64 old, .int .i64 par, .int .i64 (G : Int)] w fun e w' => ∃ ys, Runs old par G 0 ys G ∧ RetQuads 34 w (movesOf old par G ys) e w' := by
  obtain ⟨g0, g1⟩ := hG
  obtain ⟨o0, o1⟩ := ho
  obtain ⟨p0, p1⟩ := hp
  have d1 : decide ((G : Int) < 1) = false := decide_eq_false (by omega)
  have d2 : decide ((64 : Int) < (G : Int)) = false := decide_eq_false (by omega)
  have d3 : decide (old < 1) = false := decide_eq_false (by omega)
  have d4 : decide ((G : Int) < old) = false := decide_eq_false (by omega)
  have d5 : decide (par < 1) = false := decide_eq_false (by omega)
  have d6 : decide ((G : Int) < par) = false := decide_eq_false (by omega)
  refine (callsIn_wide (n := 6)).1 ?_
  refine callsIn_of_wp_marks Try.func13 rfl trivial ?_ rfl
  simp only [Try.ntmps13, List.size_toArray, List.length_cons, List.length_nil, Nat.reduceAdd, Nat.reduceSub, Array.replicate_succ, Array.replicate_zero, List.push_toArray, List.append_toArray, List.nil_append, List.cons_append]
  gi_wp2
  refine ⟨trivial, (callsIn_wide.2 (runs_any (G : Int) _ w.heap.size (w.heap.size + 1 + 1) (w.heap.size + 1) _ rfl)).mono ?_⟩
  rintro e w' ⟨rfl, rfl⟩
  gi_wp2
  obtain ⟨W0, hW0⟩ : ∃ W0, (((((((w.alloc (.cells #[.int .i64 old] 3)).alloc (.cells #[.int .i64 par] 3)).alloc (.cells #[.int .i64 (G : Int)] 3)).alloc (.cells #[(Value.func (.func 43) #[] #[.pointer (some ⟨w.heap.size, 0, none⟩), .pointer (some ⟨w.heap.size + 1 + 1, 0, none⟩), .pointer (some ⟨w.heap.size + 1, 0, none⟩)])] 68)).alloc (.cells #[.slice none 0 0] 22)).alloc (.cells #[.int .i64 (G : Int)] 3)).alloc (.cells #[(Value.func (.func 43) #[] #[.pointer (some ⟨w.heap.size, 0, none⟩), .pointer (some ⟨w.heap.size + 1 + 1, 0, none⟩), .pointer (some ⟨w.heap.size + 1, 0, none⟩)])] 68)) = W0 := ⟨_, rfl⟩
  obtain ⟨bO, bP, bG, bF, bV, bG2, bF2, hB0, hsz⟩ := seven w _ _ _ _ _ _ _ _ _ _ _ _ _ _ W0 hW0
  rw [hW0]
  clear hW0
  have C0 : Boxes W0 w.heap.size old par G := ⟨bO, bP, bG, bF, bG2, bF2⟩
  refine wpIn_rangeFunc_ownG rfl (by omega) (gf := 64) (lb := #[.pointer (some ⟨w.heap.size + 1 + 1 + 1 + 1 + 1, 0, none⟩), .pointer (some ⟨w.heap.size + 1 + 1 + 1 + 1 + 1 + 1, 0, none⟩)]) rfl trivial (enters_of Try.func64 (by kernel_rfl) rfl)
    (runs_stops (6 - 1) (by omega) _ _ _ _ _ old par G g1 W0 C0.caught) (fun h k c => k (h c)) (fun W l o o' _ h hc _ c => kp_b W l o o' h hc c) (Below.refl _ _) (fun _ => rfl)
    (fun pre W => ((∃ v, Boxed W (w.heap.size + 1 + 1 + 1 + 1) 22 v ∧ W.ownsRow w.heap.size 34 4 v (movesOf old par G pre).length (quadCells (movesOf old par G pre)) ∧ True) ∧
      Boxes W w.heap.size old par G) ∧ Below w.heap.size w W)
    (fun _ _ _ => False)
    (OwnFrom.and (Own.from (fun s A B row hs hg hr => ⟨holdsRow_own w.heap.size (w.heap.size + 1 + 1 + 1 + 1) 22 34 4 (fun pre => (movesOf old par G pre).length) (fun pre => quadCells (movesOf old par G pre)) (fun _ _ => True) s A B row hs.1 hg hr,
        boxes_own (β := List (Nat × Nat)) _ old par G s A B row hs.2 hg hr⟩) _) (ownFrom_below (Nat.le_refl _) (by rw [hsz]; omega)))
    (fun _ _ _ _ _ hs _ _ => hs)
    ⟨⟨⟨_, bV, World.ownsRow_nil _ _ _ _, trivial⟩, C0⟩, hB0⟩
    (fun x => { tmps := #[.int .i64 old, .int .i64 par, .int .i64 (G : Int), .pointer (some ⟨w.heap.size, 0, none⟩), .pointer (some ⟨w.heap.size + 1, 0, none⟩), .pointer (some ⟨w.heap.size + 1 + 1, 0, none⟩), .slice none 0 0, .pointer (some ⟨w.heap.size + 1 + 1 + 1, 0, none⟩), .pointer (some ⟨w.heap.size + 1 + 1 + 1 + 1, 0, none⟩), .int .i64 (x.1 : Int), .int .i64 (x.2 : Int), undef, .int .i64 (G : Int), .bool false, .bool false, .int .i64 (G : Int), .bool false, .bool false, .bool false, .int .i64 old, .bool false, .bool false, .bool false, .int .i64 old, .int .i64 (G : Int), .bool false, .bool false, .bool false, .int .i64 par, .bool false, .bool false, .bool false, .int .i64 par, .int .i64 (G : Int), .bool false, .bool false, Value.func (.func 43) #[] #[.pointer (some ⟨w.heap.size, 0, none⟩), .pointer (some ⟨w.heap.size + 1 + 1, 0, none⟩), .pointer (some ⟨w.heap.size + 1, 0, none⟩)], .int .i64 (G : Int), Value.func (.func 43) #[] #[.pointer (some ⟨w.heap.size, 0, none⟩), .pointer (some ⟨w.heap.size + 1 + 1, 0, none⟩), .pointer (some ⟨w.heap.size + 1, 0, none⟩)], .func (.func 64) #[] #[.pointer (some ⟨w.heap.size + 1 + 1 + 1 + 1 + 1, 0, none⟩), .pointer (some ⟨w.heap.size + 1 + 1 + 1 + 1 + 1 + 1, 0, none⟩)], .int .i64 (x.1 : Int), .int .i64 (x.2 : Int), undef, undef, undef, undef, undef, undef, undef, undef, undef, undef, undef, undef, undef, undef, undef, undef, undef, undef, undef], defers := [] }) ?assign ?body ?done ?stop
  case assign =>
    intro l x W K hK
    gi_wp2
    exact hK
  case body =>
    rintro l pre x W ⟨⟨⟨v, hv, hrow, -⟩, hX⟩, hB⟩ hlt
    have hC := hX.caught
    have HX := Lib.hid hX
    have hF := hX.f
    clear hX
    obtain ⟨a, ha⟩ : ∃ a, Gr.ownerG (x.1 : Int) old (G : Int) = a := ⟨_, rfl⟩
    obtain ⟨b, hb⟩ : ∃ b, Gr.ownerG (x.1 : Int) par (G : Int) = b := ⟨_, rfl⟩
    have HO := owners_any (x.1 : Int) old par (G : Int) _ _ _ W hC.c (lt_of_cell hC.c.o) (lt_of_cell hC.c.g) (lt_of_cell hC.c.p)
    rw [ha, hb] at HO
    have HO := Lib.hid HO
    have cF := hF.cell
    have HC := Lib.hid hC
    have HA := Lib.hid ha
    have HBB := Lib.hid hb
    have HLT := Lib.hid hlt
    clear hC ha hb hlt C0 hB0 bO bP bG bF bV bG2 bF2
    by_cases he : a = b
    · subst he
      gi_wp2
      refine ⟨trivial, (CallsIn.inRound l (callsIn_wide.2 HO.out)).mono ?_⟩
      rintro e W1 ⟨rfl, hb1⟩
      have hv1 : Boxed W1 (w.heap.size + 1 + 1 + 1 + 1) 22 v := (hb1.block _ hv.lt).trans hv
      have HX1 := Lib.hid (HX.out.on hb1)
      have HB1 := Lib.hid (through hB (Nat.le_refl _) hb1)
      have HV1 := Lib.hid hv1
      clear cF hF hv hv1
      have HB := Lib.hid hb1
      have HQ1 : Hid (W1.ownsRow w.heap.size 34 4 v (movesOf old par G pre).length (quadCells (movesOf old par G pre))) := Lib.hid (row_below hrow hb1)
      clear hb1 hrow
      gi_wp2
      have hk1 : KeepsFrom W0.heap.size W W1 := KeepsFrom.of_grownBy (row := none) ⟨HB.out.os, HB.out.tape, HB.out.output, HB.out.size, fun k hk _ => HB.out.block k hk⟩ (by simp)
      have em := moves_miss (pre := pre) (x := x) (old := old) (par := par) (G := G) (HA.out.trans HBB.out.symm)
      refine ⟨hk1.trans ((KeepsOthers.alloc _ _).from _), fun _ => (HX1.out.alloc _).caught, ⟨⟨v, HV1.out.alloc _, ?_, ?_⟩, HX1.out.alloc _⟩, HB1.out.alloc HB1.out.size _⟩
      · rw [em]; exact HQ1.out.alloc _
      · trivial
    · have t1 : (a != b) = true := by simpa using he
      gi_wp2
      refine ⟨trivial, (CallsIn.inRound l (callsIn_wide.2 HO.out)).mono ?_⟩
      rintro e W1 ⟨rfl, hb1⟩
      have hv1 : Boxed W1 (w.heap.size + 1 + 1 + 1 + 1) 22 v := (hb1.block _ hv.lt).trans hv
      have HX1 := Lib.hid (HX.out.on hb1)
      have HB1 := Lib.hid (through hB (Nat.le_refl _) hb1)
      have HV1 := Lib.hid hv1
      have cV : ∀ o, (W1.alloc o).cell? ⟨w.heap.size + 1 + 1 + 1 + 1, 0, none⟩ = some v := fun o => (hv1.alloc o).cell
      clear cF hF hv hv1
      have HB := Lib.hid hb1
      have HQ1 : Hid (W1.ownsRow w.heap.size 34 4 v (movesOf old par G pre).length (quadCells (movesOf old par G pre))) := Lib.hid (row_below hrow hb1)
      clear hb1 hrow
      obtain ⟨i0, hi, hz0, hz1, hz2⟩ := info_parts quadT.2
      have HI := Lib.hid hi
      have HZ0 := Lib.hid hz0
      have HZ1 := Lib.hid hz1
      have HZ2 := Lib.hid hz2
      have HPL : Hid ((movesOf old par G pre).length ≤ 64) := Lib.hid (by have := HLT.out; have := List.length_filterMap_le (mv old par G) pre; unfold movesOf; omega)
      have HNQ : Hid (∀ o cs, Blk ((W1.alloc o).alloc (.cells cs 34)) (W1.heap.size + 1) 34 cs) := Lib.hid (fun o cs => by have := Blk.new (W1.alloc o) 34 cs; rwa [World.size_alloc] at this)
      clear hi hz0 hz1 hz2
      gi_wp2_with (gi_at_builtin; refine wpListIn_append_own _ rfl _ _ 22 rfl w.heap.size 34 i0 _ 4 32 quadT.1 HI.out HZ0.out HZ1.out HZ2.out rfl (by decide) _ _ _ rfl ((HQ1.out.alloc _).alloc _) ⟨W1.heap.size + 1, 0, none⟩ 1 1 [.int .i64 a, .int .i64 b, .int .i64 (x.1 : Int), .int .i64 (x.2 : Int)] rfl rfl (news_quad (u := (a, b, (x.1 : Int), (x.2 : Int))) ((HNQ.out _ _).cell 0) ((HNQ.out _ _).cell 1) ((HNQ.out _ _).cell 2) ((HNQ.out _ _).cell 3)) (news_one4 (u := (a, b, (x.1 : Int), (x.2 : Int)))) (by have := HPL.out; unfold maxLen; omega) (by have := HPL.out; omega) (by have := HB1.out.size; simp; omega) ?_; intro v' w1 hown' hgrow _; obtain ⟨g', cap', rfl⟩ := ownsRow_succ hown'; obtain ⟨hv1, hv2, hr2, hk2, hb2⟩ := (HV1.out.alloc _).appended (by decide) (HQ1.out.alloc _) (by have := HB1.out.size; simp; omega) (by omega) hown' hgrow; have hc1 := hv1.cell; have hf1 := hv1.frozen; have HG := Lib.hid hgrow)
      have hk1 : KeepsFrom W0.heap.size W W1 := KeepsFrom.of_grownBy (row := none) ⟨HB.out.os, HB.out.tape, HB.out.output, HB.out.size, fun k hk _ => HB.out.block k hk⟩ (by simp)
      have em := moves_hit (pre := pre) (x := x) (old := old) (par := par) (G := G) (by show ¬ _ = _; unfold ow; rw [HA.out, HBB.out]; exact he)
      have e2 : ((ow old par G x.1).1, (ow old par G x.1).2, (x.1 : Int), (x.2 : Int)) = (a, b, (x.1 : Int), (x.2 : Int)) := by unfold ow; rw [HA.out, HBB.out]
      rw [e2] at em
      have HXF := (HX1.out.alloc _).appended (u := Value.slice (some ⟨g', 0, none⟩) ((movesOf old par G pre).length + 1) cap') (HQ1.out.alloc _) HG.out
      refine ⟨(hk1.trans ((KeepsOthers.alloc _ _).from _)).trans (hk2.from _), fun _ => HXF.caught, ⟨⟨_, hv2, ?_, trivial⟩, HXF⟩, (HB1.out.alloc HB1.out.size _).trans hb2⟩
      rw [em, quadCells_snoc, List.length_append]; exact hr2
  case done =>
    rintro D ys W hD hrs ⟨⟨⟨v, hv, hrow, -⟩, -⟩, hB⟩ hK
    have hc := hv.cell
    gi_wp2
    refine ⟨by simp, .inl ⟨_, _, rfl, run_takeDeferred hK, ?_⟩⟩
    exact ⟨_, results_tmp rfl _ _ _, ys, hrs, ret_quads ⟨ownsRow_putObj hrow _ hK rfl, moves_in g1 hrs⟩ (hB.trans (belowK_b (w := w) (Nat.le_refl _) W D _ _ (by rw [hsz] at hD; omega) hK rfl rfl))⟩
  case stop =>
    rintro D c pre W _ _ h _
    exact h.elim
end Go.Proofs.Ytlhjhjkfnmeapaa.Mv
