/- Jobs: copied, and held against one another. -/
import Derived.Test.YtfpikpglollkoaaSp14
namespace Go.Proofs.Ytfpikpglollkoaa.Sp
open Go.ChangeShapes Go.WideShapes Go.ChangeAt Go.RowKit M

theorem infoO : (Try.prog.info? 38).map (fun i => (i.zero, i.size, i.bytes)) = some (some (.agg #[.int .i64 0, .slice none 0 0, .int .i64 0, .int .i64 0, .int .i64 0, .int .i64 0, .int .i64 0, .int .i64 0]), 8, 80) := by kernel_rfl

/-- operators' cells, one behind the other -/
def opsCells (l : List OpP) (p : Nat → Option Addr × Nat) : List Value := (List.range l.length).flatMap fun i => (opArr (opOf l i) (p i)).toList
theorem flatMap_range_len {f : Nat → List Value} (h : ∀ i, (f i).length = 8) (n : Nat) : ((List.range n).flatMap f).length = n * 8 := by
  induction n with
  | zero => rfl
  | succ n ih => rw [List.range_succ, List.flatMap_append, List.length_append, ih]; simp [h]; omega
theorem opsCells_len (l : List OpP) (p : Nat → Option Addr × Nat) : (opsCells l p).length = l.length * 8 := flatMap_range_len (fun _ => rfl) _
theorem opArr_get (o : OpP) (a : Option Addr × Nat) {j : Nat} (hj : j < 8) : (opArr o a).toList[j]? = some (cellsOp o a j) := by
  rcases (show j = 0 ∨ j = 1 ∨ j = 2 ∨ j = 3 ∨ j = 4 ∨ j = 5 ∨ j = 6 ∨ j = 7 by omega) with rfl | rfl | rfl | rfl | rfl | rfl | rfl | rfl <;> rfl
theorem flatMap_range_get {f : Nat → List Value} (h : ∀ i, (f i).length = 8) {n i j : Nat} (hi : i < n) (hj : j < 8) : ((List.range n).flatMap f)[i * 8 + j]? = (f i)[j]? := by
  induction n with
  | zero => omega
  | succ n ih =>
    rw [List.range_succ, List.flatMap_append]
    have hl := flatMap_range_len h n
    rcases (show i < n ∨ i = n by omega) with h1 | rfl
    · rw [List.getElem?_append_left (by rw [hl]; omega)]; exact ih h1
    · rw [List.getElem?_append_right (by rw [hl]; omega), hl]; simp
theorem opsCells_get {l : List OpP} {p : Nat → Option Addr × Nat} {i j : Nat} (hi : i < l.length) (hj : j < 8) : (opsCells l p)[i * 8 + j]? = some (cellsOp (opOf l i) (p i) j) := by
  unfold opsCells
  rw [flatMap_range_get (fun _ => rfl) hi hj, opArr_get _ _ hj]
def updP (p : Nat → Option Addr × Nat) (n : Nat) (a : Option Addr × Nat) : Nat → Option Addr × Nat := fun i => if i = n then a else p i
theorem opOf_snoc {l : List OpP} {o : OpP} {i : Nat} : opOf (l ++ [o]) i = if i < l.length then opOf l i else if i = l.length then o else default := by
  unfold opOf
  by_cases h : i < l.length
  · rw [if_pos h, List.getD_eq_getElem?_getD, List.getD_eq_getElem?_getD, List.getElem?_append_left h]
  · rw [if_neg h, List.getD_eq_getElem?_getD, List.getElem?_append_right (by omega)]
    by_cases h2 : i = l.length
    · rw [if_pos h2, h2]; simp
    · rw [if_neg h2]
      have : i - l.length ≠ 0 := by omega
      rw [List.getElem?_eq_none (by simp; omega)]; rfl
theorem opsCells_snoc (l : List OpP) (p : Nat → Option Addr × Nat) (o : OpP) (a : Option Addr × Nat) : opsCells (l ++ [o]) (updP p l.length a) = opsCells l p ++ (opArr o a).toList := by
  unfold opsCells
  rw [show (l ++ [o]).length = l.length + 1 by simp, List.range_succ, List.flatMap_append]
  congr 1
  · rw [List.flatMap_def, List.flatMap_def]
    congr 1
    apply List.map_congr_left
    intro i hi
    have hi' : i < l.length := List.mem_range.1 hi
    rw [opOf_snoc, if_pos hi']; unfold updP; rw [if_neg (by omega)]
  · simp [opOf_snoc, updP]

/-- the value v is a list of operators of the call's own, each with inputs of its own -/
def OwnOps (w : World) (B : Nat) (v : Value) (l : List OpP) (p : Nat → Option Addr × Nat) : Prop :=
  w.ownsRow B 38 8 v l.length (opsCells l p) ∧ ∀ i, i < l.length → OpIn (opOf l i) ∧ OwnI w B (.slice (p i).1 (insOf l i).length (p i).2) (insOf l i)
theorem own_ne {w : World} {B B2 : Nat} {v u : Value} {xs : List Int} {n : Nat} {cs : List Value} (h : w.ownsRow B 38 8 v n cs) (k : OwnI w B2 u xs) : u.ownBlock = none ∨ u.ownBlock ≠ v.ownBlock := by
  rcases k.1.2 with ⟨hv, -⟩ | ⟨g, cap, cur, hv, hg, hh, -⟩
  · left; rw [hv]; rfl
  · right
    rw [hv]
    intro e
    rcases h.2 with ⟨hv2, -⟩ | ⟨g2, cap2, cur2, hv2, hg2, hh2, -⟩
    · rw [hv2] at e; cases e
    · rw [hv2] at e
      have : g = g2 := by simpa [Value.ownBlock] using e
      subst this
      rw [hh] at hh2
      injection hh2 with h1
      injection h1 with _ h2
      exact absurd h2 (by decide)
section
variable {w w' : World} {B : Nat} {v : Value} {l : List OpP} {p : Nat → Option Addr × Nat}
theorem OwnOps.nil (w : World) (B : Nat) (p : Nat → Option Addr × Nat) : OwnOps w B (.slice none 0 0) [] p := ⟨World.ownsRow_nil _ _ _ _, fun i hi => absurd hi (by simp)⟩
theorem OwnOps.below (h : OwnOps w B v l p) (hb : Below w.heap.size w w') : OwnOps w' B v l p := by
  refine ⟨h.1.kept (row := none) ⟨hb.os, hb.tape, hb.output, hb.size, fun k hk _ => hb.block k hk⟩ ?_, fun i hi => ⟨(h.2 i hi).1, (h.2 i hi).2.below hb⟩⟩
  cases hv : v.ownBlock with
  | none => exact .inl rfl
  | some g => right; simp
theorem OwnOps.form (h : OwnOps w B v l p) : ∃ A c, v = .slice A l.length c := by
  rcases h.1.2 with ⟨hv, hn⟩ | ⟨g, cap, cur, hv, -⟩
  · exact ⟨none, 0, by rw [hv, hn]⟩
  · exact ⟨_, cap, hv⟩
theorem OwnOps.blk (h : OwnOps w B v l p) : ∀ g, v.ownBlock = some g → B ≤ g ∧ g < w.heap.size := h.1.lt
theorem OwnOps.ops {A : Option Addr} {n c : Nat} (h : OwnOps w B (.slice A n c) l p) : IsOps w w.heap.size A l p := by
  refine ⟨fun hn => ?_, fun i hi => ⟨(h.2 i hi).1, (h.2 i hi).2.ints⟩⟩
  obtain ⟨g, cap, hv, _, hlt⟩ := h.1.form hn
  injection hv with e1 e2 e3
  subst e1
  refine ⟨g, 0, rfl, hlt, fun i hi j hj => ?_⟩
  have := h.1.cells (g := g) rfl (i * 8 + j) _ (opsCells_get hi hj)
  rw [Go.WideShapes.add_plain] at this
  simpa [Nat.add_assoc] using this
end

theorem OwnOps.low {w : World} {B : Nat} {v : Value} {l : List OpP} {p : Nat → Option Addr × Nat} (h : OwnOps w B v l p) {a : Addr} (ha : a.block < B) (u : Value) : OwnOps (w.setCell a u) B v l p :=
  ⟨ownsRow_setCell_below h.1 ha u, fun i hi => ⟨(h.2 i hi).1, (h.2 i hi).2.far (fun e => by have := ((h.2 i hi).2.blk _ e).1; omega) u⟩⟩
theorem OwnOps.mono {w : World} {B B' : Nat} {v : Value} {l : List OpP} {p : Nat → Option Addr × Nat} (h : OwnOps w B v l p) (hB : B' ≤ B) : OwnOps w B' v l p := ⟨h.1.mono hB, fun i hi => ⟨(h.2 i hi).1, (h.2 i hi).2.mono hB⟩⟩

/-- append of one operator -/
theorem app_op {ops : Array Oper} {rest : List Oper} {oo : Oper} {a : Act} {Q : Exit → Act → World → Prop} {w : World} (hgd : oo.guard = none) (s x : Operand)
    (ho : oo.op = .call { callee := .builtin .append, args := #[s, x], argTypes := #[22, 22] }) (B : Nat) {v : Value} {l : List OpP} {p : Nat → Option Addr × Nat} {o : OpP} {q : Option Addr × Nat} (hown : OwnOps w B v l p) (hs : a.eval s = v)
    (hoi : OpIn o) (hoo : OwnI w B (.slice q.1 o.ins.length q.2) o.ins) (hx : a.eval x = .slice (some ⟨w.heap.size, 0, none⟩) 1 1) (hlen : l.length < 1000000) (hB : B ≤ w.heap.size)
    (h : ∀ v' w2, OwnOps w2 B v' (l ++ [o]) (updP p l.length q) → Below B w w2 → wpList Try.prog ops Q rest (a.put oo.dst v') w2) :
    wpList Try.prog ops Q (oo :: rest) a (w.alloc (.cells #[.int .i64 o.kind, .slice q.1 o.ins.length q.2, .int .i64 o.fo, .int .i64 o.fa, .int .i64 o.fb, .int .i64 o.parts, .int .i64 o.rate, .int .i64 o.cost] 38)) := by
  obtain ⟨i0, hi, hz0, hz1, hz2⟩ := info_parts infoO
  have hnew : Blk (w.alloc (.cells (opArr o q) 38)) w.heap.size 38 (opArr o q) := Blk.new w _ _
  refine wpList_append_own _ hgd s x 22 ho B 38 i0 _ 8 80 Try.underlying22 hi hz0 hz1 hz2 rfl (by decide) v l.length _ hs (hown.1.alloc _) ⟨w.heap.size, 0, none⟩ 1 1 (opArr o q).toList hx rfl ?_ ?_ (by unfold maxLen; omega) (by omega) (by simp; omega) ?_
  · intro j u hj
    have hj' : (opArr o q)[j]? = some u := by rw [← Array.getElem?_toList]; exact hj
    rw [Go.WideShapes.add_plain, Nat.zero_add]
    exact (hnew.cell j).trans hj'
  · intro u hu
    unfold opArr at hu
    simp at hu
    rcases hu with rfl | rfl | rfl | rfl | rfl | rfl | rfl | rfl <;> rfl
  · intro v' w' h1 h2 _
    have hk : ∀ {u : Value} {xs : List Int}, OwnI w B u xs → OwnI w' B u xs := fun k => (k.alloc (.cells (opArr o q) 38)).grown h2 (own_ne (hown.1.alloc (.cells (opArr o q) 38)) (k.alloc (.cells (opArr o q) 38)))
    refine h v' w' ⟨?_, fun i hi' => ?_⟩ ((Below.refl _ _).alloc hB _ |>.grown h2 (by simp; omega) (fun g hg => (hown.1.lt g hg).1))
    · rw [opsCells_snoc, List.length_append]; exact h1
    · rw [List.length_append] at hi'
      simp at hi'
      unfold insOf
      rw [opOf_snoc]
      by_cases hlt : i < l.length
      · rw [if_pos hlt]
        unfold updP
        rw [if_neg (by omega)]
        exact ⟨(hown.2 i hlt).1, hk (hown.2 i hlt).2⟩
      · rw [if_neg hlt]
        have : i = l.length := by omega
        subst this
        rw [if_pos rfl]
        unfold updP
        rw [if_pos rfl]
        exact ⟨hoi, hk hoo⟩

/-- a job's copy: new each time -/
def RetSpec (w : World) (g : Int) (l : List OpP) (e : Ending) (w' : World) : Prop := ∃ A c p, e = .returned (.agg #[.int .i64 g, .slice A l.length c]) ∧ OwnOps w' w.heap.size (.slice A l.length c) l p ∧ Below w.heap.size w w'

theorem opTake {l : List OpP} {k : Nat} (hk : k < l.length) : l.take (k + 1) = l.take k ++ [opOf l k] := by
  rw [List.take_add_one, List.getElem?_eq_getElem hk]
  unfold opOf
  rw [List.getD_eq_getElem?_getD, List.getElem?_eq_getElem hk]; rfl

set_option maxHeartbeats 4000000 in
theorem copySpec_any (g : Int) (A : Option Addr) (c : Nat) (l : List OpP) (p : Nat → Option Addr × Nat) (hl : l.length ≤ 1000) (hil : ∀ i, i < l.length → (insOf l i).length ≤ 1000) (w : World) (B : Nat) (hB : B ≤ w.heap.size) (h : IsOps w B A l p) :
    Calls Try.prog 16 #[.agg #[.int .i64 g, .slice A l.length c]] w (RetSpec w g l) := by
  have HH := Lib.hid h
  have HIL := Lib.hid hil
  clear h hil
  go_enter Try.func16, Try.ntmps16
  go_wp2_with fail
  go_loopw [4] (fun q wr => ∃ (k : Nat) (A2 : Option Addr) (c2 : Nat) (p2 : Nat → Option Addr × Nat), k ≤ l.length ∧ q = .int .i64 k ∧ Below (w.heap.size + 1) (w.alloc (.cells #[.int .i64 g, .slice A l.length c] 24)) wr ∧
      Blk wr (w.heap.size + 1) 24 #[.int .i64 0, .slice none 0 0] ∧ Blk wr (w.heap.size + 1 + 1) 24 #[.int .i64 g, .slice A2 k c2] ∧ OwnOps wr (w.heap.size + 3) (.slice A2 k c2) (l.take k) p2) (fun q _ => l.length - (intOf q).toNat)
  case atStart =>
    refine ⟨0, none, 0, fun _ => (none, 0), by omega, rfl, ((Below.refl _ _).alloc (by simp) _).alloc (by simp) _, ?_, ?_, OwnOps.nil _ _ _⟩
    · have := (Blk.new (w.alloc (.cells #[.int .i64 g, .slice A l.length c] 24)) 24 #[.int .i64 0, .slice none 0 0]).alloc (.cells #[.int .i64 g, .slice none 0 0] 24)
      simpa using this
    · have := Blk.new ((w.alloc (.cells #[.int .i64 g, .slice A l.length c] 24)).alloc (.cells #[.int .i64 0, .slice none 0 0] 24)) 24 #[.int .i64 g, .slice none 0 0]
      simpa using this
  case round =>
    obtain ⟨k, A2, c2, p2, hk, rfl, hbl, hb1, hb2, hown⟩ := hrel
    have HB := Lib.hid hbl
    have HB1 := Lib.hid hb1
    have HB2 := Lib.hid hb2
    have HOW := Lib.hid hown
    have hsz : w.heap.size + 3 ≤ wr.heap.size := by have := hb2.lt; omega
    have s1 : wr.cell? ⟨w.heap.size, 1, none⟩ = some (.slice A l.length c) := (hbl.cell (p := ⟨w.heap.size, 1, none⟩) (by show w.heap.size < _; omega)).trans (by go_simp)
    clear hbl hb1 hb2 hown
    by_cases hlt : k < l.length
    · obtain ⟨b, o, rfl, hb, c0, c1, c2', c3, c4, c5, c6, c7, hoi, hin⟩ := (((HH.out.more hB).alloc (Nat.le_refl _) (.cells #[.int .i64 g, .slice A l.length c] 24)).below (HB.out.mono (by omega))).at_ hlt
      have HT := Lib.hid (opTake hlt)
      have HLN : Hid ((l.take k).length = k) := by show _ = _; rw [List.length_take]; omega
      have hxl := HIL.out k hlt
      have HOI := Lib.hid hoi
      have HIN := Lib.hid hin
      unfold kindOf at c0
      unfold insOf at c1 hxl HIN
      clear hoi hin
      generalize opOf l k = O at *
      generalize p k = a at *
      have hbw : b < wr.heap.size := by omega
      go_upto_region 6 with (fail)
      obtain ⟨X, hX⟩ : ∃ X, (wr.alloc (.cells #[.int .i64 O.kind, .slice a.1 O.ins.length a.2, .int .i64 O.fo, .int .i64 O.fa, .int .i64 O.fb, .int .i64 O.parts, .int .i64 O.rate, .int .i64 O.cost] 38)) = X := ⟨_, rfl⟩
      have kO : Blk X wr.heap.size 38 (opArr O a) := hX ▸ Blk.new wr _ _
      have kX : X.heap.size = wr.heap.size + 1 := hX ▸ (by simp)
      have kB : Below wr.heap.size wr X := hX ▸ ((Below.refl _ _).alloc (Nat.le_refl _) _)
      (try rw [hX])
      clear hX c0 c1 c2' c3 c4 c5 c6 c7 s1
      obtain ⟨-, o1, -⟩ := op_blk kO
      have HO := Lib.hid kO
      have HKX := Lib.hid kX
      have HKB := Lib.hid kB
      have HCI := Lib.hid (copyInts_any a.1 a.2 O.ins w.heap.size X (by rw [kX]; omega) (HIN.out.below (kB.mono (by omega))) (by omega))
      clear kO kX kB
      go_wp2_with fail
      refine HCI.out.mono ?_
      rintro e w2 ⟨A5, c5, rfl, hown5, hb5⟩
      have kO2 : Blk w2 wr.heap.size 38 (opArr O a) := HO.out.below hb5 (by rw [HKX.out]; omega)
      obtain ⟨W3, hW3⟩ : ∃ W, w2.setCell ⟨wr.heap.size, 1, none⟩ (.slice A5 O.ins.length c5) = W := ⟨_, rfl⟩
      have kO3 : Blk W3 wr.heap.size 38 (opArr O (A5, c5)) := hW3 ▸ kO2.set_ 1 (.slice A5 O.ins.length c5)
      have hB3 : Below wr.heap.size wr W3 := hW3 ▸ ((HKB.out.trans (hb5.mono (by rw [HKX.out]; omega))).setCell (by simp) _)
      have hown3 : OwnI W3 (w.heap.size + 3) (.slice A5 O.ins.length c5) O.ins := hW3 ▸ ((hown5.far (fun e => by have h9 := (hown5.blk _ e).1; rw [HKX.out] at h9; exact absurd h9 (Nat.not_succ_le_self _)) _).mono (by rw [HKX.out]; omega))
      have HOP := Lib.hid (HOW.out.below hB3)
      have HW1 := Lib.hid (HB1.out.below hB3 (by omega))
      have HW2 := Lib.hid (HB2.out.below hB3 (by omega))
      have HBW := Lib.hid (through HB.out (by simp) hB3)
      have hsz3 : wr.heap.size ≤ W3.heap.size := hB3.size
      have HOWN3 := Lib.hid hown3
      have HSET := Lib.hid hW3
      obtain ⟨o0', o1', o2', o3', o4', o5', o6', o7'⟩ := op_blk kO3
      obtain ⟨-, e1⟩ := spec_blk HW2.out
      have hf2 := HW2.out.frozen 1
      obtain ⟨x0, x1, x2, x3, x4, x5, x6, x7⟩ := op_blk kO2
      have hfr := kO2.frozen 1
      clear hown5 hb5 kO2 kO3 hB3 hown3 o1 hW3
      go_upto_region 7 with (fail)
      rw [HSET.out]
      have HOI3 := HOI
      have HLL := Lib.hid (show (l.take k).length < 1000000 by rw [HLN.out]; omega)
      have HZ := Lib.hid (show w.heap.size + 3 ≤ W3.heap.size by omega)
      clear x0 x1 x2 x3 x4 x5 x6 x7 hfr HSET
      have ha1 : ∀ w4, Below (w.heap.size + 3) W3 w4 → Blk w4 (w.heap.size + 1 + 1) 24 #[.int .i64 g, .slice A2 k c2] := fun w4 h4 => HW2.out.below h4 (by omega)
      have HA1 := Lib.hid ha1
      clear ha1
      go_wp2_with (at_builtin; refine app_op (o := O) (q := (A5, c5)) rfl _ _ rfl (w.heap.size + 3) HOP.out rfl HOI.out HOWN3.out rfl HLL.out HZ.out ?_)
      intro v' w4 hown4 hb4
      obtain ⟨A4, c4, rfl⟩ := hown4.form
      have HO4 := Lib.hid hown4
      have HB4 := Lib.hid hb4
      obtain ⟨n4, hn4⟩ : ∃ n, (l.take k ++ [O]).length = n := ⟨_, rfl⟩
      rw [hn4] at HO4 ⊢
      have HN4 := Lib.hid (show n4 = k + 1 by rw [← hn4, List.length_append, HLN.out]; rfl)
      have kk := HA1.out w4 hb4
      have kc := (spec_blk kk).2
      have kf := kk.frozen 1
      have HKK := Lib.hid kk
      clear hown4 hb4 hn4 kk
      go_wp2
      go_roundw
      case rel =>
        refine ⟨k + 1, A4, c4, updP p2 k (A5, c5), by omega, by go_num, ((HBW.out.trans (HB4.out.mono (by omega))).setCell (by simp) _), ?_, ?_, ?_⟩
        · exact (HW1.out.below HB4.out (by omega)).far (by simp) _
        · have := HKK.out.set_ 1 (.slice A4 n4 c4)
          rw [HN4.out] at this ⊢
          exact this
        · rw [HT.out]
          have := HO4.out.low (a := ⟨w.heap.size + 1 + 1, 1, none⟩) (by show w.heap.size + 1 + 1 < _; omega) (.slice A4 n4 c4)
          rw [HN4.out] at this ⊢
          exact this
      case measure => simp [intOf]; omega
    · obtain rfl : k = l.length := by omega
      have r0 := HB1.out.cell 0
      have r1 := HB1.out.cell 1
      have f0 := HB1.out.frozen 0
      have f1 := HB1.out.frozen 1
      obtain ⟨q0, q1⟩ := spec_blk HB2.out
      have HT : Hid (l.take l.length = l) := List.take_length
      have HRB := Lib.hid (show Below w.heap.size w ((wr.setCell ⟨w.heap.size + 1, 0, none⟩ (.int .i64 g)).setCell ⟨w.heap.size + 1, 1, none⟩ (.slice A2 l.length c2)) from ((through ((Below.refl _ _).alloc (Nat.le_refl _) _) (Nat.le_refl _) (HB.out.mono (by simp))).setCell (by simp) _).setCell (by simp) _)
      have HRO := Lib.hid (show OwnOps ((wr.setCell ⟨w.heap.size + 1, 0, none⟩ (.int .i64 g)).setCell ⟨w.heap.size + 1, 1, none⟩ (.slice A2 l.length c2)) (w.heap.size + 3) (.slice A2 l.length c2) l p2 by
        have := (HOW.out.low (a := ⟨w.heap.size + 1, 0, none⟩) (by show w.heap.size + 1 < _; omega) (.int .i64 g)).low (a := ⟨w.heap.size + 1, 1, none⟩) (by show w.heap.size + 1 < _; omega) (.slice A2 l.length c2)
        rw [HT.out] at this; exact this)
      have HR1 := Lib.hid ((HB1.out.set_ 0 (.int .i64 g)).set_ 1 (.slice A2 l.length c2))
      go_wp2_with fail
      have q0' := HR1.out.cell 0
      have q1' := HR1.out.cell 1
      exact bodyPost_ret (v := .agg #[.int .i64 g, .slice A2 l.length c2]) (by simp [results, Try.results16, go_sem, q0', q1']; try rfl) rfl ⟨A2, c2, p2, rfl, HRO.out.mono (by omega), HRB.out⟩
end Go.Proofs.Ytfpikpglollkoaa.Sp
