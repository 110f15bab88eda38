/- A job's copy: its operators' inputs lie in blocks of their own, one behind the other. -/
import Derived.Test.YtcechimilefihaaSp19Y
import Derived.Deep.AppendLies

namespace Go.Proofs.Ytcechimilefihaa.Sp
open Go.ChangeShapes Go.WideShapes Go.ChangeAt Go.RowKit M

def blkOf (a : Option Addr) : Option Nat := a.map (·.block)
theorem ownBlock_slice (a : Option Addr) (n c : Nat) : (Value.slice a n c).ownBlock = blkOf a := by cases a <;> rfl
/-- the lists' blocks rise, and are below Z -/
def RiseP (p : Nat → Option Addr × Nat) (n Z : Nat) : Prop := (∀ i, i < n → ∀ g, blkOf (p i).1 = some g → g < Z) ∧ ∀ i j, i < j → j < n → ∀ g g2, blkOf (p i).1 = some g → blkOf (p j).1 = some g2 → g < g2
theorem RiseP.zero (p : Nat → Option Addr × Nat) (Z : Nat) : RiseP p 0 Z := ⟨fun i hi => absurd hi (by omega), fun i j _ hj => absurd hj (by omega)⟩
theorem RiseP.snoc {p : Nat → Option Addr × Nat} {n Z Z2 : Nat} (h : RiseP p n Z) {a : Option Addr × Nat} (ha : ∀ g, blkOf a.1 = some g → Z ≤ g ∧ g < Z2) (hZ : Z ≤ Z2) : RiseP (updP p n a) (n + 1) Z2 := by
  refine ⟨fun i hi g hg => ?_, fun i j hij hj g g2 hg hg2 => ?_⟩
  · unfold updP at hg
    by_cases e : i = n
    · rw [if_pos e] at hg; exact (ha g hg).2
    · rw [if_neg e] at hg; exact Nat.lt_of_lt_of_le (h.1 i (by omega) g hg) hZ
  · unfold updP at hg hg2
    rw [if_neg (by omega)] at hg
    by_cases e : j = n
    · rw [if_pos e] at hg2
      have := h.1 i (by omega) g hg
      have := (ha g2 hg2).1
      omega
    · rw [if_neg e] at hg2; exact h.2 i j hij (by omega) g g2 hg hg2
theorem RiseP.ne {p : Nat → Option Addr × Nat} {n Z : Nat} (h : RiseP p n Z) {i j : Nat} (hi : i < n) (hj : j < n) (hne : i ≠ j) : blkOf (p i).1 = none ∨ blkOf (p i).1 ≠ blkOf (p j).1 := by
  cases e : blkOf (p i).1 with
  | none => exact .inl rfl
  | some g =>
    right
    intro e2
    rcases Nat.lt_or_gt_of_ne hne with h1 | h1
    · have := h.2 i j h1 hj g g e e2.symm; omega
    · have := h.2 j i h1 hi g g e2.symm e; omega
/-- a job's copy -/
def RetSpecR (w : World) (g : Int) (l : List OpP) (e : Ending) (w' : World) : Prop := ∃ A c p, e = .returned (.agg #[.int .i64 g, .slice A l.length c]) ∧ OwnOps w' w.heap.size (.slice A l.length c) l p ∧ Below w.heap.size w w' ∧ RiseP p l.length w'.heap.size

set_option maxHeartbeats 4000000 in
theorem copySpecR_any (g : Int) (A : Option Addr) (c : Nat) (l : List OpP) (p : Nat → Option Addr × Nat) (hl : l.length ≤ 1000) (hil : ∀ i, i < l.length → (insOf l i).length ≤ 1000) (w : World) (B : Nat) (hB : B ≤ w.heap.size) (h : IsOps w B A l p) :
    Calls Try.prog 47 #[.agg #[.int .i64 g, .slice A l.length c]] w (RetSpecR w g l) := by
  have HH := Lib.hid h
  have HIL := Lib.hid hil
  clear h hil
  go_enter Try.func47, Try.ntmps47
  go_wp2_with fail
  go_loopw [4] (fun q wr => ∃ (k : Nat) (A2 : Option Addr) (c2 : Nat) (p2 : Nat → Option Addr × Nat), k ≤ l.length ∧ q = .int .i64 k ∧ Below (w.heap.size + 1) (w.alloc (.cells #[.int .i64 g, .slice A l.length c] 24)) wr ∧
      Blk wr (w.heap.size + 1) 24 #[.int .i64 0, .slice none 0 0] ∧ Blk wr (w.heap.size + 1 + 1) 24 #[.int .i64 g, .slice A2 k c2] ∧ OwnOps wr (w.heap.size + 3) (.slice A2 k c2) (l.take k) p2 ∧ RiseP p2 k wr.heap.size) (fun q _ => l.length - (intOf q).toNat)
  case atStart =>
    refine ⟨0, none, 0, fun _ => (none, 0), by omega, rfl, ((Below.refl _ _).alloc (by simp) _).alloc (by simp) _, ?_, ?_, OwnOps.nil _ _ _, RiseP.zero _ _⟩
    · have := (Blk.new (w.alloc (.cells #[.int .i64 g, .slice A l.length c] 24)) 24 #[.int .i64 0, .slice none 0 0]).alloc (.cells #[.int .i64 g, .slice none 0 0] 24)
      simpa using this
    · have := Blk.new ((w.alloc (.cells #[.int .i64 g, .slice A l.length c] 24)).alloc (.cells #[.int .i64 0, .slice none 0 0] 24)) 24 #[.int .i64 g, .slice none 0 0]
      simpa using this
  case round =>
    obtain ⟨k, A2, c2, p2, hk, rfl, hbl, hb1, hb2, hown, hrise⟩ := hrel
    have HRI := Lib.hid hrise
    clear hrise
    have HB := Lib.hid hbl
    have HB1 := Lib.hid hb1
    have HB2 := Lib.hid hb2
    have HOW := Lib.hid hown
    have hsz : w.heap.size + 3 ≤ wr.heap.size := by have := hb2.lt; omega
    have s1 : wr.cell? ⟨w.heap.size, 1, none⟩ = some (.slice A l.length c) := (hbl.cell (p := ⟨w.heap.size, 1, none⟩) (by show w.heap.size < _; omega)).trans (by go_simp)
    clear hbl hb1 hb2 hown
    by_cases hlt : k < l.length
    · obtain ⟨b, o, rfl, hb, c0, c1, c2', c3, c4, c5, c6, c7, hoi, hin⟩ := (((HH.out.more hB).alloc (Nat.le_refl _) (.cells #[.int .i64 g, .slice A l.length c] 24)).below (HB.out.mono (by omega))).at_ hlt
      have HT := Lib.hid (opTake hlt)
      have HLN : Hid ((l.take k).length = k) := by show _ = _; rw [List.length_take]; omega
      have hxl := HIL.out k hlt
      have HOI := Lib.hid hoi
      have HIN := Lib.hid hin
      unfold kindOf at c0
      unfold insOf at c1 hxl HIN
      clear hoi hin
      generalize opOf l k = O at *
      generalize p k = a at *
      have hbw : b < wr.heap.size := by omega
      go_upto_region 6 with (fail)
      obtain ⟨X, hX⟩ : ∃ X, (wr.alloc (.cells #[.int .i64 O.kind, .slice a.1 O.ins.length a.2, .int .i64 O.fo, .int .i64 O.fa, .int .i64 O.fb, .int .i64 O.parts, .int .i64 O.rate, .int .i64 O.cost] 40)) = X := ⟨_, rfl⟩
      have kO : Blk X wr.heap.size 40 (opArr O a) := hX ▸ Blk.new wr _ _
      have kX : X.heap.size = wr.heap.size + 1 := hX ▸ (by simp)
      have kB : Below wr.heap.size wr X := hX ▸ ((Below.refl _ _).alloc (Nat.le_refl _) _)
      (try rw [hX])
      clear hX c0 c1 c2' c3 c4 c5 c6 c7 s1
      obtain ⟨-, o1, -⟩ := op_blk kO
      have HO := Lib.hid kO
      have HKX := Lib.hid kX
      have HKB := Lib.hid kB
      have HCI := Lib.hid (copyInts_any a.1 a.2 O.ins w.heap.size X (by rw [kX]; omega) (HIN.out.below (kB.mono (by omega))) (by omega))
      clear kO kX kB
      go_wp2_with fail
      refine HCI.out.mono ?_
      rintro e w2 ⟨A5, c5, rfl, hown5, hb5⟩
      have kO2 : Blk w2 wr.heap.size 40 (opArr O a) := HO.out.below hb5 (by rw [HKX.out]; omega)
      obtain ⟨W3, hW3⟩ : ∃ W, w2.setCell ⟨wr.heap.size, 1, none⟩ (.slice A5 O.ins.length c5) = W := ⟨_, rfl⟩
      have kO3 : Blk W3 wr.heap.size 40 (opArr O (A5, c5)) := hW3 ▸ kO2.set_ 1 (.slice A5 O.ins.length c5)
      have hB3 : Below wr.heap.size wr W3 := hW3 ▸ ((HKB.out.trans (hb5.mono (by rw [HKX.out]; omega))).setCell (by simp) _)
      have hown3 : OwnI W3 (w.heap.size + 3) (.slice A5 O.ins.length c5) O.ins := hW3 ▸ ((hown5.far (fun e => by have h9 := (hown5.blk _ e).1; rw [HKX.out] at h9; exact absurd h9 (Nat.not_succ_le_self _)) _).mono (by rw [HKX.out]; omega))
      have H5B : Hid (∀ g, blkOf A5 = some g → wr.heap.size ≤ g ∧ g < W3.heap.size) := fun g hg => by
        obtain ⟨z1, z2⟩ := hown5.blk g (by rw [ownBlock_slice]; exact hg)
        rw [HKX.out] at z1
        exact ⟨by omega, by rw [← hW3]; simpa using z2⟩
      have HOP := Lib.hid (HOW.out.below hB3)
      have HW1 := Lib.hid (HB1.out.below hB3 (by omega))
      have HW2 := Lib.hid (HB2.out.below hB3 (by omega))
      have HBW := Lib.hid (through HB.out (by simp) hB3)
      have hsz3 : wr.heap.size ≤ W3.heap.size := hB3.size
      have HOWN3 := Lib.hid hown3
      have HSET := Lib.hid hW3
      obtain ⟨o0', o1', o2', o3', o4', o5', o6', o7'⟩ := op_blk kO3
      obtain ⟨-, e1⟩ := spec_blk HW2.out
      have hf2 := HW2.out.frozen 1
      obtain ⟨x0, x1, x2, x3, x4, x5, x6, x7⟩ := op_blk kO2
      have hfr := kO2.frozen 1
      clear hown5 hb5 kO2 kO3 hB3 hown3 o1 hW3
      go_upto_region 7 with (fail)
      rw [HSET.out]
      have HOI3 := HOI
      have HLL := Lib.hid (show (l.take k).length < 1000000 by rw [HLN.out]; omega)
      have HZ := Lib.hid (show w.heap.size + 3 ≤ W3.heap.size by omega)
      clear x0 x1 x2 x3 x4 x5 x6 x7 hfr HSET
      have ha1 : ∀ w4, Below (w.heap.size + 3) W3 w4 → Blk w4 (w.heap.size + 1 + 1) 24 #[.int .i64 g, .slice A2 k c2] := fun w4 h4 => HW2.out.below h4 (by omega)
      have HA1 := Lib.hid ha1
      clear ha1
      go_wp2_with (at_builtin; refine app_op (o := O) (q := (A5, c5)) rfl _ _ rfl (w.heap.size + 3) HOP.out rfl HOI.out HOWN3.out rfl HLL.out HZ.out ?_)
      intro v' w4 hown4 hb4
      obtain ⟨A4, c4, rfl⟩ := hown4.form
      have HO4 := Lib.hid hown4
      have HB4 := Lib.hid hb4
      obtain ⟨n4, hn4⟩ : ∃ n, (l.take k ++ [O]).length = n := ⟨_, rfl⟩
      rw [hn4] at HO4 ⊢
      have HN4 := Lib.hid (show n4 = k + 1 by rw [← hn4, List.length_append, HLN.out]; rfl)
      have kk := HA1.out w4 hb4
      have kc := (spec_blk kk).2
      have kf := kk.frozen 1
      have HKK := Lib.hid kk
      clear hown4 hb4 hn4 kk
      go_wp2
      go_roundw
      case rel =>
        refine ⟨k + 1, A4, c4, updP p2 k (A5, c5), by omega, by go_num, ((HBW.out.trans (HB4.out.mono (by omega))).setCell (by simp) _), ?_, ?_, ?_, ?_⟩
        · exact (HW1.out.below HB4.out (by omega)).far (by simp) _
        · have := HKK.out.set_ 1 (.slice A4 n4 c4)
          rw [HN4.out] at this ⊢
          exact this
        · rw [HT.out]
          have := HO4.out.low (a := ⟨w.heap.size + 1 + 1, 1, none⟩) (by show w.heap.size + 1 + 1 < _; omega) (.slice A4 n4 c4)
          rw [HN4.out] at this ⊢
          exact this
        · have h44 := HB4.out.size
          exact HRI.out.snoc (fun g hg => by have := H5B.out g hg; refine ⟨this.1, ?_⟩; simp; omega) (by simp; omega)
      case measure => simp [intOf]; omega
    · obtain rfl : k = l.length := by omega
      have r0 := HB1.out.cell 0
      have r1 := HB1.out.cell 1
      have f0 := HB1.out.frozen 0
      have f1 := HB1.out.frozen 1
      obtain ⟨q0, q1⟩ := spec_blk HB2.out
      have HT : Hid (l.take l.length = l) := List.take_length
      have HRB := Lib.hid (show Below w.heap.size w ((wr.setCell ⟨w.heap.size + 1, 0, none⟩ (.int .i64 g)).setCell ⟨w.heap.size + 1, 1, none⟩ (.slice A2 l.length c2)) from ((through ((Below.refl _ _).alloc (Nat.le_refl _) _) (Nat.le_refl _) (HB.out.mono (by simp))).setCell (by simp) _).setCell (by simp) _)
      have HRO := Lib.hid (show OwnOps ((wr.setCell ⟨w.heap.size + 1, 0, none⟩ (.int .i64 g)).setCell ⟨w.heap.size + 1, 1, none⟩ (.slice A2 l.length c2)) (w.heap.size + 3) (.slice A2 l.length c2) l p2 by
        have := (HOW.out.low (a := ⟨w.heap.size + 1, 0, none⟩) (by show w.heap.size + 1 < _; omega) (.int .i64 g)).low (a := ⟨w.heap.size + 1, 1, none⟩) (by show w.heap.size + 1 < _; omega) (.slice A2 l.length c2)
        rw [HT.out] at this; exact this)
      have HRR : Hid (RiseP p2 l.length ((wr.setCell ⟨w.heap.size + 1, 0, none⟩ (.int .i64 g)).setCell ⟨w.heap.size + 1, 1, none⟩ (.slice A2 l.length c2)).heap.size) := by
        show RiseP _ _ _
        have := HRI.out
        simpa using this
      have HR1 := Lib.hid ((HB1.out.set_ 0 (.int .i64 g)).set_ 1 (.slice A2 l.length c2))
      go_wp2_with fail
      have q0' := HR1.out.cell 0
      have q1' := HR1.out.cell 1
      exact bodyPost_ret (v := .agg #[.int .i64 g, .slice A2 l.length c2]) (by simp [results, Try.results47, go_sem, q0', q1']; try rfl) rfl ⟨A2, c2, p2, rfl, HRO.out.mono (by omega), HRB.out, HRR.out⟩

/-- one operator of a copy is written over -/
theorem copy_put {Y wa : World} {g : Int} {A3 : Option Addr} {c3 : Nat} {l : List OpP} {p3 : Nat → Option Addr × Nat} (hown : OwnOps wa Y.heap.size (.slice A3 l.length c3) l p3) (hb : Below Y.heap.size Y wa) {nn : Nat} (hn : nn < l.length) {j : Nat} (hj : j < 8) (u : Value) (o' : OpP)
    (hcell : ∀ k, k < 8 → cellsOp o' (p3 nn) k = if k = j then u else cellsOp (opOf l nn) (p3 nn) k) (hoi : OpIn o') (hin : o'.ins = (opOf l nn).ins) {X : World} (hX : wa.alloc (.cells #[.int .i64 g, .slice A3 l.length c3] 24) = X) :
    ∃ ga, A3 = some ⟨ga, 0, none⟩ ∧ ga < wa.heap.size ∧ X.cell? ⟨wa.heap.size, 0, none⟩ = some (.int .i64 g) ∧ X.cell? ⟨wa.heap.size, 1, none⟩ = some (.slice A3 l.length c3) ∧ X.frozen? ⟨ga, nn * 8 + j, none⟩ = false ∧ X.cell? ⟨ga, nn * 8 + j, none⟩ = some (cellsOp (opOf l nn) (p3 nn) j) ∧
      ∀ W, X.setCell ⟨ga, nn * 8 + j, none⟩ u = W → Below Y.heap.size Y W ∧ W.heap.size = wa.heap.size + 1 ∧ Blk W wa.heap.size 24 #[.int .i64 g, .slice A3 l.length c3] ∧ IsOps W (wa.heap.size + 1) A3 (setO l nn o') (updP p3 nn (p3 nn)) := by
  subst hX
  have hk : Blk (wa.alloc (.cells #[.int .i64 g, .slice A3 l.length c3] 24)) wa.heap.size 24 #[.int .i64 g, .slice A3 l.length c3] := Blk.new _ _ _
  obtain ⟨q0, q1⟩ := spec_blk hk
  have h2 : OwnOps (wa.alloc (.cells #[.int .i64 g, .slice A3 l.length c3] 24)) Y.heap.size (.slice A3 l.length c3) l p3 := hown.below ((Below.refl _ _).alloc (Nat.le_refl _) _)
  have h3 := (h2.2 nn hn).2
  have hbl := hown.blk
  obtain ⟨ga, rfl, h4, h5, h6, h7, h8⟩ := own_put h2 hn hj u o' (p3 nn) hcell hoi (B2 := Y.heap.size) (by rw [hin]; exact h3)
  have hlt := (hbl ga rfl).2
  refine ⟨ga, rfl, hlt, q0, q1, h6, h7, ?_⟩
  rintro W rfl
  refine ⟨(hb.alloc hb.size _).setCell h4 _, by simp, hk.far (by show wa.heap.size ≠ ga; omega) _, ?_⟩
  have := h8 _ rfl
  simpa using this
theorem own_put' {w : World} {B : Nat} {A : Option Addr} {n c : Nat} {l : List OpP} {p : Nat → Option Addr × Nat} (h1 : w.ownsRow B 40 8 (.slice A n c) l.length (opsCells l p)) {nn : Nat} (h2 : ∀ i, i < l.length → i ≠ nn → OpIn (opOf l i) ∧ OwnI w B (.slice (p i).1 (insOf l i).length (p i).2) (insOf l i)) (hn : nn < l.length) {j : Nat} (_hj : j < 8) (u : Value) (o' : OpP) (a' : Option Addr × Nat)
    (hcell : ∀ k, k < 8 → cellsOp o' a' k = if k = j then u else cellsOp (opOf l nn) (p nn) k) (hoi : OpIn o') {B2 : Nat} (hin : OwnI w B2 (.slice a'.1 o'.ins.length a'.2) o'.ins) :
    ∃ g, A = some ⟨g, 0, none⟩ ∧ B ≤ g ∧ g < w.heap.size ∧ w.frozen? ⟨g, nn * 8 + j, none⟩ = false ∧ w.cell? ⟨g, nn * 8 + j, none⟩ = some (cellsOp (opOf l nn) (p nn) j) ∧
      ∀ W, w.setCell ⟨g, nn * 8 + j, none⟩ u = W → IsOps W w.heap.size A (setO l nn o') (updP p nn a') := by
  obtain ⟨g, cap, hv, hBg, hlt⟩ := h1.form (by omega)
  injection hv with e1 e2 e3
  subst e1; subst e2; subst e3
  have hc : ∀ i k, i < l.length → k < 8 → w.cell? ⟨g, i * 8 + k, none⟩ = some (cellsOp (opOf l i) (p i) k) := fun i k hi hk => by
    have := h1.cells (g := g) rfl (i * 8 + k) _ (opsCells_get hi hk)
    rw [Go.WideShapes.add_plain] at this
    simpa using this
  refine ⟨g, rfl, hBg, hlt, h1.frozenAt _, hc nn j hn (by omega), ?_⟩
  rintro W rfl
  refine ⟨fun _ => ⟨g, 0, rfl, hlt, fun i hi k hk => ?_⟩, fun i hi => ?_⟩
  · rw [setO_len] at hi
    rw [Nat.zero_add]
    show _ = some (cellsOp (opOf (setO l nn o') i) (updP p nn a' i) k)
    by_cases he : i = nn
    · subst he
      rw [setO_at hn]
      unfold updP
      rw [if_pos rfl, hcell k hk]
      by_cases hk2 : k = j
      · subst hk2; rw [if_pos rfl]; exact World.cell?_setCell_same _ _ _ (hc i k hn hk)
      · rw [if_neg hk2, World.cell?_setCell_other _ _ _ _ (by intro e; injection e with _ e2; omega)]; exact hc i k hi hk
    · rw [setO_ne (Ne.symm he)]
      unfold updP
      rw [if_neg he, World.cell?_setCell_other _ _ _ _ (by intro e; injection e with _ e2; omega)]; exact hc i k hi hk
  · rw [setO_len] at hi
    have hfar : ∀ {x : Value} {xs : List Int} {B3 : Nat}, OwnI w B3 x xs → OwnI (w.setCell ⟨g, nn * 8 + j, none⟩ u) B3 x xs := fun k => k.far (by
      rcases own_ne h1 k with e | e
      · rw [e]; simp
      · intro e2; exact e (e2.trans rfl)) u
    have hsz : (w.setCell ⟨g, nn * 8 + j, none⟩ u).heap.size = w.heap.size := by simp
    rw [← hsz]
    unfold insOf
    by_cases he : i = nn
    · subst he
      rw [setO_at hn]
      unfold updP
      rw [if_pos rfl]
      exact ⟨hoi, (hfar hin).ints⟩
    · rw [setO_ne (Ne.symm he)]
      unfold updP
      rw [if_neg he]
      exact ⟨(h2 i hi he).1, (hfar (h2 i hi he).2).ints⟩

/-- append of one number in a region that draws its order -/
theorem wp_int {o : Oper} {a : Act} {K : Act → World → Prop} {Q : Exit → Act → World → Prop} {w : World} (s x : Operand)
    (ho : o.op = .call { callee := .builtin .append, args := #[s, x], argTypes := #[29, 29] }) (B : Nat) {v : Value} {xs : List Int} {u : Int} (hs : a.eval s = v) (hown : OwnI w B v xs) (hu : In64 u)
    (ad : Addr) {c : Nat} (hx : a.eval x = .slice (some ad) 1 c) (hc : w.cell? ad = some (.int .i64 u)) (hlen : xs.length < 1000000000) (hB : B ≤ w.heap.size)
    (h : ∀ g cap w', OwnI w' B (.slice (some ⟨g, 0, none⟩) (xs.length + 1) cap) (xs ++ [u]) → w.grownBy w' v.ownBlock → K (a.put o.dst (.slice (some ⟨g, 0, none⟩) (xs.length + 1) cap)) w') :
    Oper.wp Try.prog o a w K Q := by
  obtain ⟨i0, hi, hz0, hz1, hz2⟩ := info_parts infoI
  refine Go.wp_append_lies w s x 29 ho B 3 i0 (.int .i64 0) 1 8 Try.underlying29 hi hz0 hz1 hz2 rfl (by decide) v xs.length _ hs hown.1 ad 1 c [.int .i64 u] hx rfl ?_ ?_ (by decide) (by unfold maxLen; omega) (by omega) hB _ rfl ?_
  · intro j u' hj
    match j, hj with
    | 0, hj => simp at hj; subst hj; simpa [Addr.add] using hc
    | j + 1, hj => simp at hj
  · intro u' hu'; have : u' = .int .i64 u := by simpa using hu'
    subst this; rfl
  · intro g cap w' h1 h2 _ _
    refine h g cap w' ⟨?_, fun y hy => ?_⟩ h2
    · rw [List.length_append, List.map_append]; exact h1
    · rcases List.mem_append.1 hy with hy | hy
      · exact hown.2 y hy
      · have : y = u := by simpa using hy
        rw [this]; exact hu
/-- of a copy one operator's inputs have grown by one -/
theorem copy_app {Y wa : World} {g : Int} {A3 : Option Addr} {c3 : Nat} {l : List OpP} {p3 : Nat → Option Addr × Nat} (hown : OwnOps wa Y.heap.size (.slice A3 l.length c3) l p3) (hb : Below Y.heap.size Y wa) (hrise : RiseP p3 l.length wa.heap.size) {nn : Nat} (hn : nn < l.length)
    {X : World} (hX : wa.alloc (.cells #[.int .i64 g, .slice A3 l.length c3] 24) = X) (u : Int) {o : Obj} :
    ∃ ga, A3 = some ⟨ga, 0, none⟩ ∧ ga < wa.heap.size ∧ X.cell? ⟨wa.heap.size, 0, none⟩ = some (.int .i64 g) ∧ X.cell? ⟨wa.heap.size, 1, none⟩ = some (.slice A3 l.length c3) ∧ X.cell? ⟨ga, nn * 8 + 1, none⟩ = some (.slice (p3 nn).1 (insOf l nn).length (p3 nn).2) ∧
      X.heap.size = wa.heap.size + 1 ∧ Y.heap.size ≤ X.heap.size ∧ OwnI X Y.heap.size (.slice (p3 nn).1 (insOf l nn).length (p3 nn).2) (insOf l nn) ∧ wa.heap.size ≠ ga ∧
      ∀ g5 c5 w5, OwnI w5 Y.heap.size (.slice (some ⟨g5, 0, none⟩) ((insOf l nn).length + 1) c5) (insOf l nn ++ [u]) → ((X.alloc o).drew).grownBy w5 (Value.slice (p3 nn).1 (insOf l nn).length (p3 nn).2).ownBlock →
        w5.cell? ⟨wa.heap.size, 0, none⟩ = some (.int .i64 g) ∧ w5.cell? ⟨wa.heap.size, 1, none⟩ = some (.slice A3 l.length c3) ∧ w5.frozen? ⟨ga, nn * 8 + 1, none⟩ = false ∧ (∃ v, w5.cell? ⟨ga, nn * 8 + 1, none⟩ = some v) ∧
        ∀ W, w5.setCell ⟨ga, nn * 8 + 1, none⟩ (.slice (some ⟨g5, 0, none⟩) ((insOf l nn).length + 1) c5) = W → Below Y.heap.size Y W ∧ wa.heap.size + 1 ≤ W.heap.size ∧ Blk W wa.heap.size 24 #[.int .i64 g, .slice A3 l.length c3] ∧
          IsOps W W.heap.size A3 (setO l nn { opOf l nn with ins := insOf l nn ++ [u] }) (updP p3 nn (some ⟨g5, 0, none⟩, c5)) := by
  subst hX
  have hk : Blk (wa.alloc (.cells #[.int .i64 g, .slice A3 l.length c3] 24)) wa.heap.size 24 #[.int .i64 g, .slice A3 l.length c3] := Blk.new _ _ _
  obtain ⟨q0, q1⟩ := spec_blk hk
  have h2 : OwnOps (wa.alloc (.cells #[.int .i64 g, .slice A3 l.length c3] 24)) Y.heap.size (.slice A3 l.length c3) l p3 := hown.below ((Below.refl _ _).alloc (Nat.le_refl _) _)
  have hnn := (h2.2 nn hn).2
  obtain ⟨ga, cap, hv, hBg, hlt0⟩ := h2.1.form (by omega)
  injection hv with e1 e2 e3
  subst e1; subst e3
  have hlt : ga < wa.heap.size := (hown.blk ga rfl).2
  have hc1 := h2.1.cells (g := ga) rfl (nn * 8 + 1) _ (opsCells_get hn (show 1 < 8 by omega))
  rw [Go.WideShapes.add_plain] at hc1
  refine ⟨ga, rfl, hlt, q0, q1, by rw [Nat.zero_add] at hc1; exact hc1, by simp, by have := hb.size; simp; omega, hnn, by omega, ?_⟩
  intro g5 c5 w5 hown5 hg5
  have hX1 : OwnOps ((wa.alloc (.cells #[.int .i64 g, .slice (some ⟨ga, 0, none⟩) l.length c3] 24)).alloc o).drew Y.heap.size (.slice (some ⟨ga, 0, none⟩) l.length c3) l p3 := h2.below (((Below.refl _ _).alloc (Nat.le_refl _) _).drew)
  have hsz5 := hg5.size
  have hsz5' : wa.heap.size + 1 + 1 ≤ w5.heap.size := by simpa using hsz5
  have hrow5 : w5.ownsRow Y.heap.size 40 8 (.slice (some ⟨ga, 0, none⟩) l.length c3) l.length (opsCells l p3) := hX1.1.kept hg5 (by
    right
    rcases own_ne hX1.1 (hX1.2 nn hn).2 with e | e
    · rw [e]; simp [Value.ownBlock]
    · exact fun e2 => e e2.symm)
  have hother : ∀ i, i < l.length → i ≠ nn → OpIn (opOf l i) ∧ OwnI w5 Y.heap.size (.slice (p3 i).1 (insOf l i).length (p3 i).2) (insOf l i) := fun i hi hne =>
    ⟨(hX1.2 i hi).1, (hX1.2 i hi).2.grown hg5 (by rw [ownBlock_slice, ownBlock_slice]; exact hrise.ne hi hn hne)⟩
  have hblk5 : Blk w5 wa.heap.size 24 #[.int .i64 g, .slice (some ⟨ga, 0, none⟩) l.length c3] := ((hk.alloc o).drew).grown hg5 (by
    rw [ownBlock_slice]
    intro e
    have := hrise.1 nn hn _ e.symm
    omega)
  obtain ⟨s0, s1⟩ := spec_blk hblk5
  obtain ⟨ga', e', h4, h5, h6, h7, h8⟩ := own_put' (nn := nn) hrow5 hother hn (j := 1) (by omega) (.slice (some ⟨g5, 0, none⟩) ((insOf l nn).length + 1) c5) { opOf l nn with ins := insOf l nn ++ [u] } (some ⟨g5, 0, none⟩, c5)
    (fun k hk => by rcases (show k = 0 ∨ k = 1 ∨ k = 2 ∨ k = 3 ∨ k = 4 ∨ k = 5 ∨ k = 6 ∨ k = 7 by omega) with rfl | rfl | rfl | rfl | rfl | rfl | rfl | rfl <;> simp [cellsOp]) (hown.2 nn hn).1 (B2 := Y.heap.size) (by
      have : (insOf l nn ++ [u]).length = (insOf l nn).length + 1 := by simp
      show OwnI w5 Y.heap.size (.slice (some ⟨g5, 0, none⟩) (insOf l nn ++ [u]).length c5) (insOf l nn ++ [u])
      rw [this]; exact hown5)
  obtain rfl : ga = ga' := by injection e' with e'; injection e'
  refine ⟨s0, s1, h6, ⟨_, h7⟩, ?_⟩
  rintro W rfl
  have hB5 : Below Y.heap.size Y w5 := (((hb.alloc hb.size _).alloc (by have := hb.size; simp; omega) o).drew).grown hg5 (by have := hb.size; simp; omega) (fun k hk => by
    have := (hnn.blk k hk).1; exact this)
  refine ⟨hB5.setCell h4 _, by simp; omega, hblk5.far (by show wa.heap.size ≠ ga; omega) _, ?_⟩
  have := h8 _ rfl
  simpa using this
end Go.Proofs.Ytcechimilefihaa.Sp
