/- How many tasks are needed, as the document reckons it: what is laid out ahead. How many tasks are needed, as the document reckons it: operator by operator. -/
import Derived.Test.YtcechimilefihaaZl
import Derived.Test.YtcechimilefihaaSo10Y
import Derived.Test.YtcechimilefihaaZg

namespace Go.Proofs.Ytcechimilefihaa.So
open Go.ChangeShapes Go.WideShapes Go.ChangeAt Go.RowKit M Sp Fr

theorem one_any {g : Int} {A : Option Addr} {c : Nat} {l : List OpP} {p : Nat → Option Addr × Nat} {kn : List Kn} {m : Mea} (hmo : MeaOk m) {G i : Nat} {w : World} {B : Nat} (hB : B ≤ w.heap.size) (h : IsOps w B A l p) (hgv : IsGv w G kn) (hko : KnOk kn) (hkl : kn.length = l.length) (hi : i < l.length) {g' : Int} (hj : OkJ g' l) (hr : readyF l kn i = true) :
    Calls Try.prog 94 #[.agg #[.int .i64 g, .slice A l.length c], .int .i64 i, .agg (meaCells m), .slice (some ⟨G, 0, none⟩) l.length l.length] w fun e w' => e = .returned (oneV (needR (rateF l kn i) m)) ∧ Below w.heap.size w w' := by
  by_cases hk : kindOf l i = 1
  · exact one_src g A c l p kn m hmo G i w B hB h hgv hko hkl hi hj hr hk
  · exact one_in g A c l p kn m hmo G i w B hB h hgv hko hkl hi hj hr hk

/-! what the document has told so far: of operators that stand ahead in the order -/
def refO (l : List OpP) (out : List Int) (k : Nat) : List Int := (List.range l.length).map fun (j : Nat) => if (j : Int) ∈ (orderF l).take k then out.getD j 0 else 0
theorem refO_len {l : List OpP} {out : List Int} {k : Nat} : (refO l out k).length = l.length := by simp [refO]
theorem refO_get {l : List OpP} {out : List Int} {k j : Nat} (h : j < (refO l out k).length) : (refO l out k)[j] = if (j : Int) ∈ (orderF l).take k then out.getD j 0 else 0 := by simp [refO]
theorem refO_zero {l : List OpP} {out : List Int} : refO l out 0 = List.replicate l.length 0 := by
  unfold refO
  apply List.ext_getElem <;> simp
theorem take_opAt {l : List OpP} {k : Nat} (hk : k < (orderF l).length) : (orderF l).take (k + 1) = (orderF l).take k ++ [((opAt l k : Nat) : Int)] := by
  rw [List.take_add_one, List.getElem?_eq_getElem hk]
  have := (opAt_lt hk).2
  rw [List.getD_eq_getElem?_getD, List.getElem?_eq_getElem hk] at this
  rw [← this]; rfl
theorem not_in_take {l : List OpP} {k : Nat} (hk : k < (orderF l).length) : ((opAt l k : Nat) : Int) ∉ (orderF l).take k := by
  intro hm
  obtain ⟨j, hj, e⟩ := mem_getD hm
  rw [List.length_take] at hj
  have e2 : (orderF l).getD j 0 = ((orderF l).take k).getD j 0 := by
    rw [List.getD_eq_getElem?_getD, List.getD_eq_getElem?_getD, List.getElem?_take_of_lt (by omega)]
  have e3 := (opAt_lt (l := l) (k := j) (by omega)).2
  have : opAt l j = opAt l k := by rw [e2, e] at e3; omega
  have := opAt_inj (by omega) hk this
  omega
theorem refO_step {l : List OpP} {out : List Int} {k : Nat} (hk : k < (orderF l).length) : refO l out (k + 1) = (refO l out k).set (opAt l k) (out.getD (opAt l k) 0) := by
  have hop := (opAt_lt hk).1
  apply List.ext_getElem
  · simp [refO]
  · intro j h1 h2
    rw [List.getElem_set, refO_get, refO_get, take_opAt hk]
    by_cases hj : opAt l k = j
    · rw [if_pos hj, if_pos (by subst hj; simp)]; rw [hj]
    · rw [if_neg hj]
      have : ((j : Int) ∈ (orderF l).take k ++ [((opAt l k : Nat) : Int)]) ↔ ((j : Int) ∈ (orderF l).take k) := by
        rw [List.mem_append]
        constructor
        · rintro (h | h)
          · exact h
          · have : (j : Int) = (opAt l k : Nat) := by simpa using h
            omega
        · exact .inl
      simp only [this]
theorem refO_set {l : List OpP} {out : List Int} {k : Nat} (hk : k < (orderF l).length) (x : Int) : refO l (out.set (opAt l k) x) k = refO l out k := by
  apply List.ext_getElem
  · simp [refO]
  · intro j h1 h2
    rw [refO_get, refO_get]
    by_cases hj : opAt l k = j
    · subst hj
      rw [if_neg (not_in_take hk), if_neg (not_in_take hk)]
    · split
      · rw [List.getD_eq_getElem?_getD, List.getD_eq_getElem?_getD, List.getElem?_set_ne hj]
      · rfl
theorem refO_full {l : List OpP} {out : List Int} (ho : out.length = l.length) (hn : (orderF l).length = l.length) : refO l out (orderF l).length = out := by
  apply List.ext_getElem
  · rw [refO_len, ho]
  · intro j h1 h2
    have hm : (j : Int) ∈ orderF l := nodup_full (ordSt_ok l l.length).1 (ordSt_ok l l.length).2.1 (show l.length ≤ (orderF l).length by omega) j (by omega)
    rw [refO_get, List.take_length, if_pos hm]
    rw [List.getD_eq_getElem?_getD, List.getElem?_eq_getElem h2]; rfl
/-- what was not yet reckoned is as it was -/
theorem solSt_cur {g most : Int} {l : List OpP} {ms : List Mea} {cur : List Int} : ∀ k, k ≤ (orderF l).length → ∀ j, k ≤ j → j < (orderF l).length → (solSt g most l ms cur k).out.getD (opAt l j) 0 = cur.getD (opAt l j) 0 := by
  intro k
  induction k with
  | zero => intro _ j _ _; rfl
  | succ k ih =>
    intro hk j hj hjl
    have h := ih (by omega) j (by omega) hjl
    show (stepF g most l ms (solSt g most l ms cur k) (opAt l k)).out.getD (opAt l j) 0 = _
    unfold stepF
    split
    · split
      · show ((solSt g most l ms cur k).out.set _ _).getD _ 0 = _
        rw [List.getD_eq_getElem?_getD, List.getElem?_set_ne (fun e => by have := opAt_inj (by omega) hjl e; omega), ← List.getD_eq_getElem?_getD]; exact h
      · exact h
    · exact h

/-- which are known, in memory -/
def bsCells (kn : List Kn) : Array Value := (kn.map fun x => Value.bool x.is).toArray
def IsBs (w : World) (o : Nat) (kn : List Kn) : Prop := Blk w o 4 (bsCells kn)
theorem IsBs.at_ {w : World} {o : Nat} {kn : List Kn} (h : IsBs w o kn) {i : Nat} (hi : i < kn.length) : w.cell? ⟨o, i, none⟩ = some (.bool (knOf kn i).is) := by
  refine (Blk.cell h _).trans ?_
  unfold bsCells knOf
  rw [List.getElem?_toArray, List.getElem?_map, List.getElem?_eq_getElem hi, List.getD_eq_getElem?_getD, List.getElem?_eq_getElem hi]; rfl
theorem IsBs.set_ {w : World} {o : Nat} {kn : List Kn} (h : IsBs w o kn) {i : Nat} (n d : Int) : IsBs (w.setCell ⟨o, i, none⟩ (.bool true)) o (kn.set i ⟨n, d, true⟩) := by
  have := Blk.set_ h i (.bool true)
  unfold IsBs
  have e : (bsCells kn).setIfInBounds i (.bool true) = bsCells (kn.set i ⟨n, d, true⟩) := by
    unfold bsCells
    rw [List.setIfInBounds_toArray, List.map_set]
  rwa [e] at this
theorem made_bs (n : Nat) : madeCells #[.bool false] n = bsCells (List.replicate n default) := by
  have : (madeCells #[.bool false] n).toList = (bsCells (List.replicate n default)).toList := by
    rw [toList_madeCells_one]; unfold bsCells; simp; exact .inr rfl
  exact Array.toList_inj.1 this
theorem made_gv (n : Nat) : madeCells #[.int .i64 0, .int .i64 0] (n * 2) = gvCells (List.replicate n default) := by
  have hl : ∀ m : Nat, (gvL (List.replicate m default)).length = m * 2 := fun m => by
    induction m with
    | zero => rfl
    | succ m ih => rw [List.replicate_succ]; simp only [gvL, List.flatMap_cons, List.length_append] at *; rw [ih]; simp; omega
  apply Array.ext_getElem?
  intro i
  have hR : (gvCells (List.replicate n default))[i]? = (gvL (List.replicate n default))[i]? := by unfold gvCells; rw [List.getElem?_toArray]
  have hL : (madeCells #[Value.int .i64 0, .int .i64 0] (n * 2))[i]? = if i < n * 2 then some ((#[Value.int .i64 0, .int .i64 0] : Array Value)[i % 2]!) else none := by
    show (Array.map (fun x => (#[Value.int .i64 0, .int .i64 0] : Array Value)[x % 2]!) (Array.range (n * 2)))[i]? = _
    rw [Array.getElem?_map, Array.getElem?_range]
    split <;> rfl
  rw [hR, hL]
  by_cases hi : i < n * 2
  · rw [if_pos hi]
    have hd : i / 2 < (List.replicate n (default : Kn)).length := by rw [List.length_replicate]; omega
    obtain ⟨a, b⟩ := gvL_get hd
    have e : knOf (List.replicate n default) (i / 2) = default := replicate_getD
    rw [e] at a b
    rcases (show i % 2 = 0 ∨ i % 2 = 1 by omega) with h | h
    · rw [h]; rw [show i / 2 * 2 = i by omega] at a; rw [a]; rfl
    · rw [h]; rw [show i / 2 * 2 + 1 = i by omega] at b; rw [b]; rfl
  · rw [if_neg hi, List.getElem?_eq_none (by rw [hl]; omega)]
theorem infoG : (Try.prog.info? 43).map (fun i => (i.zero, i.size, i.bytes)) = some (some (.agg #[.int .i64 0, .int .i64 0]), 2, 16) := by kernel_rfl
theorem infoB : (Try.prog.info? 4).map (fun i => (i.zero, i.size, i.bytes)) = some (some (.bool false), 1, 1) := by kernel_rfl
theorem made_int (n : Nat) : madeCells #[.int .i64 0] n = intCells (List.replicate n 0) := by
  have : (madeCells #[.int .i64 0] n).toList = (intCells (List.replicate n 0)).toList := by
    rw [toList_madeCells_one]; unfold intCells; simp
  exact Array.toList_inj.1 this
theorem make_gv (n : Nat) (hn : n ≤ 1000) (w : World) : (Instr.makeSlice 101 (.int .i64 n) (.int .i64 n)).run Try.prog w = .ok (.slice (some ⟨w.heap.size, 0, none⟩) n n) (w.alloc (.cells (gvCells (List.replicate n default)) 43)) := by
  obtain ⟨i0, hi, hz0, hz1, hz2⟩ := info_parts infoG
  have := run_make (P := Try.prog) w 101 43 i0 _ Try.underlying101 hi hz0 .i64 .i64 n n (by omega) (Int.le_refl _) (by rw [hz2]; omega) (by omega)
  rw [this, hz1]
  simp only [Int.toNat_natCast, Value.cells]
  rw [made_gv]
theorem make_bs (n : Nat) (hn : n ≤ 1000) (w : World) : (Instr.makeSlice 70 (.int .i64 n) (.int .i64 n)).run Try.prog w = .ok (.slice (some ⟨w.heap.size, 0, none⟩) n n) (w.alloc (.cells (bsCells (List.replicate n default)) 4)) := by
  obtain ⟨i0, hi, hz0, hz1, hz2⟩ := info_parts infoB
  have := run_make (P := Try.prog) w 70 4 i0 _ Try.underlying70 hi hz0 .i64 .i64 n n (by omega) (Int.le_refl _) (by rw [hz2]; omega) (by omega)
  rw [this, hz1]
  simp only [Int.toNat_natCast, Value.cells, Nat.mul_one]
  rw [made_bs]
theorem make_int (n : Nat) (hn : n ≤ 1000) (w : World) : (Instr.makeSlice 29 (.int .i64 n) (.int .i64 n)).run Try.prog w = .ok (.slice (some ⟨w.heap.size, 0, none⟩) n n) (w.alloc (.cells (intCells (List.replicate n 0)) 3)) := by
  obtain ⟨i0, hi, hz0, hz1, hz2⟩ := info_parts infoI
  have := run_make (P := Try.prog) w 29 3 i0 _ Try.underlying29 hi hz0 .i64 .i64 n n (by omega) (Int.le_refl _) (by rw [hz2]; omega) (by omega)
  rw [this, hz1]
  simp only [Int.toNat_natCast, Value.cells, Nat.mul_one]
  rw [made_int]
theorem own_full {w : World} {B q n : Nat} {xs : List Int} (hB : B ≤ q) (h : Blk w q 3 (intCells xs)) (hn : xs.length = n) (hm : n ≤ 1000000) (hx : ∀ x ∈ xs, In64 x) : OwnI w B (.slice (some ⟨q, 0, none⟩) n n) xs := by
  subst hn
  refine ⟨⟨by simp, .inr ⟨q, xs.length, intCells xs, rfl, hB, h, Nat.le_refl _, by unfold maxLen; omega, by simp [intCells], by simp [intCells]; exact List.take_of_length_le (by simp)⟩⟩, hx⟩
end Go.Proofs.Ytcechimilefihaa.So

namespace Go.Proofs.Ytcechimilefihaa.So
open Go.ChangeShapes Go.WideShapes Go.ChangeAt Go.RowKit M Sp Fr

structure InRef (w : World) (B2 : Nat) (g : Int) (A : Option Addr) (c : Nat) (l : List OpP) (v1 v2 : Value) (o1 G H : Nat) (out : List Int) (kn : List Kn) (wr : World) : Prop where
  below : Below w.heap.size w wr
  spec : Blk wr w.heap.size 24 #[.int .i64 g, .slice A l.length c]
  out : OwnI wr w.heap.size v1 out
  gv : IsGv wr G kn
  bs : IsBs wr H kn
  ord : OwnI wr B2 v2 (orderF l)

theorem m6_keep {w Y : World} {x b o : Nat} {a0 a1 a2 a3 a4 a5 : Value} (hx : x < w.heap.size) (hb : b < w.heap.size)
    (h : w.cell? ⟨x, 0, none⟩ = some a0 ∧ w.cell? ⟨x, 1, none⟩ = some a1 ∧ w.cell? ⟨b, o, none⟩ = some a2 ∧ w.cell? ⟨b, o + 1, none⟩ = some a3 ∧ w.cell? ⟨b, o + 2, none⟩ = some a4 ∧ w.cell? ⟨b, o + 3, none⟩ = some a5) (hY : Below w.heap.size w Y) :
    Y.cell? ⟨x, 0, none⟩ = some a0 ∧ Y.cell? ⟨x, 1, none⟩ = some a1 ∧ Y.cell? ⟨b, o, none⟩ = some a2 ∧ Y.cell? ⟨b, o + 1, none⟩ = some a3 ∧ Y.cell? ⟨b, o + 2, none⟩ = some a4 ∧ Y.cell? ⟨b, o + 3, none⟩ = some a5 :=
  ⟨(hY.cell (p := ⟨x, 0, none⟩) hx).trans h.1, (hY.cell (p := ⟨x, 1, none⟩) hx).trans h.2.1, (hY.cell (p := ⟨b, o, none⟩) hb).trans h.2.2.1, (hY.cell (p := ⟨b, o + 1, none⟩) hb).trans h.2.2.2.1, (hY.cell (p := ⟨b, o + 2, none⟩) hb).trans h.2.2.2.2.1, (hY.cell (p := ⟨b, o + 3, none⟩) hb).trans h.2.2.2.2.2⟩
theorem in_lt {g : Int} {l : List OpP} (hj : OkJ g l) {i : Nat} (hi : i < l.length) {x : Int} (hx : x ∈ insOf l i) : ∃ j : Nat, x = j ∧ j < l.length := by
  obtain ⟨j, a, b, -⟩ := ins_in (hj.alone i hi) x hx
  exact ⟨j, a, b⟩
theorem in_len {g : Int} {l : List OpP} (hj : OkJ g l) {i : Nat} (hi : i < l.length) : (insOf l i).length ≤ 12 := by
  by_cases hk : kindOf l i = 1
  · rw [(ins_many (hj.alone i hi)).1 hk]; simp
  · exact (in_facts hj hi hk).2.2
section
variable {w wr : World} {B2 c b1 o1 G H n c1 i : Nat} {g u : Int} {A : Option Addr} {l : List OpP} {v2 : Value} {out : List Int} {kn : List Kn}
/-- a number is told -/
theorem InRef.put1 (h : InRef w B2 g A c l (.slice (some ⟨b1, 0, none⟩) n c1) v2 o1 G H out kn wr) (hb : b1 < B2) (h0 : w.heap.size < b1) (hG : b1 ≠ G) (hH : b1 ≠ H) (hi : i < out.length) (hu : In64 u) :
    InRef w B2 g A c l (.slice (some ⟨b1, 0, none⟩) n c1) v2 o1 G H (out.set i u) kn (wr.setCell ⟨b1, i, none⟩ (.int .i64 u)) :=
  ⟨h.below.setCell (Nat.le_of_lt h0) _, h.spec.far (p := ⟨b1, i, none⟩) (by show w.heap.size ≠ b1; omega) _, (own_int_set h.out hi u hu).2, Blk.far h.gv (p := ⟨b1, i, none⟩) (by show G ≠ b1; omega) _, Blk.far h.bs (p := ⟨b1, i, none⟩) (by show H ≠ b1; omega) _, h.ord.far (fun e => by have h2 := (h.ord.blk _ e).1; simp only at h2; omega) _⟩
theorem InRef.step {Z : World} {v1 : Value} (h : InRef w B2 g A c l v1 v2 o1 G H out kn wr) (hb : Below wr.heap.size wr Z) : InRef w B2 g A c l v1 v2 o1 G H out kn Z :=
  ⟨through h.below (Nat.le_refl _) hb, h.spec.below hb h.spec.lt, h.out.below hb, h.gv.below hb, Blk.below h.bs hb (Blk.lt h.bs), h.ord.below hb⟩
/-- what is given is laid down -/
theorem InRef.known {x y : Int} (h : InRef w B2 g A c l (.slice (some ⟨b1, 0, none⟩) n c1) v2 o1 (b1 + 1) (b1 + 1 + 1) out kn wr) (hi : i < kn.length) (hb : b1 + 1 + 1 < B2) (h0 : w.heap.size < b1) (_hz : b1 + 1 + 1 < B2) :
    InRef w B2 g A c l (.slice (some ⟨b1, 0, none⟩) n c1) v2 o1 (b1 + 1) (b1 + 1 + 1) out (kn.set i ⟨x, y, true⟩) (((wr.setCell ⟨b1 + 1 + 1, i, none⟩ (.bool true)).setCell ⟨b1 + 1, i * 2, none⟩ (.int .i64 x)).setCell ⟨b1 + 1, i * 2 + 1, none⟩ (.int .i64 y)) := by
  have hn : ∀ g, v2.ownBlock = some g → B2 ≤ g := fun g e => (h.ord.blk g e).1
  have e1 : ∀ a : Addr, a.block < B2 → v2.ownBlock ≠ some a.block := fun a ha e => by have := hn _ e; omega
  refine ⟨((h.below.setCell (by show w.heap.size ≤ b1 + 1 + 1; omega) _).setCell (by show w.heap.size ≤ b1 + 1; omega) _).setCell (by show w.heap.size ≤ b1 + 1; omega) _, ?_, ?_, ?_, ?_, ?_⟩
  · exact ((h.spec.far (p := ⟨b1 + 1 + 1, i, none⟩) (by show w.heap.size ≠ b1 + 1 + 1; omega) _).far (p := ⟨b1 + 1, i * 2, none⟩) (by show w.heap.size ≠ b1 + 1; omega) _).far (p := ⟨b1 + 1, i * 2 + 1, none⟩) (by show w.heap.size ≠ b1 + 1; omega) _
  · exact ((h.out.far (a := ⟨b1 + 1 + 1, i, none⟩) (by simp [Value.ownBlock]; omega) _).far (a := ⟨b1 + 1, i * 2, none⟩) (by simp [Value.ownBlock]) _).far (a := ⟨b1 + 1, i * 2 + 1, none⟩) (by simp [Value.ownBlock]) _
  · exact IsGv.set_ (Blk.far h.gv (p := ⟨b1 + 1 + 1, i, none⟩) (by show b1 + 1 ≠ b1 + 1 + 1; omega) _) hi x y true
  · exact Blk.far (Blk.far (IsBs.set_ h.bs x y) (p := ⟨b1 + 1, i * 2, none⟩) (by show b1 + 1 + 1 ≠ b1 + 1; omega) _) (p := ⟨b1 + 1, i * 2 + 1, none⟩) (by show b1 + 1 + 1 ≠ b1 + 1; omega) _
  · exact ((h.ord.far (e1 ⟨b1 + 1 + 1, i, none⟩ hb) _).far (e1 ⟨b1 + 1, i * 2, none⟩ (by show b1 + 1 < B2; omega)) _).far (e1 ⟨b1 + 1, i * 2 + 1, none⟩ (by show b1 + 1 < B2; omega)) _
end

set_option maxRecDepth 100000 in
set_option maxHeartbeats 4000000 in
theorem refSolve_any (g most : Int) (A M C : Option Addr) (c mc cc : Nat) (l : List OpP) (p : Nat → Option Addr × Nat) (ms : List Mea) (cur : List Int) (w : World) (B : Nat) (hB : B ≤ w.heap.size) (h : IsOps w B A l p) (hm : IsQuads w B M mc ms) (hc : IsInts w B ⟨C, cc, cur⟩) (hok : Ok g most l ms cur) :
    Calls Try.prog 50 #[.agg #[.int .i64 g, .slice A l.length c], .slice M ms.length mc, .slice C cur.length cc, .int .i64 most] w (RetSol w (solF g most l ms cur)) := by
  have hn := hok.nlen
  have hmk1 := make_int l.length (by omega)
  have hmk2 := make_gv l.length (by omega)
  have hmk3 := make_bs l.length (by omega)
  obtain ⟨b, ob, rfl, hb, -⟩ := h.at_ (show 0 < l.length by omega)
  obtain ⟨bm, om, -, rfl, hbm, -⟩ := quads_at hm (k := 0) (by rw [hok.mlen]; omega)
  obtain ⟨bc, oc, -, rfl, hbc, -⟩ := Sp.ints_at hc (k := 0) (by rw [hok.clen]; omega)
  rw [hok.mlen, hok.clen]
  have HH := Lib.hid h
  have HM := Lib.hid hm
  have HC := Lib.hid hc
  have HOK := Lib.hid hok
  clear h hm hc hok
  go_enter Try.func50, Try.ntmps50
  go_upto_region 5 with (fail)
  obtain ⟨X, hX⟩ : ∃ X, ((((w.alloc (.cells #[.int .i64 g, .slice (some ⟨b, ob, none⟩) l.length c] 24)).alloc (.cells (intCells (List.replicate l.length 0)) 3)).alloc (.cells (gvCells (List.replicate l.length default)) 43)).alloc (.cells (bsCells (List.replicate l.length default)) 4)) = X := ⟨_, rfl⟩
  have T0 : Bs w w.heap.size [(w.heap.size + 1 + 1 + 1, 4, bsCells (List.replicate l.length default)), (w.heap.size + 1 + 1, 43, gvCells (List.replicate l.length default)), (w.heap.size + 1, 3, intCells (List.replicate l.length 0)), (w.heap.size, 24, #[.int .i64 g, .slice (some ⟨b, ob, none⟩) l.length c])] X := by
    rw [← hX]
    exact ((((Bs.nil w w.heap.size).alloc (Nat.le_refl _) _ _ rfl).alloc (Nat.le_refl _) _ _ (by simp)).alloc (Nat.le_refl _) _ _ (by simp)).alloc (Nat.le_refl _) _ _ (by simp)
  rw [hX]
  have T := Lib.hid T0
  clear hX T0 hmk1 hmk2 hmk3
  obtain ⟨s0, s1⟩ := spec_of T.out.g3
  have HOR := Lib.hid (refOrder_any g (some ⟨b, ob, none⟩) c l p X B (Nat.le_trans hB T.out.1.size) (HH.out.below (T.out.1.mono hB)) (by omega))
  go_wp2_with fail
  refine HOR.out.mono ?_
  rintro e w2 ⟨A2, c2, rfl, own2, hb2⟩
  have hol0 : (orderF l).length = l.length := HOK.out.olen
  obtain ⟨b2, o2, -, rfl, -⟩ := Sp.ints_at own2.ints (k := 0) (by rw [hol0]; omega)
  obtain ⟨hb2w, rfl, -⟩ := own2.ints_own rfl
  have T1 := T.out.step (Nat.le_refl _) hb2
  have hI : InRef w X.heap.size g (some ⟨b, ob, none⟩) c l (.slice (some ⟨w.heap.size + 1, 0, none⟩) l.length l.length) (.slice (some ⟨b2, 0, none⟩) (orderF l).length c2) (w.heap.size + 1) (w.heap.size + 1 + 1) (w.heap.size + 1 + 1 + 1) (refO l (solSt g most l ms cur 0).out 0) (solSt g most l ms cur 0).kn w2 :=
    ⟨T1.1, T1.g3, own_full (by omega) (by rw [refO_zero]; exact T1.g2) refO_len (by omega) (by rw [refO_zero]; intro x hx; have := List.eq_of_mem_replicate hx; subst this; exact ⟨by decide, by decide⟩), T1.g1, T1.g0, own2⟩
  have hXs : w.heap.size + 1 + 1 + 1 < X.heap.size := T.out.g0.lt
  have HI := Lib.hid hI
  have HOL := Lib.hid hol0
  have hol : (orderF l).length ≤ 12 := by rw [HOL.out]; exact hn.2
  clear own2 hb2 T T1 hI s0 s1 HOR hol0
  go_wp2_with fail
  go_loopw [14, 16] (fun f u wr => ∃ k : Nat, k ≤ (orderF l).length ∧ u = .int .i64 k ∧ f = .int .i64 (solSt g most l ms cur k).first ∧ InRef w X.heap.size g (some ⟨b, ob, none⟩) c l (.slice (some ⟨w.heap.size + 1, 0, none⟩) l.length l.length) (.slice (some ⟨b2, 0, none⟩) (orderF l).length c2) (w.heap.size + 1) (w.heap.size + 1 + 1) (w.heap.size + 1 + 1 + 1) (refO l (solSt g most l ms cur k).out k) (solSt g most l ms cur k).kn wr) (fun _ u _ => (orderF l).length - (intOf u).toNat)
  case atStart => exact ⟨0, by omega, rfl, rfl, HI.out⟩
  case round =>
    obtain ⟨k, hk, rfl, rfl, hin⟩ := hrel
    have HIN := Lib.hid hin
    clear hin
    by_cases hlt : k < (orderF l).length
    · have hkl : k < l.length := by have := HOL.out; omega
      obtain ⟨v, HV, -, d0⟩ := Sp.ints_get HIN.out.ord.ints hlt
      obtain ⟨hop, hov⟩ := opAt_lt (l := l) hlt
      obtain rfl : v = (opAt l k : Nat) := HV.out.symm.trans hov
      simp only [Nat.zero_add] at d0
      have HST := Lib.hid (solSt_ok HOK.out k (by omega))
      have HSU := Lib.hid (show solSt g most l ms cur (k + 1) = stepF g most l ms (solSt g most l ms cur k) (opAt l k) from rfl)
      have HBA := Lib.hid HIN.out.below
      obtain ⟨cv, HCV, hcv64, x0⟩ := Sp.ints_get (HC.out.below (HBA.out.mono hB)) (show opAt l k < cur.length by rw [HOK.out.clen]; exact hop)
      have HCU := Lib.hid ((solSt_cur (g := g) (most := most) (ms := ms) (cur := cur) k (by omega) k (Nat.le_refl _) hlt).trans HCV.out)
      generalize solSt g most l ms cur k = st at *
      have hopr : opAt l k < (refO l st.out k).length := by rw [refO_len]; exact hop
      have g0 := own_int_get HIN.out.out hopr
      obtain ⟨g1, hset⟩ := own_int_set HIN.out.out hopr cv hcv64
      have HN1 := Lib.hid (HIN.out.put1 (by omega) (by omega) (by omega) (by omega) hopr hcv64)
      have hst1 : (refO l st.out k).set (opAt l k) cv = refO l st.out (k + 1) := by rw [refO_step hlt, HCU.out]
      rw [hst1] at HN1
      clear hset hst1 HCV
      go_upto_region 12 with (fail)
      generalize wr.setCell ⟨w.heap.size + 1, opAt l k, none⟩ (.int .i64 cv) = W1 at *
      clear g0 g1 x0 d0 hcv64 hopr HIN HBA
      have HB1 := Lib.hid HN1.out.below
      obtain ⟨s0, s1⟩ := spec_of HN1.out.spec
      have hopc := ops_cells (HH.out.below (HB1.out.mono hB)) hop
      have q1 := hopc.2.1
      have HIS := Lib.hid (HH.out.2 _ hop).2
      have hW1 := HB1.out.size
      have hbW : b < W1.heap.size := by omega
      clear hopc
      have HINL := Lib.hid (in_len HOK.out.okJ hop)
      have hinl := HINL.out
      go_wp2_with fail
      go_loop [18, 19] (fun r u => ∃ j : Nat, j ≤ (insOf l (opAt l k)).length ∧ u = .int .i64 j ∧ r = .bool (((insOf l (opAt l k)).take j).all fun x => (knOf st.kn x.toNat).is)) (fun _ u => (insOf l (opAt l k)).length - (intOf u).toNat)
      case atStart => exact ⟨0, by omega, rfl, by simp⟩
      case round =>
        obtain ⟨j, hj, rfl, rfl⟩ := hrel
        by_cases hltj : j < (insOf l (opAt l k)).length
        · obtain ⟨b3, o3, v, hpa, hb3, HV, hv64, d0⟩ := Sp.ints_at (HIS.out.below (HB1.out.mono hB)) hltj
          obtain ⟨jn, rfl, hjn⟩ : ∃ jj : Nat, v = jj ∧ jj < l.length := in_lt HOK.out.okJ hop (HV.out ▸ getD_mem hltj)
          have e0 := HN1.out.bs.at_ (show jn < st.kn.length by rw [HST.out.klen]; exact hjn)
          have HT := Lib.hid (show ((insOf l (opAt l k)).take (j + 1)).all (fun x => (knOf st.kn x.toNat).is) = (((insOf l (opAt l k)).take j).all (fun x => (knOf st.kn x.toNat).is) && (knOf st.kn jn).is) by
            rw [take_snoc hltj HV.out, List.all_append]; simp)
          generalize ((insOf l (opAt l k)).take j).all (fun x => (knOf st.kn x.toNat).is) = rb at *
          generalize (knOf st.kn jn).is = kb at *
          cases kb
          all_goals
            go_wp2_with fail
            go_round
            case rel => exact ⟨j + 1, by omega, by go_num, by rw [HT.out]; simp⟩
            case measure => simp [intOf]; omega
        · obtain rfl : j = (insOf l (opAt l k)).length := by omega
          have HRE := Lib.hid (show ((insOf l (opAt l k)).take (insOf l (opAt l k)).length).all (fun x => (knOf st.kn x.toNat).is) = readyF l st.kn (opAt l k) by rw [List.take_length]; rfl)
          rw [HRE.out]
          cases hr : readyF l st.kn (opAt l k) with
          | false =>
            have HE := Lib.hid (HSU.out.trans (step_wait hr))
            clear hr
            go_wp2_with fail
            go_roundw
            case rel => exact ⟨k + 1, by omega, by go_num, by rw [HE.out], by rw [HE.out]; exact HN1.out⟩
            case measure => simp [intOf]; omega
          | true =>
            obtain ⟨m, HMV, hm4, m0, m1, m2, m3⟩ := quads_get (HM.out.below (HB1.out.mono hB)) (show opAt l k < ms.length by rw [HOK.out.mlen]; exact hop)
            have HME := Lib.hid (show meaOf ms (opAt l k) = m from HMV.out)
            have hmo := HOK.out.mea (opAt l k) hop
            rw [HME.out] at hmo
            have HONE := Lib.hid (fun X (hX : Below W1.heap.size W1 X) => one_any hmo (Nat.le_trans (Nat.le_trans hB hW1) hX.size) ((HH.out.below (HB1.out.mono hB)).below (hX.mono (Nat.le_trans hB hW1))) (IsGv.below HN1.out.gv hX) HST.out.kok HST.out.klen hop HOK.out.okJ hr (g := g) (c := c))
            have HCUT := Lib.hid (fun t X (hX : Below w.heap.size w X) => refCut_any g most t (some ⟨b, ob, none⟩) c l p (opAt l k) X B (Nat.le_trans hB hX.size) (HH.out.below (hX.mono hB)) hop (by omega) (HOK.out.lim hop).1)
            have hey := fun he => HSU.out.trans (step_yes (st := st) (op := opAt l k) (g := g) (most := most) (ms := ms) hr he)
            have hen := fun he => HSU.out.trans (step_no (st := st) (op := opAt l k) (g := g) (most := most) (ms := ms) hr he)
            rw [HME.out] at hey hen
            unfold oneV at HONE
            generalize needR (rateF l st.kn (opAt l k)) m = nr at *
            obtain ⟨nt, nn, nd, ne⟩ := nr
            simp only at hey hen HONE
            have HEY := Lib.hid hey
            have HEN := Lib.hid hen
            have hlim := HOK.out.lim hop
            have hcut := cut_bd (t := nt) hlim.1
            generalize limF g most l (opAt l k) = lim at *
            obtain ⟨ct, hct⟩ : ∃ x, cutF nt lim = x := ⟨_, rfl⟩
            rw [hct] at hcut
            have HCT := Lib.hid hct
            have hct64 : In64 ct := by unfold In64; omega
            clear hey hen hmo hr hlim hct
            have hke := fun Y (hY : Below W1.heap.size W1 Y) => m6_keep (w := W1) (Y := Y) (x := w.heap.size) (b := bm) (o := om + opAt l k * 4) HN1.out.spec.lt (by omega) ⟨s0, s1, m0, m1, m2, m3⟩ hY
            have HKE := Lib.hid hke
            unfold meaCells at HONE
            go_upto_region 19 with (fail)
            clear hke q1
            go_region_held3 (fun w' => (w'.cell? ⟨w.heap.size, 0, none⟩ = some (.int .i64 g) ∧ w'.cell? ⟨w.heap.size, 1, none⟩ = some (.slice (some ⟨b, ob, none⟩) l.length c) ∧ w'.cell? ⟨bm, om + opAt l k * 4, none⟩ = some (.int .i64 m.1) ∧ w'.cell? ⟨bm, om + opAt l k * 4 + 1, none⟩ = some (.int .i64 m.2.1) ∧ w'.cell? ⟨bm, om + opAt l k * 4 + 2, none⟩ = some (.int .i64 m.2.2.1) ∧ w'.cell? ⟨bm, om + opAt l k * 4 + 3, none⟩ = some (.int .i64 m.2.2.2)))
              (first | exact ⟨s0, s1, m0, m1, m2, m3⟩ | exact HKE.out _ (Below.refl _ _).drew | exact HKE.out _ ((Below.refl _ _).alloc (Nat.le_refl _) _).drew | exact HKE.out _ (kA hb1) | exact HKE.out _ (kB hb1) | exact HKE.out _ (kA2 hb1 _ _) | exact HKE.out _ (kB2 hb1 _) | exact HKE.out _ (kB3 hb1 _ _ _))
              ((first | (go_at_call 94; refine (HONE.out _ (Below.refl _ _).drew).mono ?_; rintro e w3 ⟨rfl, hb1⟩; obtain ⟨hcc, hff⟩ := below_cells hb1) | (go_at_call 94; refine (HONE.out _ ((Below.refl _ _).alloc (Nat.le_refl _) _).drew).mono ?_; rintro e w3 ⟨rfl, hb1⟩; obtain ⟨hcc, hff⟩ := below_cells hb1)))
            all_goals clear hcc hff
            all_goals rename_i hHeld
            all_goals first
              | (have HZ := Lib.hid (kA2 hb1 (.int .i64 nn) (.int .i64 nd)); have HF2 := Lib.hid ((kF hb1).put (c := nn) (d := nd)); generalize ((w3.setCell ⟨W1.heap.size, 0, none⟩ (.int .i64 nn)).setCell ⟨W1.heap.size, 1, none⟩ (.int .i64 nd)) = Z at *; clear hb1; obtain ⟨g21, hg21⟩ : ∃ x, W1.heap.size = x := ⟨_, rfl⟩; have hgz : W1.heap.size ≤ g21 := Nat.le_of_eq hg21; rw [hg21] at HF2 ⊢; clear hg21)
              | (have HZ := Lib.hid (kB2 hb1 (.cells #[.int .i64 nn, .int .i64 nd] 43)); have HF2 := Lib.hid (frac_at w3 nn nd w3.heap.size rfl); unfold fob at HF2; have hgz : W1.heap.size ≤ w3.heap.size := (kB hb1).size; generalize w3.alloc (.cells #[.int .i64 nn, .int .i64 nd] 43) = Z at *; clear hb1; obtain ⟨g21, hg21⟩ : ∃ x, w3.heap.size = x := ⟨_, rfl⟩; rw [hg21] at HF2 hgz ⊢; clear hg21)
            all_goals
              have HZN := Lib.hid (HN1.out.step HZ.out)
              have hH : w.heap.size + 1 + 1 + 1 < W1.heap.size := Blk.lt HN1.out.bs
              have hgH : w.heap.size + 1 + 1 + 1 < g21 := by omega
              have hgH1 : g21 ≠ w.heap.size + 1 + 1 + 1 := by omega
              have hgH2 : w.heap.size + 1 + 1 + 1 ≠ g21 := by omega
              clear s0 s1 m0 m1 m2 m3 HKE HN1 hHeld
              by_cases he : ne = 0
              · subst he
                have HE := Lib.hid (HEY.out rfl)
                have HCU2 := Lib.hid (HCUT.out nt)
                rw [HCT.out] at HE HCU2
                have hopk : opAt l k < st.kn.length := by rw [HST.out.klen]; exact hop
                obtain ⟨y0, y1⟩ := frac_of HF2.out
                have i0 := HZN.out.bs.at_ hopk
                have i1 := Blk.frozen HZN.out.bs (opAt l k)
                obtain ⟨j0, j1⟩ := HZN.out.gv.at_ hopk
                have j2 := HZN.out.gv.free (opAt l k * 2)
                have j3 := HZN.out.gv.free (opAt l k * 2 + 1)
                obtain ⟨s0, s1⟩ := spec_of HZN.out.spec
                have HKN := Lib.hid (HZN.out.known (i := opAt l k) (x := nn) (y := nd) hopk (by omega) (by omega) hXs)
                go_upto_region 25 with (fail)
                generalize ((Z.setCell ⟨w.heap.size + 1 + 1 + 1, opAt l k, none⟩ (.bool true)).setCell ⟨w.heap.size + 1 + 1, opAt l k * 2, none⟩ (.int .i64 nn)).setCell ⟨w.heap.size + 1 + 1, opAt l k * 2 + 1, none⟩ (.int .i64 nd) = Z2 at *
                clear y0 y1 i0 i1 j0 j1 j2 j3 s0 s1
                obtain ⟨s0, s1⟩ := spec_of HKN.out.spec
                go_wp2_with fail
                refine (HCU2.out _ HKN.out.below).mono ?_
                rintro e w5 ⟨rfl, hb5⟩
                have HK5 := Lib.hid (HKN.out.step hb5)
                clear hb5 s0 s1
                have hopr : opAt l k < (refO l st.out (k + 1)).length := by rw [refO_len]; exact hop
                have g0 := own_int_get HK5.out.out hopr
                obtain ⟨g1, -⟩ := own_int_set HK5.out.out hopr ct hct64
                have HN6 := Lib.hid (HK5.out.put1 (u := ct) (by omega) (by omega) (by omega) (by omega) hopr hct64)
                have hro : (refO l st.out (k + 1)).set (opAt l k) ct = refO l (st.out.set (opAt l k) ct) (k + 1) := by
                  rw [refO_step hlt, refO_step hlt, refO_set hlt, List.set_set, List.getD_eq_getElem?_getD, List.getElem?_set_self (by rw [HST.out.olen]; exact hop)]; rfl
                rw [hro] at HN6
                clear hro
                go_wp2_with fail
                go_roundw
                case rel => exact ⟨k + 1, by omega, by go_num, by rw [HE.out], by rw [HE.out]; exact HN6.out⟩
                case measure => simp [intOf]; omega
              · have te : (ne == 0) = false := by simpa using he
                have te2 : (ne != 0) = true := by simpa using he
                have HE := Lib.hid (HEN.out he)
                clear he
                by_cases hf : st.first = 0
                · have tf : (st.first == 0) = true := by simpa using hf
                  rw [if_pos hf] at HE
                  clear hf
                  go_wp2_with fail
                  go_roundw
                  case rel => exact ⟨k + 1, by omega, by go_num, by rw [HE.out], by rw [HE.out]; exact HZN.out⟩
                  case measure => simp [intOf]; omega
                · have tf : (st.first == 0) = false := by simpa using hf
                  rw [if_neg hf] at HE
                  clear hf
                  go_wp2_with fail
                  go_roundw
                  case rel => exact ⟨k + 1, by omega, by go_num, by rw [HE.out], by rw [HE.out]; exact HZN.out⟩
                  case measure => simp [intOf]; omega
    · obtain rfl : k = (orderF l).length := by omega
      have HOL2 := Lib.hid (solSt_ok HOK.out (orderF l).length (by rw [HOL.out]; exact Nat.le_refl _)).olen
      have HOUT := HIN.out.out
      rw [refO_full HOL2.out HOL.out] at HOUT
      have HO := Lib.hid HOUT
      have HF := Lib.hid (show solF g most l ms cur = solSt g most l ms cur (orderF l).length from rfl)
      have HBA := Lib.hid HIN.out.below
      generalize solSt g most l ms cur (orderF l).length = st at *
      obtain ⟨so, sk, sf⟩ := st
      clear hlt HOUT
      go_wp2_with fail
      go_returns
      rw [HF.out]
      exact ⟨some ⟨w.heap.size + 1, 0, none⟩, l.length, by first | (rw [show so.length = l.length from HOL2.out]; done) | (rw [show so.length = l.length from HOL2.out]; rfl) | (simp; exact HOL2.out.symm), by rw [show so.length = l.length from HOL2.out]; exact HO.out, HBA.out⟩
end Go.Proofs.Ytcechimilefihaa.So
