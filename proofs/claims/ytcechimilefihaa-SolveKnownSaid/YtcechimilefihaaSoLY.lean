/- Lists of yes-or-noes in memory; measures written in place; what is lost so far. -/
import Derived.Test.YtcechimilefihaaSoKY
import Derived.Test.YtcechimilefihaaZa
import Derived.Test.YtcechimilefihaaZn

namespace Go.Proofs.Ytcechimilefihaa.So
open Go.ChangeShapes Go.WideShapes Go.ChangeAt Go.RowKit Go.Deep M Sp Fr

/-- a list of yes-or-noes that came in -/
def IsBools (w : World) (B : Nat) (A : Option Addr) (c : Nat) (bs : List Bool) : Prop :=
  Lies w B 1 A bs.length (fun i _ => .bool (bs.getD i false)) ∧ bs.length ≤ c ∧ c ≤ maxLen
section
variable {w w' : World} {B B' : Nat} {A : Option Addr} {c : Nat} {bs : List Bool}
theorem IsBools.below (h : IsBools w B A c bs) (hb : Below B w w') : IsBools w' B A c bs := ⟨h.1.below hb, h.2⟩
theorem IsBools.more (h : IsBools w B A c bs) (hB : B ≤ B') : IsBools w B' A c bs := ⟨h.1.more hB, h.2⟩
theorem IsBools.len (h : IsBools w B A c bs) : (bs.length : Int) ≤ 9223372036854775807 := by have h1 := h.2.1; have h2 := h.2.2; unfold maxLen at h2; omega
theorem bools_at (h : IsBools w B A c bs) {k : Nat} (hk : k < bs.length) : ∃ b o, A = some ⟨b, o, none⟩ ∧ b < B ∧ w.cell? ⟨b, o + k, none⟩ = some (.bool (bs.getD k false)) := by
  obtain ⟨b, o, e, hb, hc⟩ := h.1.at1 hk
  exact ⟨b, o, e, hb, hc⟩
end
set_option maxRecDepth 100000 in
theorem open_bools {H : Type} {enc : TypeId × Value → H} {W : World} {base : Nat} {spare : Nat → Bool} {held : Bool} {v : Value} {d : DataW H} {ps : List MemPlace}
    (hok : Value.okWide Try.prog W .any base 70 v) (h : DataW.Trod enc Try.prog W 0 spare held 70 v d ps) :
    ∃ P c xs, v = .slice P (List.length xs) c ∧ IsBools W W.heap.size P c xs := by
  obtain ⟨a, len, cap, rfl⟩ := okWide_slice Try.underlying70 hok
  obtain ⟨fuel, hf⟩ := h
  obtain ⟨A, n, c, f, hcs, hn, hc, hl, he⟩ := open_elems (k := 1) Try.underlying70 (by kernel_rfl) (by omega) (by simpa [Value.cells] using hf)
  have hex : ∀ i, i < n → ∃ z : Bool, f i 0 = .bool z := by
    intro i hi
    obtain ⟨y, m, hy⟩ := he i hi
    obtain ⟨z, hz, _⟩ := DataW.trod_bool Try.underlying4 hy
    exact ⟨z, by simpa using hz⟩
  obtain ⟨z, hz⟩ := choose_lt hex
  have hlen : ((List.range n).map z).length = n := by simp
  refine ⟨A, c, (List.range n).map z, by rw [hlen]; simpa using hcs, ?_, by rw [hlen]; exact hn, hc⟩
  rw [hlen]
  exact hl.congr fun i hi j hj => by
    obtain rfl : j = 0 := by omega
    rw [hz i hi]; simp [List.getD, hi]

/-- a block of yes-or-noes -/
def blCells (bs : List Bool) : Array Value := (bs.map Value.bool).toArray
def IsBl (w : World) (o : Nat) (bs : List Bool) : Prop := Blk w o 4 (blCells bs)
section
variable {w w' : World} {o : Nat} {bs : List Bool}
theorem IsBl.at_ (h : IsBl w o bs) {i : Nat} (hi : i < bs.length) : w.cell? ⟨o, i, none⟩ = some (.bool (bs.getD i false)) := by
  refine (Blk.cell h _).trans ?_
  unfold blCells
  rw [List.getElem?_toArray, List.getElem?_map, List.getElem?_eq_getElem hi, List.getD_eq_getElem?_getD, List.getElem?_eq_getElem hi]; rfl
theorem IsBl.set_ (h : IsBl w o bs) {i : Nat} (b : Bool) : IsBl (w.setCell ⟨o, i, none⟩ (.bool b)) o (bs.set i b) := by
  have := Blk.set_ h i (.bool b)
  unfold IsBl
  have e : (blCells bs).setIfInBounds i (.bool b) = blCells (bs.set i b) := by
    unfold blCells
    rw [List.setIfInBounds_toArray, List.map_set]
  rwa [e] at this
theorem bl_made (n : Nat) : bsCells (List.replicate n default) = blCells (List.replicate n false) := by
  unfold bsCells blCells
  rw [List.map_replicate, List.map_replicate]; rfl
end

/-- what a flag is for those that were reckoned, in the order -/
def upL (l : List OpP) (f : Nat → Bool) (k : Nat) : List Bool := (List.range l.length).map fun (j : Nat) => if (j : Int) ∈ (orderF l).take k then f j else false
section
variable {l : List OpP} {f : Nat → Bool}
theorem upL_len {k : Nat} : (upL l f k).length = l.length := by simp [upL]
theorem upL_el {k j : Nat} (h : j < (upL l f k).length) : (upL l f k)[j] = if (j : Int) ∈ (orderF l).take k then f j else false := by simp [upL]
theorem upL_zero : upL l f 0 = List.replicate l.length false := by
  unfold upL
  apply List.ext_getElem <;> simp
theorem upL_step {k : Nat} (hk : k < (orderF l).length) : upL l f (k + 1) = (upL l f k).set (opAt l k) (f (opAt l k)) := by
  have hop := (opAt_lt hk).1
  apply List.ext_getElem
  · simp [upL]
  · intro j h1 h2
    rw [List.getElem_set, upL_el, upL_el, take_opAt hk]
    by_cases hj : opAt l k = j
    · rw [if_pos hj, if_pos (by subst hj; simp), hj]
    · rw [if_neg hj]
      have : ((j : Int) ∈ (orderF l).take k ++ [((opAt l k : Nat) : Int)]) ↔ ((j : Int) ∈ (orderF l).take k) := by
        rw [List.mem_append]
        constructor
        · rintro (h | h)
          · exact h
          · have : (j : Int) = (opAt l k : Nat) := by simpa using h
            omega
        · exact .inl
      simp only [this]
theorem upL_get {k j : Nat} (hj : j < k) (hk : k ≤ (orderF l).length) : (upL l f k).getD (opAt l j) false = f (opAt l j) := by
  have hop := (opAt_lt (l := l) (k := j) (by omega)).1
  rw [List.getD_eq_getElem?_getD, List.getElem?_eq_getElem (by rw [upL_len]; exact hop)]
  show (upL l f k)[opAt l j]'(by rw [upL_len]; exact hop) = _
  rw [upL_el, if_pos]
  have h1 := (opAt_lt (l := l) (k := j) (by omega)).2
  rw [← h1, List.getD_eq_getElem?_getD, List.getElem?_eq_getElem (by omega)]
  show (orderF l)[j]'(by omega) ∈ _
  rw [List.mem_iff_getElem]
  exact ⟨j, by rw [List.length_take]; omega, by rw [List.getElem_take]⟩
end

/-- a measure is written in place -/
theorem quadL_set : ∀ {xs : List Q4} {i : Nat} {u : Q4}, i < xs.length → ((((quadCells xs).set (i * 4) (.int .i64 u.1)).set (i * 4 + 1) (.int .i64 u.2.1)).set (i * 4 + 2) (.int .i64 u.2.2.1)).set (i * 4 + 3) (.int .i64 u.2.2.2) = quadCells (xs.set i u)
  | [], i, u, h => by simp at h
  | x :: xs, 0, u, _ => by simp [quadCells]
  | x :: xs, i + 1, u, h => by
    have ih := quadL_set (xs := xs) (i := i) (u := u) (by simpa using h)
    have e1 : (i + 1) * 4 = i * 4 + 1 + 1 + 1 + 1 := by omega
    simp only [quadCells, List.flatMap_cons, e1] at *
    simpa using ih
section
variable {T : TypeId} {w : World} {B g n c : Nat} {xs : List Q4}
theorem ownq_blk (h : OwnQ T w B (.slice (some ⟨g, 0, none⟩) n c) xs) : ∃ cur, Blk w g T cur ∧ cur.size = c * 4 ∧ cur.toList.take (xs.length * 4) = quadCells xs := by
  rcases h.1.2 with ⟨hv, -⟩ | ⟨g', cap, cur, hv, -, hh, -, -, hs, ht⟩
  · cases hv
  · injection hv with e1 e2 e3
    injection e1 with e1
    injection e1 with e1
    subst e1; subst e3
    exact ⟨cur, hh, hs, ht⟩
theorem ownq_free (h : OwnQ T w B (.slice (some ⟨g, 0, none⟩) n c) xs) (j : Nat) : w.frozen? ⟨g, j, none⟩ = false := by
  obtain ⟨cur, hb, -, -⟩ := ownq_blk h
  exact hb.frozen j
theorem ownq_set (h : OwnQ T w B (.slice (some ⟨g, 0, none⟩) n c) xs) {i : Nat} (hi : i < xs.length) (u : Q4) (hu : In4 u) :
    OwnQ T ((((w.setCell ⟨g, i * 4, none⟩ (.int .i64 u.1)).setCell ⟨g, i * 4 + 1, none⟩ (.int .i64 u.2.1)).setCell ⟨g, i * 4 + 2, none⟩ (.int .i64 u.2.2.1)).setCell ⟨g, i * 4 + 3, none⟩ (.int .i64 u.2.2.2)) B (.slice (some ⟨g, 0, none⟩) n c) (xs.set i u) := by
  obtain ⟨⟨h1, h2⟩, h4⟩ := h
  rcases h2 with ⟨hv, -⟩ | ⟨g', cap, cur, hv, hg, hh, hn, hm, hs, ht⟩
  · cases hv
  · injection hv with e1 e2 e3
    injection e1 with e1
    injection e1 with e1
    subst e1; subst e2; subst e3
    have hb := (((Blk.set_ (show Blk w g T cur from hh) (i * 4) (.int .i64 u.1)).set_ (i * 4 + 1) (.int .i64 u.2.1)).set_ (i * 4 + 2) (.int .i64 u.2.2.1)).set_ (i * 4 + 3) (.int .i64 u.2.2.2)
    refine ⟨⟨?_, .inr ⟨g, c, _, ?_, hg, hb, by rw [List.length_set]; exact hn, hm, by simp only [Array.size_setIfInBounds]; exact hs, ?_⟩⟩, fun x hx => ?_⟩
    · rw [quadCells_len, List.length_set]
    · rw [List.length_set]
    · rw [List.length_set, ← quadL_set hi, ← ht]
      simp only [Array.toList_setIfInBounds, List.take_set]
    · rcases List.mem_or_eq_of_mem_set hx with hx | rfl
      · exact h4 x hx
      · exact hu
end

/-- the state of the second half: the job, two answers, the order, what is lost -/
structure InK (w : World) (g : Int) (A : Option Addr) (c : Nat) (l : List OpP) (H : Nat) (R1 : Option Addr) (k1 : Nat) (a : List Int) (R2 : Option Addr) (k2 : Nat) (b : List Int) (v3 : Value) (bs : List Bool) (wr : World) : Prop where
  t : Bs w w.heap.size [(w.heap.size, 24, #[.int .i64 g, .slice A l.length c])] wr
  a : IsInts wr H ⟨R1, k1, a⟩
  b : IsInts wr H ⟨R2, k2, b⟩
  ord : OwnI wr (H + 1) v3 (orderF l)
  bl : IsBl wr H bs
  h : w.heap.size < H
section
variable {w wr : World} {g : Int} {A R1 R2 : Option Addr} {c H k1 k2 : Nat} {l : List OpP} {a b : List Int} {v3 : Value} {bs : List Bool}
theorem InK.set (h : InK w g A c l H R1 k1 a R2 k2 b v3 bs wr) (i : Nat) (x : Bool) : InK w g A c l H R1 k1 a R2 k2 b v3 (bs.set i x) (wr.setCell ⟨H, i, none⟩ (.bool x)) :=
  ⟨⟨h.t.1.setCell (by show w.heap.size ≤ H; have := h.h; omega) _, fun z hz => by
      obtain rfl : z = (w.heap.size, 24, #[.int .i64 g, .slice A l.length c]) := by simpa using hz
      exact h.t.g0.far (by show w.heap.size ≠ H; have := h.h; omega) _⟩,
    ⟨h.a.1.setCell (Nat.le_refl _) _, h.a.2⟩, ⟨h.b.1.setCell (Nat.le_refl _) _, h.b.2⟩, h.ord.far (fun e => by have h2 := (h.ord.blk _ e).1; simp only at h2; omega) _, IsBl.set_ h.bl x, h.h⟩
theorem InK.drewN (h : InK w g A c l H R1 k1 a R2 k2 b v3 bs wr) (n : Nat) : InK w g A c l H R1 k1 a R2 k2 b v3 bs (wr.drewN n) :=
  ⟨⟨below_drewN h.t.1 n, h.t.2⟩, h.a, h.b, h.ord, h.bl, h.h⟩
theorem InK.step {Z : World} (h : InK w g A c l H R1 k1 a R2 k2 b v3 bs wr) (hb : Below wr.heap.size wr Z) : InK w g A c l H R1 k1 a R2 k2 b v3 bs Z :=
  have hl : H ≤ wr.heap.size := Nat.le_of_lt (Blk.lt h.bl)
  ⟨h.t.step (Nat.le_refl _) hb, h.a.below (hb.mono hl), h.b.below (hb.mono hl), h.ord.below hb, Blk.below h.bl hb (Blk.lt h.bl), h.h⟩
end
end Go.Proofs.Ytcechimilefihaa.So
