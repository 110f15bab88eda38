/- How many tasks are needed, as the document reckons it: limits, and what one operator needs. How many tasks are needed, as the document reckons it: what one operator needs. -/
import Derived.Test.YtcechimilefihaaSo4Y
import Derived.Test.YtcechimilefihaaZe
import Derived.Test.YtcechimilefihaaZa

namespace Go.Proofs.Ytcechimilefihaa.So
open Go.ChangeShapes Go.WideShapes Go.ChangeAt Go.RowKit M Sp Fr

set_option maxHeartbeats 4000000 in
theorem refCut_any (g most t : Int) (A : Option Addr) (c : Nat) (l : List OpP) (p : Nat → Option Addr × Nat) (i : Nat) (w : World) (B : Nat) (hB : B ≤ w.heap.size) (h : IsOps w B A l p) (hi : i < l.length) (_hlen : l.length ≤ 12) (hlim : 1 ≤ limF g most l i) :
    Calls Try.prog 95 #[.agg #[.int .i64 g, .slice A l.length c], .int .i64 i, .int .i64 t, .int .i64 most] w fun e w' => e = .returned (.int .i64 (cutF t (limF g most l i))) ∧ Below w.heap.size w w' := by
  obtain ⟨b, ob, rfl, hb, c0, c1, c2, c3, c4, c5, c6, c7, -, -⟩ := h.at_ hi
  have hbw : b < w.heap.size := by omega
  have E := Lib.hid (show limF g most l i = if kindOf l i = 1 then min (min (min most 8) g) (opOf l i).parts else min (min most 8) g from rfl)
  have EC := Lib.hid (show cutF t (limF g most l i) = if limF g most l i < t then limF g most l i else if t < 1 then 1 else t from rfl)
  have HL := Lib.hid hlim
  generalize limF g most l i = lim at *
  generalize (opOf l i).parts = pr at *
  clear h c1 c2 c3 c4 c6 c7 hlim
  by_cases hk : kindOf l i = 1
  · rw [if_pos hk] at E
    rw [hk] at c0
    clear hk
    go_enter Try.func95, Try.ntmps95
    go_wp2_with fail
    all_goals go_returns
    all_goals exact ⟨Sp.ret_int (by rw [EC.out]; have := E.out; have := HL.out; split <;> first | omega | (split <;> omega)), by go_grown⟩
  · rw [if_neg hk] at E
    have hkb : (kindOf l i == 1) = false := by simpa using hk
    clear hk
    go_enter Try.func95, Try.ntmps95
    go_wp2_with fail
    all_goals go_returns
    all_goals exact ⟨Sp.ret_int (by rw [EC.out]; have := E.out; have := HL.out; split <;> first | omega | (split <;> omega)), by go_grown⟩
end Go.Proofs.Ytcechimilefihaa.So

namespace Go.Proofs.Ytcechimilefihaa.So
open Go.ChangeShapes Go.WideShapes Go.ChangeAt Go.RowKit M Sp Fr

/-- what is given, in memory -/
def gvL (kn : List Kn) : List Value := kn.flatMap fun x => [.int .i64 x.n, .int .i64 x.d]
def gvCells (kn : List Kn) : Array Value := (gvL kn).toArray
theorem gvL_get : ∀ {kn : List Kn} {i : Nat}, i < kn.length → (gvL kn)[i * 2]? = some (.int .i64 (knOf kn i).n) ∧ (gvL kn)[i * 2 + 1]? = some (.int .i64 (knOf kn i).d)
  | [], i, h => by simp at h
  | x :: kn, 0, _ => ⟨rfl, rfl⟩
  | x :: kn, i + 1, h => by
    have ih := gvL_get (kn := kn) (i := i) (by simpa using h)
    have e : ∀ j, (i + 1) * 2 + j = (i * 2 + j) + 1 + 1 := by intro j; omega
    have e0 := e 0
    simp only [Nat.add_zero] at e0
    rw [e 1, e0]
    simpa [gvL, knOf] using ih
theorem gvL_set : ∀ {kn : List Kn} {i : Nat} {n d : Int} {b : Bool}, i < kn.length → ((gvL kn).set (i * 2) (.int .i64 n)).set (i * 2 + 1) (.int .i64 d) = gvL (kn.set i ⟨n, d, b⟩)
  | [], i, n, d, b, h => by simp at h
  | x :: kn, 0, n, d, b, _ => by simp [gvL]
  | x :: kn, i + 1, n, d, b, h => by
    have ih := gvL_set (kn := kn) (i := i) (n := n) (d := d) (b := b) (by simpa using h)
    have e1 : (i + 1) * 2 = i * 2 + 1 + 1 := by omega
    simp only [gvL, List.flatMap_cons, e1] at *
    simpa using ih
def IsGv (w : World) (o : Nat) (kn : List Kn) : Prop := Blk w o 43 (gvCells kn)
section
variable {w w' : World} {o : Nat} {kn : List Kn}
theorem IsGv.lt (h : IsGv w o kn) : o < w.heap.size := Blk.lt h
theorem IsGv.at_ (h : IsGv w o kn) {i : Nat} (hi : i < kn.length) : w.cell? ⟨o, i * 2, none⟩ = some (.int .i64 (knOf kn i).n) ∧ w.cell? ⟨o, i * 2 + 1, none⟩ = some (.int .i64 (knOf kn i).d) := by
  obtain ⟨a, b⟩ := gvL_get hi
  refine ⟨(Blk.cell h _).trans ?_, (Blk.cell h _).trans ?_⟩
  · simpa [gvCells] using a
  · simpa [gvCells] using b
theorem IsGv.free (h : IsGv w o kn) (j : Nat) : w.frozen? ⟨o, j, none⟩ = false := Blk.frozen h j
theorem IsGv.below (h : IsGv w o kn) (hb : Below w.heap.size w w') : IsGv w' o kn := Blk.below h hb (Blk.lt h)
theorem IsGv.set_ (h : IsGv w o kn) {i : Nat} (hi : i < kn.length) (n d : Int) (b : Bool) : IsGv ((w.setCell ⟨o, i * 2, none⟩ (.int .i64 n)).setCell ⟨o, i * 2 + 1, none⟩ (.int .i64 d)) o (kn.set i ⟨n, d, b⟩) := by
  have := (Blk.set_ h (i * 2) (.int .i64 n)).set_ (i * 2 + 1) (.int .i64 d)
  unfold IsGv
  have e : ((gvCells kn).setIfInBounds (i * 2) (.int .i64 n)).setIfInBounds (i * 2 + 1) (.int .i64 d) = gvCells (kn.set i ⟨n, d, b⟩) := by
    unfold gvCells
    simp only [List.setIfInBounds_toArray]
    rw [gvL_set hi]
  rwa [e] at this
end
theorem Bs.put0 {w wr : World} {B g : Nat} {u v x y : Value} {l : List (Nat × TypeId × Array Value)} (h : Bs w B ((g, 43, #[u, v]) :: l) wr) (hg : B ≤ g) (hl : ∀ z ∈ l, z.1 ≠ g) :
    Bs w B ((g, 43, #[x, y]) :: l) ((wr.setCell ⟨g, 0, none⟩ x).setCell ⟨g, 1, none⟩ y) := by
  refine ⟨(h.1.setCell hg _).setCell hg _, fun z hz => ?_⟩
  rcases List.mem_cons.1 hz with rfl | hz
  · have := (Blk.set_ (h.2 _ (List.mem_cons_self ..)) 0 x).set_ 1 y
    simpa using this
  · exact Blk.far (Blk.far (h.2 z (List.mem_cons_of_mem _ hz)) (p := ⟨g, 0, none⟩) (hl z hz) x) (p := ⟨g, 1, none⟩) (hl z hz) y
def oneV (r : NR) : Value := .tuple #[.int .i64 r.t, .agg #[.int .i64 r.n, .int .i64 r.d], .int .i64 r.e]
theorem res3b {fn : Func} {a t u : Tmp} (h : fn.results = #[.tmp t, .cell a 43, .tmp u]) (tmps : Array Value) (w : World) {g : Nat} {x y : Value} (hp : tmps.getD a undef = .pointer (some ⟨g, 0, none⟩))
    (c0 : w.cell? ⟨g, 0, none⟩ = some x) (c1 : w.cell? ⟨g, 1, none⟩ = some y) : (results fn tmps).run Try.prog w = .ok (.tuple #[tmps.getD t undef, .agg #[x, y], tmps.getD u undef]) w := by
  simp [results, h, go_sem] at hp ⊢
  simp [hp, go_sem, c0, c1]

theorem spec_of {w : World} {g : Nat} {u v : Value} (h : Blk w g 24 #[u, v]) : w.cell? ⟨g, 0, none⟩ = some u ∧ w.cell? ⟨g, 1, none⟩ = some v := ⟨h.cell 0, h.cell 1⟩
theorem frac4 {w : World} {g : Nat} {a b : Int} (h : Blk w g 43 #[.int .i64 a, .int .i64 b]) : w.cell? ⟨g, 0, none⟩ = some (.int .i64 a) ∧ w.cell? ⟨g, 1, none⟩ = some (.int .i64 b) ∧ w.frozen? ⟨g, 0, none⟩ = false ∧ w.frozen? ⟨g, 1, none⟩ = false := FracAt.cells h
theorem one_start (w : World) (g : Int) (A : Option Addr) (n c : Nat) (a b d e : Int) : Bs w w.heap.size [(w.heap.size + 1 + 1, 43, #[.int .i64 0, .int .i64 0]), (w.heap.size + 1, 55, #[.int .i64 a, .int .i64 b, .int .i64 d, .int .i64 e]), (w.heap.size, 24, #[.int .i64 g, .slice A n c])]
    (((w.alloc (.cells #[.int .i64 g, .slice A n c] 24)).alloc (.cells #[.int .i64 a, .int .i64 b, .int .i64 d, .int .i64 e] 55)).alloc (.cells #[.int .i64 0, .int .i64 0] 43)) :=
  (((Bs.nil w w.heap.size).alloc (Nat.le_refl _) #[.int .i64 g, .slice A n c] 24 rfl).alloc (Nat.le_refl _) #[.int .i64 a, .int .i64 b, .int .i64 d, .int .i64 e] 55 (by simp)).alloc (Nat.le_refl _) #[.int .i64 0, .int .i64 0] 43 (by simp)
set_option maxRecDepth 100000 in
set_option maxHeartbeats 4000000 in
theorem one_zero (g : Int) (b ob c : Nat) (l : List OpP) (r : R) (m : Mea) (G : Nat) (i : Int) (n2 c2 : Nat) (w : World) (hz : m.1 = 0 ∨ m.2.2.1 = 0) :
    Calls Try.prog 94 #[.agg #[.int .i64 g, .slice (some ⟨b, ob, none⟩) l.length c], .int .i64 i, .agg (meaCells m), .slice (some ⟨G, 0, none⟩) n2 c2] w fun e w' => e = .returned (oneV (needR r m)) ∧ Below w.heap.size w w' := by
  have E := Lib.hid (show oneV (needR r m) = .tuple #[.int .i64 0, .agg #[.int .i64 0, .int .i64 0], .int .i64 14] by rw [need_zero hz]; rfl)
  obtain ⟨ma, mb, md, me⟩ := m
  unfold meaCells at *
  simp only at *
  rcases (show ma = 0 ∨ (ma ≠ 0 ∧ md = 0) by omega) with rfl | ⟨h0, rfl⟩
  · clear hz
    (obtain ⟨X0, hX0⟩ : ∃ X0, (((w.alloc (.cells #[.int .i64 g, .slice (some ⟨b, ob, none⟩) l.length c] 24)).alloc (.cells #[.int .i64 0, .int .i64 mb, .int .i64 md, .int .i64 me] 55)).alloc (.cells #[.int .i64 0, .int .i64 0] 43)) = X0 := ⟨_, rfl⟩; have T := Lib.hid (hX0 ▸ one_start w g (some ⟨b, ob, none⟩) l.length c 0 mb md me); go_enter Try.func94, Try.ntmps94; go_upto_region 1 with (fail); (try rw [hX0]); clear hX0; obtain ⟨m0, m1, m2⟩ := mea_of T.out.g1)
    (obtain ⟨f0, f1, f2, f3⟩ := frac4 T.out.g0; have HP := Lib.hid (put2 f0 f1 (.int .i64 0) (.int .i64 0)); go_wp2_with fail; obtain ⟨q0, q1⟩ := HP.out; refine bodyPost_ret (res3b rfl _ _ rfl q0 q1) rfl ?_; exact ⟨by rw [E.out]; rfl, (T.out.1.setCell (p := ⟨w.heap.size + 1 + 1, 0, none⟩) (by show w.heap.size ≤ w.heap.size + 1 + 1; omega) _).setCell (p := ⟨w.heap.size + 1 + 1, 1, none⟩) (by show w.heap.size ≤ w.heap.size + 1 + 1; omega) _⟩)
  · have t0 : (ma == 0) = false := by simpa using h0
    clear hz h0
    (obtain ⟨X0, hX0⟩ : ∃ X0, (((w.alloc (.cells #[.int .i64 g, .slice (some ⟨b, ob, none⟩) l.length c] 24)).alloc (.cells #[.int .i64 ma, .int .i64 mb, .int .i64 0, .int .i64 me] 55)).alloc (.cells #[.int .i64 0, .int .i64 0] 43)) = X0 := ⟨_, rfl⟩; have T := Lib.hid (hX0 ▸ one_start w g (some ⟨b, ob, none⟩) l.length c ma mb 0 me); go_enter Try.func94, Try.ntmps94; go_upto_region 1 with (fail); (try rw [hX0]); clear hX0; obtain ⟨m0, m1, m2⟩ := mea_of T.out.g1)
    (obtain ⟨f0, f1, f2, f3⟩ := frac4 T.out.g0; have HP := Lib.hid (put2 f0 f1 (.int .i64 0) (.int .i64 0)); go_wp2_with fail; obtain ⟨q0, q1⟩ := HP.out; refine bodyPost_ret (res3b rfl _ _ rfl q0 q1) rfl ?_; exact ⟨by rw [E.out]; rfl, (T.out.1.setCell (p := ⟨w.heap.size + 1 + 1, 0, none⟩) (by show w.heap.size ≤ w.heap.size + 1 + 1; omega) _).setCell (p := ⟨w.heap.size + 1 + 1, 1, none⟩) (by show w.heap.size ≤ w.heap.size + 1 + 1; omega) _⟩)
end Go.Proofs.Ytcechimilefihaa.So
