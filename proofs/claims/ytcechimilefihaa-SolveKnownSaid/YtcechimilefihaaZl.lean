/- A list's clone. How many tasks are needed: operator by operator. -/
import Derived.Test.YtcechimilefihaaZk
import Derived.Test.YtcechimilefihaaSo4Y
import Derived.Test.YtcechimilefihaaZg
import Derived.Test.YtcechimilefihaaZa

namespace Go.Proofs.Ytcechimilefihaa.So
open Go.ChangeShapes Go.WideShapes Go.ChangeAt Go.RowKit M Sp Fr

theorem _root_.Go.Proofs.Ytcechimilefihaa.M.IsInts.alloc_ {w : World} {B : Nat} {s : SL} (h : IsInts w B s) (hB : B ≤ w.heap.size) (o : Obj) : IsInts (w.alloc o) B s := h.keep fun p hp => World.cell?_alloc_lt w o p (by omega)
/-- numbers in a block -/
def intCells (xs : List Int) : Array Value := (xs.map (Value.int .i64)).toArray
/-- append of a list of whatever block -/
theorem app_ints {ops : Array Oper} {rest : List Oper} {o : Oper} {a : Act} {Q : Exit → Act → World → Prop} {w : World} (hgd : o.guard = none) (s x : Operand)
    (ho : o.op = .call { callee := .builtin .append, args := #[s, x], argTypes := #[29, 29] }) (B : Nat) {v : Value} {xs : List Int} (hown : OwnI w B v xs) (hs : a.eval s = v)
    {B2 : Nat} {b off c : Nat} {ys : List Int} (hr : IsInts w B2 ⟨some ⟨b, off, none⟩, c, ys⟩) (hx : a.eval x = .slice (some ⟨b, off, none⟩) ys.length c) (hlen : xs.length + ys.length < 1000000000) (hB : B ≤ w.heap.size)
    (h : ∀ v' w2, OwnI w2 B v' (xs ++ ys) → Below B w w2 → wpList Try.prog ops Q rest (a.put o.dst v') w2) : wpList Try.prog ops Q (o :: rest) a w := by
  obtain ⟨i0, hi, hz0, hz1, hz2⟩ := info_parts infoI
  obtain ⟨hl, -, -, hin⟩ := hr
  refine wpList_append_own _ hgd s x 29 ho B 3 i0 (.int .i64 0) 1 8 Try.underlying29 hi hz0 hz1 hz2 rfl (by decide) v xs.length _ hs hown.1 ⟨b, off, none⟩ ys.length _ (ys.map (Value.int .i64)) hx (by simp) ?_ ?_ (by unfold maxLen; omega) (by omega) hB ?_
  · intro j u hj
    have hj' : j < ys.length := by
      rcases Nat.lt_or_ge j ys.length with h | h
      · exact h
      · rw [List.getElem?_eq_none (by simpa using h)] at hj; cases hj
    obtain ⟨b', o', e, -, hc⟩ := hl.at1 hj'
    simp only [Option.some.injEq, Addr.mk.injEq, and_true] at e
    obtain ⟨rfl, rfl⟩ := e
    rw [Go.WideShapes.add_plain]
    rw [List.getElem?_map, List.getElem?_eq_getElem hj'] at hj
    have hj2 : u = Value.int .i64 ys[j] := by simpa using hj.symm
    have e2 : (⟨b, off + j, none⟩ : Addr) = ⟨b, off + j, none⟩ := rfl
    rw [hj2]
    refine hc.trans ?_
    show some (Value.int .i64 (ys.getD j 0)) = _
    rw [List.getD_eq_getElem?_getD, List.getElem?_eq_getElem hj']; rfl
  · intro u hu
    obtain ⟨y, -, rfl⟩ := List.mem_map.1 hu
    rfl
  · intro v' w' h1 h2 _
    refine h v' w' ⟨?_, fun y hy => ?_⟩ ((Below.refl _ _).grown h2 hB (fun k hk => (hown.blk k hk).1))
    · rw [List.length_append, List.map_append]; exact h1
    · rcases List.mem_append.1 hy with hy | hy
      · exact hown.2 y hy
      · exact hin y hy
theorem own_empty (w : World) (B : Nat) (hB : B ≤ w.heap.size) : OwnI (w.alloc (.cells #[] 3)) B (.slice (some ⟨w.heap.size, 0, none⟩) 0 0) [] :=
  ⟨World.ownsRow_made w #[] 0 hB (by unfold maxLen; omega) rfl, fun x hx => by cases hx⟩
theorem ints_nil (b o n c : Nat) (w : World) : (binOp BinOp.eql 29 (.slice (some ⟨b, o, none⟩) n c) (.slice none 0 0)).run Try.prog w = .ok (.bool false) w := by
  first | kernel_rfl | rfl | (simp [binOp, go_sem]; done)
set_option maxRecDepth 100000 in
set_option maxHeartbeats 1000000 in
theorem clone_any (A : Option Addr) (c : Nat) (xs : List Int) (B : Nat) (w : World) (hB : B ≤ w.heap.size) (h : IsInts w B ⟨A, c, xs⟩) (hl : xs.length ≤ 1000000) (hp : 0 < xs.length) :
    Calls Try.prog 90 #[.slice A xs.length c] w (RetInts w xs) := by
  obtain ⟨b, o, v, rfl, hb, -⟩ := Sp.ints_at h hp
  have HL := Lib.hid hl
  have HH := Lib.hid h
  clear h hl hp
  have hnil := fun n c => ints_nil b o n c
  go_enter Try.func90, Try.ntmps90
  go_wp2_with (at_builtin; refine app_ints rfl _ _ rfl w.heap.size (own_empty w _ (Nat.le_refl _)) rfl ((HH.out.more hB).alloc_ (Nat.le_refl _) _) rfl (by simp; have := HL.out; omega) (by simp) ?_)
  intro v' w2 hown hb2
  have HO := Lib.hid hown
  have HB := Lib.hid (((Below.refl w.heap.size w).alloc (Nat.le_refl _) (.cells #[] 3)).trans hb2)
  clear hown hb2
  go_wp2_with fail
  go_returns
  exact ret_ints HO.out HB.out
end Go.Proofs.Ytcechimilefihaa.So

namespace Go.Proofs.Ytcechimilefihaa.So
open Go.ChangeShapes Go.WideShapes Go.ChangeAt Go.RowKit M Sp Fr

theorem made_kn (n : Nat) : madeCells #[.int .i64 0, .int .i64 0, .bool false] (n * 3) = knCells (List.replicate n default) := by
  have hl : ∀ m : Nat, (knL (List.replicate m default)).length = m * 3 := fun m => by
    induction m with
    | zero => rfl
    | succ m ih => rw [List.replicate_succ]; simp only [knL, List.flatMap_cons, List.length_append] at *; rw [ih]; simp; omega
  apply Array.ext_getElem?
  intro i
  have hR : (knCells (List.replicate n default))[i]? = (knL (List.replicate n default))[i]? := by unfold knCells; rw [List.getElem?_toArray]
  have hL : (madeCells #[Value.int .i64 0, .int .i64 0, .bool false] (n * 3))[i]? = if i < n * 3 then some ((#[Value.int .i64 0, .int .i64 0, .bool false] : Array Value)[i % 3]!) else none := by
    show (Array.map (fun x => (#[Value.int .i64 0, .int .i64 0, .bool false] : Array Value)[x % 3]!) (Array.range (n * 3)))[i]? = _
    rw [Array.getElem?_map, Array.getElem?_range]
    split <;> rfl
  rw [hR, hL]
  by_cases hi : i < n * 3
  · rw [if_pos hi]
    have hd : i / 3 < (List.replicate n (default : Kn)).length := by rw [List.length_replicate]; omega
    obtain ⟨a, b, c⟩ := knL_get hd
    have e : knOf (List.replicate n default) (i / 3) = default := replicate_getD
    rw [e] at a b c
    rcases (show i % 3 = 0 ∨ i % 3 = 1 ∨ i % 3 = 2 by omega) with h | h | h
    · rw [h]; rw [show i / 3 * 3 = i by omega] at a; rw [a]; rfl
    · rw [h]; rw [show i / 3 * 3 + 1 = i by omega] at b; rw [b]; rfl
    · rw [h]; rw [show i / 3 * 3 + 2 = i by omega] at c; rw [c]; rfl
  · rw [if_neg hi, List.getElem?_eq_none (by rw [hl]; omega)]
theorem infoK : (Try.prog.info? 99).map (fun i => (i.zero, i.size, i.bytes)) = some (some (.agg #[.int .i64 0, .int .i64 0, .bool false]), 3, 24) := by kernel_rfl
theorem make_kn (n : Nat) (hn : n ≤ 1000) (w : World) : (Instr.makeSlice 93 (.int .i64 n) (.int .i64 n)).run Try.prog w = .ok (.slice (some ⟨w.heap.size, 0, none⟩) n n) (w.alloc (.cells (knCells (List.replicate n default)) 99)) := by
  obtain ⟨i0, hi, hz0, hz1, hz2⟩ := info_parts infoK
  have := run_make (P := Try.prog) w 93 99 i0 _ Try.underlying93 hi hz0 .i64 .i64 n n (by omega) (Int.le_refl _) (by rw [hz2]; omega) (by omega)
  rw [this, hz1]
  simp only [Int.toNat_natCast, Value.cells]
  rw [made_kn]

theorem own_ne_kn {w : World} {B o : Nat} {v : Value} {xs : List Int} {kn : List Kn} (h : OwnI w B v xs) (k : IsKn w o kn) : v.ownBlock ≠ some o := by
  intro e
  rcases h.1.2 with ⟨hv, -⟩ | ⟨g2, cap2, cur2, hv, hg2, hh2, -⟩
  · rw [hv] at e; cases e
  · rw [hv] at e
    have : g2 = o := by simpa [Value.ownBlock] using e
    subst this
    unfold IsKn Blk at k
    rw [hh2] at k
    injection k with h1
    injection h1 with _ h2
    exact absurd h2 (by decide)
/-- both, and the error -/
def RetSol (w : World) (st : St) (e : Ending) (w' : World) : Prop := ∃ A c, e = .returned (.tuple #[.slice A st.out.length c, .int .i64 st.first]) ∧ OwnI w' w.heap.size (.slice A st.out.length c) st.out ∧ Below w.heap.size w w'
structure InSol (w : World) (B2 q o : Nat) (g most : Int) (A : Option Addr) (c : Nat) (M : Option Addr) (mc : Nat) (l : List OpP) (v1 v2 : Value) (st : St) (wr : World) : Prop where
  below : Below w.heap.size w wr
  so : IsSo wr q o g A l.length c M mc most
  kn : IsKn wr o st.kn
  out : OwnI wr w.heap.size v1 st.out
  ord : OwnI wr B2 v2 (orderF l)

theorem own_int_set {w : World} {B b n c : Nat} {xs : List Int} (h : OwnI w B (.slice (some ⟨b, 0, none⟩) n c) xs) {k : Nat} (_hk : k < xs.length) (u : Int) (hu : In64 u) :
    w.frozen? ⟨b, k, none⟩ = false ∧ OwnI (w.setCell ⟨b, k, none⟩ (.int .i64 u)) B (.slice (some ⟨b, 0, none⟩) n c) (xs.set k u) := by
  have hn : n = xs.length := by
    rcases h.1.2 with ⟨hv, -⟩ | ⟨g, cap, cur, hv, -⟩
    · cases hv
    · injection hv with e1 e2 e3
  subst hn
  refine ⟨h.1.frozenAt _, ?_, fun x hx => ?_⟩
  · have h1 := World.ownsRow.stored h.1 k (.int .i64 u)
    rw [List.length_set, List.map_set]; exact h1.1
  · rcases List.mem_or_eq_of_mem_set hx with h3 | h3
    · exact h.2 x h3
    · rw [h3]; exact hu
theorem own_int_get {w : World} {B b n c : Nat} {xs : List Int} (h : OwnI w B (.slice (some ⟨b, 0, none⟩) n c) xs) {k : Nat} (hk : k < xs.length) : w.cell? ⟨b, k, none⟩ = some (.int .i64 (xs.getD k 0)) := by
  obtain ⟨v, HV, -, hc⟩ := Sp.ints_get h.ints hk
  rw [HV.out]; simpa using hc
theorem own_ne_blk {w : World} {B o : Nat} {v : Value} {xs : List Int} {t : TypeId} {cs : Array Value} (h : OwnI w B v xs) (k : Blk w o t cs) (ht : t ≠ 3) : v.ownBlock ≠ some o := by
  intro e
  rcases h.1.2 with ⟨hv, -⟩ | ⟨g2, cap2, cur2, hv, hg2, hh2, -⟩
  · rw [hv] at e; cases e
  · rw [hv] at e
    have : g2 = o := by simpa [Value.ownBlock] using e
    subst this
    unfold Blk at k
    rw [hh2] at k
    injection k with h1
    injection h1 with _ h2
    exact ht h2.symm
section
variable {w wr w3 : World} {B2 q o c mc : Nat} {g most : Int} {A M : Option Addr} {l : List OpP} {v1 v2 : Value} {st : St} {K' : List Kn} {f : Int}
theorem InSol.need (h : InSol w B2 q o g most A c M mc l v1 v2 st wr) (hqo : q ≠ o) (ho : w.heap.size ≤ o) (hw : NeedW wr o K' w3) : InSol w B2 q o g most A c M mc l v1 v2 ⟨st.out, K', f⟩ w3 :=
  ⟨h.below.grown hw.1 h.below.size (fun k e => by cases e; exact ho), h.so.grown hw.1 hqo, hw.2, h.out.grown hw.1 (.inr (own_ne_kn h.out h.kn)), h.ord.grown hw.1 (.inr (own_ne_kn h.ord h.kn))⟩
theorem InSol.put {b1 n c1 i : Nat} {u : Int} (h : InSol w B2 q o g most A c M mc l (.slice (some ⟨b1, 0, none⟩) n c1) v2 st wr) (hb : b1 < B2) (hi : i < st.out.length) (hu : In64 u) :
    InSol w B2 q o g most A c M mc l (.slice (some ⟨b1, 0, none⟩) n c1) v2 ⟨st.out.set i u, st.kn, st.first⟩ (wr.setCell ⟨b1, i, none⟩ (.int .i64 u)) := by
  have hb0 : w.heap.size ≤ b1 := (h.out.blk b1 rfl).1
  have n1 : q ≠ b1 := fun e => own_ne_blk h.out h.so (by decide) (by rw [e]; rfl)
  have n2 : o ≠ b1 := fun e => own_ne_kn h.out h.kn (by rw [e]; rfl)
  exact ⟨h.below.setCell hb0 _, Blk.far h.so n1 _, Blk.far h.kn n2 _, (own_int_set h.out hi u hu).2, h.ord.far (fun e => by have h2 := (h.ord.blk _ e).1; simp only at h2; omega) _⟩
theorem InSol.as {st2 : St} (h : InSol w B2 q o g most A c M mc l v1 v2 st wr) (e : st2 = st) : InSol w B2 q o g most A c M mc l v1 v2 st2 wr := e ▸ h
end
theorem needT_wait {g most : Int} {l : List OpP} {kn : List Kn} {m : Mea} {i : Nat} (hr : readyF l kn i = false) : needT g most l kn m i = .tuple #[.int .i64 0, .int .i64 0] ∧ needK l kn m i = kn := by
  unfold needT needK; rw [hr]; exact ⟨rfl, rfl⟩

set_option maxHeartbeats 4000000 in
theorem solve_any (g most : Int) (A M C : Option Addr) (c mc cc : Nat) (l : List OpP) (p : Nat → Option Addr × Nat) (ms : List Mea) (cur : List Int) (w : World) (B : Nat) (hB : B ≤ w.heap.size) (h : IsOps w B A l p) (hm : IsQuads w B M mc ms) (hc : IsInts w B ⟨C, cc, cur⟩) (hok : Ok g most l ms cur) :
    Calls Try.prog 44 #[.agg #[.int .i64 g, .slice A l.length c], .slice M ms.length mc, .slice C cur.length cc, .int .i64 most] w (RetSol w (solF g most l ms cur)) := by
  have hn := hok.nlen
  have hmk := make_kn l.length (by omega)
  obtain ⟨bm, om, -, rfl, hbm, -⟩ := quads_at hm (k := 0) (by rw [hok.mlen]; omega)
  rw [hok.mlen, hok.clen]
  have HH := Lib.hid h
  have HM := Lib.hid hm
  have HC := Lib.hid hc
  have HOK := Lib.hid hok
  clear h hm hc hok
  go_enter Try.func44, Try.ntmps44
  go_wp2_with fail
  go_region
  obtain ⟨X, hX⟩ : ∃ X, (((w.alloc (.cells #[.int .i64 g, .slice A l.length c] 24)).alloc (.cells (knCells (List.replicate l.length default)) 99)).alloc (.cells #[.int .i64 g, .slice A l.length c, .slice (some ⟨bm, om, none⟩) l.length mc, .int .i64 most, .slice (some ⟨w.heap.size + 1, 0, none⟩) l.length l.length] 95)).drew = X := ⟨_, rfl⟩
  have xb : Below w.heap.size w X := by rw [← hX]; exact ((((Below.refl _ _).alloc (Nat.le_refl _) _).alloc (by simp) _).alloc (by simp; omega) _).drew
  have xk : IsKn X (w.heap.size + 1) (List.replicate l.length default) := by
    have := ((Blk.new (w.alloc (.cells #[.int .i64 g, .slice A l.length c] 24)) 99 (knCells (List.replicate l.length default))).alloc (.cells #[.int .i64 g, .slice A l.length c, .slice (some ⟨bm, om, none⟩) l.length mc, .int .i64 most, .slice (some ⟨w.heap.size + 1, 0, none⟩) l.length l.length] 95)).drew
    rw [← hX]; simpa [IsKn] using this
  have xs : IsSo X (w.heap.size + 1 + 1) (w.heap.size + 1) g A l.length c (some ⟨bm, om, none⟩) mc most := by
    have := (Blk.new ((w.alloc (.cells #[.int .i64 g, .slice A l.length c] 24)).alloc (.cells (knCells (List.replicate l.length default)) 99)) 95 #[.int .i64 g, .slice A l.length c, .slice (some ⟨bm, om, none⟩) l.length mc, .int .i64 most, .slice (some ⟨w.heap.size + 1, 0, none⟩) l.length l.length]).drew
    rw [← hX]; simpa [IsSo] using this
  have xz : X.heap.size = w.heap.size + 3 := by rw [← hX]; simp [World.drew]
  have x0 : X.cell? ⟨w.heap.size, 0, none⟩ = some (.int .i64 g) ∧ X.cell? ⟨w.heap.size, 1, none⟩ = some (.slice A l.length c) := by
    have := (((Blk.new w 24 #[.int .i64 g, .slice A l.length c]).alloc (.cells (knCells (List.replicate l.length default)) 99)).alloc (.cells #[.int .i64 g, .slice A l.length c, .slice (some ⟨bm, om, none⟩) l.length mc, .int .i64 most, .slice (some ⟨w.heap.size + 1, 0, none⟩) l.length l.length] 95)).drew
    rw [← hX]; exact ⟨this.cell 0, this.cell 1⟩
  rw [hX]
  have HXB := Lib.hid xb
  have HXK := Lib.hid xk
  have HXS := Lib.hid xs
  have HXZ := Lib.hid (show w.heap.size < X.heap.size by omega)
  clear hX xb xk xs xz hmk
  have HCL := Lib.hid (clone_any C cc cur B X (Nat.le_trans hB HXB.out.size) (HC.out.below (HXB.out.mono hB)) (by rw [HOK.out.clen]; omega) (by rw [HOK.out.clen]; omega))
  rw [HOK.out.clen] at HCL
  obtain ⟨x0, x1⟩ := x0
  go_wp2_with fail
  refine HCL.out.mono ?_
  rintro e w1 ⟨A1, c1, rfl, own1, hb1⟩
  rw [HOK.out.clen] at own1 ⊢
  have y0 := (hb1.cell (p := ⟨w.heap.size, 0, none⟩) HXZ.out).trans x0
  have y1 := (hb1.cell (p := ⟨w.heap.size, 1, none⟩) HXZ.out).trans x1
  obtain ⟨b1, o1, -, rfl, -⟩ := Sp.ints_at own1.ints (k := 0) (by rw [HOK.out.clen]; omega)
  obtain ⟨-, rfl, -⟩ := own1.ints_own rfl
  have HO1 := Lib.hid own1
  have HB1 := Lib.hid hb1
  clear own1 hb1 x0 x1 HCL
  have HW1 := Lib.hid (show Below w.heap.size w w1 from through HXB.out (Nat.le_refl _) HB1.out)
  have HOR := Lib.hid (order_any g A c l p w1 B (Nat.le_trans hB HW1.out.size) (HH.out.below (HW1.out.mono hB)) (by omega))
  go_wp2_with fail
  refine HOR.out.mono ?_
  rintro e w2 ⟨A2, c2, rfl, own2, hb2⟩
  have hol0 : (orderF l).length = l.length := HOK.out.olen
  obtain ⟨b2, o2, -, rfl, -⟩ := Sp.ints_at own2.ints (k := 0) (by rw [hol0]; omega)
  obtain ⟨hb2w, rfl, -⟩ := own2.ints_own rfl
  clear hol0
  have hI : InSol w w1.heap.size (w.heap.size + 1 + 1) (w.heap.size + 1) g most A c (some ⟨bm, om, none⟩) mc l (.slice (some ⟨b1, 0, none⟩) l.length c1) (.slice (some ⟨b2, 0, none⟩) (orderF l).length c2) (solSt g most l ms cur 0) w2 :=
    ⟨through HW1.out (Nat.le_refl _) hb2, (HXS.out.below HB1.out).below hb2, (HXK.out.below HB1.out).below hb2, ((HO1.out.mono (Nat.le_of_lt HXZ.out)).below hb2), own2⟩
  have HI := Lib.hid hI
  have hb1w : b1 < w1.heap.size := (HO1.out.blk b1 rfl).2
  have HOL := Lib.hid HOK.out.olen
  have hol : (orderF l).length ≤ 12 := by rw [HOL.out]; exact hn.2
  clear own2 hb2 hI y0 y1 HOR HB1 HXK HXS HXB HXZ HO1 HC
  go_wp2_with fail
  go_loopw [12, 31] (fun f u wr => ∃ k : Nat, k ≤ (orderF l).length ∧ u = .int .i64 k ∧ f = .int .i64 (solSt g most l ms cur k).first ∧ InSol w w1.heap.size (w.heap.size + 1 + 1) (w.heap.size + 1) g most A c (some ⟨bm, om, none⟩) mc l (.slice (some ⟨b1, 0, none⟩) l.length c1) (.slice (some ⟨b2, 0, none⟩) (orderF l).length c2) (solSt g most l ms cur k) wr) (fun _ u _ => (orderF l).length - (intOf u).toNat)
  case atStart => exact ⟨0, by omega, rfl, rfl, HI.out⟩
  case round =>
    obtain ⟨k, hk, rfl, rfl, hin⟩ := hrel
    have HIN := Lib.hid hin
    clear hin
    by_cases hlt : k < (orderF l).length
    · have hkl : k < l.length := by have := HOL.out; omega
      obtain ⟨v, HV, -, d0⟩ := Sp.ints_get HIN.out.ord.ints hlt
      obtain ⟨hop, hov⟩ := opAt_lt (l := l) hlt
      obtain rfl : v = (opAt l k : Nat) := HV.out.symm.trans hov
      simp only [Nat.zero_add] at d0
      have HST := Lib.hid (solSt_ok HOK.out k (by omega))
      have HLT := Lib.hid (HST.out.later k (Nat.le_refl _) hlt)
      have HSU := Lib.hid (show solSt g most l ms cur (k + 1) = stepF g most l ms (solSt g most l ms cur k) (opAt l k) from rfl)
      have HBA := Lib.hid HIN.out.below
      obtain ⟨m, HMV, hm4, m0, m1, m2, m3⟩ := quads_get (HM.out.below (HBA.out.mono hB)) (show opAt l k < ms.length by rw [HOK.out.mlen]; exact hop)
      have HME := Lib.hid (show meaOf ms (opAt l k) = m from HMV.out)
      have hmo := HOK.out.mea (opAt l k) hop
      rw [HME.out] at hmo
      have hqo : w.heap.size + 1 + 1 ≠ w.heap.size + 1 := by omega
      have hso := HBA.out.size
      have HND := Lib.hid (need_any g most A c mc bm om l p (solSt g most l ms cur k).kn m hmo (w.heap.size + 1 + 1) (w.heap.size + 1) (opAt l k) wr B (by omega) (HH.out.below (HBA.out.mono hB)) HIN.out.so HIN.out.kn HST.out.kok HST.out.klen hop HOK.out.okJ (by omega) hqo (HOK.out.lim hop) ⟨by omega, m0, m1, m2, m3⟩)
      have HLIM := Lib.hid (HOK.out.lim hop)
      have HKN := Lib.hid HIN.out.kn
      have hopk : opAt l k < (solSt g most l ms cur k).kn.length := by rw [HST.out.klen]; exact hop
      have hopo : opAt l k < (solSt g most l ms cur k).out.length := by rw [HST.out.olen]; exact hop
      generalize solSt g most l ms cur k = st at *
      cases hr : readyF l st.kn (opAt l k) with
      | false =>
        obtain ⟨ht1, ht2⟩ := needT_wait (g := g) (most := most) (m := m) hr
        have HE := Lib.hid (HSU.out.trans (step_wait hr))
        have HT := Lib.hid ht1
        have HK := Lib.hid ht2
        rw [HT.out, HK.out] at HND
        have hkc := HLT.out
        clear hr ht1 ht2 m0 m1 m2 m3 hmo
        by_cases hf : st.first = 0
        · have tf : (st.first == 0) = true := by simpa using hf
          have HF := Lib.hid hf
          clear hf
          (go_wp2_with fail; refine HND.out.mono ?_; rintro e w3 ⟨rfl, hw3⟩; have HN := Lib.hid (HIN.out.need (f := st.first) hqo (by omega) hw3); obtain ⟨e0, e1, e2⟩ := hw3.2.at_ hopk; rw [hkc] at e0 e1 e2; (change w3.cell? _ = some (.int .i64 0) at e0; change w3.cell? _ = some (.int .i64 0) at e1; change w3.cell? _ = some (.bool false) at e2); obtain ⟨q0, q1, q2, q3, q4⟩ := HN.out.so.cells; clear hw3 hkc d0; go_wp2_with fail)
          go_roundw
          case rel => exact ⟨k + 1, by omega, by go_num, by rw [HE.out, HF.out], HN.out.as HE.out⟩
          case measure => simp [intOf]; omega
        · have tf : (st.first == 0) = false := by simpa using hf
          clear hf
          (go_wp2_with fail; refine HND.out.mono ?_; rintro e w3 ⟨rfl, hw3⟩; have HN := Lib.hid (HIN.out.need (f := st.first) hqo (by omega) hw3); obtain ⟨e0, e1, e2⟩ := hw3.2.at_ hopk; rw [hkc] at e0 e1 e2; (change w3.cell? _ = some (.int .i64 0) at e0; change w3.cell? _ = some (.int .i64 0) at e1; change w3.cell? _ = some (.bool false) at e2); obtain ⟨q0, q1, q2, q3, q4⟩ := HN.out.so.cells; clear hw3 hkc d0; go_wp2_with fail)
          go_roundw
          case rel => exact ⟨k + 1, by omega, by go_num, by rw [HE.out], HN.out.as HE.out⟩
          case measure => simp [intOf]; omega
      | true =>
        by_cases he : (needR (rateF l st.kn (opAt l k)) m).e = 0
        · obtain ⟨ht1, ht2⟩ := needT_yes (g := g) (most := most) hr he
          have HE := Lib.hid (HSU.out.trans (step_yes hr (by rw [HME.out]; exact he)))
          rw [HME.out] at HE
          have hcut := cut_bd (t := (needR (rateF l st.kn (opAt l k)) m).t) HLIM.out.1
          generalize needR (rateF l st.kn (opAt l k)) m = nr at *
          obtain ⟨nt, nn, nd, ne⟩ := nr
          simp only at ht1 ht2 he hcut HE
          generalize limF g most l (opAt l k) = lim at *
          generalize cutF nt lim = ct at *
          have hlim := HLIM.out
          have HT := Lib.hid ht1
          have HK := Lib.hid ht2
          rw [HT.out, HK.out] at HND
          have hkc : knOf (st.kn.set (opAt l k) ⟨nn, nd, true⟩) (opAt l k) = ⟨nn, nd, true⟩ := by rw [knOf_set, if_pos ⟨rfl, hopk⟩]
          have hopk2 : opAt l k < (st.kn.set (opAt l k) ⟨nn, nd, true⟩).length := by rw [List.length_set]; exact hopk
          have hb1 : b1 < w1.heap.size := hb1w
          clear hr he ht1 ht2 m0 m1 m2 m3 hmo
          by_cases hf : st.first = 0
          · have tf : (st.first == 0) = true := by simpa using hf
            have HF := Lib.hid hf
            clear hf
            (go_wp2_with fail; refine HND.out.mono ?_; rintro e w3 ⟨rfl, hw3⟩; have HN := Lib.hid (HIN.out.need (f := st.first) hqo (by omega) hw3); obtain ⟨e0, e1, e2⟩ := hw3.2.at_ hopk2; rw [hkc] at e0 e1 e2; simp only at e0 e1 e2; obtain ⟨q0, q1, q2, q3, q4⟩ := HN.out.so.cells; have g0 := own_int_get HN.out.out hopo; obtain ⟨g1, -⟩ := own_int_set HN.out.out hopo ct (by unfold In64; omega); have HN2 := Lib.hid (HN.out.put hb1 hopo (u := ct) (by unfold In64; omega)); clear hw3 hkc d0; go_wp2_with fail)
            go_roundw
            case rel => exact ⟨k + 1, by omega, by go_num, by rw [HE.out]; exact congrArg (Value.int .i64) HF.out.symm, HN2.out.as HE.out⟩
            case measure => simp [intOf]; omega
          · have tf : (st.first == 0) = false := by simpa using hf
            clear hf
            (go_wp2_with fail; refine HND.out.mono ?_; rintro e w3 ⟨rfl, hw3⟩; have HN := Lib.hid (HIN.out.need (f := st.first) hqo (by omega) hw3); obtain ⟨e0, e1, e2⟩ := hw3.2.at_ hopk2; rw [hkc] at e0 e1 e2; simp only at e0 e1 e2; obtain ⟨q0, q1, q2, q3, q4⟩ := HN.out.so.cells; have g0 := own_int_get HN.out.out hopo; obtain ⟨g1, -⟩ := own_int_set HN.out.out hopo ct (by unfold In64; omega); have HN2 := Lib.hid (HN.out.put hb1 hopo (u := ct) (by unfold In64; omega)); clear hw3 hkc d0; go_wp2_with fail)
            go_roundw
            case rel => exact ⟨k + 1, by omega, by go_num, by rw [HE.out], HN2.out.as HE.out⟩
            case measure => simp [intOf]; omega
        · obtain ⟨ht1, ht2⟩ := needT_no (g := g) (most := most) hr he
          have HE := Lib.hid (HSU.out.trans (step_no hr (by rw [HME.out]; exact he)))
          rw [HME.out] at HE
          generalize needR (rateF l st.kn (opAt l k)) m = nr at *
          obtain ⟨nt, nn, nd, ne⟩ := nr
          simp only at ht1 ht2 he HE
          have HT := Lib.hid ht1
          have HK := Lib.hid ht2
          rw [HT.out, HK.out] at HND
          have hkc := HLT.out
          clear hr he ht1 ht2 m0 m1 m2 m3 hmo
          by_cases hf : st.first = 0
          · have tf : (st.first == 0) = true := by simpa using hf
            rw [if_pos hf] at HE
            clear hf
            (go_wp2_with fail; refine HND.out.mono ?_; rintro e w3 ⟨rfl, hw3⟩; have HN := Lib.hid (HIN.out.need (f := ne) hqo (by omega) hw3); obtain ⟨e0, e1, e2⟩ := hw3.2.at_ hopk; rw [hkc] at e0 e1 e2; (change w3.cell? _ = some (.int .i64 0) at e0; change w3.cell? _ = some (.int .i64 0) at e1; change w3.cell? _ = some (.bool false) at e2); obtain ⟨q0, q1, q2, q3, q4⟩ := HN.out.so.cells; clear hw3 hkc d0; go_wp2_with fail)
            go_roundw
            case rel => exact ⟨k + 1, by omega, by go_num, by rw [HE.out], HN.out.as HE.out⟩
            case measure => simp [intOf]; omega
          · have tf : (st.first == 0) = false := by simpa using hf
            rw [if_neg hf] at HE
            clear hf
            (go_wp2_with fail; refine HND.out.mono ?_; rintro e w3 ⟨rfl, hw3⟩; have HN := Lib.hid (HIN.out.need (f := st.first) hqo (by omega) hw3); obtain ⟨e0, e1, e2⟩ := hw3.2.at_ hopk; rw [hkc] at e0 e1 e2; (change w3.cell? _ = some (.int .i64 0) at e0; change w3.cell? _ = some (.int .i64 0) at e1; change w3.cell? _ = some (.bool false) at e2); obtain ⟨q0, q1, q2, q3, q4⟩ := HN.out.so.cells; clear hw3 hkc d0; go_wp2_with fail)
            go_roundw
            case rel => exact ⟨k + 1, by omega, by go_num, by rw [HE.out], HN.out.as HE.out⟩
            case measure => simp [intOf]; omega
    · obtain rfl : k = (orderF l).length := by omega
      have HOUT := Lib.hid HIN.out.out
      have HOL2 := Lib.hid (solSt_ok HOK.out (orderF l).length (by rw [HOL.out]; exact Nat.le_refl _)).olen
      have HF := Lib.hid (show solF g most l ms cur = solSt g most l ms cur (orderF l).length from rfl)
      have HBA := Lib.hid HIN.out.below
      generalize solSt g most l ms cur (orderF l).length = st at *
      obtain ⟨so, sk, sf⟩ := st
      clear hlt
      go_wp2_with fail
      go_returns
      rw [HF.out]
      exact ⟨some ⟨b1, 0, none⟩, c1, by first | (rw [show so.length = l.length from HOL2.out]; done) | (rw [show so.length = l.length from HOL2.out]; rfl) | (simp; exact HOL2.out.symm), by rw [show so.length = l.length from HOL2.out]; exact HOUT.out, HBA.out⟩
end Go.Proofs.Ytcechimilefihaa.So
