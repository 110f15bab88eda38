/- Jobs: an operator between a source and a sink. -/
import Derived.Test.YtcechimilefihaaSp20Y

namespace Go.Proofs.Ytcechimilefihaa.Sp
open Go.ChangeShapes Go.WideShapes Go.ChangeAt Go.RowKit M

theorem ownRow_blk {w : World} {B b : Nat} {T : TypeId} {size n : Nat} {cs : List Value} (h : Blk w b T cs.toArray) (hB : B ≤ b) (hl : cs.length = n * size) (hn : n ≤ 1000) : w.ownsRow B T size (.slice (some ⟨b, 0, none⟩) n n) n cs :=
  ⟨by have := h.lt; omega, .inr ⟨b, n, cs.toArray, rfl, hB, h, Nat.le_refl _, by unfold maxLen; omega, by simpa using hl, by simp [← hl]⟩⟩
theorem ownI_blk {w : World} {B b : Nat} {xs : List Int} (h : Blk w b 3 (xs.map (Value.int .i64)).toArray) (hB : B ≤ b) (hn : xs.length ≤ 1000) (h64 : ∀ x ∈ xs, In64 x) : OwnI w B (.slice (some ⟨b, 0, none⟩) xs.length xs.length) xs :=
  ⟨ownRow_blk h hB (by simp) hn, h64⟩

theorem own_not {w : World} {B z size n : Nat} {e T : TypeId} {v : Value} {xs : List Value} {cs : Array Value} (h : w.ownsRow B e size v n xs) (hz : Blk w z T cs) (hne : T ≠ e) : v.ownBlock ≠ some z := by
  rcases h.2 with ⟨hv, -⟩ | ⟨g, cap, cur, hv, hg, hh, -⟩
  · rw [hv]; simp [Value.ownBlock]
  · rw [hv]
    intro e2
    have : g = z := by simpa [Value.ownBlock] using e2
    subst this
    unfold Blk at hz
    rw [hh] at hz
    injection hz with h1
    injection h1 with _ h2
    exact hne h2.symm
/-- a store into a block of another type -/
theorem OwnOps.other {w : World} {B z : Nat} {T : TypeId} {cs : Array Value} {v : Value} {l : List OpP} {p : Nat → Option Addr × Nat} (h : OwnOps w B v l p) (hz : Blk w z T cs) (h1 : T ≠ 40) (h2 : T ≠ 3) (i : Nat) (u : Value) : OwnOps (w.setCell ⟨z, i, none⟩ u) B v l p :=
  ⟨ownsRow_setCell_other h.1 (own_not h.1 hz h1) u, fun j hj => ⟨(h.2 j hj).1, (h.2 j hj).2.far (own_not (h.2 j hj).2.1 hz h2) u⟩⟩

/-- append of one operator -/
theorem app_opG {ops : Array Oper} {rest : List Oper} {oo : Oper} {a : Act} {Q : Exit → Act → World → Prop} {w : World} (hgd : oo.guard = none) (s x : Operand)
    (ho : oo.op = .call { callee := .builtin .append, args := #[s, x], argTypes := #[22, 22] }) (B : Nat) {v : Value} {l : List OpP} {p : Nat → Option Addr × Nat} {o : OpP} {q : Option Addr × Nat} (hown : OwnOps w B v l p) (hs : a.eval s = v)
    (hoi : OpIn o) (hoo : OwnI w B (.slice q.1 o.ins.length q.2) o.ins) (nz : Nat) (hnz : w.heap.size = nz) (hx : a.eval x = .slice (some ⟨nz, 0, none⟩) 1 1) (hlen : l.length < 1000000) (hB : B ≤ w.heap.size)
    (h : ∀ v' w2, OwnOps w2 B v' (l ++ [o]) (updP p l.length q) → (w.alloc (.cells (opArr o q) 40)).grownBy w2 v.ownBlock → wpList Try.prog ops Q rest (a.put oo.dst v') w2) :
    wpList Try.prog ops Q (oo :: rest) a (w.alloc (.cells #[.int .i64 o.kind, .slice q.1 o.ins.length q.2, .int .i64 o.fo, .int .i64 o.fa, .int .i64 o.fb, .int .i64 o.parts, .int .i64 o.rate, .int .i64 o.cost] 40)) := by
  subst hnz
  obtain ⟨i0, hi, hz0, hz1, hz2⟩ := info_parts infoO
  have hnew : Blk (w.alloc (.cells (opArr o q) 40)) w.heap.size 40 (opArr o q) := Blk.new w _ _
  refine wpList_append_own _ hgd s x 22 ho B 40 i0 _ 8 80 Try.underlying22 hi hz0 hz1 hz2 rfl (by decide) v l.length _ hs (hown.1.alloc _) ⟨w.heap.size, 0, none⟩ 1 1 (opArr o q).toList hx rfl ?_ ?_ (by unfold maxLen; omega) (by omega) (by simp; omega) ?_
  · intro j u hj
    have hj' : (opArr o q)[j]? = some u := by rw [← Array.getElem?_toList]; exact hj
    rw [Go.WideShapes.add_plain, Nat.zero_add]
    exact (hnew.cell j).trans hj'
  · intro u hu
    unfold opArr at hu
    simp at hu
    rcases hu with rfl | rfl | rfl | rfl | rfl | rfl | rfl | rfl <;> rfl
  · intro v' w' h1 h2 _
    have hk : ∀ {u : Value} {xs : List Int}, OwnI w B u xs → OwnI w' B u xs := fun k => (k.alloc (.cells (opArr o q) 40)).grown h2 (own_ne (hown.1.alloc (.cells (opArr o q) 40)) (k.alloc (.cells (opArr o q) 40)))
    refine h v' w' ⟨?_, fun i hi' => ?_⟩ h2
    · rw [opsCells_snoc, List.length_append]; exact h1
    · rw [List.length_append] at hi'
      simp at hi'
      unfold insOf
      rw [opOf_snoc]
      by_cases hlt : i < l.length
      · rw [if_pos hlt]
        unfold updP
        rw [if_neg (by omega)]
        exact ⟨(hown.2 i hlt).1, hk (hown.2 i hlt).2⟩
      · rw [if_neg hlt]
        have : i = l.length := by omega
        subst this
        rw [if_pos rfl]
        unfold updP
        rw [if_pos rfl]
        exact ⟨hoi, hk hoo⟩

def twoQ (q1 : Nat) (i : Nat) : Option Addr × Nat := if i = 1 then (some ⟨q1, 0, none⟩, 1) else (none, 0)
/-- a source, a sink of operator 2 -/
def two2 : List OpP := [⟨1, [], 0, 0, 0, 1, 1, 1⟩, ⟨8, [2], 0, 0, 0, 0, 0, 1⟩]
def oneL (k o a b : Int) : List OpP := two2 ++ [⟨k, [0], o, a, b, 0, 0, 1⟩]
def twoCells (s : Value) : Array Value := #[.int .i64 1, .slice none 0 0, .int .i64 0, .int .i64 0, .int .i64 0, .int .i64 1, .int .i64 1, .int .i64 1, .int .i64 8, s, .int .i64 0, .int .i64 0, .int .i64 0, .int .i64 0, .int .i64 0, .int .i64 1]
theorem two2_own {w : World} {B q1 qo : Nat} (h1 : Blk w q1 3 #[.int .i64 2]) (h2 : Blk w qo 40 (twoCells (.slice (some ⟨q1, 0, none⟩) 1 1))) (hB1 : B ≤ q1) (hBo : B ≤ qo) : OwnOps w B (.slice (some ⟨qo, 0, none⟩) 2 2) two2 (twoQ q1) := by
  refine ⟨?_, fun i hi => ?_⟩
  · have hc : (opsCells two2 (twoQ q1)).toArray = twoCells (.slice (some ⟨q1, 0, none⟩) 1 1) := rfl
    exact ownRow_blk (n := 2) (by rw [hc]; exact h2) hBo rfl (by omega)
  · have hi' : i < 2 := hi
    rcases (show i = 0 ∨ i = 1 by omega) with rfl | rfl
    · exact ⟨by unfold OpIn In64; decide, OwnI.nil w B |>.mono (Nat.le_refl _)⟩
    · exact ⟨by unfold OpIn In64; decide, ownI_blk (xs := [2]) h1 hB1 (by decide) (by simp [In64])⟩

set_option maxHeartbeats 2000000 in
theorem one_any (k o a b : Int) (hk : In64 k) (ho : In64 o) (ha : In64 a) (hb : In64 b) (w : World) :
    Calls Try.prog 27 #[.int .i64 k, .agg #[.int .i64 o, .int .i64 a, .int .i64 b]] w fun e w' => ∃ A c p, e = .returned (.agg #[.int .i64 4, .slice A 3 c]) ∧ IsOps w' w'.heap.size A (oneL k o a b) p ∧ Below w.heap.size w w' := by
  go_enter Try.func27, Try.ntmps27
  go_wp2_with fail
  refine (two_any _).mono ?_
  rintro e w2 ⟨rfl, hb2, hs2, hbi, hbo⟩
  have e0 : ((w.alloc (.cells #[.int .i64 o, .int .i64 a, .int .i64 b] 37)).alloc (.cells #[.int .i64 0, .slice none 0 0] 24)).heap.size = w.heap.size + 2 := by simp
  rw [e0] at hb2 hs2 hbi hbo ⊢
  have hfn : Blk w2 w.heap.size 37 #[.int .i64 o, .int .i64 a, .int .i64 b] := ((Blk.new w _ _).alloc _).below hb2 (by omega)
  have hrs : Blk w2 (w.heap.size + 1) 24 #[.int .i64 0, .slice none 0 0] := by
    have := Blk.new (w.alloc (.cells #[.int .i64 o, .int .i64 a, .int .i64 b] 37)) 24 #[.int .i64 0, .slice none 0 0]
    have e1 : (w.alloc (.cells #[.int .i64 o, .int .i64 a, .int .i64 b] 37)).heap.size = w.heap.size + 1 := by simp
    rw [e1] at this
    exact this.below hb2 (by omega)
  have hbw : Below w.heap.size w w2 := (((Below.refl _ _).alloc (Nat.le_refl _) _).alloc (by simp) _).trans (hb2.mono (by omega))
  obtain ⟨h0, hh0⟩ : ∃ n, w.heap.size = n := ⟨_, rfl⟩
  obtain ⟨n5, hn5⟩ : ∃ n, w2.heap.size = n := ⟨_, rfl⟩
  rw [hh0] at hfn hrs hbo hs2 hbw ⊢
  rw [hn5] at hs2
  obtain ⟨qo, hqo⟩ : ∃ n, h0 + 2 + 2 = n := ⟨_, rfl⟩
  rw [hqo] at hbo ⊢
  have z1 : h0 + 4 ≤ qo := by omega
  have z2 : qo < n5 := by omega
  clear hb2 hbi e0 hs2 hqo
  go_upto_region 2 with (fail)
  obtain ⟨X, hX⟩ : ∃ X, (w2.alloc (.cells #[.int .i64 4, .slice (some ⟨qo, 0, none⟩) 2 2] 24)) = X := ⟨_, rfl⟩
  have kS : Blk X n5 24 #[.int .i64 4, .slice (some ⟨qo, 0, none⟩) 2 2] := hX ▸ hn5 ▸ Blk.new _ _ _
  have kZ : n5 < X.heap.size := kS.lt
  have kF : Blk X h0 37 #[.int .i64 o, .int .i64 a, .int .i64 b] := hX ▸ hfn.alloc _
  have kR : Blk X (h0 + 1) 24 #[.int .i64 0, .slice none 0 0] := hX ▸ hrs.alloc _
  have kO : Blk X qo 40 (twoCells (.slice (some ⟨h0 + 2 + 1, 0, none⟩) 1 1)) := hX ▸ hbo.alloc _
  have kB : Below h0 w X := hX ▸ hbw.alloc (by rw [hn5]; omega) _
  (try rw [hX])
  (try rw [hn5])
  have HH0 := Lib.hid hh0
  clear hX hfn hrs hbo hbw hn5 hh0
  obtain ⟨nx, hnx⟩ : ∃ n, X.heap.size = n := ⟨_, rfl⟩
  obtain ⟨s0, s1⟩ := spec_blk kS
  have o9 := (kO.alloc (.cells #[.int .i64 2] 3)).cell 9
  have f9 := (kO.alloc (.cells #[.int .i64 2] 3)).frozen 9
  have s1' := (spec_blk (kS.alloc (.cells #[.int .i64 2] 3))).2
  simp only [twoCells] at o9
  have HNX := Lib.hid hnx
  have kF2 := kF.alloc (.cells #[.int .i64 2] 3)
  have kR2 := kR.alloc (.cells #[.int .i64 2] 3)
  have kS2 := kS.alloc (.cells #[.int .i64 2] 3)
  have kO2 := kO.alloc (.cells #[.int .i64 2] 3)
  have kI2 := Blk.new X 3 #[.int .i64 2]
  have kB2 := kB.alloc (o := .cells #[.int .i64 2] 3) (by omega)
  have KF := Lib.hid kF2
  have KR := Lib.hid kR2
  have KS := Lib.hid kS2
  have KO := Lib.hid kO2
  have KI := Lib.hid kI2
  have KB := Lib.hid kB2
  clear kF kR kS kO kB kF2 kR2 kS2 kO2 kI2 kB2 hnx
  go_upto_region 3 with (fail)
  obtain ⟨W3, hW3⟩ : ∃ W, ((X.alloc (.cells #[.int .i64 2] 3)).setCell ⟨qo, 9, none⟩ (.slice (some ⟨X.heap.size, 0, none⟩) 1 1)) = W := ⟨_, rfl⟩
  rw [hW3]
  have wO : Blk W3 qo 40 (twoCells (.slice (some ⟨X.heap.size, 0, none⟩) 1 1)) := hW3 ▸ KO.out.set_ 9 (.slice (some ⟨X.heap.size, 0, none⟩) 1 1)
  have wI : Blk W3 X.heap.size 3 #[.int .i64 2] := hW3 ▸ KI.out.far (by show X.heap.size ≠ qo; omega) _
  have wF : Blk W3 h0 37 #[.int .i64 o, .int .i64 a, .int .i64 b] := hW3 ▸ KF.out.far (by show h0 ≠ qo; omega) _
  have wR : Blk W3 (h0 + 1) 24 #[.int .i64 0, .slice none 0 0] := hW3 ▸ KR.out.far (by show h0 + 1 ≠ qo; omega) _
  have wS : Blk W3 n5 24 #[.int .i64 4, .slice (some ⟨qo, 0, none⟩) 2 2] := hW3 ▸ KS.out.far (by show n5 ≠ qo; omega) _
  have wB : Below h0 w W3 := hW3 ▸ KB.out.setCell (by show h0 ≤ qo; omega) _
  have kz2 : X.heap.size < W3.heap.size := wI.lt
  have HOW := Lib.hid (two2_own (B := h0 + 2) (wI.alloc (.cells #[.int .i64 0] 3)) (wO.alloc (.cells #[.int .i64 0] 3)) (by omega) (by omega))
  have HOO := Lib.hid (ownI_blk (B := h0 + 2) (xs := [0]) (Blk.new W3 3 #[.int .i64 0]) (by omega) (by decide) (by simp [In64]))
  have HOI : Hid (OpIn ⟨k, [0], o, a, b, 0, 0, 1⟩) := ⟨hk, ho, ha, hb, (by show In64 0; unfold In64; decide), (by show In64 0; unfold In64; decide), (by show In64 1; unfold In64; decide)⟩
  have HSZ : Hid ((W3.alloc (.cells #[.int .i64 0] 3)).heap.size = W3.heap.size + 1) := by show _ = _; simp
  have HZ : Hid (h0 + 2 ≤ (W3.alloc (.cells #[.int .i64 0] 3)).heap.size) := by show _ ≤ _; simp; omega
  have c0 := (wF.alloc (.cells #[.int .i64 0] 3)).cell 0
  have c1 := (wF.alloc (.cells #[.int .i64 0] 3)).cell 1
  have c2 := (wF.alloc (.cells #[.int .i64 0] 3)).cell 2
  obtain ⟨-, s1w⟩ := spec_blk wS
  have WR := Lib.hid ((wR.alloc (.cells #[.int .i64 0] 3)).alloc (.cells (opArr ⟨k, [0], o, a, b, 0, 0, 1⟩ (some ⟨W3.heap.size, 0, none⟩, 1)) 40))
  have WS := Lib.hid ((wS.alloc (.cells #[.int .i64 0] 3)).alloc (.cells (opArr ⟨k, [0], o, a, b, 0, 0, 1⟩ (some ⟨W3.heap.size, 0, none⟩, 1)) 40))
  have WB := Lib.hid ((wB.alloc (o := .cells #[.int .i64 0] 3) (by omega)).alloc (o := .cells (opArr ⟨k, [0], o, a, b, 0, 0, 1⟩ (some ⟨W3.heap.size, 0, none⟩, 1)) 40) (by simp; omega))
  clear o9 f9 s1' s0 s1 hW3 wO wI wF wR wS wB KF KR KS KO KI KB
  go_wp2_with (at_builtin; refine app_opG (o := ⟨k, [0], o, a, b, 0, 0, 1⟩) (q := (some ⟨W3.heap.size, 0, none⟩, 1)) rfl _ _ rfl (h0 + 2) HOW.out rfl HOI.out HOO.out (W3.heap.size + 1) HSZ.out rfl (by decide) HZ.out ?_)
  intro v' w5 own5 grow5
  obtain ⟨A5, c5, rfl⟩ := own5.form
  have e3 : (two2 ++ [(⟨k, [0], o, a, b, 0, 0, 1⟩ : OpP)]).length = 3 := rfl
  rw [e3] at own5 ⊢
  have vS := WS.out.grown grow5 (by simp [Value.ownBlock]; omega)
  have vR := WR.out.grown grow5 (by simp [Value.ownBlock]; omega)
  have vB := WB.out.grown grow5 (by simp; omega) (fun z hz => (show qo = z by simpa [Value.ownBlock] using hz) ▸ (by omega))
  obtain ⟨-, v1⟩ := spec_blk vS
  have vf := vS.frozen 1
  have VS := Lib.hid vS
  have VR := Lib.hid vR
  have VB := Lib.hid vB
  have VO := Lib.hid own5
  clear grow5 e3 own5 vS vR vB c0 c1 c2 s1w WR WS WB HOW HOO
  go_upto_region 4 with (fail)
  obtain ⟨W6, hW6⟩ : ∃ W, w5.setCell ⟨n5, 1, none⟩ (.slice A5 3 c5) = W := ⟨_, rfl⟩
  rw [hW6]
  have uS : Blk W6 n5 24 #[.int .i64 4, .slice A5 3 c5] := hW6 ▸ VS.out.set_ 1 (.slice A5 3 c5)
  have uR : Blk W6 (h0 + 1) 24 #[.int .i64 0, .slice none 0 0] := hW6 ▸ VR.out.far (by show h0 + 1 ≠ n5; omega) _
  have uB : Below h0 w W6 := hW6 ▸ VB.out.setCell (by show h0 ≤ n5; omega) _
  have uO : OwnOps W6 (h0 + 2) (.slice A5 3 c5) (oneL k o a b) _ := hW6 ▸ VO.out.other VS.out (by decide) (by decide) 1 _
  obtain ⟨u0, u1⟩ := spec_blk uS
  have r0 := uR.cell 0
  have r1 := uR.cell 1
  have g0 := uR.frozen 0
  have g1 := uR.frozen 1
  have HR1 := Lib.hid ((uR.set_ 0 (.int .i64 4)).set_ 1 (.slice A5 3 c5))
  have HRB := Lib.hid ((uB.setCell (p := ⟨h0 + 1, 0, none⟩) (by show h0 ≤ h0 + 1; omega) (.int .i64 4)).setCell (p := ⟨h0 + 1, 1, none⟩) (by show h0 ≤ h0 + 1; omega) (.slice A5 3 c5))
  have HRO := Lib.hid ((uO.other uR (by decide) (by decide) 0 (.int .i64 4)).other (uR.set_ 0 (.int .i64 4)) (by decide) (by decide) 1 (.slice A5 3 c5))
  clear hW6 uS uR uB uO VS VR VB VO v1 vf
  go_wp2_with fail
  have q0' := HR1.out.cell 0
  have q1' := HR1.out.cell 1
  refine bodyPost_ret (v := .agg #[.int .i64 4, .slice A5 3 c5]) (by simp [results, Try.results27, go_sem, q0', q1']; try rfl) rfl ⟨A5, c5, _, rfl, HRO.out.ops, ?_⟩
  rw [HH0.out]; exact HRB.out
end Go.Proofs.Ytcechimilefihaa.Sp
