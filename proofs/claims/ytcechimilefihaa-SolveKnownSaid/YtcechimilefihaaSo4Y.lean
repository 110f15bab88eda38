/- How many tasks are needed: what an operator needs. -/
import Derived.Test.YtcechimilefihaaZk

namespace Go.Proofs.Ytcechimilefihaa.So
open Go.ChangeShapes Go.WideShapes Go.ChangeAt Go.RowKit M Sp Fr

/-- what 'need' returns, and what is known then -/
def needT (g most : Int) (l : List OpP) (kn : List Kn) (m : Mea) (i : Nat) : Value :=
  if readyF l kn i then
    if (needR (rateF l kn i) m).e = 0 then .tuple #[.int .i64 (cutF (needR (rateF l kn i) m).t (limF g most l i)), .int .i64 0] else .tuple #[.int .i64 0, .int .i64 (needR (rateF l kn i) m).e]
  else .tuple #[.int .i64 0, .int .i64 0]
def needK (l : List OpP) (kn : List Kn) (m : Mea) (i : Nat) : List Kn :=
  if readyF l kn i then
    if (needR (rateF l kn i) m).e = 0 then kn.set i ⟨(needR (rateF l kn i) m).n, (needR (rateF l kn i) m).d, true⟩ else kn
  else kn

/-- behind the call: only what is known has turned -/
def NeedW (w : World) (o : Nat) (kn : List Kn) (w' : World) : Prop := w.grownBy w' (some o) ∧ IsKn w' o kn

/-- blocks of the call's own -/
def Bs (w : World) (B : Nat) (l : List (Nat × TypeId × Array Value)) (wr : World) : Prop := Below B w wr ∧ ∀ x ∈ l, Blk wr x.1 x.2.1 x.2.2
section
variable {w wr w1 : World} {B : Nat} {l : List (Nat × TypeId × Array Value)}
theorem Bs.nil (w : World) (B : Nat) : Bs w B [] w := ⟨Below.refl _ _, fun x hx => by cases hx⟩
theorem Bs.step (h : Bs w B l wr) (hB : B ≤ w.heap.size) (hb : Below wr.heap.size wr w1) : Bs w B l w1 := ⟨through h.1 hB hb, fun x hx => (h.2 x hx).below hb (h.2 x hx).lt⟩
theorem Bs.alloc (h : Bs w B l wr) (hB : B ≤ w.heap.size) (cs : Array Value) (t : TypeId) {g : Nat} (hg : wr.heap.size = g) : Bs w B ((g, t, cs) :: l) (wr.alloc (.cells cs t)) := by
  refine ⟨h.1.alloc (Nat.le_trans hB h.1.size) _, fun z hz => ?_⟩
  rcases List.mem_cons.1 hz with rfl | hz
  · exact hg ▸ Blk.new _ _ _
  · exact (h.2 z hz).alloc _
theorem Bs.g0 {x : Nat × TypeId × Array Value} (h : Bs w B (x :: l) wr) : Blk wr x.1 x.2.1 x.2.2 := h.2 _ (by simp)
theorem Bs.g1 {x y : Nat × TypeId × Array Value} (h : Bs w B (y :: x :: l) wr) : Blk wr x.1 x.2.1 x.2.2 := h.2 _ (by simp)
theorem Bs.g2 {x y z : Nat × TypeId × Array Value} (h : Bs w B (z :: y :: x :: l) wr) : Blk wr x.1 x.2.1 x.2.2 := h.2 _ (by simp)
theorem Bs.g3 {x y z u : Nat × TypeId × Array Value} (h : Bs w B (u :: z :: y :: x :: l) wr) : Blk wr x.1 x.2.1 x.2.2 := h.2 _ (by simp)
theorem Bs.g4 {x y z u v : Nat × TypeId × Array Value} (h : Bs w B (v :: u :: z :: y :: x :: l) wr) : Blk wr x.1 x.2.1 x.2.2 := h.2 _ (by simp)
theorem Bs.get (h : Bs w B l wr) {g : Nat} {t : TypeId} {cs : Array Value} (hm : (g, t, cs) ∈ l) : Blk wr g t cs := h.2 _ hm
theorem Bs.lt (h : Bs w B l wr) {g : Nat} {t : TypeId} {cs : Array Value} (hm : (g, t, cs) ∈ l) : g < wr.heap.size := (h.2 _ hm).lt
end
theorem frac_of {w : World} {g : Nat} {n d : Int} (h : Blk w g 43 #[.int .i64 n, .int .i64 d]) : w.cell? ⟨g, 0, none⟩ = some (.int .i64 n) ∧ w.cell? ⟨g, 1, none⟩ = some (.int .i64 d) := ⟨h.cell 0, h.cell 1⟩
def meaCells (m : Mea) : Array Value := #[.int .i64 m.1, .int .i64 m.2.1, .int .i64 m.2.2.1, .int .i64 m.2.2.2]
theorem mea_of {w : World} {g : Nat} {a b c d : Int} (h : Blk w g 55 #[.int .i64 a, .int .i64 b, .int .i64 c, .int .i64 d]) : w.cell? ⟨g, 0, none⟩ = some (.int .i64 a) ∧ w.cell? ⟨g, 1, none⟩ = some (.int .i64 b) ∧ w.cell? ⟨g, 2, none⟩ = some (.int .i64 c) := ⟨h.cell 0, h.cell 1, h.cell 2⟩
theorem NeedW.same {w w' : World} {o : Nat} {kn : List Kn} (h : IsKn w o kn) (hb : Below w.heap.size w w') : NeedW w o kn w' := ⟨only_of_below hb _, h.below hb⟩

theorem ops_grown {w X : World} {B o : Nat} {A : Option Addr} {l : List OpP} {p : Nat → Option Addr × Nat} (h : IsOps w B A l p) (hg : w.grownBy X (some o)) (hB : B ≤ w.heap.size) (hBo : B ≤ o) : IsOps X B A l p :=
  h.below (below_of_only hg hB (fun k hk => by cases hk; exact hBo))
theorem IsSo.grown {w X : World} {q o n c mc : Nat} {g most : Int} {A M : Option Addr} (h : IsSo w q o g A n c M mc most) (hg : w.grownBy X (some o)) (hqo : q ≠ o) : IsSo X q o g A n c M mc most :=
  Blk.grown h hg (by simpa using hqo)
theorem src_bd {g : Int} {l : List OpP} (hj : OkJ g l) {i : Nat} (hi : i < l.length) (hk : kindOf l i = 1) : 0 ≤ (opOf l i).rate ∧ (opOf l i).rate ≤ 9223372036854775807 := by
  have hp := (alone_in (hj.alone i hi)).2.2.2.1
  unfold partsB at hp
  unfold kindOf at hk
  rw [if_pos hk] at hp
  unfold btw at hp
  simp only [Bool.and_eq_true, decide_eq_true_eq] at hp
  omega
theorem blk_ne {W : World} {x y : Nat} {T U : TypeId} {cs ds : Array Value} (h : Blk W x T cs) (k : Blk W y U ds) (hne : T ≠ U) : x ≠ y := by
  rintro rfl
  unfold Blk at h k
  rw [h] at k
  injection k with k; injection k with _ k
  exact hne k
theorem IsKn.drew {w : World} {o : Nat} {kn : List Kn} (h : IsKn w o kn) : IsKn w.drew o kn := Blk.drew h
theorem grown3 {w X : World} {o j : Nat} {u v x : Value} (h : w.grownBy X (some o)) : w.grownBy (((X.setCell ⟨o, j, none⟩ u).setCell ⟨o, j + 1, none⟩ v).setCell ⟨o, j + 2, none⟩ x) (some o) :=
  only_setCell (only_setCell (only_setCell h (p := ⟨o, j, none⟩) (.inl rfl) u) (p := ⟨o, j + 1, none⟩) (.inl rfl) v) (p := ⟨o, j + 2, none⟩) (.inl rfl) x
section
variable {g most : Int} {l : List OpP} {kn : List Kn} {m : Mea} {i : Nat}
theorem needT_no (hr : readyF l kn i = true) (he : (needR (rateF l kn i) m).e ≠ 0) : needT g most l kn m i = .tuple #[.int .i64 0, .int .i64 (needR (rateF l kn i) m).e] ∧ needK l kn m i = kn := by
  unfold needT needK; rw [if_pos hr, if_neg he, if_pos hr, if_neg he]; exact ⟨rfl, rfl⟩
theorem needT_yes (hr : readyF l kn i = true) (he : (needR (rateF l kn i) m).e = 0) : needT g most l kn m i = .tuple #[.int .i64 (cutF (needR (rateF l kn i) m).t (limF g most l i)), .int .i64 0] ∧ needK l kn m i = kn.set i ⟨(needR (rateF l kn i) m).n, (needR (rateF l kn i) m).d, true⟩ := by
  unfold needT needK; rw [if_pos hr, if_pos he, if_pos hr, if_pos he]; exact ⟨rfl, rfl⟩
end
theorem part_fit {a b : Int} (h : fits (b * 100) = true) : partR a b 100 = ofR a (b * 100) := by unfold partR; rw [if_pos h]
theorem part_nofit {a b : Int} (h : fits (b * 100) = false) : partR a b 100 = ⟨0, 0, false⟩ := by unfold partR; rw [h]; rfl
theorem part_one {a b : Int} (h : I64 b) : partR a b 1 = ofR a b := by unfold partR; rw [Int.mul_one, if_pos (fits_yes h)]
theorem R_eta {r : R} (h : r.ok = true) : r = ⟨r.n, r.d, true⟩ := by cases r; simp at h; rw [h]

set_option maxRecDepth 100000 in
set_option maxHeartbeats 4000000 in
theorem need_any (g most : Int) (A : Option Addr) (c mc bm om : Nat) (l : List OpP) (p : Nat → Option Addr × Nat) (kn : List Kn) (m : Mea) (hmo : MeaOk m) (q o i : Nat) (w : World) (B : Nat) (hB : B ≤ w.heap.size) (h : IsOps w B A l p) (hs : IsSo w q o g A l.length c (some ⟨bm, om, none⟩) mc most) (hkn : IsKn w o kn) (hko : KnOk kn) (hkl : kn.length = l.length) (hi : i < l.length) {g' : Int} (hj : OkJ g' l)
    (hBo : B ≤ o) (hqo : q ≠ o) (hlim : 1 ≤ limF g most l i ∧ limF g most l i ≤ 8) (hm : bm < w.heap.size ∧ w.cell? ⟨bm, om + i * 4, none⟩ = some (.int .i64 m.1) ∧ w.cell? ⟨bm, om + i * 4 + 1, none⟩ = some (.int .i64 m.2.1) ∧ w.cell? ⟨bm, om + i * 4 + 2, none⟩ = some (.int .i64 m.2.2.1) ∧ w.cell? ⟨bm, om + i * 4 + 3, none⟩ = some (.int .i64 m.2.2.2)) :
    Calls Try.prog 91 #[.pointer (some ⟨q, 0, none⟩), .int .i64 i] w fun e w' => e = .returned (needT g most l kn m i) ∧ NeedW w o (needK l kn m i) w' := by
  have hlen := hj.len.2
  have HR := Lib.hid (fun X (hb : Below w.heap.size w X) => rate_any (g := g) (most := most) (w := X) (Nat.le_trans hB hb.size) (h.below (hb.mono hB)) (hs.below hb) (hkn.below hb) hko hkl hi hj)
  have HLM := Lib.hid (fun X (hg : w.grownBy X (some o)) => limit_any g most A (some ⟨bm, om, none⟩) c mc l p q o i X B (Nat.le_trans hB hg.size) (ops_grown h hg hB hBo) (hs.grown hg hqo) hi hlen)
  obtain ⟨s0, s1, s2, s3, s4⟩ := hs.cells
  have hq := hs.lt
  obtain ⟨hbm, m0, m1, m2, m3⟩ := hm
  have HKN := Lib.hid hkn
  have HKL := Lib.hid hkl
  have HS4 := Lib.hid s4
  have HLIM := Lib.hid hlim
  have hlow : readyF l kn i = true → (rateF l kn i).ok = true → Lowest (rateF l kn i).n (rateF l kn i).d := fun a b => rate_low hko (fun e => by have := src_bd hj hi e; omega) a b
  clear h hs hkn hkl hj
  have T := Lib.hid (Bs.nil w w.heap.size)
  cases hr : readyF l kn i with
  | false =>
    have E := Lib.hid (show needT g most l kn m i = .tuple #[.int .i64 0, .int .i64 0] by unfold needT; rw [hr]; rfl)
    have EK := Lib.hid (show needK l kn m i = kn by unfold needK; rw [hr]; rfl)
    have ER := Lib.hid (show rateV l kn i = tup3 0 0 0 false by unfold rateV; rw [hr]; rfl)
    rw [ER.out] at HR
    unfold tup3 at HR
    clear hko hr ER hlow hlim
    (obtain ⟨ma, mb, md, me⟩ := m; simp only at m0 m1 m2 m3; (go_enter Try.func91, Try.ntmps91; (obtain ⟨b0, hg⟩ : ∃ k, w.heap.size = k := ⟨_, rfl⟩; go_upto_region 2 with (fail); obtain ⟨X0, hX⟩ : ∃ W9, (w.alloc (.cells #[.int .i64 ma, .int .i64 mb, .int .i64 md, .int .i64 me] 55)) = W9 := ⟨_, rfl⟩; have T1 := Lib.hid (T.out.alloc (Nat.le_refl _) #[.int .i64 ma, .int .i64 mb, .int .i64 md, .int .i64 me] 55 hg); (clear T; have T := T1; clear T1); rw [hX] at T; (try rw [hX]); clear hX hg); clear m0 m1 m2 m3 s0 s1 s2 s3 s4; go_wp2_with fail; refine (HR.out _ T.out.1).mono ?_; rintro e w1 ⟨rfl, hb1⟩; have T1 := Lib.hid (T.out.step (Nat.le_refl _) hb1); (clear T; have T := T1; clear T1); clear hb1; (obtain ⟨b7, hg⟩ : ∃ k, w1.heap.size = k := ⟨_, rfl⟩; go_upto_region 3 with (fail); obtain ⟨X1, hX⟩ : ∃ W9, (w1.alloc (.cells #[.int .i64 0, .int .i64 0] 43)) = W9 := ⟨_, rfl⟩; have T1 := Lib.hid (T.out.alloc (Nat.le_refl _) #[.int .i64 0, .int .i64 0] 43 hg); (clear T; have T := T1; clear T1); rw [hX] at T; (try rw [hX]); clear hX hg); obtain ⟨m0, m1, m2⟩ := mea_of T.out.g1))
    (go_wp2_with fail; go_returns; exact ⟨by rw [E.out]; first | rfl | simp, by rw [EK.out]; exact NeedW.same HKN.out T.out.1⟩)
  | true =>
    have hlow := hlow hr
    have hT := fun he => needT_no (g := g) (most := most) (l := l) (kn := kn) (m := m) (i := i) hr he
    have hY := fun he => needT_yes (g := g) (most := most) (l := l) (kn := kn) (m := m) (i := i) hr he
    have ER := show rateV l kn i = if (rateF l kn i).ok then tup3 (rateF l kn i).n (rateF l kn i).d 0 true else tup3 0 0 15 false by unfold rateV; rw [if_pos hr]
    generalize rateF l kn i = r at *
    obtain ⟨rn, rd, ro⟩ := r
    clear hko hr hlim
    simp only at hlow ER
    by_cases hz : m.1 = 0 ∨ m.2.2.1 = 0
    · have hn := need_zero (r := ⟨rn, rd, ro⟩) hz
      rw [hn] at hT
      obtain ⟨hT1, hT2⟩ := hT (by decide)
      have E := Lib.hid hT1
      have EK := Lib.hid hT2
      clear hT hY hn hT1 hT2 hlow hmo
      rcases (show m.1 = 0 ∨ (m.1 ≠ 0 ∧ m.2.2.1 = 0) by omega) with h0 | ⟨h0, h1⟩
      · cases ro with
        | false =>
          have HE := Lib.hid ER
          rw [HE.out, if_neg (by decide)] at HR
          unfold tup3 at HR
          clear ER hz
          (obtain ⟨ma, mb, md, me⟩ := m; simp only at m0 m1 m2 m3 h0; subst h0; (go_enter Try.func91, Try.ntmps91; (obtain ⟨b0, hg⟩ : ∃ k, w.heap.size = k := ⟨_, rfl⟩; go_upto_region 2 with (fail); obtain ⟨X0, hX⟩ : ∃ W9, (w.alloc (.cells #[.int .i64 0, .int .i64 mb, .int .i64 md, .int .i64 me] 55)) = W9 := ⟨_, rfl⟩; have T1 := Lib.hid (T.out.alloc (Nat.le_refl _) #[.int .i64 0, .int .i64 mb, .int .i64 md, .int .i64 me] 55 hg); (clear T; have T := T1; clear T1); rw [hX] at T; (try rw [hX]); clear hX hg); clear m0 m1 m2 m3 s0 s1 s2 s3 s4; go_wp2_with fail; refine (HR.out _ T.out.1).mono ?_; rintro e w1 ⟨rfl, hb1⟩; have T1 := Lib.hid (T.out.step (Nat.le_refl _) hb1); (clear T; have T := T1; clear T1); clear hb1; (obtain ⟨b7, hg⟩ : ∃ k, w1.heap.size = k := ⟨_, rfl⟩; go_upto_region 3 with (fail); obtain ⟨X1, hX⟩ : ∃ W9, (w1.alloc (.cells #[.int .i64 0, .int .i64 0] 43)) = W9 := ⟨_, rfl⟩; have T1 := Lib.hid (T.out.alloc (Nat.le_refl _) #[.int .i64 0, .int .i64 0] 43 hg); (clear T; have T := T1; clear T1); rw [hX] at T; (try rw [hX]); clear hX hg); obtain ⟨m0, m1, m2⟩ := mea_of T.out.g1))
          (go_wp2_with fail; go_returns; exact ⟨by rw [E.out]; first | rfl | simp, by rw [EK.out]; exact NeedW.same HKN.out T.out.1⟩)
        | true =>
          have HE := Lib.hid ER
          rw [HE.out, if_pos rfl] at HR
          unfold tup3 at HR
          clear ER hz
          (obtain ⟨ma, mb, md, me⟩ := m; simp only at m0 m1 m2 m3 h0; subst h0; (go_enter Try.func91, Try.ntmps91; (obtain ⟨b0, hg⟩ : ∃ k, w.heap.size = k := ⟨_, rfl⟩; go_upto_region 2 with (fail); obtain ⟨X0, hX⟩ : ∃ W9, (w.alloc (.cells #[.int .i64 0, .int .i64 mb, .int .i64 md, .int .i64 me] 55)) = W9 := ⟨_, rfl⟩; have T1 := Lib.hid (T.out.alloc (Nat.le_refl _) #[.int .i64 0, .int .i64 mb, .int .i64 md, .int .i64 me] 55 hg); (clear T; have T := T1; clear T1); rw [hX] at T; (try rw [hX]); clear hX hg); clear m0 m1 m2 m3 s0 s1 s2 s3 s4; go_wp2_with fail; refine (HR.out _ T.out.1).mono ?_; rintro e w1 ⟨rfl, hb1⟩; have T1 := Lib.hid (T.out.step (Nat.le_refl _) hb1); (clear T; have T := T1; clear T1); clear hb1; (obtain ⟨b7, hg⟩ : ∃ k, w1.heap.size = k := ⟨_, rfl⟩; go_upto_region 3 with (fail); obtain ⟨X1, hX⟩ : ∃ W9, (w1.alloc (.cells #[.int .i64 rn, .int .i64 rd] 43)) = W9 := ⟨_, rfl⟩; have T1 := Lib.hid (T.out.alloc (Nat.le_refl _) #[.int .i64 rn, .int .i64 rd] 43 hg); (clear T; have T := T1; clear T1); rw [hX] at T; (try rw [hX]); clear hX hg); obtain ⟨m0, m1, m2⟩ := mea_of T.out.g1))
          (go_wp2_with fail; go_returns; exact ⟨by rw [E.out]; first | rfl | simp, by rw [EK.out]; exact NeedW.same HKN.out T.out.1⟩)
      · cases ro with
        | false =>
          have HE := Lib.hid ER
          rw [HE.out, if_neg (by decide)] at HR
          unfold tup3 at HR
          clear ER hz
          (obtain ⟨ma, mb, md, me⟩ := m; simp only at m0 m1 m2 m3; replace h0 : ma ≠ 0 := h0; replace h1 : md = 0 := h1; subst h1; have t0 : (ma == 0) = false := (by simpa using h0); have HH0 := Lib.hid h0; clear h0; (go_enter Try.func91, Try.ntmps91; (obtain ⟨b0, hg⟩ : ∃ k, w.heap.size = k := ⟨_, rfl⟩; go_upto_region 2 with (fail); obtain ⟨X0, hX⟩ : ∃ W9, (w.alloc (.cells #[.int .i64 ma, .int .i64 mb, .int .i64 0, .int .i64 me] 55)) = W9 := ⟨_, rfl⟩; have T1 := Lib.hid (T.out.alloc (Nat.le_refl _) #[.int .i64 ma, .int .i64 mb, .int .i64 0, .int .i64 me] 55 hg); (clear T; have T := T1; clear T1); rw [hX] at T; (try rw [hX]); clear hX hg); clear m0 m1 m2 m3 s0 s1 s2 s3 s4; go_wp2_with fail; refine (HR.out _ T.out.1).mono ?_; rintro e w1 ⟨rfl, hb1⟩; have T1 := Lib.hid (T.out.step (Nat.le_refl _) hb1); (clear T; have T := T1; clear T1); clear hb1; (obtain ⟨b7, hg⟩ : ∃ k, w1.heap.size = k := ⟨_, rfl⟩; go_upto_region 3 with (fail); obtain ⟨X1, hX⟩ : ∃ W9, (w1.alloc (.cells #[.int .i64 0, .int .i64 0] 43)) = W9 := ⟨_, rfl⟩; have T1 := Lib.hid (T.out.alloc (Nat.le_refl _) #[.int .i64 0, .int .i64 0] 43 hg); (clear T; have T := T1; clear T1); rw [hX] at T; (try rw [hX]); clear hX hg); obtain ⟨m0, m1, m2⟩ := mea_of T.out.g1))
          (go_wp2_with fail; go_returns; exact ⟨by rw [E.out]; first | rfl | simp, by rw [EK.out]; exact NeedW.same HKN.out T.out.1⟩)
        | true =>
          have HE := Lib.hid ER
          rw [HE.out, if_pos rfl] at HR
          unfold tup3 at HR
          clear ER hz
          (obtain ⟨ma, mb, md, me⟩ := m; simp only at m0 m1 m2 m3; replace h0 : ma ≠ 0 := h0; replace h1 : md = 0 := h1; subst h1; have t0 : (ma == 0) = false := (by simpa using h0); have HH0 := Lib.hid h0; clear h0; (go_enter Try.func91, Try.ntmps91; (obtain ⟨b0, hg⟩ : ∃ k, w.heap.size = k := ⟨_, rfl⟩; go_upto_region 2 with (fail); obtain ⟨X0, hX⟩ : ∃ W9, (w.alloc (.cells #[.int .i64 ma, .int .i64 mb, .int .i64 0, .int .i64 me] 55)) = W9 := ⟨_, rfl⟩; have T1 := Lib.hid (T.out.alloc (Nat.le_refl _) #[.int .i64 ma, .int .i64 mb, .int .i64 0, .int .i64 me] 55 hg); (clear T; have T := T1; clear T1); rw [hX] at T; (try rw [hX]); clear hX hg); clear m0 m1 m2 m3 s0 s1 s2 s3 s4; go_wp2_with fail; refine (HR.out _ T.out.1).mono ?_; rintro e w1 ⟨rfl, hb1⟩; have T1 := Lib.hid (T.out.step (Nat.le_refl _) hb1); (clear T; have T := T1; clear T1); clear hb1; (obtain ⟨b7, hg⟩ : ∃ k, w1.heap.size = k := ⟨_, rfl⟩; go_upto_region 3 with (fail); obtain ⟨X1, hX⟩ : ∃ W9, (w1.alloc (.cells #[.int .i64 rn, .int .i64 rd] 43)) = W9 := ⟨_, rfl⟩; have T1 := Lib.hid (T.out.alloc (Nat.le_refl _) #[.int .i64 rn, .int .i64 rd] 43 hg); (clear T; have T := T1; clear T1); rw [hX] at T; (try rw [hX]); clear hX hg); obtain ⟨m0, m1, m2⟩ := mea_of T.out.g1))
          (go_wp2_with fail; go_returns; exact ⟨by rw [E.out]; first | rfl | simp, by rw [EK.out]; exact NeedW.same HKN.out T.out.1⟩)
    · have hma : m.1 ≠ 0 := fun e => hz (.inl e)
      have hmd : m.2.2.1 ≠ 0 := fun e => hz (.inr e)
      have hmo2 := hmo
      obtain ⟨x0, x1, x2, x3, x4, x5⟩ := hmo2
      cases ro with
      | false =>
        have hn := need_rate (r := ⟨rn, rd, false⟩) hz rfl
        rw [hn] at hT
        obtain ⟨hT1, hT2⟩ := hT (by decide)
        have E := Lib.hid hT1
        have EK := Lib.hid hT2
        have HE := Lib.hid ER
        rw [HE.out, if_neg (by decide)] at HR
        unfold tup3 at HR
        clear hT hY hn hT1 hT2 hlow hmo ER hz
        (obtain ⟨ma, mb, md, me⟩ := m; simp only at m0 m1 m2 m3; replace hma : ma ≠ 0 := hma; replace hmd : md ≠ 0 := hmd; have t0 : (ma == 0) = false := (by simpa using hma); have t1 : (md == 0) = false := (by simpa using hmd); clear hma hmd; (go_enter Try.func91, Try.ntmps91; (obtain ⟨b0, hg⟩ : ∃ k, w.heap.size = k := ⟨_, rfl⟩; go_upto_region 2 with (fail); obtain ⟨X0, hX⟩ : ∃ W9, (w.alloc (.cells #[.int .i64 ma, .int .i64 mb, .int .i64 md, .int .i64 me] 55)) = W9 := ⟨_, rfl⟩; have T1 := Lib.hid (T.out.alloc (Nat.le_refl _) #[.int .i64 ma, .int .i64 mb, .int .i64 md, .int .i64 me] 55 hg); (clear T; have T := T1; clear T1); rw [hX] at T; (try rw [hX]); clear hX hg); clear m0 m1 m2 m3 s0 s1 s2 s3 s4; go_wp2_with fail; refine (HR.out _ T.out.1).mono ?_; rintro e w1 ⟨rfl, hb1⟩; have T1 := Lib.hid (T.out.step (Nat.le_refl _) hb1); (clear T; have T := T1; clear T1); clear hb1; (obtain ⟨b7, hg⟩ : ∃ k, w1.heap.size = k := ⟨_, rfl⟩; go_upto_region 3 with (fail); obtain ⟨X1, hX⟩ : ∃ W9, (w1.alloc (.cells #[.int .i64 0, .int .i64 0] 43)) = W9 := ⟨_, rfl⟩; have T1 := Lib.hid (T.out.alloc (Nat.le_refl _) #[.int .i64 0, .int .i64 0] 43 hg); (clear T; have T := T1; clear T1); rw [hX] at T; (try rw [hX]); clear hX hg); obtain ⟨m0, m1, m2⟩ := mea_of T.out.g1))
        (go_wp2_with fail; go_returns; exact ⟨by rw [E.out]; first | rfl | simp, by rw [EK.out]; exact NeedW.same HKN.out T.out.1⟩)
      | true =>
        have hl := hlow rfl
        have HE := Lib.hid ER
        rw [HE.out, if_pos rfl] at HR
        unfold tup3 at HR
        have HP2 := Lib.hid (fun X => part_any m.2.1 m.1 1 X (by unfold I64; omega) (by unfold I64; omega) (by unfold I64; omega))
        have HP1 := Lib.hid (fun X => part_any m.2.2.1 m.1 100 X (by unfold I64; omega) (by unfold I64; omega) (by unfold I64; omega))
        rw [part_one (by unfold I64; omega)] at HP2
        obtain ⟨he1, he2⟩ := each_ok hmo hma
        have he3 := R_eta he1
        obtain ⟨en, hen⟩ : ∃ x, (eachR m).n = x := ⟨_, rfl⟩
        obtain ⟨ed, hed⟩ : ∃ x, (eachR m).d = x := ⟨_, rfl⟩
        rw [hen, hed] at he2 he3
        change Hid (∀ X, Calls _ _ _ X fun e w' => e = rV (eachR m) ∧ _) at HP2
        rw [he3] at HP2
        unfold rV at HP2
        simp only at HP2
        cases hf : fits (m.1 * 100) with
        | false =>
          have hn := need_fit (r := ⟨rn, rd, true⟩) hz rfl hf
          rw [hn] at hT
          obtain ⟨hT1, hT2⟩ := hT (by decide)
          have E := Lib.hid hT1
          have EK := Lib.hid hT2
          rw [part_nofit hf] at HP1
          unfold rV at HP1
          simp only at HP1
          clear hT hY hn hT1 hT2 hlow hmo ER hz hf hen hed he1 he2 he3 hl x0 x1 x2 x3 x4 x5
          (obtain ⟨ma, mb, md, me⟩ := m; simp only at m0 m1 m2 m3; replace hma : ma ≠ 0 := hma; replace hmd : md ≠ 0 := hmd; have t0 : (ma == 0) = false := (by simpa using hma); have t1 : (md == 0) = false := (by simpa using hmd); clear hma hmd; (go_enter Try.func91, Try.ntmps91; (obtain ⟨b0, hg⟩ : ∃ k, w.heap.size = k := ⟨_, rfl⟩; go_upto_region 2 with (fail); obtain ⟨X0, hX⟩ : ∃ W9, (w.alloc (.cells #[.int .i64 ma, .int .i64 mb, .int .i64 md, .int .i64 me] 55)) = W9 := ⟨_, rfl⟩; have T1 := Lib.hid (T.out.alloc (Nat.le_refl _) #[.int .i64 ma, .int .i64 mb, .int .i64 md, .int .i64 me] 55 hg); (clear T; have T := T1; clear T1); rw [hX] at T; (try rw [hX]); clear hX hg); clear m0 m1 m2 m3 s0 s1 s2 s3 s4; go_wp2_with fail; refine (HR.out _ T.out.1).mono ?_; rintro e w1 ⟨rfl, hb1⟩; have T1 := Lib.hid (T.out.step (Nat.le_refl _) hb1); (clear T; have T := T1; clear T1); clear hb1; (obtain ⟨b7, hg⟩ : ∃ k, w1.heap.size = k := ⟨_, rfl⟩; go_upto_region 3 with (fail); obtain ⟨X1, hX⟩ : ∃ W9, (w1.alloc (.cells #[.int .i64 rn, .int .i64 rd] 43)) = W9 := ⟨_, rfl⟩; have T1 := Lib.hid (T.out.alloc (Nat.le_refl _) #[.int .i64 rn, .int .i64 rd] 43 hg); (clear T; have T := T1; clear T1); rw [hX] at T; (try rw [hX]); clear hX hg); obtain ⟨m0, m1, m2⟩ := mea_of T.out.g1))
          (go_wp2_with fail; refine (HP1.out _).mono ?_; rintro e w2 ⟨rfl, hb1⟩; have T1 := Lib.hid (T.out.step (Nat.le_refl _) hb1); (clear T; have T := T1; clear T1); clear hb1 m0 m1 m2; (obtain ⟨b10, hg⟩ : ∃ k, w2.heap.size = k := ⟨_, rfl⟩; go_upto_region 10 with (fail); obtain ⟨X2, hX⟩ : ∃ W9, (w2.alloc (.cells #[.int .i64 0, .int .i64 0] 43)) = W9 := ⟨_, rfl⟩; have T1 := Lib.hid (T.out.alloc (Nat.le_refl _) #[.int .i64 0, .int .i64 0] 43 hg); (clear T; have T := T1; clear T1); rw [hX] at T; (try rw [hX]); clear hX hg); obtain ⟨m0, m1, m2⟩ := mea_of T.out.g2; go_wp2_with fail; refine (HP2.out _).mono ?_; rintro e w3 ⟨rfl, hb1⟩; have T1 := Lib.hid (T.out.step (Nat.le_refl _) hb1); (clear T; have T := T1; clear T1); clear hb1 m0 m1 m2; (obtain ⟨b12, hg⟩ : ∃ k, w3.heap.size = k := ⟨_, rfl⟩; go_upto_region 11 with (fail); obtain ⟨X3, hX⟩ : ∃ W9, (w3.alloc (.cells #[.int .i64 en, .int .i64 ed] 43)) = W9 := ⟨_, rfl⟩; have T1 := Lib.hid (T.out.alloc (Nat.le_refl _) #[.int .i64 en, .int .i64 ed] 43 hg); (clear T; have T := T1; clear T1); rw [hX] at T; (try rw [hX]); clear hX hg))
          (go_wp2_with fail; go_returns; exact ⟨by rw [E.out]; first | rfl | simp, by rw [EK.out]; exact NeedW.same HKN.out T.out.1⟩)
        | true =>
          rw [part_fit hf] at HP1
          obtain ⟨hc1, hc2⟩ := cost_ok hmo hma hf
          have hc3 := R_eta hc1
          obtain ⟨cn, hcn⟩ : ∃ x, (costR m).n = x := ⟨_, rfl⟩
          obtain ⟨cd, hcd⟩ : ∃ x, (costR m).d = x := ⟨_, rfl⟩
          rw [hcn, hcd] at hc2 hc3
          change Hid (∀ X, Calls _ _ _ X fun e w' => e = rV (costR m) ∧ _) at HP1
          rw [hc3] at HP1
          unfold rV at HP1
          simp only at HP1
          have hg0 : givesR ⟨rn, rd, true⟩ m = timesR rn rd en ed := by unfold givesR; rw [hen, hed]
          have ha0 : allR ⟨rn, rd, true⟩ m = timesR rn rd cn cd := by unfold allR; rw [hcn, hcd]
          have HG := Lib.hid (fun X => times_any rn rd en ed X hl he2)
          have HA := Lib.hid (fun X => times_any rn rd cn cd X hl hc2)
          have hall : (timesR rn rd cn cd).ok = true → Lowest (timesR rn rd cn cd).n (timesR rn rd cn cd).d := times_low hl hc2
          have hov := need_over (r := ⟨rn, rd, true⟩) (m := m) hz rfl hf
          have hso := need_some (r := ⟨rn, rd, true⟩) (m := m) hz rfl hf
          rw [hg0, ha0] at hov hso
          clear hg0 ha0
          generalize timesR rn rd en ed = gr at *
          generalize timesR rn rd cn cd = ar at *
          obtain ⟨gn, gd, go⟩ := gr
          obtain ⟨an, ad, ao⟩ := ar
          simp only at hall hov hso
          unfold rV at HG HA
          simp only at HG HA
          clear hlow hmo ER hz hf hen hed hcn hcd he1 he2 he3 hc1 hc2 hc3 hl x0 x1 x2 x3 x4 x5
          cases hgo : go && ao with
          | false =>
            have hn := hov (by cases go <;> cases ao <;> simp at hgo ⊢)
            rw [hn] at hT
            obtain ⟨hT1, hT2⟩ := hT (by decide)
            have E := Lib.hid hT1
            have EK := Lib.hid hT2
            clear hT hY hn hT1 hT2 hall hov hso
            cases go with
            | false =>
              clear hgo
              (obtain ⟨ma, mb, md, me⟩ := m; simp only at m0 m1 m2 m3; replace hma : ma ≠ 0 := hma; replace hmd : md ≠ 0 := hmd; have t0 : (ma == 0) = false := (by simpa using hma); have t1 : (md == 0) = false := (by simpa using hmd); clear hma hmd; (go_enter Try.func91, Try.ntmps91; (obtain ⟨b0, hg⟩ : ∃ k, w.heap.size = k := ⟨_, rfl⟩; go_upto_region 2 with (fail); obtain ⟨X0, hX⟩ : ∃ W9, (w.alloc (.cells #[.int .i64 ma, .int .i64 mb, .int .i64 md, .int .i64 me] 55)) = W9 := ⟨_, rfl⟩; have T1 := Lib.hid (T.out.alloc (Nat.le_refl _) #[.int .i64 ma, .int .i64 mb, .int .i64 md, .int .i64 me] 55 hg); (clear T; have T := T1; clear T1); rw [hX] at T; (try rw [hX]); clear hX hg); clear m0 m1 m2 m3 s0 s1 s2 s3 s4; go_wp2_with fail; refine (HR.out _ T.out.1).mono ?_; rintro e w1 ⟨rfl, hb1⟩; have T1 := Lib.hid (T.out.step (Nat.le_refl _) hb1); (clear T; have T := T1; clear T1); clear hb1; (obtain ⟨b7, hg⟩ : ∃ k, w1.heap.size = k := ⟨_, rfl⟩; go_upto_region 3 with (fail); obtain ⟨X1, hX⟩ : ∃ W9, (w1.alloc (.cells #[.int .i64 rn, .int .i64 rd] 43)) = W9 := ⟨_, rfl⟩; have T1 := Lib.hid (T.out.alloc (Nat.le_refl _) #[.int .i64 rn, .int .i64 rd] 43 hg); (clear T; have T := T1; clear T1); rw [hX] at T; (try rw [hX]); clear hX hg); obtain ⟨m0, m1, m2⟩ := mea_of T.out.g1))
              (go_wp2_with fail; refine (HP1.out _).mono ?_; rintro e w2 ⟨rfl, hb1⟩; have T1 := Lib.hid (T.out.step (Nat.le_refl _) hb1); (clear T; have T := T1; clear T1); clear hb1 m0 m1 m2; (obtain ⟨b10, hg⟩ : ∃ k, w2.heap.size = k := ⟨_, rfl⟩; go_upto_region 10 with (fail); obtain ⟨X2, hX⟩ : ∃ W9, (w2.alloc (.cells #[.int .i64 cn, .int .i64 cd] 43)) = W9 := ⟨_, rfl⟩; have T1 := Lib.hid (T.out.alloc (Nat.le_refl _) #[.int .i64 cn, .int .i64 cd] 43 hg); (clear T; have T := T1; clear T1); rw [hX] at T; (try rw [hX]); clear hX hg); obtain ⟨m0, m1, m2⟩ := mea_of T.out.g2; go_wp2_with fail; refine (HP2.out _).mono ?_; rintro e w3 ⟨rfl, hb1⟩; have T1 := Lib.hid (T.out.step (Nat.le_refl _) hb1); (clear T; have T := T1; clear T1); clear hb1 m0 m1 m2; (obtain ⟨b12, hg⟩ : ∃ k, w3.heap.size = k := ⟨_, rfl⟩; go_upto_region 11 with (fail); obtain ⟨X3, hX⟩ : ∃ W9, (w3.alloc (.cells #[.int .i64 en, .int .i64 ed] 43)) = W9 := ⟨_, rfl⟩; have T1 := Lib.hid (T.out.alloc (Nat.le_refl _) #[.int .i64 en, .int .i64 ed] 43 hg); (clear T; have T := T1; clear T1); rw [hX] at T; (try rw [hX]); clear hX hg))
              (obtain ⟨c0, c1⟩ := frac_of T.out.g2; obtain ⟨d0, d1⟩ := frac_of T.out.g0; go_wp2_with fail; refine (HG.out _).mono ?_; rintro e w4 ⟨rfl, hb1⟩; have T1 := Lib.hid (T.out.step (Nat.le_refl _) hb1); (clear T; have T := T1; clear T1); clear hb1 c0 c1 d0 d1; (obtain ⟨b14, hg⟩ : ∃ k, w4.heap.size = k := ⟨_, rfl⟩; go_upto_region 14 with (fail); obtain ⟨X4, hX⟩ : ∃ W9, (w4.alloc (.cells #[.int .i64 gn, .int .i64 gd] 43)) = W9 := ⟨_, rfl⟩; have T1 := Lib.hid (T.out.alloc (Nat.le_refl _) #[.int .i64 gn, .int .i64 gd] 43 hg); (clear T; have T := T1; clear T1); rw [hX] at T; (try rw [hX]); clear hX hg); obtain ⟨c0, c1⟩ := frac_of T.out.g3; obtain ⟨d0, d1⟩ := frac_of T.out.g2; go_wp2_with fail; refine (HA.out _).mono ?_; rintro e w5 ⟨rfl, hb1⟩; have T1 := Lib.hid (T.out.step (Nat.le_refl _) hb1); (clear T; have T := T1; clear T1); clear hb1 c0 c1 d0 d1; (obtain ⟨b16, hg⟩ : ∃ k, w5.heap.size = k := ⟨_, rfl⟩; go_upto_region 15 with (fail); obtain ⟨X5, hX⟩ : ∃ W9, (w5.alloc (.cells #[.int .i64 an, .int .i64 ad] 43)) = W9 := ⟨_, rfl⟩; have T1 := Lib.hid (T.out.alloc (Nat.le_refl _) #[.int .i64 an, .int .i64 ad] 43 hg); (clear T; have T := T1; clear T1); rw [hX] at T; (try rw [hX]); clear hX hg))
              (go_wp2_with fail; go_returns; exact ⟨by rw [E.out]; first | rfl | simp, by rw [EK.out]; exact NeedW.same HKN.out T.out.1⟩)
            | true =>
              obtain rfl : ao = false := by simpa using hgo
              clear hgo
              (obtain ⟨ma, mb, md, me⟩ := m; simp only at m0 m1 m2 m3; replace hma : ma ≠ 0 := hma; replace hmd : md ≠ 0 := hmd; have t0 : (ma == 0) = false := (by simpa using hma); have t1 : (md == 0) = false := (by simpa using hmd); clear hma hmd; (go_enter Try.func91, Try.ntmps91; (obtain ⟨b0, hg⟩ : ∃ k, w.heap.size = k := ⟨_, rfl⟩; go_upto_region 2 with (fail); obtain ⟨X0, hX⟩ : ∃ W9, (w.alloc (.cells #[.int .i64 ma, .int .i64 mb, .int .i64 md, .int .i64 me] 55)) = W9 := ⟨_, rfl⟩; have T1 := Lib.hid (T.out.alloc (Nat.le_refl _) #[.int .i64 ma, .int .i64 mb, .int .i64 md, .int .i64 me] 55 hg); (clear T; have T := T1; clear T1); rw [hX] at T; (try rw [hX]); clear hX hg); clear m0 m1 m2 m3 s0 s1 s2 s3 s4; go_wp2_with fail; refine (HR.out _ T.out.1).mono ?_; rintro e w1 ⟨rfl, hb1⟩; have T1 := Lib.hid (T.out.step (Nat.le_refl _) hb1); (clear T; have T := T1; clear T1); clear hb1; (obtain ⟨b7, hg⟩ : ∃ k, w1.heap.size = k := ⟨_, rfl⟩; go_upto_region 3 with (fail); obtain ⟨X1, hX⟩ : ∃ W9, (w1.alloc (.cells #[.int .i64 rn, .int .i64 rd] 43)) = W9 := ⟨_, rfl⟩; have T1 := Lib.hid (T.out.alloc (Nat.le_refl _) #[.int .i64 rn, .int .i64 rd] 43 hg); (clear T; have T := T1; clear T1); rw [hX] at T; (try rw [hX]); clear hX hg); obtain ⟨m0, m1, m2⟩ := mea_of T.out.g1))
              (go_wp2_with fail; refine (HP1.out _).mono ?_; rintro e w2 ⟨rfl, hb1⟩; have T1 := Lib.hid (T.out.step (Nat.le_refl _) hb1); (clear T; have T := T1; clear T1); clear hb1 m0 m1 m2; (obtain ⟨b10, hg⟩ : ∃ k, w2.heap.size = k := ⟨_, rfl⟩; go_upto_region 10 with (fail); obtain ⟨X2, hX⟩ : ∃ W9, (w2.alloc (.cells #[.int .i64 cn, .int .i64 cd] 43)) = W9 := ⟨_, rfl⟩; have T1 := Lib.hid (T.out.alloc (Nat.le_refl _) #[.int .i64 cn, .int .i64 cd] 43 hg); (clear T; have T := T1; clear T1); rw [hX] at T; (try rw [hX]); clear hX hg); obtain ⟨m0, m1, m2⟩ := mea_of T.out.g2; go_wp2_with fail; refine (HP2.out _).mono ?_; rintro e w3 ⟨rfl, hb1⟩; have T1 := Lib.hid (T.out.step (Nat.le_refl _) hb1); (clear T; have T := T1; clear T1); clear hb1 m0 m1 m2; (obtain ⟨b12, hg⟩ : ∃ k, w3.heap.size = k := ⟨_, rfl⟩; go_upto_region 11 with (fail); obtain ⟨X3, hX⟩ : ∃ W9, (w3.alloc (.cells #[.int .i64 en, .int .i64 ed] 43)) = W9 := ⟨_, rfl⟩; have T1 := Lib.hid (T.out.alloc (Nat.le_refl _) #[.int .i64 en, .int .i64 ed] 43 hg); (clear T; have T := T1; clear T1); rw [hX] at T; (try rw [hX]); clear hX hg))
              (obtain ⟨c0, c1⟩ := frac_of T.out.g2; obtain ⟨d0, d1⟩ := frac_of T.out.g0; go_wp2_with fail; refine (HG.out _).mono ?_; rintro e w4 ⟨rfl, hb1⟩; have T1 := Lib.hid (T.out.step (Nat.le_refl _) hb1); (clear T; have T := T1; clear T1); clear hb1 c0 c1 d0 d1; (obtain ⟨b14, hg⟩ : ∃ k, w4.heap.size = k := ⟨_, rfl⟩; go_upto_region 14 with (fail); obtain ⟨X4, hX⟩ : ∃ W9, (w4.alloc (.cells #[.int .i64 gn, .int .i64 gd] 43)) = W9 := ⟨_, rfl⟩; have T1 := Lib.hid (T.out.alloc (Nat.le_refl _) #[.int .i64 gn, .int .i64 gd] 43 hg); (clear T; have T := T1; clear T1); rw [hX] at T; (try rw [hX]); clear hX hg); obtain ⟨c0, c1⟩ := frac_of T.out.g3; obtain ⟨d0, d1⟩ := frac_of T.out.g2; go_wp2_with fail; refine (HA.out _).mono ?_; rintro e w5 ⟨rfl, hb1⟩; have T1 := Lib.hid (T.out.step (Nat.le_refl _) hb1); (clear T; have T := T1; clear T1); clear hb1 c0 c1 d0 d1; (obtain ⟨b16, hg⟩ : ∃ k, w5.heap.size = k := ⟨_, rfl⟩; go_upto_region 15 with (fail); obtain ⟨X5, hX⟩ : ∃ W9, (w5.alloc (.cells #[.int .i64 an, .int .i64 ad] 43)) = W9 := ⟨_, rfl⟩; have T1 := Lib.hid (T.out.alloc (Nat.le_refl _) #[.int .i64 an, .int .i64 ad] 43 hg); (clear T; have T := T1; clear T1); rw [hX] at T; (try rw [hX]); clear hX hg))
              (go_wp2_with fail; go_returns; exact ⟨by rw [E.out]; first | rfl | simp, by rw [EK.out]; exact NeedW.same HKN.out T.out.1⟩)
          | true =>
            obtain ⟨rfl, rfl⟩ : go = true ∧ ao = true := by simpa using hgo
            have hn := hso rfl rfl
            rw [hn] at hY
            obtain ⟨hT1, hT2⟩ := hY rfl
            have E := Lib.hid hT1
            have EK := Lib.hid hT2
            have HC := Lib.hid (fun X => ceil_any an ad X (hall rfl))
            clear hT hY hn hT1 hT2 hall hov hso hgo
            (obtain ⟨ma, mb, md, me⟩ := m; simp only at m0 m1 m2 m3; replace hma : ma ≠ 0 := hma; replace hmd : md ≠ 0 := hmd; have t0 : (ma == 0) = false := (by simpa using hma); have t1 : (md == 0) = false := (by simpa using hmd); clear hma hmd; (go_enter Try.func91, Try.ntmps91; (obtain ⟨b0, hg⟩ : ∃ k, w.heap.size = k := ⟨_, rfl⟩; go_upto_region 2 with (fail); obtain ⟨X0, hX⟩ : ∃ W9, (w.alloc (.cells #[.int .i64 ma, .int .i64 mb, .int .i64 md, .int .i64 me] 55)) = W9 := ⟨_, rfl⟩; have T1 := Lib.hid (T.out.alloc (Nat.le_refl _) #[.int .i64 ma, .int .i64 mb, .int .i64 md, .int .i64 me] 55 hg); (clear T; have T := T1; clear T1); rw [hX] at T; (try rw [hX]); clear hX hg); clear m0 m1 m2 m3 s0 s1 s2 s3 s4; go_wp2_with fail; refine (HR.out _ T.out.1).mono ?_; rintro e w1 ⟨rfl, hb1⟩; have T1 := Lib.hid (T.out.step (Nat.le_refl _) hb1); (clear T; have T := T1; clear T1); clear hb1; (obtain ⟨b7, hg⟩ : ∃ k, w1.heap.size = k := ⟨_, rfl⟩; go_upto_region 3 with (fail); obtain ⟨X1, hX⟩ : ∃ W9, (w1.alloc (.cells #[.int .i64 rn, .int .i64 rd] 43)) = W9 := ⟨_, rfl⟩; have T1 := Lib.hid (T.out.alloc (Nat.le_refl _) #[.int .i64 rn, .int .i64 rd] 43 hg); (clear T; have T := T1; clear T1); rw [hX] at T; (try rw [hX]); clear hX hg); obtain ⟨m0, m1, m2⟩ := mea_of T.out.g1))
            (go_wp2_with fail; refine (HP1.out _).mono ?_; rintro e w2 ⟨rfl, hb1⟩; have T1 := Lib.hid (T.out.step (Nat.le_refl _) hb1); (clear T; have T := T1; clear T1); clear hb1 m0 m1 m2; (obtain ⟨b10, hg⟩ : ∃ k, w2.heap.size = k := ⟨_, rfl⟩; go_upto_region 10 with (fail); obtain ⟨X2, hX⟩ : ∃ W9, (w2.alloc (.cells #[.int .i64 cn, .int .i64 cd] 43)) = W9 := ⟨_, rfl⟩; have T1 := Lib.hid (T.out.alloc (Nat.le_refl _) #[.int .i64 cn, .int .i64 cd] 43 hg); (clear T; have T := T1; clear T1); rw [hX] at T; (try rw [hX]); clear hX hg); obtain ⟨m0, m1, m2⟩ := mea_of T.out.g2; go_wp2_with fail; refine (HP2.out _).mono ?_; rintro e w3 ⟨rfl, hb1⟩; have T1 := Lib.hid (T.out.step (Nat.le_refl _) hb1); (clear T; have T := T1; clear T1); clear hb1 m0 m1 m2; (obtain ⟨b12, hg⟩ : ∃ k, w3.heap.size = k := ⟨_, rfl⟩; go_upto_region 11 with (fail); obtain ⟨X3, hX⟩ : ∃ W9, (w3.alloc (.cells #[.int .i64 en, .int .i64 ed] 43)) = W9 := ⟨_, rfl⟩; have T1 := Lib.hid (T.out.alloc (Nat.le_refl _) #[.int .i64 en, .int .i64 ed] 43 hg); (clear T; have T := T1; clear T1); rw [hX] at T; (try rw [hX]); clear hX hg))
            (obtain ⟨c0, c1⟩ := frac_of T.out.g2; obtain ⟨d0, d1⟩ := frac_of T.out.g0; go_wp2_with fail; refine (HG.out _).mono ?_; rintro e w4 ⟨rfl, hb1⟩; have T1 := Lib.hid (T.out.step (Nat.le_refl _) hb1); (clear T; have T := T1; clear T1); clear hb1 c0 c1 d0 d1; (obtain ⟨b14, hg⟩ : ∃ k, w4.heap.size = k := ⟨_, rfl⟩; go_upto_region 14 with (fail); obtain ⟨X4, hX⟩ : ∃ W9, (w4.alloc (.cells #[.int .i64 gn, .int .i64 gd] 43)) = W9 := ⟨_, rfl⟩; have T1 := Lib.hid (T.out.alloc (Nat.le_refl _) #[.int .i64 gn, .int .i64 gd] 43 hg); (clear T; have T := T1; clear T1); rw [hX] at T; (try rw [hX]); clear hX hg); obtain ⟨c0, c1⟩ := frac_of T.out.g3; obtain ⟨d0, d1⟩ := frac_of T.out.g2; go_wp2_with fail; refine (HA.out _).mono ?_; rintro e w5 ⟨rfl, hb1⟩; have T1 := Lib.hid (T.out.step (Nat.le_refl _) hb1); (clear T; have T := T1; clear T1); clear hb1 c0 c1 d0 d1; (obtain ⟨b16, hg⟩ : ∃ k, w5.heap.size = k := ⟨_, rfl⟩; go_upto_region 15 with (fail); obtain ⟨X5, hX⟩ : ∃ W9, (w5.alloc (.cells #[.int .i64 an, .int .i64 ad] 43)) = W9 := ⟨_, rfl⟩; have T1 := Lib.hid (T.out.alloc (Nat.le_refl _) #[.int .i64 an, .int .i64 ad] 43 hg); (clear T; have T := T1; clear T1); rw [hX] at T; (try rw [hX]); clear hX hg))
            go_upto_region 17 with (fail)
            have hk5 := HKN.out.below T.out.1
            have hik : i < kn.length := by rw [HKL.out]; exact hi
            have s4 : X5.cell? ⟨q, 4, none⟩ = some (.slice (some ⟨o, 0, none⟩) l.length l.length) := (T.out.1.cell (p := ⟨q, 4, none⟩) hq).trans HS4.out
            obtain ⟨d0, d1⟩ := frac_of T.out.g1
            obtain ⟨e0, e1, e2⟩ := hk5.at_ hik
            have f0 := hk5.free (i * 3)
            have f1 := hk5.free (i * 3 + 1)
            have f2 := hk5.free (i * 3 + 2)
            have HKS := Lib.hid (IsKn.set_ (w := X5) hk5 hik gn gd true)
            have HGS := Lib.hid (grown3 (u := .int .i64 gn) (v := .int .i64 gd) (x := .bool true) (j := i * 3) (only_of_below T.out.1 (some o)))
            have hb16 : b16 ≠ o := So.blk_ne T.out.g0 hk5 (by show (43 : Nat) ≠ 99; decide)
            have hbk := (((T.out.g0.far (p := ⟨o, i * 3, none⟩) hb16 (.int .i64 gn)).far (p := ⟨o, i * 3 + 1, none⟩) hb16 (.int .i64 gd)).far (p := ⟨o, i * 3 + 2, none⟩) hb16 (.bool true)).drew
            have HBK := Lib.hid hbk
            clear hk5 hik hbk
            go_region
            obtain ⟨Y, hY⟩ : ∃ Y, (((X5.setCell ⟨o, i * 3, none⟩ (.int .i64 gn)).setCell ⟨o, i * 3 + 1, none⟩ (.int .i64 gd)).setCell ⟨o, i * 3 + 2, none⟩ (.bool true)).drew = Y := ⟨_, rfl⟩
            have HKY := Lib.hid (show IsKn Y o (kn.set i ⟨gn, gd, true⟩) from hY ▸ HKS.out.drew)
            have HGY := Lib.hid (show w.grownBy Y (some o) from hY ▸ only_drew HGS.out)
            rw [hY] at HBK
            rw [hY]
            clear hY s4 d0 d1 e0 e1 e2 f0 f1 f2 HKS HGS
            obtain ⟨d0, d1⟩ := frac_of HBK.out
            clear HBK
            generalize limF g most l i = lim at *
            obtain ⟨hl1, hl2⟩ := HLIM.out
            generalize ceilR an ad = t at *
            go_wp2_with fail
            refine (HC.out _).mono ?_
            rintro e w6 ⟨rfl, hb1⟩
            have HG6 := Lib.hid (HGY.out.trans (only_of_below hb1 (some o)))
            have HK6 := Lib.hid (HKY.out.below hb1)
            clear hb1 d0 d1
            go_wp2_with fail
            refine (HLM.out _ HG6.out).mono ?_
            rintro e w7 ⟨rfl, hb2⟩
            have HN := Lib.hid (show NeedW w o (kn.set i ⟨gn, gd, true⟩) w7 from ⟨HG6.out.trans (only_of_below hb2 (some o)), HK6.out.below hb2⟩)
            clear hb2
            have HCM := Lib.hid (cut_min (t := t) hl1)
            go_wp2_with fail
            all_goals go_returns
            all_goals exact ⟨by rw [E.out, HCM.out]; first | rfl | simp | (congr 2; omega) | trace_state, by rw [EK.out]; exact HN.out⟩
end Go.Proofs.Ytcechimilefihaa.So
