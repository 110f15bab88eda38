/- PolicyConstant and PolicyNotes return true. No condition. -/
import Derived.Test.YtaogkbhmmkdigaaPoA
import Derived.Deep.DeepCutAuto
import Derived.Deep.LoopGhost
import Derived.Deep.RegionHeld3
namespace Go.Proofs.Ytaogkbhmmkdigaa.Po
open Go.ChangeShapes Go.WideShapes Go.ChangeAt Go.RowKit M Go.Deep

def mayF (n : Int) : Int := if n = -9223372036854775808 then 1 else if 1 < n then n else if n < -1 then -n else 1
theorem mayF_bd {n : Int} (h : In64 n) : 1 ≤ mayF n ∧ mayF n ≤ 9223372036854775807 := by
  unfold In64 at h; unfold mayF; split
  · omega
  · split
    · omega
    · split <;> omega

theorem may_any (n : Int) (w : World) (h : In64 n) :
    Calls Try.prog 10 #[.int .i64 n] w fun e w' => e = .returned (.int .i64 (mayF n)) ∧ w = w' := by
  unfold In64 at h
  by_cases h0 : n = -9223372036854775808
  · have E := Lib.hid (show mayF n = 1 from if_pos h0)
    have hb : (n == -9223372036854775808) = true := beq_iff_eq.2 h0
    clear h0
    go_enter Try.func10, Try.ntmps10
    go_wp2
    go_returns
    exact ⟨ret_int E.out.symm, rfl⟩
  · have hb : (n == -9223372036854775808) = false := beq_eq_false_iff_ne.2 h0
    rcases (show 1 < n ∨ n < -1 ∨ (-1 ≤ n ∧ n ≤ 1) by omega) with h1 | h1 | ⟨h1, h2⟩
    · have E := Lib.hid (show mayF n = n by unfold mayF; rw [if_neg h0, if_pos h1])
      have h3 : -9223372036854775807 ≤ n := by omega
      clear h0
      go_enter Try.func10, Try.ntmps10
      go_wp2
      all_goals first | (exfalso; omega) | (go_returns; exact ⟨ret_int (by rw [E.out]), rfl⟩)
    · have E := Lib.hid (show mayF n = -n by unfold mayF; rw [if_neg h0, if_neg (by omega), if_pos h1])
      have h3 : -9223372036854775807 ≤ n := by omega
      clear h0
      go_enter Try.func10, Try.ntmps10
      go_wp2
      all_goals first | (exfalso; omega) | (go_returns; exact ⟨ret_int (by rw [E.out]), rfl⟩)
    · have E := Lib.hid (show mayF n = 1 by unfold mayF; rw [if_neg h0, if_neg (by omega), if_neg (by omega)])
      have h3 : -9223372036854775807 ≤ n := by omega
      clear h0
      go_enter Try.func10, Try.ntmps10
      go_wp2
      all_goals first | (exfalso; omega) | (go_returns; exact ⟨ret_int (by rw [E.out]), rfl⟩)

theorem decide_at {W w2 : World} (c s now no : Int) (idle : Bool) (last : Option Int) (cur tgt : SL) (pb : Nat)
    (hlen : cur.xs.length < 1000) (hnow : 0 ≤ now ∧ now ≤ 9223372036854775807) (hlast : ∀ t, last = some t → 0 ≤ t ∧ t ≤ 9223372036854775807) (hbel : Below W.heap.size W w2) (hpb : W.heap.size ≤ pb) (hP : Pol w2 pb c s last)
    (hc : IsInts W W.heap.size cur) (ht : IsInts W W.heap.size tgt) :
    Calls Try.prog 8 #[.pointer (some ⟨pb, 0, none⟩), .int .i64 now, .slice cur.A cur.xs.length cur.c, .slice tgt.A tgt.xs.length tgt.c, .int .i64 no, .bool idle] w2 fun e w' =>
      e = .returned (.bool (decideB c s last now no idle cur.xs tgt.xs)) ∧ w2.grownBy w' (some pb) ∧ Below W.heap.size W w' ∧ Pol w' pb c s (noted (decideB c s last now no idle cur.xs tgt.xs) now last) := by
  refine (decide_any c s now no idle last cur.xs tgt.xs tgt.A cur.A tgt.c cur.c pb w2 hlen hc.2.2.2 ht.2.2.2 hnow hlast hP ((ht.below hbel).more hbel.size).1 ((hc.below hbel).more hbel.size).1).mono ?_
  rintro e w3 ⟨he, hg, hp⟩
  exact ⟨he, hg, hbel.trans (below_of_only hg hbel.size (fun g e => by cases e; exact hpb)), hp⟩

theorem pol_other {w w2 : World} {pb qb : Nat} {c s : Int} {last : Option Int} (hP : Pol w qb c s last) (hne : qb ≠ pb) (hp : ∃ L, Blk w pb 38 L) (hg : w.grownBy w2 (some pb)) : Pol w2 qb c s last := by
  obtain ⟨L, hq, hL⟩ := hP
  refine ⟨L, hq.grown hg (fun e => by injection e with e; exact hne e), ?_⟩
  cases last with
  | none => exact hL
  | some t =>
    obtain ⟨g, e, hb⟩ := hL
    refine ⟨g, e, hb.grown hg (fun e' => ?_)⟩
    injection e' with e'
    subst e'
    obtain ⟨L2, h2⟩ := hp
    unfold Blk at h2 hb
    rw [h2] at hb
    injection hb with hb
    injection hb with _ ht
    exact absurd ht (by decide)

theorem any_same (s : Int) (ts : List Int) : anyB s ts ts = false := by
  unfold anyB
  rw [List.any_eq_false]
  intro k _
  simp [wrongB]

theorem decide_same (c s now no : Int) (idle : Bool) (last : Option Int) (ts : List Int) : decideB c s last now no idle ts ts = false := by
  unfold decideB; rw [any_same, Bool.and_false]

set_option maxRecDepth 100000 in
set_option maxHeartbeats 2000000 in
theorem constant_any (a0 a1 a2 : Int) (cur tgt : SL) (W : World) (h0 : In64 a0) (h1 : In64 a1) (h2 : In64 a2) (hc : IsInts W W.heap.size cur) (ht : IsInts W W.heap.size tgt) :
    Calls Try.prog 4 #[.int .i64 a0, .int .i64 a1, .int .i64 a2, cur.val, tgt.val] W fun e w' => e = .returned (.bool true) ∧ Below W.heap.size W w' := by
  unfold SL.val
  by_cases hlen : cur.xs.length ≤ 50 ∧ tgt.xs.length ≤ 50
  · obtain ⟨l1, l2⟩ := hlen
    have b0 := mayF_bd h0
    have b1 := mayF_bd h1
    have b2 := pickF_bd (k := a2) (n := 100) (by omega)
    have M0 := Lib.hid (may_any a0 · h0)
    have M1 := Lib.hid (may_any a1 · h1)
    have P2 := Lib.hid (pick_any a2 100 · (by unfold In64; omega) h2)
    have HC := Lib.hid hc
    have HT := Lib.hid ht
    have us : IntKind.u64.wrap (mayF a1) = mayF a1 := by rw [IntKind.wrap_u64]; omega
    have US := Lib.hid us
    clear hc ht us
    generalize mayF a0 = c at *
    generalize mayF a1 = s at *
    generalize pickF a2 100 = m at *
    have l1' : (cur.xs.length : Int) ≤ 50 := by omega
    have l2' : (tgt.xs.length : Int) ≤ 50 := by omega
    have hd : (decide ((50 : Int) < (cur.xs.length : Int)) || decide ((50 : Int) < (tgt.xs.length : Int))) = false := by simp; omega
    go_enter Try.func4, Try.ntmps4
    go_wp2_with fail
    refine (M0.out _).mono ?_; rintro e w' ⟨rfl, rfl⟩
    go_wp2_with fail
    refine (M1.out _).mono ?_; rintro e w' ⟨rfl, rfl⟩
    go_wp2_with fail
    refine (new_any _ _ _).mono ?_; rintro e w1 ⟨rfl, hw1⟩
    have hP := pol_new W c s
    rw [US.out] at hw1
    rw [← hw1] at hP
    have hB : Below W.heap.size W w1 := by rw [hw1]; exact (Below.refl _ _).alloc (Nat.le_refl _) _
    have HP := Lib.hid hP
    have HB := Lib.hid hB
    clear hw1 hP hB
    go_wp2_with fail
    go_loopg [3, 12, 13] 101 (fun gm x n i wr => ∃ (k : Nat) (nn : Int) (xv : SL) (lst : Option Int), gm + k = 101 ∧ k ≤ 100 ∧ i = .int .i64 k ∧ x = .slice xv.A xv.xs.length xv.c ∧ n = .int .i64 nn ∧
        ((nn = 0 ∧ xv = cur ∧ lst = none) ∨ (nn = 1 ∧ xv = tgt ∧ ∃ t, lst = some t ∧ 0 ≤ t ∧ t ≤ 1000 * k)) ∧ Below W.heap.size W wr ∧ Pol wr W.heap.size c s lst)
    case atStart => exact ⟨0, 0, cur, none, by omega, by omega, rfl, rfl, rfl, .inl ⟨rfl, rfl, rfl⟩, HB.out, HP.out⟩
    case round =>
      obtain ⟨k, nn, xv, lst, hgm, hk, rfl, rfl, rfl, hcase, hB, hP⟩ := hrel
      have HB2 := Lib.hid hB
      by_cases hkm : (k : Int) < m
      · rcases hcase with ⟨rfl, rfl, rfl⟩ | ⟨rfl, rfl, t, rfl, ht0, ht1⟩
        · have HD := decide_at (W := W) (w2 := wr) c s ((k : Int) * 1000) 0 true none xv tgt W.heap.size (by omega) (by omega) (fun t h => by cases h) hB (Nat.le_refl _) hP HC.out HT.out
          generalize hd : decideB c s none ((k : Int) * 1000) 0 true xv.xs tgt.xs = d at HD
          have HDD := Lib.hid HD
          clear hB hP HB HP HD hd
          cases d with
          | false =>
            go_wp2_with fail
            refine (P2.out _).mono ?_; rintro e w' ⟨rfl, rfl⟩
            go_wp2_with fail
            refine HDD.out.mono ?_; rintro e w2 ⟨rfl, -, hb3, hp3⟩
            have HB3 := Lib.hid hb3
            have HP3 := Lib.hid (show Pol w2 W.heap.size c s none from hp3)
            clear hb3 hp3
            go_wp2
            go_roundg (gk - 1)
            case measure => omega
            case rel => exact ⟨k + 1, 0, xv, none, by omega, by omega, by go_num, rfl, rfl, .inl ⟨rfl, rfl, rfl⟩, HB3.out, HP3.out⟩
          | true =>
            go_wp2_with fail
            refine (P2.out _).mono ?_; rintro e w' ⟨rfl, rfl⟩
            go_wp2_with fail
            refine HDD.out.mono ?_; rintro e w2 ⟨rfl, -, hb3, hp3⟩
            have HB3 := Lib.hid hb3
            have HP3 := Lib.hid (show Pol w2 W.heap.size c s (some ((k : Int) * 1000)) from hp3)
            clear hb3 hp3
            go_wp2
            go_roundg (gk - 1)
            case measure => omega
            case rel => exact ⟨k + 1, 1, tgt, some ((k : Int) * 1000), by omega, by omega, by go_num, rfl, rfl, .inr ⟨rfl, rfl, _, rfl, by omega, by omega⟩, HB3.out, HP3.out⟩
        · have HD := decide_at (W := W) (w2 := wr) c s ((k : Int) * 1000) 0 true (some t) xv xv W.heap.size (by omega) (by omega) (fun t' h => by cases h; omega) hB (Nat.le_refl _) hP HT.out HT.out
          rw [decide_same] at HD
          have HDD := Lib.hid HD
          clear hB hP HB HP HD
          go_wp2_with fail
          refine (P2.out _).mono ?_; rintro e w' ⟨rfl, rfl⟩
          go_wp2_with fail
          refine HDD.out.mono ?_; rintro e w2 ⟨rfl, -, hb3, hp3⟩
          have HB3 := Lib.hid hb3
          have HP3 := Lib.hid (show Pol w2 W.heap.size c s (some t) from hp3)
          clear hb3 hp3
          go_wp2
          go_roundg (gk - 1)
          case measure => omega
          case rel => exact ⟨k + 1, 1, xv, some t, by omega, by omega, by go_num, rfl, rfl, .inr ⟨rfl, rfl, t, rfl, by omega, by omega⟩, HB3.out, HP3.out⟩
      · have hnn : nn ≤ 1 := by rcases hcase with ⟨h, _⟩ | ⟨h, _⟩ <;> omega
        clear hcase hB hP HB HP
        go_wp2_with (first | (go_at_call 6; refine (P2.out _).mono ?_; rintro e w' ⟨rfl, rfl⟩) | (go_at_call 9; refine (known_any _).mono ?_; rintro e w2 ⟨rfl, hb3⟩))
        go_returns
        exact ⟨rfl, HB2.out.trans (hb3.mono HB2.out.size)⟩
  · rcases (show 50 < cur.xs.length ∨ (cur.xs.length ≤ 50 ∧ 50 < tgt.xs.length) by omega) with h | ⟨hx, h⟩
    all_goals
      clear hlen
      go_enter Try.func4, Try.ntmps4
      go_wp2_with (go_at_call 9; refine (known_any _).mono ?_; rintro e w2 ⟨rfl, hb3⟩)
      go_returns
      exact ⟨rfl, hb3⟩

theorem noted_in {d : Bool} {now : Int} {lst : Option Int} (h : ∀ t, lst = some t → 0 ≤ t ∧ t ≤ 9223372036854775807) (hn : 0 ≤ now ∧ now ≤ 9223372036854775807) : ∀ t, noted d now lst = some t → 0 ≤ t ∧ t ≤ 9223372036854775807 := by
  intro t ht
  unfold noted at ht
  split at ht
  · cases ht; exact hn
  · exact h t ht

/-- two policies alike, and a question's box -/
structure St (W w : World) (xb : Nat) (c s : Int) (lst : Option Int) (cs : Array Value) : Prop where
  bel : Below W.heap.size W w
  p : Pol w W.heap.size c s lst
  q : Pol w (W.heap.size + 1) c s lst
  x : Blk w xb 28 cs

theorem Pol.blk {w : World} {pb : Nat} {c s : Int} {lst : Option Int} (h : Pol w pb c s lst) : ∃ L, Blk w pb 38 L := by
  obtain ⟨L, h, _⟩ := h; exact ⟨_, h⟩

theorem blk_ne {w : World} {a b t u : Nat} {x y : Array Value} (h : Blk w a t x) (k : Blk w b u y) (hne : t ≠ u) : a ≠ b := by
  rintro rfl
  unfold Blk at h k
  rw [h] at k
  injection k with k
  injection k with _ k
  exact hne k

theorem St.start {W w : World} {c s : Int} {lst : Option Int} {cs : Array Value} (hb : Below W.heap.size W w) (hp : Pol w W.heap.size c s lst) (hq : Pol w (W.heap.size + 1) c s lst) :
    St W (w.alloc (.cells cs 28)) w.heap.size c s lst cs :=
  have h : Below w.heap.size w (w.alloc (.cells cs 28)) := (Below.refl _ _).alloc (Nat.le_refl _) _
  ⟨hb.trans (h.mono hb.size), pol_kept hp h, pol_kept hq h, Blk.new _ _ _⟩

theorem St.cells {W w : World} {xb : Nat} {c s : Int} {lst : Option Int} {v0 v1 v2 v3 v4 : Value} (h : St W w xb c s lst #[v0, v1, v2, v3, v4]) :
    w.cell? ⟨xb, 0, none⟩ = some v0 ∧ w.cell? ⟨xb, 1, none⟩ = some v1 ∧ w.cell? ⟨xb, 2, none⟩ = some v2 ∧ w.cell? ⟨xb, 4, none⟩ = some v4 :=
  ⟨h.x.cell 0, h.x.cell 1, h.x.cell 2, h.x.cell 4⟩

theorem St.drew {W w : World} {xb : Nat} {c s : Int} {lst : Option Int} {cs : Array Value} (h : St W w xb c s lst cs) : St W w.drew xb c s lst cs := ⟨h.bel.drew, h.p, h.q, h.x⟩

theorem St.q_no {W w : World} {xb : Nat} {c s now no : Int} {idle : Bool} {lst : Option Int} {cs : Array Value} {cur tgt : SL} (h : St W w xb c s lst cs) (hlen : cur.xs.length < 1000) (hnow : 0 ≤ now ∧ now ≤ 9223372036854775807)
    (hlast : ∀ t, lst = some t → 0 ≤ t ∧ t ≤ 9223372036854775807) (hc : IsInts W W.heap.size cur) (ht : IsInts W W.heap.size tgt) (hd : decideB c s lst now no idle cur.xs tgt.xs = false) :
    Calls Try.prog 8 #[.pointer (some ⟨W.heap.size + 1, 0, none⟩), .int .i64 now, .slice cur.A cur.xs.length cur.c, .slice tgt.A tgt.xs.length tgt.c, .int .i64 no, .bool idle] w fun e w' =>
      e = .returned (.bool false) ∧ St W w' xb c s lst cs := by
  refine (decide_at c s now no idle lst cur tgt _ hlen hnow hlast h.bel (Nat.le_succ _) h.q hc ht).mono ?_
  rw [hd]
  rintro e w2 ⟨he, hg, hb, hq⟩
  obtain ⟨L, hL⟩ := h.q.blk
  exact ⟨he, hb, pol_other h.p (by omega) h.q.blk hg, hq, h.x.grown hg (fun e => by injection e with e; exact blk_ne h.x hL (by decide) e)⟩

/-- both decide alike -/
theorem St.p_any {W w : World} {xb : Nat} {c s now no : Int} {idle : Bool} {lst : Option Int} {cs : Array Value} {cur tgt : SL} (h : St W w xb c s lst cs) (hlen : cur.xs.length < 1000) (hnow : 0 ≤ now ∧ now ≤ 9223372036854775807)
    (hlast : ∀ t, lst = some t → 0 ≤ t ∧ t ≤ 9223372036854775807) (hc : IsInts W W.heap.size cur) (ht : IsInts W W.heap.size tgt) :
    Calls Try.prog 8 #[.pointer (some ⟨W.heap.size, 0, none⟩), .int .i64 now, .slice cur.A cur.xs.length cur.c, .slice tgt.A tgt.xs.length tgt.c, .int .i64 no, .bool idle] w fun e w' =>
      e = .returned (.bool (decideB c s lst now no idle cur.xs tgt.xs)) ∧ Blk w' xb 28 cs ∧
      Calls Try.prog 8 #[.pointer (some ⟨W.heap.size + 1, 0, none⟩), .int .i64 now, .slice cur.A cur.xs.length cur.c, .slice tgt.A tgt.xs.length tgt.c, .int .i64 no, .bool idle] w' fun e w2 =>
        e = .returned (.bool (decideB c s lst now no idle cur.xs tgt.xs)) ∧ St W w2 xb c s (noted (decideB c s lst now no idle cur.xs tgt.xs) now lst) cs := by
  refine (decide_at c s now no idle lst cur tgt _ hlen hnow hlast h.bel (Nat.le_refl _) h.p hc ht).mono ?_
  rintro e w2 ⟨he, hg, hb, hp⟩
  obtain ⟨L, hL⟩ := h.p.blk
  have hq := pol_other h.q (by omega) h.p.blk hg
  have hx := h.x.grown hg (fun e => by injection e with e; exact blk_ne h.x hL (by decide) e)
  refine ⟨he, hx, ?_⟩
  refine (decide_at c s now no idle lst cur tgt _ hlen hnow hlast hb (Nat.le_succ _) hq hc ht).mono ?_
  rintro e w3 ⟨he3, hg3, hb3, hq3⟩
  obtain ⟨L3, hL3⟩ := hq.blk
  exact ⟨he3, hb3, pol_other hp (by omega) hq.blk hg3, hq3, hx.grown hg3 (fun e => by injection e with e; exact blk_ne hx hL3 (by decide) e)⟩

set_option maxRecDepth 100000 in
set_option maxHeartbeats 4000000 in
theorem notes_any (a0 a1 : Int) (A : Option Addr) (n cap : Nat) (g : Nat → Ask) (W : World) (h0 : In64 a0) (h1 : In64 a1) (hn : n ≤ cap) (hcap : cap ≤ maxLen) (hA : Asks W W.heap.size A n g) :
    Calls Try.prog 5 #[.int .i64 a0, .int .i64 a1, .slice A n cap] W fun e w' => e = .returned (.bool true) ∧ Below W.heap.size W w' := by
  unfold maxLen at hcap
  have hn63 : (n : Int) ≤ 9223372036854775807 := by omega
  have b0 := mayF_bd h0
  have b1 := mayF_bd h1
  have M0 := Lib.hid (may_any a0 · h0)
  have M1 := Lib.hid (may_any a1 · h1)
  have us : IntKind.u64.wrap (mayF a1) = mayF a1 := by rw [IntKind.wrap_u64]; omega
  have US := Lib.hid us
  have HA := Lib.hid hA
  clear us hA hn hcap
  generalize mayF a0 = c at *
  generalize mayF a1 = s at *
  go_enter Try.func5, Try.ntmps5
  go_wp2_with fail
  refine (M0.out _).mono ?_; rintro e w' ⟨rfl, rfl⟩
  go_wp2_with fail
  refine (M1.out _).mono ?_; rintro e w' ⟨rfl, rfl⟩
  go_wp2_with fail
  refine (new_any _ _ _).mono ?_; rintro e w1 ⟨rfl, hw1⟩
  have hP := pol_new W c s
  rw [US.out] at hw1
  rw [← hw1] at hP
  have hsz1 : w1.heap.size = W.heap.size + 1 := by rw [hw1]; simp
  have HS1 := Lib.hid hsz1
  have hB : Below W.heap.size W w1 := by rw [hw1]; exact (Below.refl _ _).alloc (Nat.le_refl _) _
  have HP := Lib.hid hP
  have HB := Lib.hid hB
  clear hw1 hP hB hsz1
  go_wp2_with fail
  refine (M0.out _).mono ?_; rintro e w' ⟨rfl, rfl⟩
  go_wp2_with fail
  refine (M1.out _).mono ?_; rintro e w' ⟨rfl, rfl⟩
  go_wp2_with fail
  refine (new_any _ _ _).mono ?_; rintro e w2 ⟨rfl, hw2⟩
  have hP := pol_new w1 c s
  rw [US.out] at hw2
  rw [← hw2] at hP
  have hB1 : Below w1.heap.size w1 w2 := by rw [hw2]; exact (Below.refl _ _).alloc (Nat.le_refl _) _
  have HQ := Lib.hid hP
  have HP2 := Lib.hid (pol_kept HP.out hB1)
  have HB2 := Lib.hid (HB.out.trans (hB1.mono HB.out.size))
  have hsz : w1.heap.size = W.heap.size + 1 := HS1.out
  rw [hsz] at HQ ⊢
  clear hw2 hP hB1 HP HB hsz HS1
  go_wp2_with fail
  go_loopg [9] 101 (fun gm i wr => ∃ (k : Nat) (lst : Option Int), gm + k = 101 ∧ k ≤ 100 ∧ i = .int .i64 k ∧ (∀ t, lst = some t → 0 ≤ t ∧ t ≤ 9223372036854775807) ∧ Below W.heap.size W wr ∧ Pol wr W.heap.size c s lst ∧ Pol wr (W.heap.size + 1) c s lst)
  case atStart => exact ⟨0, none, by omega, by omega, rfl, fun t h => (by cases h), HB2.out, HP2.out, HQ.out⟩
  case round =>
    obtain ⟨k, lst, hgm, hk, rfl, hlast, hB, hP, hQ⟩ := hrel
    have HB3 := Lib.hid hB
    have HP3 := Lib.hid hP
    have HQ3 := Lib.hid hQ
    have HL := Lib.hid hlast
    clear hB hP hQ hlast HB2 HP2 HQ
    by_cases hkn : k < n ∧ k < 100
    · obtain ⟨hkn, hk100⟩ := hkn
      have hAw := HA.out.below HB3.out
      obtain ⟨b, o, rfl, hb, hcells⟩ := hAw.1.at_ hkn
      obtain ⟨i1, i2, -, -⟩ := hAw.2 k hkn
      obtain ⟨-, -, i3, i4⟩ := HA.out.2 k hkn
      clear hAw
      generalize hgk : g k = a at *
      obtain ⟨now, cur, tgt, no, idle⟩ := a
      have k0 : wr.cell? ⟨b, o + k * 5, none⟩ = some (.int .i64 now) := hcells 0 (by omega)
      have k1 : wr.cell? ⟨b, o + k * 5 + 1, none⟩ = some (.slice cur.A cur.xs.length cur.c) := hcells 1 (by omega)
      have k2 : wr.cell? ⟨b, o + k * 5 + 2, none⟩ = some (.slice tgt.A tgt.xs.length tgt.c) := hcells 2 (by omega)
      have k3 : wr.cell? ⟨b, o + k * 5 + 3, none⟩ = some (.int .i64 no) := hcells 3 (by omega)
      have k4 : wr.cell? ⟨b, o + k * 5 + 4, none⟩ = some (.bool idle) := hcells 4 (by omega)
      clear hcells hgk
      have bn := mayF_bd i1
      have MN := Lib.hid (may_any now · i1)
      have IC := Lib.hid i3
      have IT := Lib.hid i4
      clear i1 i2 i3 i4
      generalize mayF now = tn at *
      obtain ⟨cA, cc, cx⟩ := cur
      obtain ⟨tA, tc, tx⟩ := tgt
      simp only at k1 k2
      by_cases hlen : cx.length ≤ 50 ∧ tx.length ≤ 50
      · obtain ⟨l1, l2⟩ := hlen
        have l1' : (cx.length : Int) ≤ 50 := by omega
        have l2' : (tx.length : Int) ≤ 50 := by omega
        have X0 := St.start (cs := #[.int .i64 now, .slice cA cx.length cc, .slice tA tx.length tc, .int .i64 no, .bool idle]) HB3.out HP3.out HQ3.out
        have D1 := fun wx (h : St W wx wr.heap.size c s lst #[.int .i64 now, .slice cA cx.length cc, .slice tA tx.length tc, .int .i64 no, .bool idle]) => St.q_no (cur := ⟨cA, cc, cx⟩) (tgt := ⟨tA, tc, tx⟩) (now := tn - 1) (no := 14) (idle := true) h (by simp; omega) (by omega) HL.out IC.out IT.out (by unfold decideB; simp)
        have D2 := fun wx (h : St W wx wr.heap.size c s lst #[.int .i64 now, .slice cA cx.length cc, .slice tA tx.length tc, .int .i64 no, .bool idle]) => St.q_no (cur := ⟨cA, cc, cx⟩) (tgt := ⟨tA, tc, tx⟩) (now := tn - 1) (no := 0) (idle := false) h (by simp; omega) (by omega) HL.out IC.out IT.out (by unfold decideB; simp)
        have D3 := fun wx (h : St W wx wr.heap.size c s lst #[.int .i64 now, .slice cA cx.length cc, .slice tA tx.length tc, .int .i64 no, .bool idle]) => St.q_no (cur := ⟨cA, cc, cx⟩) (tgt := ⟨cA, cc, cx⟩) (now := tn - 1) (no := 0) (idle := true) h (by simp; omega) (by omega) HL.out IC.out IC.out (decide_same _ _ _ _ _ _ _)
        have D4 := fun wx (h : St W wx wr.heap.size c s lst #[.int .i64 now, .slice cA cx.length cc, .slice tA tx.length tc, .int .i64 no, .bool idle]) => St.p_any (cur := ⟨cA, cc, cx⟩) (tgt := ⟨tA, tc, tx⟩) (now := tn - 1) (no := 0) (idle := idle) h (by simp; omega) (by omega) HL.out IC.out IT.out
        have E1 := Lib.hid D1; have E2 := Lib.hid D2; have E3 := Lib.hid D3; have E4 := Lib.hid D4
        have S0 := Lib.hid X0
        clear X0 D1 D2 D3 D4
        go_wp2_with fail
        refine (MN.out _).mono ?_; rintro e w' ⟨rfl, rfl⟩
        obtain ⟨wx, hwx⟩ : ∃ wx, wr.alloc (.cells #[.int .i64 now, .slice cA cx.length cc, .slice tA tx.length tc, .int .i64 no, .bool idle] 28) = wx := ⟨_, rfl⟩
        rw [hwx] at S0 ⊢
        clear hwx
        obtain ⟨z0, z1, z2, z4⟩ := S0.out.cells
        generalize wr.heap.size = xb at *
        go_wp2_with fail
        refine (E1.out _ S0.out).mono ?_; rintro e wy ⟨rfl, hS⟩
        have S1 := Lib.hid hS
        clear z0 z1 z2 z4 S0 hS
        obtain ⟨z0, z1, z2, z4⟩ := S1.out.cells
        go_wp2_with fail
        refine (E2.out _ S1.out).mono ?_; rintro e wy2 ⟨rfl, hS⟩
        have S2 := Lib.hid hS
        clear z0 z1 z2 z4 S1 hS
        obtain ⟨z0, z1, z2, z4⟩ := S2.out.cells
        go_wp2_with fail
        refine (E3.out _ S2.out).mono ?_; rintro e wy3 ⟨rfl, hS⟩
        have S3 := Lib.hid hS
        clear z0 z1 z2 z4 S2 hS
        obtain ⟨z0, z1, z2, z4⟩ := S3.out.cells
        go_wp2_with fail
        obtain ⟨d, hd⟩ : ∃ d, decideB c s lst (tn - 1) 0 idle cx tx = d := ⟨_, rfl⟩
        have F4 := E4.out _ S3.out.drew
        rw [hd] at F4
        have G4 := Lib.hid F4
        clear F4 E1 E2 E3 E4 S3 hd z0
        go_region_held3 (fun w' => w'.cell? ⟨xb, 1, none⟩ = some (.slice cA cx.length cc) ∧ w'.cell? ⟨xb, 2, none⟩ = some (.slice tA tx.length tc) ∧ w'.cell? ⟨xb, 4, none⟩ = some (.bool idle))
          (first | exact ⟨z1, z2, z4⟩ | exact ⟨hzx.cell 1, hzx.cell 2, hzx.cell 4⟩ | exact ⟨hS5.x.cell 1, hS5.x.cell 2, hS5.x.cell 4⟩)
          ((first
            | (go_at_call_of 8 (Value.pointer (some ⟨W.heap.size, 0, none⟩)); refine G4.out.mono ?_; rintro e wz ⟨rfl, hzx, hzq⟩; have HZ := Lib.hid hzq; clear hzq)
            | (go_at_call 8; refine HZ.out.mono ?_; rintro e wv ⟨rfl, hS5⟩)))
        have S5 := Lib.hid hS5
        clear hzx HZ hS5
        go_wp2
        go_roundg (gk - 1)
        case measure => omega
        case rel => exact ⟨k + 1, _, by omega, by omega, by go_num, noted_in HL.out (by omega), S5.out.bel, S5.out.p, S5.out.q⟩
      · rcases (show 50 < cx.length ∨ (cx.length ≤ 50 ∧ 50 < tx.length) by omega) with h | ⟨hx, h⟩
        all_goals
          clear hlen
          go_wp2_with (go_at_call 9; refine (known_any _).mono ?_; rintro e w5 ⟨rfl, hb5⟩)
          go_returns
          exact ⟨rfl, HB3.out.trans ((((Below.refl _ _).alloc (Nat.le_refl _) _).trans (hb5.mono (by simp))).mono HB3.out.size)⟩
    · rcases (show (n ≤ k) ∨ (k < n ∧ 100 ≤ k) by omega) with hkn | ⟨hkn1, hkn2⟩
      all_goals
        go_wp2_with (go_at_call 9; refine (known_any _).mono ?_; rintro e w5 ⟨rfl, hb5⟩)
        go_returns
        exact ⟨rfl, HB3.out.trans (hb5.mono HB3.out.size)⟩
end Go.Proofs.Ytaogkbhmmkdigaa.Po
