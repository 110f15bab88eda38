/- PolicyCalm returns true: decisions are cooldown apart, and made for what is wrong alone. No condition. -/
import Derived.Test.YtaogkbhmmkdigaaPoA
import Derived.Deep.DeepCutAuto
import Derived.Deep.LoopGhost
namespace Go.Proofs.Ytaogkbhmmkdigaa.Po
open Go.ChangeShapes Go.WideShapes Go.ChangeAt Go.RowKit M Go.Deep

/-- what a policy of the law notes, and what the law itself remembers -/
def Last (c tn tl : Int) : Option Int → Prop
  | none => tl = -c
  | some t => tl = t ∧ 0 ≤ t ∧ t ≤ tn

theorem one_cell {a : Int} : ∀ k, k < [a].length → (#[Value.int .i64 a] : Array Value)[k]? = some (.int .i64 ([a].getD k 0)) := by
  intro k hk
  rcases k with _ | k
  · rfl
  · exact absurd hk (by simp)
theorem one_in {a : Int} (h : In64 a) : ∀ t ∈ [a], -9223372036854775808 ≤ t ∧ t ≤ 9223372036854775807 := by
  intro t ht; simp at ht; subst ht; exact h
theorem last_in {c tn tl : Int} {lst : Option Int} (h : Last c tn tl lst) (ht : tn ≤ 9223372036854775807) : ∀ t, lst = some t → 0 ≤ t ∧ t ≤ 9223372036854775807 := by
  rintro t rfl
  obtain ⟨_, h0, h1⟩ := h
  omega
theorem last_bd {c tn tl : Int} {lst : Option Int} (h : Last c tn tl lst) : tl = -c ∨ (0 ≤ tl ∧ tl ≤ tn) := by
  cases lst with
  | none => exact .inl h
  | some t => obtain ⟨h0, h1, h2⟩ := h; exact .inr (by omega)

theorem last_later {c tn tm tl : Int} {lst : Option Int} (h : Last c tn tl lst) (ht : tn ≤ tm) : Last c tm tl lst := by
  cases lst with
  | none => exact h
  | some t => obtain ⟨h0, h1, h2⟩ := h; exact ⟨h0, h1, by omega⟩

theorem decide_one {c s tn tl now no cv tv : Int} {idle : Bool} {lst : Option Int} (hs : 1 ≤ s) (hl : Last c tn tl lst) (hnow : 0 ≤ now) :
    decideB c s lst now no idle [cv] [tv] = ((no == 0) && idle && (decide (s ≤ cv - tv) || decide (s ≤ tv - cv)) && decide (c ≤ now - tl)) := by
  have e1 : anyB s [cv] [tv] = (decide (s ≤ cv - tv) || decide (s ≤ tv - cv)) := by
    rw [Bool.eq_iff_iff]
    simp [anyB, wrongB, gap, List.range_succ]
    by_cases h : cv = tv
    · subst h; simp; omega
    · simp only [h, not_false_eq_true, true_and]; split <;> split <;> omega
  have e2 : okLast c now lst = decide (c ≤ now - tl) := by
    rw [Bool.eq_iff_iff]
    cases lst with
    | none => have : tl = -c := hl; simp [okLast]; omega
    | some t => obtain ⟨h0, _, _⟩ := hl; simp [okLast]; omega
  unfold decideB
  rw [e1, e2]
  cases (no == 0) <;> cases idle <;> simp [Bool.and_comm]

/-- the ways that a question goes -/
theorem ways (no : Int) (idle : Bool) (p q r : Prop) [Decidable p] [Decidable q] [Decidable r] :
    ((((no == 0) && idle && (decide p || decide q) && decide r) = false) ∧ ((no == 0) = false ∧ p ∨ (no == 0) = false ∧ ¬ p ∧ q ∨ (no == 0) = false ∧ ¬ p ∧ ¬ q ∨ ((no == 0) = true ∧ idle = false ∧ p) ∨ ((no == 0) = true ∧ idle = false ∧ ¬ p ∧ q) ∨ ((no == 0) = true ∧ idle = false ∧ ¬ p ∧ ¬ q) ∨ ((no == 0) = true ∧ idle = true ∧ ¬ p ∧ ¬ q) ∨ ((no == 0) = true ∧ idle = true ∧ p ∧ ¬ r) ∨ ((no == 0) = true ∧ idle = true ∧ ¬ p ∧ q ∧ ¬ r))) ∨
    ((((no == 0) && idle && (decide p || decide q) && decide r) = true) ∧ (no == 0) = true ∧ idle = true ∧ r ∧ (p ∨ (¬ p ∧ q))) := by
  by_cases hp : p <;> by_cases hq : q <;> by_cases hr : r <;> cases idle <;> cases hn : (no == 0) <;> simp [hp, hq, hr]

theorem tmod_bd (x : Int) : -1073741824 < x.tmod 1073741824 ∧ x.tmod 1073741824 < 1073741824 := by
  have h1 := Int.tmod_lt_of_pos x (show (0 : Int) < 1073741824 by omega)
  have h2 := Int.tmod_lt_of_pos (-x) (show (0 : Int) < 1073741824 by omega)
  rw [Int.neg_tmod] at h2
  omega

set_option maxRecDepth 100000 in
set_option maxHeartbeats 2000000 in
theorem calm_any (a0 a1 : Int) (A : Option Addr) (n cap : Nat) (g : Nat → Ask) (W : World) (h0 : In64 a0) (h1 : In64 a1) (hn : n ≤ cap) (hcap : cap ≤ maxLen) (hA : Asks W W.heap.size A n g) :
    Calls Try.prog 3 #[.int .i64 a0, .int .i64 a1, .slice A n cap] W fun e w' => e = .returned (.bool true) ∧ Below W.heap.size W w' := by
  unfold maxLen at hcap
  have b0 := pickF_bd (k := a0) (n := 1048576) (by omega)
  have b1 := pickF_bd (k := a1) (n := 1048576) (by omega)
  have P0 := Lib.hid (pick_any a0 1048576 · (by unfold In64; omega) h0)
  have P1 := Lib.hid (pick_any a1 1048576 · (by unfold In64; omega) h1)
  obtain ⟨c, hc⟩ : ∃ c, 1 + pickF a0 1048576 = c := ⟨_, rfl⟩
  obtain ⟨s, hs⟩ : ∃ s, 1 + pickF a1 1048576 = s := ⟨_, rfl⟩
  have us : IntKind.u64.wrap s = s := by rw [IntKind.wrap_u64]; omega
  have US := Lib.hid us
  have c0 : 1 ≤ c ∧ c ≤ 1048576 := by omega
  have s0 : 1 ≤ s ∧ s ≤ 1048576 := by omega
  clear us b0 b1
  go_enter Try.func3, Try.ntmps3
  go_wp2_with fail
  refine (P0.out _).mono ?_; rintro e w' ⟨rfl, rfl⟩
  go_wp2_with fail
  refine (P1.out _).mono ?_; rintro e w' ⟨rfl, rfl⟩
  go_wp2_with fail
  refine (new_any _ _ _).mono ?_; rintro e w1 ⟨rfl, hw1⟩
  have hP := pol_new W c s
  rw [US.out] at hw1
  rw [← hw1] at hP
  have hB : Below W.heap.size W w1 := by rw [hw1]; exact (Below.refl _ _).alloc (Nat.le_refl _) _
  have HP := Lib.hid hP
  have HB := Lib.hid hB
  have HA := Lib.hid hA
  clear hw1 hP hB hA
  go_wp2_with fail
  go_loopg [8, 9, 10] 201 (fun gm x y i wr => ∃ (k : Nat) (tn tl : Int) (lst : Option Int), gm + k = 201 ∧ k ≤ 200 ∧ i = .int .i64 k ∧ x = .int .i64 tn ∧ y = .int .i64 tl ∧ 0 ≤ tn ∧ tn ≤ 1048576 * k ∧ Last c tn tl lst ∧ Below W.heap.size W wr ∧ Pol wr W.heap.size c s lst)
  case atStart => exact ⟨0, 0, -c, none, by omega, by omega, rfl, rfl, rfl, by omega, by omega, rfl, HB.out, HP.out⟩
  case round =>
    obtain ⟨k, tn, tl, lst, hgm, hk, rfl, rfl, rfl, htn0, htn1, hlast, hB, hP⟩ := hrel
    have HB2 := Lib.hid hB
    have HP2 := Lib.hid hP
    have HL := Lib.hid hlast
    clear hB hP hlast HB HP
    by_cases hkn : k < n ∧ k < 200
    · obtain ⟨hkn, hk200⟩ := hkn
      have hAw := HA.out.below HB2.out
      obtain ⟨b, o, rfl, hb, hcells⟩ := hAw.1.at_ hkn
      obtain ⟨i1, i2, i3, i4⟩ := hAw.2 k hkn
      clear hAw
      generalize hgk : g k = a at *
      obtain ⟨now, cur, tgt, no, idle⟩ := a
      have k0 : wr.cell? ⟨b, o + k * 5, none⟩ = some (.int .i64 now) := hcells 0 (by omega)
      have k1 : wr.cell? ⟨b, o + k * 5 + 1, none⟩ = some (.slice cur.A cur.xs.length cur.c) := hcells 1 (by omega)
      have k2 : wr.cell? ⟨b, o + k * 5 + 2, none⟩ = some (.slice tgt.A tgt.xs.length tgt.c) := hcells 2 (by omega)
      have k3 : wr.cell? ⟨b, o + k * 5 + 3, none⟩ = some (.int .i64 no) := hcells 3 (by omega)
      have k4 : wr.cell? ⟨b, o + k * 5 + 4, none⟩ = some (.bool idle) := hcells 4 (by omega)
      have HG := Lib.hid hgk
      clear hcells hgk
      have PN := Lib.hid (pick_any now 1048576 · (by unfold In64; omega) i1)
      have PO := Lib.hid (pick_any no 3 · (by unfold In64; omega) i2)
      have bn := pickF_bd (k := now) (n := 1048576) (by omega)
      have bo := pickF_bd (k := no) (n := 3) (by omega)
      have IC := Lib.hid i3
      have IT := Lib.hid i4
      clear i1 i2 i3 i4
      generalize pickF now 1048576 = dn at *
      generalize pickF no 3 = dno at *
      obtain ⟨cA, cc, cx⟩ := cur
      obtain ⟨tA, tc, tx⟩ := tgt
      simp only at k1 k2
      go_wp2_with fail
      refine (PN.out _).mono ?_; rintro e w' ⟨rfl, rfl⟩
      go_upto_if 53 with (fail)
      go_cut [11] (fun a wc => wc = wr ∧ ∃ cv : Int, a = .int .i64 cv ∧ -1073741824 < cv ∧ cv < 1073741824)
      case first =>
        rcases cx with _ | ⟨x, xs⟩
        · go_wp2_with (fail)
          go_meet
          exact ⟨rfl, 0, rfl, by omega, by omega⟩
        · obtain ⟨b2, o2, rfl, hb2, hc2⟩ := IC.out.1.at1 (i := 0) (by simp)
          have hx := IC.out.2.2.2 x (by simp)
          simp at hc2
          have bx := tmod_bd x; have hpos : 0 < (x :: xs).length := Nat.succ_pos _
          go_wp2_with (fail)
          go_meet
          exact ⟨rfl, _, rfl, bx.1, bx.2⟩
      case rest =>
        obtain ⟨rfl, cv, rfl, cv0, cv1⟩ := hcut
        go_upto_if 68 with (fail)
        go_cut [12] (fun a wc' => wc' = wc ∧ ∃ tv : Int, a = .int .i64 tv ∧ -1073741824 < tv ∧ tv < 1073741824)
        case first =>
          rcases tx with _ | ⟨x, xs⟩
          · go_wp2_with (fail)
            go_meet
            exact ⟨rfl, 0, rfl, by omega, by omega⟩
          · obtain ⟨b2, o2, rfl, hb2, hc2⟩ := IT.out.1.at1 (i := 0) (by simp)
            have hx := IT.out.2.2.2 x (by simp)
            simp at hc2
            have bx := tmod_bd x; have hpos : 0 < (x :: xs).length := Nat.succ_pos _
            go_wp2_with (fail)
            go_meet
            exact ⟨rfl, _, rfl, bx.1, bx.2⟩
        case rest =>
          obtain ⟨rfl, tv, rfl, tv0, tv1⟩ := hcut
          have htl := last_bd HL.out
          have hdb : ∀ (d : Bool), ((dno == 0) && idle && (decide (s ≤ cv - tv) || decide (s ≤ tv - cv)) && decide (c ≤ tn + dn - tl)) = d → Hid (Calls Try.prog 8 #[.pointer (some ⟨W.heap.size, 0, none⟩), .int .i64 (tn + dn), .slice (some ⟨wc.heap.size, 0, none⟩) 1 1, .slice (some ⟨wc.heap.size + 1, 0, none⟩) 1 1, .int .i64 dno, .bool idle]
              ((wc.alloc (.cells #[.int .i64 cv] 3)).alloc (.cells #[.int .i64 tv] 3)) fun e w' => e = .returned (.bool d) ∧ Below W.heap.size W w' ∧ Pol w' W.heap.size c s (noted d (tn + dn) lst)) := by
            intro d hd
            have HD := decide_built (W := W) (w2 := wc) c s (tn + dn) dno idle lst [cv] [tv] #[.int .i64 cv] #[.int .i64 tv] 1 1 W.heap.size rfl rfl one_cell one_cell (by simp) (one_in (by unfold In64; omega)) (one_in (by unfold In64; omega)) (by omega) (last_in HL.out (by omega)) HB2.out (Nat.le_refl _) HP2.out
            rw [decide_one (tl := tl) s0.1 HL.out (by omega), hd] at HD
            exact HD
          have HDB := Lib.hid hdb
          clear hdb
          have k5 : ∀ o1 o2, ((wc.alloc o1).alloc o2).cell? ⟨b, o + k * 5 + 4, none⟩ = some (.bool idle) := fun o1 o2 => by
            have hbw : b < wc.heap.size := Nat.lt_of_lt_of_le hb HB2.out.size
            rw [World.cell?_alloc_lt _ o2 _ (by simp; omega), World.cell?_alloc_lt _ o1 _ hbw]; exact k4
          have h4 := ways dno idle (s ≤ cv - tv) (s ≤ tv - cv) (c ≤ tn + dn - tl)
          rcases h4 with ⟨hd, h4⟩ | ⟨hd, hno, rfl, hlate, h4⟩
          · have HD := HDB.out false hd
            clear hd HDB
            rcases h4 with ⟨hno, hf1⟩ | ⟨hno, hf1, hf2⟩ | ⟨hno, hf1, hf2⟩ | ⟨hno, rfl, hf1⟩ | ⟨hno, rfl, hf1, hf2⟩ | ⟨hno, rfl, hf1, hf2⟩ | ⟨hno, rfl, hf1, hf2⟩ | ⟨hno, rfl, hf1, hlate⟩ | ⟨hno, rfl, hf1, hf2, hlate⟩
            all_goals
              go_wp2_with fail
              refine (PO.out _).mono ?_; rintro e w' ⟨rfl, rfl⟩
              go_wp2_with fail
              refine HD.out.mono ?_; rintro e w2 ⟨rfl, hb3, hp3⟩
              have HB3 := Lib.hid hb3
              have HP3 := Lib.hid (show Pol w2 W.heap.size c s lst from hp3)
              clear hb3 hp3
              go_wp2
              go_roundg (gk - 1)
              case measure => omega
              case rel => exact ⟨k + 1, tn + dn, tl, lst, by omega, by omega, by go_num, rfl, rfl, by omega, by omega, last_later HL.out (by omega), HB3.out, HP3.out⟩
          · have HD := HDB.out true hd
            clear hd HDB
            rcases h4 with hf1 | ⟨hf1, hf2⟩
            all_goals
              go_wp2_with fail
              refine (PO.out _).mono ?_; rintro e w' ⟨rfl, rfl⟩
              go_wp2_with fail
              refine HD.out.mono ?_; rintro e w2 ⟨rfl, hb3, hp3⟩
              have HB3 := Lib.hid hb3
              have HP3 := Lib.hid (show Pol w2 W.heap.size c s (some (tn + dn)) from hp3)
              clear hb3 hp3
              go_wp2
              go_roundg (gk - 1)
              case measure => omega
              case rel => exact ⟨k + 1, tn + dn, tn + dn, some (tn + dn), by omega, by omega, by go_num, rfl, rfl, by omega, by omega, ⟨rfl, by omega, by omega⟩, HB3.out, HP3.out⟩
    · rcases (show (n ≤ k) ∨ (k < n ∧ 200 ≤ k) by omega) with hkn | ⟨hkn1, hkn2⟩
      all_goals
        go_wp2_with (go_at_call 9; refine (known_any _).mono ?_; rintro e w2 ⟨rfl, hb3⟩)
        go_returns
        exact ⟨rfl, HB2.out.trans (hb3.mono HB2.out.size)⟩
end Go.Proofs.Ytaogkbhmmkdigaa.Po
