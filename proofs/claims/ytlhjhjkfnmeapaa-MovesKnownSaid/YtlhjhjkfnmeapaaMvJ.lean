/- The law: few moves, and as long as they can be. -/
import Derived.Test.YtlhjhjkfnmeapaaMv9
import Derived.Test.YtlhjhjkfnmeapaaMvF
import Derived.Test.YtlhjhjkfnmeapaaPick
namespace Go.Proofs.Ytlhjhjkfnmeapaa.Mv
open Go.ChangeShapes Go.WideShapes Go.ChangeAt Go.RowKit M

set_option maxRecDepth 100000 in
set_option maxHeartbeats 4000000 in
theorem movesFew_any (old par groups : Int) (w : World) (i1 : In64 old) (i2 : In64 par) (i3 : In64 groups) :
    Calls Try.prog 5 #[.int .i64 old, .int .i64 par, .int .i64 groups] w fun e w' => e = .returned (.bool true) ∧ Below w.heap.size w w' := by
  obtain ⟨q, hq⟩ : ∃ q, pickF groups 64 = q := ⟨_, rfl⟩
  have hqb := pickF_bd (k := groups) (n := 64) (by omega)
  rw [hq] at hqb
  obtain ⟨hq0, hq1⟩ := hqb
  have P1 := Lib.hid (hq ▸ pick_any groups 64 w (by unfold In64; omega) i3)
  clear hq
  go_enter Try.func5, Try.ntmps5
  go_wp2_with fail
  refine P1.out.mono ?_
  rintro e w1 ⟨rfl, rfl⟩
  go_upto_region 2 with (fail)
  obtain ⟨G, hG⟩ : ∃ G : Nat, 1 + q = (G : Int) := ⟨(1 + q).toNat, by omega⟩
  have g0 : 1 ≤ G := by omega
  have g1 : G ≤ 64 := by omega
  rw [hG]
  clear hG hq0 hq1 P1
  obtain ⟨o', ho'⟩ : ∃ q, pickF old (G : Int) = q := ⟨_, rfl⟩
  obtain ⟨p', hp'⟩ : ∃ q, pickF par (G : Int) = q := ⟨_, rfl⟩
  have hob := pickF_bd (k := old) (n := (G : Int)) (by omega)
  have hpb := pickF_bd (k := par) (n := (G : Int)) (by omega)
  rw [ho'] at hob
  rw [hp'] at hpb
  obtain ⟨ho0, ho1⟩ := hob
  obtain ⟨hp0, hp1⟩ := hpb
  have P1 := Lib.hid (ho' ▸ pick_any old G w (by unfold In64; omega) i1)
  have P2 := Lib.hid (hp' ▸ pick_any par G w (by unfold In64; omega) i2)
  clear ho' hp'
  go_wp2_with fail
  refine P1.out.mono ?_
  rintro e w1 ⟨rfl, rfl⟩
  go_wp2_with fail
  refine P2.out.mono ?_
  rintro e w1 ⟨rfl, rfl⟩
  go_upto_region 4 with (fail)
  obtain ⟨o, ho⟩ : ∃ o, 1 + o' = o := ⟨_, rfl⟩
  obtain ⟨p, hp⟩ : ∃ o, 1 + p' = o := ⟨_, rfl⟩
  rw [ho, hp]
  have o0 : 1 ≤ o := by omega
  have o1 : o ≤ G := by omega
  have p0 : 1 ≤ p := by omega
  have p1 : p ≤ G := by omega
  clear ho hp ho0 ho1 hp0 hp1 P1 P2
  have PL := Lib.hid (plan_fit o p G w ⟨g0, g1⟩ ⟨o0, o1⟩ ⟨p0, p1⟩)
  have fo : Gr.fit o G := ⟨by omega, by omega, o0, o1⟩
  have fp : Gr.fit p G := ⟨by omega, by omega, p0, p1⟩
  have HF := Lib.hid (And.intro fo fp)
  clear fo fp
  go_wp2_with fail
  refine PL.out.mono ?_
  rintro e w1 ⟨ys, hr, A, c, rfl, own, hb⟩
  have hfew := moves_few HF.out.1 HF.out.2 hr
  have hnone := moves_none HF.out.1 HF.out.2 hr
  have hgood := (good_moves hr).1
  clear hr PL
  generalize movesOf o p G ys = L at *
  have HGD := Lib.hid hgood
  have HQ := Lib.hid own.quads
  have HB := Lib.hid hb
  have hn9 := own.quads.len
  clear hgood own hb
  obtain ⟨n, hn⟩ : ∃ n, L.length = n := ⟨_, rfl⟩
  rw [hn] at hfew hnone hn9 ⊢
  have HN := Lib.hid hn
  clear hn
  have t1 : decide (o + p ≤ (n : Int)) = false := decide_eq_false (by omega)
  have t2 : ((n : Int) == 0) = (o == p) := by
    rw [Bool.eq_iff_iff]; simp; omega
  have t3 : (((n : Int) == 0) == (o == p)) = true := by rw [t2]; simp
  clear t2 hnone hfew
  go_wp2_with fail
  clear t1 t3
  go_loopw [8] (fun q wr => ∃ k : Nat, k ≤ n ∧ q = .int .i64 k ∧ Below w1.heap.size w1 wr ∧ (∀ p : Addr, wr.cell? p = w1.cell? p)) (fun q _ => n - (intOf q).toNat)
  case atStart => exact ⟨0, by omega, rfl, Below.refl _ _, fun _ => rfl⟩
  case round =>
    obtain ⟨k, hk, rfl, hbl, hcl⟩ := hrel
    have HBL := Lib.hid hbl
    have HC := Lib.hid hcl
    clear hbl hcl
    by_cases hlt : k < n
    · obtain ⟨b, ao, x, rfl, hb, HV, -, c0, c1, c2, c3⟩ := quads_at HQ.out (show k < L.length by have := HN.out; omega)
      have hg := HGD.out.at_ HV.out (by have := HN.out; omega)
      obtain ⟨x0, x1, x2, x3⟩ := x
      have e0 := (HC.out ⟨b, ao + k * 4, none⟩).trans c0
      have e1 := (HC.out ⟨b, ao + k * 4 + 1, none⟩).trans c1
      have e2 := (HC.out ⟨b, ao + k * 4 + 2, none⟩).trans c2
      have e3 := (HC.out ⟨b, ao + k * 4 + 3, none⟩).trans c3
      simp only at hg e0 e1 e2 e3
      clear c0 c1 c2 c3 hb
      have t1 : decide (x3 ≤ x2) = false := decide_eq_false (by omega)
      clear hg
      by_cases hk0 : k = 0
      · have t2 : decide (0 < k) = false := decide_eq_false (by omega)
        have t2' : ¬ 0 < k := by omega
        clear hk0
        go_wp2_with fail
        simp only [List.append_eq, List.cons_append, List.nil_append]
        go_quiet (fail)
        go_wp2_with fail
        go_roundw
        case rel => exact ⟨k + 1, by omega, by go_num, below_drewN HBL.out _, HC.out⟩
        case measure => simp [intOf]; omega
      · obtain ⟨j, rfl⟩ : ∃ j, k = j + 1 := ⟨k - 1, by omega⟩
        have t2 : decide (0 < ((j + 1 : Nat) : Int)) = true := decide_eq_true (by omega)
        obtain ⟨y, HV2, -, c0, c1, c2, c3⟩ := quads_get HQ.out (show j < L.length by have := HN.out; omega)
        obtain ⟨hy1, hy2⟩ := HGD.out.at2 HV2.out HV.out (by have := HN.out; omega)
        obtain ⟨y0, y1, y2, y3⟩ := y
        have f0 := (HC.out ⟨b, ao + j * 4, none⟩).trans c0
        have f1 := (HC.out ⟨b, ao + j * 4 + 1, none⟩).trans c1
        have f2 := (HC.out ⟨b, ao + j * 4 + 2, none⟩).trans c2
        have f3 := (HC.out ⟨b, ao + j * 4 + 3, none⟩).trans c3
        simp only at hy1 hy2 f0 f1 f2 f3
        clear c0 c1 c2 c3 hk0
        have ew : IntKind.i64.wrap (((j + 1 : Nat) : Int) - 1) = (j : Int) := by rw [IntWalk.i64_in _ (by omega)]; omega
        have t3 : decide (x2 < y3) = false := decide_eq_false (by omega)
        by_cases g1 : y3 = x2
        · have t4 : (y3 == x2) = true := by simpa using g1
          by_cases g2 : y0 = x0
          · have t5 : (y0 == x0) = true := by simpa using g2
            have t6 : (y1 == x1) = false := by simpa using fun h => hy2 ⟨g1, g2, h⟩
            clear hy1 hy2 g1 g2
            go_wp2_with fail
            simp only [List.append_eq, List.cons_append, List.nil_append]
            go_quiet (fail)
            go_wp2_with fail
            go_roundw
            case rel => exact ⟨j + 1 + 1, by omega, by go_num, below_drewN HBL.out _, HC.out⟩
            case measure => simp [intOf]; omega
          · have t5 : (y0 == x0) = false := by simpa using g2
            clear hy1 hy2 g1 g2
            go_wp2_with fail
            simp only [List.append_eq, List.cons_append, List.nil_append]
            go_quiet (fail)
            go_wp2_with fail
            go_roundw
            case rel => exact ⟨j + 1 + 1, by omega, by go_num, below_drewN HBL.out _, HC.out⟩
            case measure => simp [intOf]; omega
        · have t4 : (y3 == x2) = false := by simpa using g1
          clear hy1 hy2 g1
          go_wp2_with fail
          simp only [List.append_eq, List.cons_append, List.nil_append]
          go_quiet (fail)
          go_wp2_with fail
          go_roundw
          case rel => exact ⟨j + 1 + 1, by omega, by go_num, below_drewN HBL.out _, HC.out⟩
          case measure => simp [intOf]; omega
    · obtain rfl : k = n := by omega
      go_wp2_with fail
      refine (known_any _).mono ?_
      rintro e w8 ⟨rfl, hb⟩
      have HB8 := Lib.hid (through (through HB.out (Nat.le_refl _) HBL.out) (Nat.le_refl _) hb)
      clear hb
      go_wp2_with fail
      go_returns
      exact ⟨by first | rfl | simp, HB8.out⟩
end Go.Proofs.Ytlhjhjkfnmeapaa.Mv
