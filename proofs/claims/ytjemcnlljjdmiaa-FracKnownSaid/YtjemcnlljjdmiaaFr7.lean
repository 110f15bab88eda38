/- Division of 128 bits by 64 where something is above: two digits. -/
import Derived.Test.YtjemcnlljjdmiaaFr6
import Derived.Deep.DeepCutAuto
import Derived.Deep.CutBlock
import Derived.Deep.LoopGhost
import Derived.Outline
namespace Go.Proofs.Ytjemcnlljjdmiaa.Fr
open Go.ChangeShapes Go.WideShapes Go.ChangeAt Go.RowKit M

theorem first_trial {U y1 : Nat} (hu : U < 18446744073709551616) (_hy : 0 < y1) :
    IntKind.u64.wrap ((U : Int) / (y1 : Int)) = ((U / y1 : Nat) : Int) ∧ IntKind.u64.wrap ((U : Int) - IntKind.u64.wrap (((U / y1 : Nat) : Int) * (y1 : Int))) = ((U % y1 : Nat) : Int) := by
  have e := Nat.div_add_mod U y1
  have a : U / y1 ≤ U := Nat.div_le_self _ _
  have h1 : (U : Int) / (y1 : Int) = ((U / y1 : Nat) : Int) := (Int.natCast_ediv U y1).symm
  refine ⟨by rw [h1]; exact Mul64.wrapN _ (by omega), ?_⟩
  rw [← Int.natCast_mul, Nat.mul_comm]
  generalize U % y1 = r at *
  generalize y1 * (U / y1) = m at *
  rw [Mul64.wrapN _ (by omega), IntKind.wrap_u64]
  omega

theorem div_setup' {hi lo y n : Nat} (h1 : lo < 18446744073709551616) (k1 : hi < y) (hn : n ≤ 64) (hn1 : 1 ≤ n) (z3 : 9223372036854775808 ≤ y * 2 ^ (64 - n)) (z4 : y * 2 ^ (64 - n) < 18446744073709551616) :
    ∃ V U L : Nat, IntKind.u64.wrap ((y : Int) * 2 ^ (64 - n)) = (V : Int) ∧
    bits BinOp.or IntKind.u64 (IntKind.u64.wrap ((hi : Int) * 2 ^ (64 - n))) ((lo : Int) / 2 ^ (64 - (64 - n))) = (U : Int) ∧
    IntKind.u64.wrap ((lo : Int) * 2 ^ (64 - n)) = (L : Int) ∧ U < V ∧ 9223372036854775808 ≤ V ∧ V < 18446744073709551616 ∧ L < 18446744073709551616 ∧ V = y * 2 ^ (64 - n) ∧
    (hi * 18446744073709551616 + lo) * 2 ^ (64 - n) = U * 18446744073709551616 + L := by
  obtain ⟨e1, e2, e3, e4, e5⟩ := div_setup h1 k1 hn hn1 z4
  exact ⟨_, _, _, e1, e2, e3, e4, z3, z4, Nat.mod_lt _ (by decide), rfl, e5⟩

/-- the loop of a digit: what holds at its head -/
def TrialAt (W : World) (U u1 y1 y0 k : Nat) (x y : Value) (wr : World) : Prop := ∃ r : Nat, W = wr ∧ x = .int .u64 (k : Int) ∧ y = .int .u64 (r : Int) ∧ r < 4294967296 ∧ Trial U u1 y1 y0 k r
/-- the loop is left with the digit -/
def DigitAt (W : World) (d : Nat) (x : Value) (wr : World) : Prop := W = wr ∧ x = .int .u64 (d : Int)

theorem TrialAt.next {W : World} {U u1 y1 y0 q r : Nat} (T : Trial U u1 y1 y0 q r) (hy : 2147483648 ≤ y1) (hu : U < y1 * 4294967296 + y0) (h1 : u1 < 4294967296)
    (ht : 4294967296 ≤ q ∨ 4294967296 * r + u1 < q * y0) (hr : (r : Int) + y1 < 4294967296) :
    q - 1 < q ∧ TrialAt W U u1 y1 y0 (q - 1) (.int .u64 ((q : Int) - 1)) (.int .u64 ((r : Int) + y1)) W := by
  obtain ⟨-, g⟩ := T.great hy hu h1 ht
  exact ⟨by omega, ⟨r + y1, rfl, by congr 1; omega, by congr 1, by omega, T.next hy hu h1 ht⟩⟩
theorem Digit.left {W : World} {U u1 y1 y0 q r : Nat} (T : Trial U u1 y1 y0 q r) (hy : 2147483648 ≤ y1) (h0 : y0 < 4294967296) (hu : U < y1 * 4294967296 + y0) (h1 : u1 < 4294967296)
    (ht : 4294967296 ≤ q ∨ 4294967296 * r + u1 < q * y0) (hr : (4294967296 : Int) ≤ (r : Int) + y1) :
    DigitAt W (digit U u1 (y1 * 4294967296 + y0)) (.int .u64 ((q : Int) - 1)) W := by
  obtain ⟨-, g⟩ := T.great hy hu h1 ht
  have n := T.next hy hu h1 ht
  have l := n.le
  have := T.le
  have e := n.left hy h0 (by omega) (by omega)
  exact ⟨rfl, by rw [← e]; congr 1; omega⟩
theorem Digit.done {W : World} {U u1 y1 y0 q r : Nat} (T : Trial U u1 y1 y0 q r) (hy : 2147483648 ≤ y1) (ht : q * y0 ≤ 4294967296 * r + u1) :
    DigitAt W (digit U u1 (y1 * 4294967296 + y0)) (.int .u64 (q : Int)) W := ⟨rfl, by rw [← T.done hy ht]⟩

theorem prod_fits {q y0 : Nat} (hq : q < 4294967296) (h0 : y0 < 4294967296) : ∃ P : Nat, q * y0 = P ∧ IntKind.u64.wrap ((q : Int) * (y0 : Int)) = (P : Int) := by
  have h : q * y0 ≤ 4294967295 * 4294967295 := Nat.mul_le_mul (by omega) (by omega)
  have e : (q : Int) * (y0 : Int) = ((q * y0 : Nat) : Int) := (Int.natCast_mul q y0).symm
  refine ⟨_, rfl, ?_⟩
  rw [e]; exact Mul64.wrapN _ (by omega)

theorem rest_of {U u1 V d : Nat} (hd : digit U u1 V = d) (hv : 0 < V) (hV : V < 18446744073709551616) :
    IntKind.u64.wrap (IntKind.u64.wrap (IntKind.u64.wrap ((U : Int) * 4294967296) + (u1 : Int)) - IntKind.u64.wrap ((d : Int) * (V : Int))) = (((U * 4294967296 + u1) % V : Nat) : Int) := by
  have e := Nat.div_add_mod (U * 4294967296 + u1) V
  have m := Nat.mod_lt (U * 4294967296 + u1) hv
  unfold digit at hd
  rw [hd] at e
  rw [← Int.natCast_mul, Nat.mul_comm d V]
  generalize (U * 4294967296 + u1) % V = R at *
  generalize V * d = A at *
  simp only [IntKind.wrap_u64]
  omega

theorem div_end {hi lo y p V U L u1 u0 d d0 R R2 : Nat} (hV : V = y * p) (hp : 0 < p) (hU : (hi * 18446744073709551616 + lo) * p = U * 18446744073709551616 + L) (hL : L = u1 * 4294967296 + u0) (hv : 0 < V)
    (hd : digit U u1 V = d) (hR : (U * 4294967296 + u1) % V = R) (h0 : digit R u0 V = d0) (hR2 : (R * 4294967296 + u0) % V = R2) :
    (hi * 18446744073709551616 + lo) / y = d * 4294967296 + d0 ∧ (hi * 18446744073709551616 + lo) % y = R2 / p := by
  subst hR; subst hR2
  obtain ⟨s1, s2⟩ := shifted (n := hi * 18446744073709551616 + lo) (y := y) hp
  obtain ⟨t1, t2⟩ := two_digits (u := U) (u1 := u1) (u0 := u0) hv
  have e : (hi * 18446744073709551616 + lo) * p = (U * 4294967296 + u1) * 4294967296 + u0 := by rw [hU, hL]; omega
  rw [← s1, ← s2, ← hV, e, t1, t2, hd, h0]
  exact ⟨rfl, rfl⟩

theorem ret_two {a b c d : Int} (h : a = b) (k : c = d) : Ending.returned (.tuple #[.int .u64 a, .int .u64 c]) = .returned (.tuple #[.int .u64 b, .int .u64 d]) := by rw [h, k]

set_option maxRecDepth 100000 in
set_option maxHeartbeats 4000000 in
theorem div64_pos (hi lo y : Nat) (w : World) (h1 : lo < 18446744073709551616) (k0 : 1 ≤ hi) (k1 : hi < y) (hy1 : y < 18446744073709551616) :
    Calls Try.prog 73 #[.int .u64 hi, .int .u64 lo, .int .u64 y] w fun e w' => e = .returned (.tuple #[.int .u64 (((hi * 18446744073709551616 + lo) / y : Nat) : Int), .int .u64 (((hi * 18446744073709551616 + lo) % y : Nat) : Int)]) ∧ w' = w := by
  obtain ⟨z1, z2, z3, z4⟩ := zeros_fill (y := y) (by omega) (by omega)
  have Z := fun x => zeros64_any (y : Int) x (by omega) (by omega)
  simp only [Int.toNat_natCast] at Z
  generalize Lib.bitLen y = n at *
  obtain ⟨V, U, L, e1, e2, e3, e4, v0, v1, l1, hV, hU⟩ := div_setup' h1 k1 z1 z2 z3 z4
  have ZH := Lib.hid Z
  have HS := Lib.hid (shifted (n := hi * 18446744073709551616 + lo) (y := y) (Nat.two_pow_pos (64 - n)))
  have HV := Lib.hid hV
  have HU := Lib.hid hU
  have m1 := Mul64.maskN V v1
  have m2 := Mul64.maskN L l1
  clear Z hV hU z3 z4
  have n0 : ((y : Int) == 0) = false := by simp; omega
  have n1 : ((hi : Int) == 0) = false := by simp; omega
  go_enter Try.func73, Try.ntmps73
  go_wp2_with fail
  refine (ZH.out _).mono ?_; rintro e wz ⟨rfl, hwz⟩; rw [hwz]; clear hwz
  go_upto_region 15 with (fail)
  have d1 : ((V : Int) / 4294967296) = ((V / 4294967296 : Nat) : Int) := by omega
  have d2 : ((V : Int) % 4294967296) = ((V % 4294967296 : Nat) : Int) := by omega
  have d3 : ((L : Int) / 4294967296) = ((L / 4294967296 : Nat) : Int) := by omega
  have d4 : ((L : Int) % 4294967296) = ((L % 4294967296 : Nat) : Int) := by omega
  have dv : V = V / 4294967296 * 4294967296 + V % 4294967296 := by omega
  have y1b : 2147483648 ≤ V / 4294967296 ∧ V / 4294967296 < 4294967296 := by omega
  have y0b : V % 4294967296 < 4294967296 := by omega
  have l1b : L / 4294967296 < 4294967296 := by omega
  have l0b : L % 4294967296 < 4294967296 := by omega
  rw [d1, d2, d3, d4]
  have HD := Lib.hid (show L = L / 4294967296 * 4294967296 + L % 4294967296 by omega)
  generalize V / 4294967296 = y1 at *
  generalize V % 4294967296 = y0 at *
  generalize L / 4294967296 = u1 at *
  generalize L % 4294967296 = u0 at *
  have T0 := Trial.start (u := U) (u1 := u1) (y1 := y1) (y0 := y0) y1b.1 y0b (by omega) l1b
  obtain ⟨f1, f2⟩ := first_trial (U := U) (y1 := y1) (by omega) (by omega)
  have rb := Nat.mod_lt U (show 0 < y1 by omega)
  have HUV := Lib.hid (show U < y1 * 4294967296 + y0 by omega)
  have HDV := Lib.hid dv
  generalize U / y1 = q at *
  generalize U % y1 = r at *
  go_upto_block 0 with (fail)
  have A0 : TrialAt w U u1 y1 y0 q (.int .u64 (q : Int)) (.int .u64 (r : Int)) w := ⟨r, rfl, rfl, rfl, by omega, T0⟩
  have HA0 := Lib.hid A0
  have Hy1 := Lib.hid y1b
  have Hy0 := Lib.hid y0b
  have Hl1 := Lib.hid l1b
  have Hl0 := Lib.hid l0b
  have Hv0 := Lib.hid v0
  have Hv1 := Lib.hid v1
  clear A0 T0 f1 f2 rb y1b y0b l1b l0b dv d1 d2 d3 d4 v0 v1 e4 l1 m1 m2 e1 e2 e3 h1 k0 k1 hy1 n0 n1
  go_cut [15] (fun a wc => DigitAt w (digit U u1 (y1 * 4294967296 + y0)) a wc)
  case first =>
    go_wp2_with (fail)
    go_loopg [15, 16] q (fun k x y wr => TrialAt w U u1 y1 y0 k x y wr)
    case atStart => exact HA0.out
    case round =>
      obtain ⟨r, rfl, rfl, rfl, rb, T⟩ := hrel
      have HT := Lib.hid T
      have qb := T.le
      have yb := Hy1.out.2
      clear T
      rcases (show 4294967296 ≤ gk ∨ gk < 4294967296 by omega) with g | g
      · have g1 : (4294967296 : Int) ≤ gk := by omega
        have rI : (r : Int) < 4294967296 := by omega
        have yI : (y1 : Int) < 4294967296 := by omega
        have qI : (gk : Int) ≤ 4294967297 := by omega
        have HG := Lib.hid g
        clear g qb rb yb
        rcases (show (4294967296 : Int) ≤ r + y1 ∨ (r : Int) + y1 < 4294967296 by omega) with g2 | g2
        · have HE := Lib.hid (Digit.left (W := w) HT.out Hy1.out.1 Hy0.out HUV.out Hl1.out (.inl HG.out) g2)
          go_wp2
          go_meet
          exact HE.out
        · have HE := Lib.hid (TrialAt.next (W := w) HT.out Hy1.out.1 HUV.out Hl1.out (.inl HG.out) g2)
          have hd : decide ((4294967296 : Int) ≤ (r : Int) + (y1 : Int)) = false := decide_eq_false (by omega)
          go_wp2
          go_roundg (gk - 1)
          case measure => exact HE.out.1
          case rel => exact HE.out.2
      · have g0 : decide ((4294967296 : Int) ≤ (gk : Int)) = false := decide_eq_false (by omega)
        have rI : (r : Int) < 4294967296 := by omega
        have yI : (y1 : Int) < 4294967296 := by omega
        have uI : (u1 : Int) < 4294967296 := by have := Hl1.out; omega
        have qI : (gk : Int) < 4294967296 := by omega
        obtain ⟨P, hP, w1⟩ := prod_fits g Hy0.out
        have HPE := Lib.hid hP
        clear g qb rb yb hP
        rcases (show (4294967296 * (r : Int) + u1 < P) ∨ ((P : Int) ≤ 4294967296 * r + u1) by omega) with g1 | g1
        · have t1 : decide (4294967296 * (r : Int) + u1 < P) = true := decide_eq_true g1
          have HG := Lib.hid (show 4294967296 * r + u1 < gk * y0 by rw [HPE.out]; omega)
          rcases (show (4294967296 : Int) ≤ r + y1 ∨ (r : Int) + y1 < 4294967296 by omega) with g2 | g2
          · have HE := Lib.hid (Digit.left (W := w) HT.out Hy1.out.1 Hy0.out HUV.out Hl1.out (.inr HG.out) g2)
            have q1 : (1 : Int) ≤ gk := by
              rcases (show gk = 0 ∨ 1 ≤ gk by omega) with h | h
              · have := HG.out; rw [h] at this; simp at this
              · omega
            go_wp2
            go_meet
            exact HE.out
          · have HE := Lib.hid (TrialAt.next (W := w) HT.out Hy1.out.1 HUV.out Hl1.out (.inr HG.out) g2)
            have q1 : (1 : Int) ≤ gk := by have := HE.out.1; omega
            have hd : decide ((4294967296 : Int) ≤ (r : Int) + (y1 : Int)) = false := decide_eq_false (by omega)
            go_wp2
            go_roundg (gk - 1)
            case measure => exact HE.out.1
            case rel => exact HE.out.2
        · have t1 : decide (4294967296 * (r : Int) + u1 < P) = false := decide_eq_false (by omega)
          have HE := Lib.hid (Digit.done (W := w) (U := U) (u1 := u1) HT.out Hy1.out.1 (by rw [HPE.out]; omega))
          go_wp2
          go_meet
          exact HE.out
  case rest =>
    obtain ⟨rfl, rfl⟩ := hcut
    obtain ⟨d, hd⟩ : ∃ d, digit U u1 (y1 * 4294967296 + y0) = d := ⟨_, rfl⟩
    have hdb := digit_lt (u1 := u1) (v := y1 * 4294967296 + y0) HUV.out Hl1.out
    rw [hd] at hdb ⊢
    rw [← HDV.out] at hd
    have vpos : 0 < V := by have := Hv0.out; omega
    have f0 := rest_of hd vpos Hv1.out
    have rlt := Nat.mod_lt (U * 4294967296 + u1) vpos
    have rV := Hv1.out
    obtain ⟨R, hR⟩ : ∃ R, (U * 4294967296 + u1) % V = R := ⟨_, rfl⟩
    rw [hR] at f0 rlt
    have HE := Lib.hid (fun d0 R2 => div_end (d0 := d0) (R2 := R2) HV.out (Nat.two_pow_pos (64 - n)) HU.out HD.out vpos hd hR)
    clear hR
    have HRV := Lib.hid (show R < y1 * 4294967296 + y0 by rw [← HDV.out]; exact rlt)
    have y1b := Hy1.out
    have T0 := Trial.start (u := R) (u1 := u0) (y1 := y1) (y0 := y0) y1b.1 Hy0.out HRV.out Hl0.out
    have rb := Nat.mod_lt R (show 0 < y1 by omega)
    obtain ⟨f1, f2⟩ := first_trial (U := R) (y1 := y1) (by omega) (by omega)
    obtain ⟨d0, hd0⟩ : ∃ d, digit R u0 (y1 * 4294967296 + y0) = d := ⟨_, rfl⟩
    have hdb0 := digit_lt (u1 := u0) (v := y1 * 4294967296 + y0) HRV.out Hl0.out
    obtain ⟨q', hq'⟩ : ∃ q', R / y1 = q' := ⟨_, rfl⟩
    obtain ⟨r', hr'⟩ : ∃ r', R % y1 = r' := ⟨_, rfl⟩
    rw [hq', hr'] at T0
    rw [hq'] at f1 f2
    rw [hr'] at f2 rb
    clear hq' hr'
    have HDB := Lib.hid hdb
    have HDB0 := Lib.hid hdb0
    have HD0 := Lib.hid hd0
    have yI : (1 : Int) ≤ y1 := by omega
    clear hdb hdb0 hd0 hd rlt rV y1b
    go_upto_block 2 with (fail)
    have A0 : TrialAt w R u0 y1 y0 q' (.int .u64 (q' : Int)) (.int .u64 (r' : Int)) w := ⟨r', rfl, rfl, rfl, by have := Hy1.out.2; omega, T0⟩
    have HA0 := Lib.hid A0
    have Hvp := Lib.hid vpos
    clear A0 T0 f0 f1 f2 rb yI vpos
    go_cut [18] (fun a wc => DigitAt w (digit R u0 (y1 * 4294967296 + y0)) a wc)
    case first =>
      go_wp2_with (fail)
      go_loopg [18, 16] q' (fun k x y wr => TrialAt w R u0 y1 y0 k x y wr)
      case atStart => exact HA0.out
      case round =>
        obtain ⟨r, rfl, rfl, rfl, rb, T⟩ := hrel
        have HT := Lib.hid T
        have qb := T.le
        have yb := Hy1.out.2
        clear T
        rcases (show 4294967296 ≤ gk ∨ gk < 4294967296 by omega) with g | g
        · have g1 : (4294967296 : Int) ≤ gk := by omega
          have rI : (r : Int) < 4294967296 := by omega
          have yI : (y1 : Int) < 4294967296 := by omega
          have qI : (gk : Int) ≤ 4294967297 := by omega
          have HG := Lib.hid g
          clear g qb rb yb
          rcases (show (4294967296 : Int) ≤ r + y1 ∨ (r : Int) + y1 < 4294967296 by omega) with g2 | g2
          · have HE := Lib.hid (Digit.left (W := w) HT.out Hy1.out.1 Hy0.out HRV.out Hl0.out (.inl HG.out) g2)
            go_wp2
            go_meet
            exact HE.out
          · have HE := Lib.hid (TrialAt.next (W := w) HT.out Hy1.out.1 HRV.out Hl0.out (.inl HG.out) g2)
            have hd : decide ((4294967296 : Int) ≤ (r : Int) + (y1 : Int)) = false := decide_eq_false (by omega)
            go_wp2
            go_roundg (gk - 1)
            case measure => exact HE.out.1
            case rel => exact HE.out.2
        · have g9 : decide ((4294967296 : Int) ≤ (gk : Int)) = false := decide_eq_false (by omega)
          have rI : (r : Int) < 4294967296 := by omega
          have yI : (y1 : Int) < 4294967296 := by omega
          have uI : (u0 : Int) < 4294967296 := by have := Hl0.out; omega
          have qI : (gk : Int) < 4294967296 := by omega
          obtain ⟨P, hP, w1⟩ := prod_fits g Hy0.out
          have HPE := Lib.hid hP
          clear g qb rb yb hP
          rcases (show (4294967296 * (r : Int) + u0 < P) ∨ ((P : Int) ≤ 4294967296 * r + u0) by omega) with g1 | g1
          · have t1 : decide (4294967296 * (r : Int) + u0 < P) = true := decide_eq_true g1
            have HG := Lib.hid (show 4294967296 * r + u0 < gk * y0 by rw [HPE.out]; omega)
            rcases (show (4294967296 : Int) ≤ r + y1 ∨ (r : Int) + y1 < 4294967296 by omega) with g2 | g2
            · have HE := Lib.hid (Digit.left (W := w) HT.out Hy1.out.1 Hy0.out HRV.out Hl0.out (.inr HG.out) g2)
              have q1 : (1 : Int) ≤ gk := by
                rcases (show gk = 0 ∨ 1 ≤ gk by omega) with h | h
                · have := HG.out; rw [h] at this; simp at this
                · omega
              go_wp2
              go_meet
              exact HE.out
            · have HE := Lib.hid (TrialAt.next (W := w) HT.out Hy1.out.1 HRV.out Hl0.out (.inr HG.out) g2)
              have q1 : (1 : Int) ≤ gk := by have := HE.out.1; omega
              have hd : decide ((4294967296 : Int) ≤ (r : Int) + (y1 : Int)) = false := decide_eq_false (by omega)
              go_wp2
              go_roundg (gk - 1)
              case measure => exact HE.out.1
              case rel => exact HE.out.2
          · have t1 : decide (4294967296 * (r : Int) + u0 < P) = false := decide_eq_false (by omega)
            have HE := Lib.hid (Digit.done (W := w) (U := R) (u1 := u0) HT.out Hy1.out.1 (by rw [HPE.out]; omega))
            go_wp2
            go_meet
            exact HE.out
    case rest =>
      obtain ⟨rfl, rfl⟩ := hcut
      rw [HD0.out]
      have b1 := HDB.out
      have b2 := HDB0.out
      rw [HD0.out] at b2
      have e28 := HD0.out
      rw [← HDV.out] at e28
      have f28 := rest_of e28 Hvp.out Hv1.out
      have rlt := Nat.mod_lt (R * 4294967296 + u0) Hvp.out
      have rV := Hv1.out
      obtain ⟨R2, hR2⟩ : ∃ R2, (R * 4294967296 + u0) % V = R2 := ⟨_, rfl⟩
      obtain ⟨E1, E2⟩ := HE.out d0 R2 e28 hR2
      rw [hR2] at rlt f28
      clear hR2
      have HF := Lib.hid (And.intro E1 E2)
      clear e28 E1 E2
      go_wp2
      go_returns
      exact ⟨ret_two (by rw [HF.out.1]; omega) (by rw [HF.out.2, Int.natCast_ediv, Int.natCast_pow]; rfl), rfl⟩
end Go.Proofs.Ytjemcnlljjdmiaa.Fr
