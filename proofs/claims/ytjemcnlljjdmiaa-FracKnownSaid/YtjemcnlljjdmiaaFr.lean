/- What the program's and the document's functions on ints return, each from any memory, which they leave as it is: sums, products, common divisors. -/
import Derived.Test.YtjemcnlljjdmiaaRows
import Derived.Test.YtjemcnlljjdmiaaFrPlain
import Derived.Test.YtjemcnlljjdmiaaMem
import Derived.WalkKit
import Derived.ProofKit
import Derived.OpenShut
import Derived.Outline
import Derived.Handy
import Derived.WalkLawsBesides
import Derived.Lib.Hide
import Derived.Lib.Mul64
import Derived.Laws.Bits64b
namespace Go.Proofs.Ytjemcnlljjdmiaa.Fr
open Go.ChangeShapes Go.WideShapes Go.ChangeAt Go.RowKit M

def I64 (x : Int) : Prop := -9223372036854775808 ≤ x ∧ x ≤ 9223372036854775807
def fits (x : Int) : Bool := decide (-9223372036854775808 ≤ x) && decide (x ≤ 9223372036854775807)
/-- a number, if it can be an int -/
def asInt (x : Int) : Int := if fits x then x else 0
theorem fits_yes {x : Int} (h : I64 x) : fits x = true := by unfold I64 at h; simp [fits]; omega
theorem fits_no {x : Int} (h : ¬ I64 x) : fits x = false := by
  unfold I64 at h; cases hf : fits x with
  | false => rfl
  | true => simp [fits] at hf; exact absurd hf h

theorem ret_ib {a b : Int} {p q : Bool} (h : a = b) (k : p = q) : Ending.returned (.tuple #[.int .i64 a, .bool p]) = .returned (.tuple #[.int .i64 b, .bool q]) := by rw [h, k]
theorem ret_int {k : IntKind} {a b : Int} (h : a = b) : Ending.returned (.int k a) = .returned (.int k b) := by rw [h]

theorem add_any (a b : Int) (w : World) (ha : I64 a) (hb : I64 b) :
    Calls Try.prog 36 #[.int .i64 a, .int .i64 b] w fun e w' => e = .returned (.tuple #[.int .i64 (asInt (a + b)), .bool (fits (a + b))]) ∧ w = w' := by
  by_cases h : I64 (a + b)
  · have E := Lib.hid (fits_yes h)
    unfold I64 at ha hb h
    have F := Lib.hid (show asInt (a + b) = a + b by unfold asInt; rw [E.out]; rfl)
    rcases (show 0 < b ∨ b < 0 ∨ b = 0 by omega) with h0 | h0 | h0
    · go_enter Try.func36, Try.ntmps36
      go_wp2
      go_returns
      exact ⟨by rw [E.out, F.out]; rfl, rfl⟩
    · go_enter Try.func36, Try.ntmps36
      go_wp2
      go_returns
      exact ⟨by rw [E.out, F.out]; rfl, rfl⟩
    · subst h0
      go_enter Try.func36, Try.ntmps36
      go_wp2
      go_returns
      exact ⟨by rw [E.out, F.out]; first | rfl | simp, rfl⟩
  · have E := Lib.hid (fits_no h)
    unfold I64 at ha hb h
    have F := Lib.hid (show asInt (a + b) = 0 by unfold asInt; rw [E.out]; rfl)
    rcases (show 0 < b ∧ 9223372036854775807 - b < a ∨ b < 0 ∧ a < -9223372036854775808 - b by omega) with ⟨h0, h1⟩ | ⟨h0, h1⟩
    all_goals
      clear h
      go_enter Try.func36, Try.ntmps36
      go_wp2
      go_returns
      exact ⟨by rw [E.out, F.out]; rfl, rfl⟩

theorem refAdd_any (a b : Int) (w : World) (ha : I64 a) (hb : I64 b) :
    Calls Try.prog 37 #[.int .i64 a, .int .i64 b] w fun e w' => e = .returned (.tuple #[.int .i64 (asInt (a + b)), .bool (fits (a + b))]) ∧ w = w' := by
  by_cases h : I64 (a + b)
  · have E := Lib.hid (fits_yes h)
    unfold I64 at ha hb h
    have F := Lib.hid (show asInt (a + b) = a + b by unfold asInt; rw [E.out]; rfl)
    rcases (show 0 ≤ a ∧ 0 ≤ b ∨ 0 ≤ a ∧ b < 0 ∨ a < 0 ∧ b < 0 ∨ a < 0 ∧ 0 ≤ b by omega) with ⟨h0, h1⟩ | ⟨h0, h1⟩ | ⟨h0, h1⟩ | ⟨h0, h1⟩
    all_goals
      go_enter Try.func37, Try.ntmps37
      go_wp2
      go_returns
      exact ⟨by rw [E.out, F.out]; rfl, rfl⟩
  · have E := Lib.hid (fits_no h)
    unfold I64 at ha hb h
    have F := Lib.hid (show asInt (a + b) = 0 by unfold asInt; rw [E.out]; rfl)
    rcases (show 0 ≤ a ∧ 0 ≤ b ∧ 9223372036854775807 < a + b ∨ a < 0 ∧ b < 0 ∧ a + b < -9223372036854775808 by omega) with ⟨h0, h1, h2⟩ | ⟨h0, h1, h2⟩
    · have hw : wrap64 (a + b) < 0 := by unfold wrap64; omega
      clear h
      go_enter Try.func37, Try.ntmps37
      go_wp2
      go_returns
      exact ⟨by rw [E.out, F.out]; rfl, rfl⟩
    · have hw : 0 ≤ wrap64 (a + b) := by unfold wrap64; omega
      clear h
      go_enter Try.func37, Try.ntmps37
      go_wp2
      go_returns
      exact ⟨by rw [E.out, F.out]; rfl, rfl⟩

/-- how far a number is from 0 -/
def abs64 (a : Int) : Int := (a.natAbs : Int)
theorem abs64_bd {a : Int} (h : I64 a) : 0 ≤ abs64 a ∧ abs64 a ≤ 9223372036854775808 := by unfold I64 at h; unfold abs64; omega
theorem abs_neg {a : Int} (h : I64 a) (h0 : a < 0) : IntKind.u64.wrap (-(IntKind.u64.wrap a)) = abs64 a := by
  unfold I64 at h; rw [IntKind.wrap_u64, IntKind.wrap_u64]; unfold abs64; omega
theorem abs_pos {a : Int} (h : I64 a) (h0 : 0 ≤ a) : IntKind.u64.wrap a = abs64 a := by
  unfold I64 at h; rw [IntKind.wrap_u64]; unfold abs64; omega

theorem size_any (a : Int) (w : World) (ha : I64 a) :
    Calls Try.prog 50 #[.int .i64 a] w fun e w' => e = .returned (.int .u64 (abs64 a)) ∧ w = w' := by
  by_cases h0 : a < 0
  · have E := Lib.hid (abs_neg ha h0)
    clear ha
    go_enter Try.func50, Try.ntmps50
    go_wp2
    go_returns
    exact ⟨ret_int E.out, rfl⟩
  · have E := Lib.hid (abs_pos ha (by omega))
    have hu : IntKind.u64.wrap a = a := by rw [E.out]; unfold abs64; omega
    have HU := Lib.hid hu
    clear ha hu
    go_enter Try.func50, Try.ntmps50
    go_wp2
    go_returns
    exact ⟨ret_int (by first | exact E.out | (rw [← E.out, HU.out])), rfl⟩

theorem refSize_any (a : Int) (w : World) (ha : I64 a) :
    Calls Try.prog 67 #[.int .i64 a] w fun e w' => e = .returned (.int .u64 (abs64 a)) ∧ w = w' := by
  by_cases h0 : a < 0
  · have E := Lib.hid (abs_neg ha h0)
    clear ha
    go_enter Try.func67, Try.ntmps67
    go_wp2
    go_returns
    exact ⟨ret_int E.out, rfl⟩
  · have E := Lib.hid (abs_pos ha (by omega))
    have hu : IntKind.u64.wrap a = a := by rw [E.out]; unfold abs64; omega
    have HU := Lib.hid hu
    clear ha hu
    go_enter Try.func67, Try.ntmps67
    go_wp2
    go_returns
    exact ⟨ret_int (by first | exact E.out | (rw [← E.out, HU.out])), rfl⟩
end Go.Proofs.Ytjemcnlljjdmiaa.Fr
