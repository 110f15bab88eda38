/- Numbers of 128 bits, as the document's functions reckon them: as an int, the greatest common divisor, a right fraction. -/
import Derived.Test.YtjemcnlljjdmiaaFrW3
namespace Go.Proofs.Ytjemcnlljjdmiaa.Fr
open Go.ChangeShapes Go.WideShapes Go.ChangeAt Go.RowKit M

def asN (x : Nat) : Int := if x ≤ M63 then (x : Int) else 0
def asB (x : Nat) : Bool := decide (x ≤ M63)
theorem as_yes {x : Nat} (h : x ≤ M63) : asN x = (x : Int) ∧ asB x = true := ⟨if_pos h, decide_eq_true h⟩
theorem as_no {x : Nat} (h : ¬ x ≤ M63) : asN x = 0 ∧ asB x = false := ⟨if_neg h, decide_eq_false h⟩

theorem as_any (x : Nat) (w : World) (hx : Lt128 x) :
    Calls Try.prog 68 #[.agg #[.int .u64 (hiW x), .int .u64 (loW x)]] w fun e w' => e = .returned (.tuple #[.int .i64 (asN x), .bool (asB x)]) ∧ Below w.heap.size w w' := by
  have b1 := hi_bd hx
  have b2 := lo_bd x
  by_cases h : x ≤ M63
  · obtain ⟨e1, e2⟩ := as_yes h
    have E1 := Lib.hid e1
    have E2 := Lib.hid e2
    have h1 : hiW x = 0 := by unfold M63 at h; unfold hiW; omega
    have h2 : loW x = x := by unfold M63 at h; unfold loW; omega
    have h3 : decide (0 < hiW x) = false := by rw [h1]; rfl
    have h4 : loW x ≤ 9223372036854775807 := by unfold M63 at h; omega
    have h5 : decide (9223372036854775807 < loW x) = false := decide_eq_false (by omega)
    have H2 := Lib.hid h2
    clear h1 h2 e1 e2 h hx
    go_enter Try.func68, Try.ntmps68
    go_wp2
    go_returns
    exact ⟨ret_ib (by rw [E1.out, H2.out]) E2.out.symm, by go_grown⟩
  · obtain ⟨e1, e2⟩ := as_no h
    have E1 := Lib.hid e1
    have E2 := Lib.hid e2
    rcases (show 0 < hiW x ∨ (hiW x = 0 ∧ 9223372036854775807 < loW x) by unfold M63 at h; unfold hiW loW; omega) with h1 | ⟨h1, h2⟩
    · have h3 : decide (0 < hiW x) = true := decide_eq_true h1
      clear e1 e2 h hx
      go_enter Try.func68, Try.ntmps68
      go_wp2
      go_returns
      exact ⟨ret_ib E1.out.symm E2.out.symm, by go_grown⟩
    · have h3 : decide (0 < hiW x) = false := by rw [h1]; rfl
      have h4 : decide (9223372036854775807 < loW x) = true := decide_eq_true h2
      clear e1 e2 h h1 hx
      go_enter Try.func68, Try.ntmps68
      go_wp2
      go_returns
      exact ⟨ret_ib E1.out.symm E2.out.symm, by go_grown⟩
end Go.Proofs.Ytjemcnlljjdmiaa.Fr
