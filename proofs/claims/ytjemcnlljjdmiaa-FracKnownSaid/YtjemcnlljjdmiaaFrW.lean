/- Numbers of 128 bits, as the document's functions reckon them. -/
import Derived.Test.YtjemcnlljjdmiaaFr
import Derived.RegionTactic
import Derived.Deep.QuietTactic
import Derived.BigQuiet
namespace Go.Proofs.Ytjemcnlljjdmiaa.Fr
open Go.ChangeShapes Go.WideShapes Go.ChangeAt Go.RowKit M

/-- a number of 128 bits, as a value -/
def wv (x : Nat) : Value := .agg #[.int .u64 (hiW x), .int .u64 (loW x)]

theorem plus_any (x y : Nat) (w : World) (hx : Lt128 x) (hy : Lt128 y) :
    Calls Try.prog 74 #[.agg #[.int .u64 (hiW x), .int .u64 (loW x)], .agg #[.int .u64 (hiW y), .int .u64 (loW y)]] w fun e w' => e = .returned (.agg #[.int .u64 (hiW (m128 (x + y))), .int .u64 (loW (m128 (x + y)))]) ∧ Below w.heap.size w w' := by
  have bx := hi_bd hx
  have bx2 := lo_bd x
  have by1 := hi_bd hy
  have by2 := lo_bd y
  have E1 := plus_lo x y
  by_cases h : loW (m128 (x + y)) < loW x
  · have E2 := Lib.hid (plus_carry h)
    go_enter Try.func74, Try.ntmps74
    go_wp2
    go_returns
    exact ⟨by first | rfl | (rw [E2.out]), by go_grown⟩
  · have E2 := plus_hi h
    go_enter Try.func74, Try.ntmps74
    go_wp2
    go_returns
    exact ⟨rfl, by go_grown⟩
end Go.Proofs.Ytjemcnlljjdmiaa.Fr
