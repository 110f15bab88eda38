/- Numbers of 128 bits, as the document's functions reckon them: less, minus, a bit. -/
import Derived.Test.YtjemcnlljjdmiaaFrW
import Derived.Outline
namespace Go.Proofs.Ytjemcnlljjdmiaa.Fr
open Go.ChangeShapes Go.WideShapes Go.ChangeAt Go.RowKit M

theorem less_any (x y : Nat) (w : World) :
    Calls Try.prog 75 #[.agg #[.int .u64 (hiW x), .int .u64 (loW x)], .agg #[.int .u64 (hiW y), .int .u64 (loW y)]] w fun e w' => e = .returned (.bool (decide (x < y))) ∧ Below w.heap.size w w' := by
  have H := @less_iff x y
  rcases (show hiW x < hiW y ∨ (hiW x = hiW y ∧ loW x < loW y) ∨ (hiW x = hiW y ∧ ¬ loW x < loW y) ∨ hiW y < hiW x by omega) with h | ⟨h, h1⟩ | ⟨h, h1⟩ | h
  · have E := Lib.hid (decide_eq_true (H.2 (.inl h)))
    clear H
    go_enter Try.func75, Try.ntmps75
    go_wp2
    go_returns
    exact ⟨by rw [E.out]; rfl, by go_grown⟩
  · have E := Lib.hid (decide_eq_true (H.2 (.inr ⟨h, h1⟩)))
    have d1 : decide (hiW x < hiW y) = false := decide_eq_false (by omega)
    have d2 : (hiW x == hiW y) = true := by rw [h]; exact beq_self_eq_true _
    clear H h
    go_enter Try.func75, Try.ntmps75
    go_wp2
    go_returns
    exact ⟨by rw [E.out]; rfl, by go_grown⟩
  · have E := Lib.hid (decide_eq_false (fun hh => by rcases H.1 hh with k | k <;> omega) : decide (x < y) = false)
    have d1 : decide (hiW x < hiW y) = false := decide_eq_false (by omega)
    have d2 : (hiW x == hiW y) = true := by rw [h]; exact beq_self_eq_true _
    have d3 : decide (loW x < loW y) = false := decide_eq_false h1
    clear H h
    go_enter Try.func75, Try.ntmps75
    go_wp2
    go_returns
    exact ⟨by rw [E.out]; rfl, by go_grown⟩
  · have E := Lib.hid (decide_eq_false (fun hh => by rcases H.1 hh with k | k <;> omega) : decide (x < y) = false)
    have d1 : decide (hiW x < hiW y) = false := decide_eq_false (by omega)
    have d2 : (hiW x == hiW y) = false := by rw [beq_eq_false_iff_ne]; omega
    clear H
    go_enter Try.func75, Try.ntmps75
    go_wp2
    go_returns
    exact ⟨by rw [E.out]; rfl, by go_grown⟩

theorem minus_any (x y : Nat) (w : World) (hx : Lt128 x) (hy : y ≤ x) :
    Calls Try.prog 94 #[.agg #[.int .u64 (hiW x), .int .u64 (loW x)], .agg #[.int .u64 (hiW y), .int .u64 (loW y)]] w fun e w' => e = .returned (.agg #[.int .u64 (hiW (x - y)), .int .u64 (loW (x - y))]) ∧ Below w.heap.size w w' := by
  have E1 := minus_lo hy
  by_cases h : loW x < loW y
  · have E2 := Lib.hid (minus_borrow hx hy h)
    go_enter Try.func94, Try.ntmps94
    go_wp2
    go_returns
    exact ⟨by first | rfl | (rw [E2.out]), by go_grown⟩
  · have E2 := minus_hi hx hy h
    go_enter Try.func94, Try.ntmps94
    go_wp2
    go_returns
    exact ⟨rfl, by go_grown⟩

theorem bit_hi {a k : Nat} (h : 64 ≤ k) : hiW a / 2 ^ (k - 64) % 2 = ((a / 2 ^ k % 2 : Nat) : Int) := by
  unfold hiW
  have e : a / 2 ^ k = a / 18446744073709551616 / 2 ^ (k - 64) := by
    rw [Nat.div_div_eq_div_mul, show (18446744073709551616 : Nat) = 2 ^ 64 from rfl, ← Nat.pow_add]; congr 2; omega
  rw [e]
  generalize a / 18446744073709551616 = b
  rw [Int.natCast_emod, Int.natCast_ediv, Int.natCast_pow]; rfl
theorem bit_lo {a k : Nat} (h : k < 64) : loW a / 2 ^ k % 2 = ((a / 2 ^ k % 2 : Nat) : Int) := by
  unfold loW
  have e : a % 18446744073709551616 / 2 ^ k % 2 = a / 2 ^ k % 2 := by
    have p : (18446744073709551616 : Nat) = 2 ^ k * 2 ^ (64 - k) := by rw [← Nat.pow_add, show k + (64 - k) = 64 by omega]
    rw [p, Nat.mod_mul_right_div_self]
    refine Nat.mod_mod_of_dvd _ ?_
    refine ⟨2 ^ (64 - k - 1), ?_⟩
    rw [Nat.mul_comm, ← Nat.pow_succ]; congr 1; omega
  rw [← e]
  generalize a % 18446744073709551616 = b
  rw [Int.natCast_emod, Int.natCast_ediv, Int.natCast_pow]; rfl

theorem bit_any (a k : Nat) (w : World) (ha : Lt128 a) (hk : k < 128) :
    Calls Try.prog 93 #[.agg #[.int .u64 (hiW a), .int .u64 (loW a)], .int .i64 (k : Int)] w fun e w' => e = .returned (.int .u64 ((a / 2 ^ k % 2 : Nat) : Int)) ∧ Below w.heap.size w w' := by
  have b1 := hi_bd ha
  have b2 := lo_bd a
  by_cases h : 64 ≤ k
  · have E := Lib.hid (bit_hi (a := a) h)
    have n0 : 0 ≤ hiW a / 2 ^ (k - 64) := Int.ediv_nonneg b1.1 (Int.le_of_lt (Int.pow_pos (by decide)))
    go_enter Try.func93, Try.ntmps93
    go_wp2

    go_returns
    exact ⟨ret_int (by rw [← E.out]), by go_grown⟩
  · have E := Lib.hid (bit_lo (a := a) (k := k) (by omega))
    have n0 : 0 ≤ loW a / 2 ^ k := Int.ediv_nonneg b2.1 (Int.le_of_lt (Int.pow_pos (by decide)))
    go_enter Try.func93, Try.ntmps93
    go_wp2

    go_returns
    exact ⟨ret_int (by rw [← E.out]), by go_grown⟩
end Go.Proofs.Ytjemcnlljjdmiaa.Fr
