/- Pick: a number below another one, by any number. -/
import Derived.Test.YtaodbjgcidkpkaaRows
import Derived.Test.YtaodbjgcidkpkaaZa
import Derived.WalkKit
import Derived.Handy
import Derived.Lib.Hide

namespace Go.Proofs.Ytaodbjgcidkpkaa.M
open Go.ChangeShapes Go.WideShapes Go.ChangeAt Go.RowKit

theorem ret_i {k : IntKind} {a b : Int} (h : a = b) : Ending.returned (.int k a) = .returned (.int k b) := by rw [h]
/-- a number from 0 to n - 1 by any number -/
def pickF (k n : Int) : Int := if n < 1 then 0 else k % n
theorem pickF_pos {k n : Int} (h : 1 ≤ n) : pickF k n = k % n := if_neg (by omega)
theorem pickF_bd {k n : Int} (h : 1 ≤ n) : 0 ≤ pickF k n ∧ pickF k n < n := by
  rw [pickF_pos h]; exact ⟨Int.emod_nonneg _ (by omega), Int.emod_lt_of_pos _ (by omega)⟩
theorem tmod_neg {k n : Int} (hk : k < 0) (hn : 1 ≤ n) : (k.tmod n < 0 ∧ k.tmod n + n = k % n) ∨ (k.tmod n = 0 ∧ k % n = 0) := by
  have e : k.tmod n = -((-k) % n) := by
    rw [show k = -(-k) by omega, Int.neg_tmod, Int.tmod_eq_emod_of_nonneg (by omega)]; simp
  have b0 := Int.emod_nonneg (-k) (show n ≠ 0 by omega)
  have b1 := Int.emod_lt_of_pos (-k) (show 0 < n by omega)
  have d := Int.mul_ediv_add_emod (-k) n
  by_cases h : (-k) % n = 0
  · right
    refine ⟨by omega, ?_⟩
    have : n ∣ k := by have := Int.dvd_of_emod_eq_zero h; exact (Int.dvd_neg).1 this
    exact Int.emod_eq_zero_of_dvd this
  · left
    refine ⟨by omega, ?_⟩
    rw [e]
    have : k = (n - (-k) % n) + n * (-((-k) / n) - 1) := by rw [Int.mul_sub, Int.mul_neg]; omega
    generalize hr : (-k) % n = r at *
    generalize (-k) / n = q at *
    rw [this, Int.add_mul_emod_self_left, Int.emod_eq_of_lt (by omega) (by omega)]; omega

theorem pick_any (k n : Int) (w : World) (hn : In64 n) (hk : In64 k) :
    Calls Try.prog 43 #[.int .i64 k, .int .i64 n] w fun e w' => e = .returned (.int .i64 (pickF k n)) ∧ w = w' := by
  unfold In64 at hn hk
  by_cases h : n < 1
  · have E := Lib.hid (show pickF k n = 0 from if_pos h)
    go_enter Try.func43, Try.ntmps43
    go_wp2
    go_returns
    exact ⟨ret_i E.out.symm, rfl⟩
  · have hn1 : 1 ≤ n := by omega
    have E := Lib.hid (pickF_pos (k := k) hn1)
    have hb := pickF_bd (k := k) hn1
    rw [E.out] at hb
    by_cases hk0 : 0 ≤ k
    · go_enter Try.func43, Try.ntmps43
      go_wp2
      go_returns
      exact ⟨ret_i E.out.symm, rfl⟩
    · rcases tmod_neg (k := k) (by omega) hn1 with ⟨ht, he⟩ | ⟨ht, he⟩
      · have HE := Lib.hid he
        have ht2 : k.tmod n + n ≤ 9223372036854775807 := by omega
        have ht3 : -9223372036854775808 ≤ k.tmod n := by omega
        clear he hb
        go_enter Try.func43, Try.ntmps43
        go_wp2
        go_returns
        exact ⟨ret_i (by rw [E.out, ← HE.out]), rfl⟩
      · have HE := Lib.hid he
        have ht2 : ¬ k.tmod n < 0 := by omega
        have ht3 : k.tmod n ≤ 0 := by omega
        have HT := Lib.hid ht
        clear he hb ht
        go_enter Try.func43, Try.ntmps43
        go_wp2
        go_returns
        exact ⟨ret_i (by rw [E.out, HE.out, HT.out]), rfl⟩
end Go.Proofs.Ytaodbjgcidkpkaa.M
