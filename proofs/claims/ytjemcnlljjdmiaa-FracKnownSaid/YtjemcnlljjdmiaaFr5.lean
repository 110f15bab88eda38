/- Division of 128 bits by 64, as the library's text does it. -/
import Derived.Test.YtjemcnlljjdmiaaFr4
import Derived.Test.YtjemcnlljjdmiaaFrDiv
import Derived.Lib.Strings
import Derived.Lib.Slices
import Derived.Lib.Small
import Derived.Lib.Walk
import Derived.Lib.BitFns
import Derived.Lib.ItoaNum
namespace Go.Proofs.Ytjemcnlljjdmiaa.Fr
open Go.ChangeShapes Go.WideShapes Go.ChangeAt Go.RowKit M

attribute [local go_sem] Lib.len8tab_size
theorem tab_get (y : Int) (h : y.toNat < Lib.len8tab.size) (h0 : 0 ≤ y) (h1 : y ≤ 255) : ((Lib.len8tab[y.toNat]'h).toNat : Int) = (Lib.bitLen y.toNat : Int) := by
  rw [← Lib.len8_of y h0 h1]; unfold Lib.len8; rw [getElem?_pos Lib.len8tab y.toNat h]; rfl

theorem len_bd {n : Nat} (h : n < 256) : Lib.bitLen n ≤ 8 := Lib.bitLen_le8 ⟨n, h⟩
theorem wrap_two {n : Nat} (h : n ≤ 8) : wrap64 (wrap64 (n : Int)) = n := by unfold wrap64; omega
theorem wrap_sum (k n m : Nat) (hk : k ≤ 56) (hn : n ≤ 8) (s : m = k + n) : wrap64 ((k : Int) + wrap64 (n : Int)) = m := by
  unfold wrap64; omega

set_option maxHeartbeats 4000000 in
set_option maxRecDepth 100000 in
theorem len64_any (x : Int) (w : World) (h0 : 0 ≤ x) (h1 : x ≤ 18446744073709551615) :
    Calls Try.prog 95 #[.int .u64 x] w fun e w' => e = .returned (.int .i64 (Lib.bitLen x.toNat)) ∧ w' = w := by
  go_enter Try.func95, Try.ntmps95
  go_wp2
  all_goals (go_ret; refine ⟨congrArg Ending.returned (congrArg (Value.int IntKind.i64) ?_), rfl⟩)
  all_goals first
    | (rw [tab_get (x / 4294967296 / 65536 / 256) _ (by omega) (by omega), show (x / 4294967296 / 65536 / 256).toNat = x.toNat / 72057594037927936 by omega]
       exact wrap_sum 56 _ _ (by decide) (len_bd (by omega)) (Lib.bitLen_shift56 x.toNat (by omega) (by omega)))
    | (rw [tab_get (x / 4294967296 / 65536) _ (by omega) (by omega), show (x / 4294967296 / 65536).toNat = x.toNat / 281474976710656 by omega]
       exact wrap_sum 48 _ _ (by decide) (len_bd (by omega)) (Lib.bitLen_shift48 x.toNat (by omega) (by omega)))
    | (rw [tab_get (x / 4294967296 / 256) _ (by omega) (by omega), show (x / 4294967296 / 256).toNat = x.toNat / 1099511627776 by omega]
       exact wrap_sum 40 _ _ (by decide) (len_bd (by omega)) (Lib.bitLen_shift40 x.toNat (by omega) (by omega)))
    | (rw [tab_get (x / 4294967296) _ (by omega) (by omega), show (x / 4294967296).toNat = x.toNat / 4294967296 by omega]
       exact wrap_sum 32 _ _ (by decide) (len_bd (by omega)) (Lib.bitLen_shift32 x.toNat (by omega) (by omega)))
    | (rw [tab_get (x / 65536 / 256) _ (by omega) (by omega), show (x / 65536 / 256).toNat = x.toNat / 16777216 by omega]
       exact wrap_sum 24 _ _ (by decide) (len_bd (by omega)) (Lib.bitLen_shift24 x.toNat (by omega) (by omega)))
    | (rw [tab_get (x / 65536) _ (by omega) (by omega), show (x / 65536).toNat = x.toNat / 65536 by omega]
       exact wrap_sum 16 _ _ (by decide) (len_bd (by omega)) (Lib.bitLen_shift16 x.toNat (by omega) (by omega)))
    | (rw [tab_get (x / 256) _ (by omega) (by omega), show (x / 256).toNat = x.toNat / 256 by omega]
       exact wrap_sum 8 _ _ (by decide) (len_bd (by omega)) (Lib.bitLen_shift8 x.toNat (by omega) (by omega)))
    | (rw [tab_get x _ (by omega) (by omega)]
       exact wrap_two (len_bd (by omega)))

theorem zeros64_any (x : Int) (w : World) (h0 : 0 ≤ x) (h1 : x ≤ 18446744073709551615) :
    Calls Try.prog 87 #[.int .u64 x] w fun e w' => e = .returned (.int .i64 (64 - (Lib.bitLen x.toNat : Int))) ∧ w' = w := by
  have l := Lib.bitLen_le x.toNat 64 (by omega) (show x.toNat < 18446744073709551616 by omega)
  have L := Lib.hid (len64_any x · h0 h1)
  generalize Lib.bitLen x.toNat = n at *
  go_enter Try.func87, Try.ntmps87
  go_wp2_with fail
  refine (L.out _).mono ?_; rintro e w' ⟨rfl, rfl⟩
  go_wp2
  go_returns
  exact ⟨rfl, rfl⟩

/-- shifted by its leading zeros, it fills the word -/
theorem zeros_fill {y : Nat} (h0 : 0 < y) (h1 : y < 18446744073709551616) :
    Lib.bitLen y ≤ 64 ∧ 1 ≤ Lib.bitLen y ∧ 9223372036854775808 ≤ y * 2 ^ (64 - Lib.bitLen y) ∧ y * 2 ^ (64 - Lib.bitLen y) < 18446744073709551616 := by
  obtain ⟨a, b, c⟩ := Lib.bitLenAux_bounds 64 y h1 (by omega)
  change 1 ≤ Lib.bitLen y at a
  change 2 ^ (Lib.bitLen y - 1) ≤ y at b
  change y < 2 ^ Lib.bitLen y at c
  have l := Lib.bitLen_le y 64 (by omega) h1
  generalize Lib.bitLen y = n at *
  have p : 0 < 2 ^ (64 - n) := Nat.two_pow_pos _
  refine ⟨l, a, ?_, ?_⟩
  · have := Nat.mul_le_mul_right (2 ^ (64 - n)) b
    rw [← Nat.pow_add, show n - 1 + (64 - n) = 63 by omega] at this
    exact this
  · have := Nat.mul_lt_mul_of_pos_right c p
    rw [← Nat.pow_add, show n + (64 - n) = 64 by omega] at this
    exact this
end Go.Proofs.Ytjemcnlljjdmiaa.Fr
