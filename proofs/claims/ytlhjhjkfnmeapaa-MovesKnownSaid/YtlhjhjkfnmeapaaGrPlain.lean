/- Groups of keys, in plain Lean: what Of, Owner and Range come to, and the arithmetic of ranges. No condition. -/
import Derived.Laws.Bits64
import Derived.Laws.BitsLemmas
import Derived.IntWalk
namespace Go.Proofs.Ytlhjhjkfnmeapaa.Gr
open Go

/-- what is left of a key behind n bytes -/
def kk (key : Int) : Nat → Int
  | 0 => IntKind.u64.wrap key
  | n + 1 => kk key n / 256
/-- the sum behind n bytes, in 32 bits -/
def hh (key : Int) : Nat → Int
  | 0 => 2166136261
  | n + 1 => bits .xor .u32 (hh key n) (bits .and .u64 (kk key n) 255 % 4294967296) * 16777619 % 4294967296
/-- the same, in 64 bits -/
def rr (key : Int) : Nat → Int
  | 0 => 2166136261
  | n + 1 => bits .xor .u64 (rr key n) (kk key n % 256) * 16777619 % 4294967296

theorem kk_bd (key : Int) (n : Nat) : 0 ≤ kk key n ∧ kk key n ≤ 18446744073709551615 := by
  induction n with
  | zero => rw [kk, IntKind.wrap_u64]; omega
  | succ n ih => rw [kk]; omega

theorem hh_bd (key : Int) (n : Nat) : 0 ≤ hh key n ∧ hh key n ≤ 4294967295 := by
  cases n with
  | zero => rw [hh]; omega
  | succ n => rw [hh]; omega

theorem bits_xor_32 (a b : Nat) (ha : a < 4294967296) (hb : b < 4294967296) : bits .xor .u32 (a : Int) (b : Int) = ((a ^^^ b : Nat) : Int) := by
  have hx : a ^^^ b < 2 ^ 32 := Nat.xor_lt_two_pow (by omega) (by omega)
  have h1 : (BitVec.ofInt 32 (a : Int)).toNat = a := by
    rw [BitVec.ofInt_natCast, BitVec.toNat_ofNat]; exact Nat.mod_eq_of_lt (by omega)
  have h2 : (BitVec.ofInt 32 (b : Int)).toNat = b := by
    rw [BitVec.ofInt_natCast, BitVec.toNat_ofNat]; exact Nat.mod_eq_of_lt (by omega)
  show IntKind.u32.wrap ((BitVec.ofInt 32 (a : Int) ^^^ BitVec.ofInt 32 (b : Int)).toNat : Int) = _
  rw [BitVec.toNat_xor, h1, h2]
  have e : ∀ n : Int, IntKind.u32.wrap n = n % 4294967296 := fun n => by simp [IntKind.wrap, IntKind.bits, IntKind.signed]
  rw [e]
  omega

theorem and_255 (a : Nat) (ha : a < 18446744073709551616) : bits .and .u64 (a : Int) 255 = ((a % 256 : Nat) : Int) := by
  have h := bits_and_u64_nat' a ha
  rw [h]
where
  bits_and_u64_nat' (a : Nat) (ha : a < 18446744073709551616) : bits .and .u64 (a : Int) 255 = ((a % 256 : Nat) : Int) := by
    have h1 : (BitVec.ofInt 64 (a : Int)).toNat = a := by
      rw [BitVec.ofInt_natCast, BitVec.toNat_ofNat]; exact Nat.mod_eq_of_lt (by omega)
    show IntKind.u64.wrap ((BitVec.ofInt 64 (a : Int) &&& BitVec.ofInt 64 (255 : Int)).toNat : Int) = _
    have h2 : (BitVec.ofInt 64 (255 : Int)).toNat = 2 ^ 8 - 1 := by decide
    rw [BitVec.toNat_and, h1, h2, Nat.and_two_pow_sub_one_eq_mod, IntKind.wrap_u64]
    omega

theorem rr_hh (key : Int) (n : Nat) : rr key n = hh key n := by
  induction n with
  | zero => rfl
  | succ n ih =>
    rw [rr, hh, ih]
    obtain ⟨h0, h1⟩ := hh_bd key n
    obtain ⟨k0, k1⟩ := kk_bd key n
    obtain ⟨a, ha⟩ := Int.eq_ofNat_of_zero_le h0
    obtain ⟨b, hb⟩ := Int.eq_ofNat_of_zero_le k0
    rw [ha, hb]
    have e1 : ((b : Int) % 256) = ((b % 256 : Nat) : Int) := by omega
    rw [and_255 b (by omega), e1]
    have e2 : (((b % 256 : Nat) : Int) % 4294967296) = ((b % 256 : Nat) : Int) := by omega
    rw [e2, bits_xor_u64_nat _ _ (by omega) (by omega), bits_xor_32 _ _ (by omega) (by omega)]

theorem xor_bd (key : Int) (n : Nat) : 0 ≤ bits .xor .u64 (hh key n) (kk key n % 256) ∧ bits .xor .u64 (hh key n) (kk key n % 256) ≤ 4294967295 := by
  obtain ⟨h0, h1⟩ := hh_bd key n
  obtain ⟨k0, k1⟩ := kk_bd key n
  obtain ⟨a, ha⟩ := Int.eq_ofNat_of_zero_le h0
  obtain ⟨b, hb⟩ := Int.eq_ofNat_of_zero_le k0
  rw [ha, hb]
  have e1 : ((b : Int) % 256) = ((b % 256 : Nat) : Int) := by omega
  rw [e1, bits_xor_u64_nat _ _ (by omega) (by omega)]
  have hx : a ^^^ (b % 256) < 2 ^ 32 := Nat.xor_lt_two_pow (by omega) (by omega)
  omega

/-- one round of the document's sum, as the walk has it -/
theorem rr_step (key : Int) (n : Nat) : (IntKind.u64.wrap (bits .xor .u64 (hh key n) (kk key n % 256) * 16777619)).tmod 4294967296 = hh key (n + 1) := by
  obtain ⟨x0, x1⟩ := xor_bd key n
  rw [← rr_hh key (n + 1), rr, rr_hh, IntKind.wrap_u64]
  generalize bits .xor .u64 (hh key n) (kk key n % 256) = x at *
  rw [Int.tmod_eq_emod_of_nonneg (by omega)]
  omega

/-- a key's group -/
def ofG (key groups : Int) : Int := if 1 ≤ groups ∧ groups ≤ 64 then hh key 8 % groups else 0
theorem ofG_yes {key groups : Int} (h : 1 ≤ groups) (h2 : groups ≤ 64) : ofG key groups = hh key 8 % groups := by rw [ofG, if_pos ⟨h, h2⟩]
theorem ofG_no {key groups : Int} (h : ¬ (1 ≤ groups ∧ groups ≤ 64)) : ofG key groups = 0 := by rw [ofG, if_neg h]
theorem ofG_bd {key groups : Int} (h : 1 ≤ groups) (h2 : groups ≤ 64) : 0 ≤ ofG key groups ∧ ofG key groups < groups := by
  rw [ofG_yes h h2]; exact ⟨Int.emod_nonneg _ (by omega), Int.emod_lt_of_pos _ (by omega)⟩
theorem ofG_one (key : Int) : ofG key 1 = 0 := by rw [ofG_yes (by omega) (by omega)]; omega

/-- may there be so many tasks, of so many groups? -/
def fit (par groups : Int) : Prop := 1 ≤ groups ∧ groups ≤ 64 ∧ 1 ≤ par ∧ par ≤ groups
instance (par groups : Int) : Decidable (fit par groups) := by unfold fit; infer_instance

/-- whose a group is -/
def ownerG (g par groups : Int) : Int := if fit par groups ∧ 0 ≤ g ∧ g < groups then g * par / groups else 0
/-- a task's first group -/
def firstG (task par groups : Int) : Int := (task * groups + par - 1) / par
def loG (task par groups : Int) : Int := if fit par groups ∧ 0 ≤ task ∧ task < par then firstG task par groups else 0
def hiG (task par groups : Int) : Int := if fit par groups ∧ 0 ≤ task ∧ task < par then firstG (task + 1) par groups else 0

theorem mul_bd {a b m n : Int} (h0 : 0 ≤ a) (h1 : a ≤ m) (k0 : 0 ≤ b) (k1 : b ≤ n) : 0 ≤ a * b ∧ a * b ≤ m * n :=
  ⟨Int.mul_nonneg h0 k0, Int.mul_le_mul h1 k1 k0 (by omega)⟩

theorem ownerG_yes {g par groups : Int} (h : fit par groups) (h0 : 0 ≤ g) (h1 : g < groups) : ownerG g par groups = g * par / groups := by
  rw [ownerG, if_pos ⟨h, h0, h1⟩]
theorem ownerG_no {g par groups : Int} (h : ¬ (fit par groups ∧ 0 ≤ g ∧ g < groups)) : ownerG g par groups = 0 := by rw [ownerG, if_neg h]

theorem ownerG_lt {g par groups : Int} (task : Int) (h : fit par groups) (h0 : 0 ≤ g) (h1 : g < groups) : ownerG g par groups < task ↔ g < firstG task par groups := by
  obtain ⟨a, b, c, d⟩ := h
  rw [ownerG_yes ⟨a, b, c, d⟩ h0 h1, Int.ediv_lt_iff_lt_mul (by omega), firstG]
  constructor
  · intro h; exact (Int.le_ediv_iff_mul_le (by omega)).2 (by rw [Int.add_mul]; omega)
  · intro h
    have := (Int.le_ediv_iff_mul_le (show (0:Int) < par by omega)).1 (show g + 1 ≤ _ from h)
    rw [Int.add_mul] at this; omega

theorem firstG_zero {par groups : Int} (h : fit par groups) : firstG 0 par groups = 0 := by
  obtain ⟨a, b, c, d⟩ := h
  rw [firstG]; exact Int.ediv_eq_zero_of_lt (by omega) (by omega)
theorem firstG_top {par groups : Int} (h : fit par groups) : firstG par par groups = groups := by
  obtain ⟨a, b, c, d⟩ := h
  rw [firstG]
  have : par * groups + par - 1 = (par - 1) + groups * par := by rw [Int.mul_comm]; omega
  rw [this, Int.add_mul_ediv_right _ _ (by omega), Int.ediv_eq_zero_of_lt (by omega) (by omega)]; omega

theorem firstG_step {par groups : Int} (task : Int) (h : fit par groups) :
    firstG task par groups + groups / par ≤ firstG (task + 1) par groups ∧ firstG (task + 1) par groups ≤ firstG task par groups + groups / par + 1 := by
  obtain ⟨a, b, c, d⟩ := h
  rw [firstG, firstG, Int.add_mul]
  have e := Int.mul_ediv_add_emod groups par
  have m0 := Int.emod_nonneg groups (show par ≠ 0 by omega)
  have m1 := Int.emod_lt_of_pos groups (show 0 < par by omega)
  generalize hq : groups / par = q at *
  generalize hr : groups % par = r at *
  have s : task * groups + 1 * groups + par - 1 = (task * groups + par - 1 + r) + q * par := by rw [Int.mul_comm q par]; omega
  rw [s, Int.add_mul_ediv_right _ _ (by omega)]
  generalize task * groups + par - 1 = X
  have e2 := Int.mul_ediv_add_emod X par
  have n0 := Int.emod_nonneg X (show par ≠ 0 by omega)
  have n1 := Int.emod_lt_of_pos X (show 0 < par by omega)
  have lo : X / par ≤ (X + r) / par := Int.ediv_le_ediv (by omega) (by omega)
  have hi : (X + r) / par ≤ X / par + 1 := by
    have : (X + r) / par < X / par + 2 := by
      rw [Int.ediv_lt_iff_lt_mul (by omega), Int.add_mul, Int.mul_comm (X / par) par]; omega
    omega
  omega

theorem share_pos {par groups : Int} (h : fit par groups) : 1 ≤ groups / par := by
  obtain ⟨a, b, c, d⟩ := h
  exact (Int.le_ediv_iff_mul_le (by omega)).2 (by omega)

theorem firstG_lt {par groups : Int} (task : Int) (h : fit par groups) : firstG task par groups < firstG (task + 1) par groups := by
  have := (firstG_step task h).1; have := share_pos h; omega

theorem firstG_mono {par groups : Int} (h : fit par groups) (t : Int) (n : Nat) : firstG t par groups + n ≤ firstG (t + n) par groups := by
  induction n with
  | zero => simp
  | succ n ih => have := firstG_lt (t + n) h; rw [show t + ((n + 1 : Nat) : Int) = t + n + 1 by omega]; omega

theorem firstG_bd {par groups : Int} {task : Int} (h : fit par groups) (h0 : 0 ≤ task) (h1 : task ≤ par) : 0 ≤ firstG task par groups ∧ firstG task par groups ≤ groups - (par - task) := by
  obtain ⟨n, hn⟩ := Int.eq_ofNat_of_zero_le h0
  obtain ⟨m, hm⟩ := Int.eq_ofNat_of_zero_le (show 0 ≤ par - task by omega)
  have a := firstG_mono h 0 n
  have b := firstG_mono h task m
  rw [firstG_zero h] at a
  rw [show task + (m : Int) = par by omega, firstG_top h] at b
  rw [show (0 : Int) + (n : Int) = task by omega] at a
  omega

/-- of a task's range each group, and no other one, is the task's -/
theorem owner_in {g task par groups : Int} (h : fit par groups) (h0 : 0 ≤ g) (h1 : g < groups) :
    ownerG g par groups = task ↔ firstG task par groups ≤ g ∧ g < firstG (task + 1) par groups := by
  have a := ownerG_lt task h h0 h1
  have b := ownerG_lt (task + 1) h h0 h1
  omega

theorem ownerG_bd (g par groups : Int) : 0 ≤ ownerG g par groups ∧ ownerG g par groups ≤ 63 := by
  by_cases h : fit par groups ∧ 0 ≤ g ∧ g < groups
  · obtain ⟨h, h0, h1⟩ := h
    obtain ⟨a, b, c, d⟩ := h
    rw [ownerG_yes ⟨a, b, c, d⟩ h0 h1]
    refine ⟨Int.ediv_nonneg (Int.mul_nonneg h0 (by omega)) (by omega), ?_⟩
    have : g * par / groups < 64 := by
      rw [Int.ediv_lt_iff_lt_mul (by omega)]
      exact Int.lt_of_lt_of_le (Int.mul_lt_mul_of_pos_right h1 (by omega)) (by rw [Int.mul_comm]; exact Int.mul_le_mul_of_nonneg_right (by omega) (by omega))
    omega
  · rw [ownerG_no h]; omega

theorem ownerG_par {g par groups : Int} (h : fit par groups) (h0 : 0 ≤ g) (h1 : g < groups) : ownerG g par groups < par := by
  have := ownerG_lt par h h0 h1
  rw [firstG_top h] at this; omega

theorem loG_bd (t par groups : Int) : 0 ≤ loG t par groups ∧ loG t par groups ≤ 64 := by
  unfold loG; split
  · rename_i h; obtain ⟨h, a, b⟩ := h; have := firstG_bd h a (Int.le_of_lt b); obtain ⟨p, q, r, s⟩ := h; omega
  · omega
theorem hiG_bd (t par groups : Int) : 0 ≤ hiG t par groups ∧ hiG t par groups ≤ 64 := by
  unfold hiG; split
  · rename_i h; obtain ⟨h, a, b⟩ := h; have := @firstG_bd par groups (t + 1) h (by omega) (by omega); obtain ⟨p, q, r, s⟩ := h; omega
  · omega

theorem firstG_le {par groups : Int} (h : fit par groups) {s t : Int} (hst : s ≤ t) : firstG s par groups ≤ firstG t par groups := by
  obtain ⟨m, hm⟩ := Int.eq_ofNat_of_zero_le (show 0 ≤ t - s by omega)
  have b := firstG_mono h s m
  rw [show s + (m : Int) = t by omega] at b; omega

theorem owner_rises {g par groups : Int} (h : fit par groups) (h0 : 0 ≤ g) (h1 : g + 1 < groups) :
    ownerG g par groups ≤ ownerG (g + 1) par groups ∧ ownerG (g + 1) par groups ≤ ownerG g par groups + 1 := by
  rw [ownerG_yes h h0 (by omega), ownerG_yes h (by omega) h1]
  obtain ⟨a, b, c, d⟩ := h
  rw [Int.add_mul]
  refine ⟨Int.ediv_le_ediv (by omega) (by omega), ?_⟩
  have : (g * par + 1 * groups) / groups = g * par / groups + 1 := Int.add_mul_ediv_right _ _ (by omega)
  rw [← this]
  exact Int.ediv_le_ediv (by omega) (by omega)

theorem owner_more {g par groups : Int} (h : fit par groups) (_hp : par < groups) (h0 : 0 ≤ g) (h1 : g < groups) :
    ownerG g par groups ≤ ownerG g (par + 1) groups := by
  obtain ⟨a, b, c, d⟩ := h
  rw [ownerG_yes ⟨a, b, c, d⟩ h0 h1, ownerG_yes ⟨a, b, by omega, by omega⟩ h0 h1]
  rw [Int.mul_add]
  exact Int.ediv_le_ediv (by omega) (by omega)

theorem owner_last {par groups : Int} (h : fit par groups) : ownerG (groups - 1) par groups = par - 1 := by
  have a := h
  obtain ⟨a1, a2, a3, a4⟩ := a
  have x := ownerG_lt (par - 1) h (show 0 ≤ groups - 1 by omega) (by omega)
  have y := ownerG_par h (show 0 ≤ groups - 1 by omega) (by omega)
  have z := firstG_lt (par - 1) h
  rw [show par - 1 + 1 = par by omega, firstG_top h] at z
  omega

theorem owner_zero {par groups : Int} (h : fit par groups) : ownerG 0 par groups = 0 := by
  rw [ownerG_yes h (by omega) (by obtain ⟨a, _⟩ := h; omega)]; simp

theorem first_twice {par groups : Int} (t : Int) (_hp : 1 ≤ par) : firstG (2 * t) (2 * par) groups = firstG t par groups := by
  rw [firstG, firstG]
  rw [show 2 * t * groups + 2 * par - 1 = 2 * (t * groups + par - 1) + 1 by rw [Int.mul_assoc]; omega]
  generalize t * groups + par - 1 = X
  rw [← Int.ediv_ediv_of_nonneg (show (0 : Int) ≤ 2 by omega)]
  congr 1; omega

theorem owner_twice {g par groups : Int} (h : fit par groups) (h2 : fit (2 * par) groups) (h0 : 0 ≤ g) (h1 : g < groups) :
    ownerG g (2 * par) groups / 2 = ownerG g par groups := by
  rw [ownerG_yes h2 h0 h1, ownerG_yes h h0 h1]
  obtain ⟨a, b, c, d⟩ := h
  rw [Int.ediv_ediv_of_nonneg (by omega), show g * (2 * par) = (g * par) * 2 by rw [Int.mul_comm 2 par, Int.mul_assoc], Int.mul_ediv_mul_of_pos_left _ _ (by omega)]
end Go.Proofs.Ytlhjhjkfnmeapaa.Gr
