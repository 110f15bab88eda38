/- The questions of the policy's laws, opened to cells; Pick and May. -/
import Derived.Test.YtaogkbhmmkdigaaPoL
import Derived.Test.YtaogkbhmmkdigaaOpen
namespace Go.Proofs.Ytaogkbhmmkdigaa.Po
open Go.ChangeShapes Go.WideShapes Go.ChangeAt Go.RowKit M Go.Deep

/-- a question -/
structure Ask where
  now : Int
  cur : SL
  tgt : SL
  no : Int
  idle : Bool
instance : Inhabited Ask := ⟨⟨0, default, default, 0, false⟩⟩
def Ask.cell (a : Ask) : Nat → Value
  | 0 => .int .i64 a.now
  | 1 => .slice a.cur.A a.cur.xs.length a.cur.c
  | 2 => .slice a.tgt.A a.tgt.xs.length a.tgt.c
  | 3 => .int .i64 a.no
  | _ => .bool a.idle

/-- n questions lie in memory -/
def Asks (w : World) (B : Nat) (A : Option Addr) (n : Nat) (g : Nat → Ask) : Prop :=
  Lies w B 5 A n (fun i j => (g i).cell j) ∧ ∀ i, i < n → In64 (g i).now ∧ In64 (g i).no ∧ IsInts w B (g i).cur ∧ IsInts w B (g i).tgt

theorem Asks.below {w w' : World} {B : Nat} {A : Option Addr} {n : Nat} {g : Nat → Ask} (h : Asks w B A n g) (hb : Below B w w') : Asks w' B A n g :=
  ⟨h.1.below hb, fun i hi => ⟨(h.2 i hi).1, (h.2 i hi).2.1, (h.2 i hi).2.2.1.below hb, (h.2 i hi).2.2.2.below hb⟩⟩

theorem open_asks {H : Type} {enc : TypeId × Value → H} {w : World} {base : Nat} {spare : Nat → Bool} {held : Bool} {v : Value} {d : DataW H} {p : List MemPlace}
    (hok : Value.okWide Try.prog w .any base 22 v) (h : DataW.Trod enc Try.prog w 0 spare held 22 v d p) :
    ∃ A n c g, v = .slice A n c ∧ n ≤ c ∧ c ≤ maxLen ∧ Asks w w.heap.size A n g := by
  obtain ⟨a0, len0, cap0, rfl⟩ := okWide_slice Try.underlying22 hok
  obtain ⟨fuel, hf⟩ := h
  obtain ⟨A, n, c, f, hcs, hn, hc, hl, he⟩ := open_elems (k := 5) Try.underlying22 (by kernel_rfl) (by omega) (by simpa [Value.cells] using hf)
  have hex : ∀ i, i < n → ∃ a : Ask, (∀ j, j < 5 → f i j = a.cell j) ∧ In64 a.now ∧ In64 a.no ∧ IsInts w w.heap.size a.cur ∧ IsInts w w.heap.size a.tgt := by
    intro i hi
    obtain ⟨y, m, hy⟩ := he i hi
    have hu := Try.underlying28
    obtain ⟨z0, e0, b0⟩ := field_int hu hy (i := 0) rfl (by kernel_rfl) Try.underlying3 (v := f i 0) rfl
    obtain ⟨s1, e1, b1⟩ := field_sl hu hy (i := 1) rfl (by kernel_rfl) Try.underlying26 Try.underlying3 (by kernel_rfl) (v := f i 1) rfl
    obtain ⟨s2, e2, b2⟩ := field_sl hu hy (i := 2) rfl (by kernel_rfl) Try.underlying26 Try.underlying3 (by kernel_rfl) (v := f i 2) rfl
    obtain ⟨z3, e3, b3⟩ := field_int hu hy (i := 3) rfl (by kernel_rfl) Try.underlying3 (v := f i 3) rfl
    obtain ⟨z4, e4⟩ := field_bool hu hy (i := 4) rfl (by kernel_rfl) Try.underlying4 (v := f i 4) rfl
    refine ⟨⟨z0, s1, s2, z3, z4⟩, fun j hj => ?_, b0, b3, b1, b2⟩
    rcases j with _ | _ | _ | _ | _ | j
    · exact e0
    · exact e1
    · exact e2
    · exact e3
    · exact e4
    · omega
  obtain ⟨g, hg⟩ := choose_lt hex
  refine ⟨A, n, c, g, by simpa using hcs, hn, hc, hl.congr fun i hi j hj => (hg i hi).1 j hj, fun i hi => ⟨(hg i hi).2.1, (hg i hi).2.2.1, (hg i hi).2.2.2.1, (hg i hi).2.2.2.2⟩⟩

theorem ret_int {k : IntKind} {a b : Int} (h : a = b) : Ending.returned (.int k a) = .returned (.int k b) := by rw [h]

/-- a number from 0 to n - 1 by any number -/
def pickF (k n : Int) : Int := if n < 1 then 0 else k % n
theorem pickF_pos {k n : Int} (h : 1 ≤ n) : pickF k n = k % n := if_neg (by omega)
theorem pickF_bd {k n : Int} (h : 1 ≤ n) : 0 ≤ pickF k n ∧ pickF k n < n := by
  rw [pickF_pos h]; exact ⟨Int.emod_nonneg _ (by omega), Int.emod_lt_of_pos _ (by omega)⟩
theorem tmod_neg {k n : Int} (hk : k < 0) (hn : 1 ≤ n) : (k.tmod n < 0 ∧ k.tmod n + n = k % n) ∨ (k.tmod n = 0 ∧ k % n = 0) := by
  have e : k.tmod n = -((-k) % n) := by
    rw [show k = -(-k) by omega, Int.neg_tmod, Int.tmod_eq_emod_of_nonneg (by omega)]; simp
  have b0 := Int.emod_nonneg (-k) (show n ≠ 0 by omega)
  have b1 := Int.emod_lt_of_pos (-k) (show 0 < n by omega)
  have d := Int.mul_ediv_add_emod (-k) n
  by_cases h : (-k) % n = 0
  · right
    refine ⟨by omega, ?_⟩
    have : n ∣ k := by have := Int.dvd_of_emod_eq_zero h; exact (Int.dvd_neg).1 this
    exact Int.emod_eq_zero_of_dvd this
  · left
    refine ⟨by omega, ?_⟩
    rw [e]
    have : k = (n - (-k) % n) + n * (-((-k) / n) - 1) := by rw [Int.mul_sub, Int.mul_neg]; omega
    generalize hr : (-k) % n = r at *
    generalize (-k) / n = q at *
    rw [this, Int.add_mul_emod_self_left, Int.emod_eq_of_lt (by omega) (by omega)]; omega

theorem pick_any (k n : Int) (w : World) (hn : In64 n) (hk : In64 k) :
    Calls Try.prog 6 #[.int .i64 k, .int .i64 n] w fun e w' => e = .returned (.int .i64 (pickF k n)) ∧ w = w' := by
  unfold In64 at hn hk
  by_cases h : n < 1
  · have E := Lib.hid (show pickF k n = 0 from if_pos h)
    go_enter Try.func6, Try.ntmps6
    go_wp2
    go_returns
    exact ⟨ret_int E.out.symm, rfl⟩
  · have hn1 : 1 ≤ n := by omega
    have E := Lib.hid (pickF_pos (k := k) hn1)
    have hb := pickF_bd (k := k) hn1
    rw [E.out] at hb
    by_cases hk0 : 0 ≤ k
    · go_enter Try.func6, Try.ntmps6
      go_wp2
      go_returns
      exact ⟨ret_int E.out.symm, rfl⟩
    · rcases tmod_neg (k := k) (by omega) hn1 with ⟨ht, he⟩ | ⟨ht, he⟩
      · have HE := Lib.hid he
        have ht2 : k.tmod n + n ≤ 9223372036854775807 := by omega
        have ht3 : -9223372036854775808 ≤ k.tmod n := by omega
        clear he hb
        go_enter Try.func6, Try.ntmps6
        go_wp2
        go_returns
        exact ⟨ret_int (by rw [E.out, ← HE.out]), rfl⟩
      · have HE := Lib.hid he
        have ht2 : ¬ k.tmod n < 0 := by omega
        have ht3 : k.tmod n ≤ 0 := by omega
        have HT := Lib.hid ht
        clear he hb ht
        go_enter Try.func6, Try.ntmps6
        go_wp2
        go_returns
        exact ⟨ret_int (by rw [E.out, HE.out, HT.out]), rfl⟩
end Go.Proofs.Ytaogkbhmmkdigaa.Po
