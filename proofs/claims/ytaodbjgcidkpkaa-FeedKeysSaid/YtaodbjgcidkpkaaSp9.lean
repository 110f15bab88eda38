/- Jobs: roots, as the program has them: bits. -/
import Derived.Test.YtaodbjgcidkpkaaSp8
import Derived.Test.YtaodbjgcidkpkaaSp3
import Derived.Laws.EntriesVeiled
namespace Go.Proofs.Ytaodbjgcidkpkaa.Sp
open Go.ChangeShapes Go.WideShapes Go.ChangeAt Go.RowKit M

def bitsN : Nat → List OpP → Nat → Nat
  | 0, l, i => if kindOf l i = 1 then 2 ^ i else 0
  | f + 1, l, i => if kindOf l i = 1 then 2 ^ i else (insOf l i).foldl (fun z x => z ||| bitsN f l x.toNat) 0

theorem bitsN_src {f i : Nat} {l : List OpP} (h : kindOf l i = 1) : bitsN f l i = 2 ^ i := by cases f <;> (rw [bitsN, if_pos h])
theorem bitsN_op {l : List OpP} {rank : Nat → Nat} (hr : Ranked l rank) {f i : Nat} (hi : i < l.length) (hf : rank i ≤ f) (h : ¬ kindOf l i = 1) : bitsN f l i = (insOf l i).foldl (fun z x => z ||| bitsN (f - 1) l x.toNat) 0 := by
  cases f with
  | succ f => rw [bitsN, if_neg h]; rfl
  | zero =>
    have : insOf l i = [] := by
      apply List.eq_nil_iff_forall_not_mem.2
      intro x hx
      obtain ⟨j, -, -, h⟩ := (hr i hi).2 x hx
      omega
    rw [bitsN, if_neg h, this]; rfl
theorem foldl_or_lt {F : Int → Nat} {N : Nat} (xs : List Int) (z : Nat) (hz : z < 2 ^ N) (h : ∀ x ∈ xs, F x < 2 ^ N) : xs.foldl (fun z x => z ||| F x) z < 2 ^ N := by
  induction xs generalizing z with
  | nil => exact hz
  | cons y ys ih => exact ih _ (Nat.or_lt_two_pow hz (h y (by simp))) fun x hx => h x (by simp [hx])
theorem bitsN_lt {l : List OpP} {rank : Nat → Nat} (hr : Ranked l rank) (f : Nat) : ∀ i, i < l.length → rank i ≤ f → bitsN f l i < 2 ^ l.length := by
  induction f with
  | zero =>
    intro i hi hf
    by_cases h : kindOf l i = 1
    · rw [bitsN_src h]; exact Nat.pow_lt_pow_right (by omega) hi
    · rw [bitsN, if_neg h]; exact Nat.two_pow_pos _
  | succ f ih =>
    intro i hi hf
    by_cases h : kindOf l i = 1
    · rw [bitsN_src h]; exact Nat.pow_lt_pow_right (by omega) hi
    · rw [bitsN_op hr hi hf h]
      refine foldl_or_lt _ _ (Nat.two_pow_pos _) fun x hx => ?_
      obtain ⟨j, rfl, hj, hrj⟩ := (hr i hi).2 x hx
      exact ih j hj (by omega)
theorem pow_le_12 {n i : Nat} (hn : n ≤ 12) (h : i < n) : (2 : Nat) ^ i ≤ 2048 := by
  have : (2 : Nat) ^ i ≤ 2 ^ 11 := Nat.pow_le_pow_right (by omega) (by omega)
  exact this
theorem lt_12 {n z : Nat} (hn : n ≤ 12) (h : z < 2 ^ n) : z < 4096 := Nat.lt_of_lt_of_le h (Nat.pow_le_pow_right (by omega) hn)
theorem orTake {xs : List Int} {F : Int → Nat} {k : Nat} {v : Int} (hk : k < xs.length) (hv : xs.getD k 0 = v) : (xs.take (k + 1)).foldl (fun z x => z ||| F x) 0 = (xs.take k).foldl (fun z x => z ||| F x) 0 ||| F v := by
  rw [List.take_add_one, List.getElem?_eq_getElem hk]
  have : xs[k] = v := by rw [← hv, List.getD_eq_getElem?_getD, List.getElem?_eq_getElem hk]; rfl
  rw [this]; simp [List.foldl_append]

set_option maxHeartbeats 2000000 in
theorem bits_step (_g : Int) (A : Option Addr) (c : Nat) (l : List OpP) (p : Nat → Option Addr × Nat) (rank : Nat → Nat) (hr : Ranked l rank) (hl : l.length ≤ 12) (f q q5 : Nat) (w : World) (B : Nat) (h : IsOps w B A l p)
    (hq0 : w.cell? ⟨q, 1, none⟩ = some (.slice A l.length c)) (hq5 : w.cell? ⟨q5, 0, none⟩ = some (.func (.func 75) #[] #[.pointer (some ⟨q, 0, none⟩), .pointer (some ⟨q5, 0, none⟩)]))
    (ih : ∀ (i : Nat), i < l.length → rank i + 1 ≤ f → Calls Try.prog 75 #[.int .i64 i, .pointer (some ⟨q, 0, none⟩), .pointer (some ⟨q5, 0, none⟩)] w fun e w' => e = .returned (.int .u64 (bitsN (f - 1) l i)) ∧ w = w')
    (i : Nat) (hi : i < l.length) (hf : rank i ≤ f) :
    Calls Try.prog 75 #[.int .i64 i, .pointer (some ⟨q, 0, none⟩), .pointer (some ⟨q5, 0, none⟩)] w fun e w' => e = .returned (.int .u64 (bitsN f l i)) ∧ w = w' := by
  obtain ⟨b, o, rfl, hb, c0, c1, -, -, -, -, -, -, -, hin⟩ := h.at_ hi
  have HI := Lib.hid hin
  have hlen : (insOf l i).length ≤ 9223372036854775807 := by have := hin.2.1; have := hin.2.2.1; unfold maxLen at this; simp only at *; omega
  have IH := Lib.hid ih
  have ESRC := Lib.hid (fun h => bitsN_src (f := f) (i := i) (l := l) h)
  have EOP := Lib.hid (fun h => bitsN_op hr hi hf h)
  have HIN := Lib.hid ((hr i hi).2)
  have HLT := Lib.hid (fun j hj (h : rank j ≤ f - 1) => lt_12 hl (bitsN_lt hr (f - 1) j hj h))
  clear h hin ih
  generalize p i = a at *
  obtain ⟨pa, pc⟩ := a
  simp only at c1 HI
  generalize insOf l i = xs at *
  cases e0 : (kindOf l i == 1) with
  | true =>
    have E := Lib.hid (ESRC.out (by simpa using e0))
    have hw : IntKind.u64.wrap (2 ^ i) = ((2 ^ i : Nat) : Int) := by
      have := pow_le_12 hl hi
      rw [IntKind.wrap_u64, show ((2 : Int) ^ i) = ((2 ^ i : Nat) : Int) by simp]
      generalize (2 ^ i : Nat) = z at *
      omega
    have HW := Lib.hid hw
    clear hw ESRC EOP
    generalize kindOf l i = kd at *
    go_enter Try.func75, Try.ntmps75
    go_wp2_with fail
    go_returns
    exact ⟨by rw [E.out, HW.out]; rfl, rfl⟩
  | false =>
    have E := Lib.hid (EOP.out (by simpa using e0))
    clear ESRC EOP
    generalize kindOf l i = kd at *
    go_enter Try.func75, Try.ntmps75
    go_wp2_with fail
    go_loop [4, 23] (fun z q => ∃ (k y : Nat), k ≤ xs.length ∧ q = .int .i64 k ∧ z = .int .u64 y ∧ y < 4096 ∧ Hid (y = (xs.take k).foldl (fun z x => z ||| bitsN (f - 1) l x.toNat) 0)) (fun _ q => xs.length - (intOf q).toNat)
    case atStart => exact ⟨0, 0, by omega, rfl, rfl, by omega, Lib.hid rfl⟩
    case round =>
      obtain ⟨k, y, hk, rfl, rfl, hy, HY⟩ := hrel
      by_cases hlt : k < xs.length
      · obtain ⟨b2, o2, v, rfl, hb2, HV, -, hc⟩ := ints_at HI.out hlt
        obtain ⟨j, rfl, hj, hrj⟩ := HIN.out v (by rw [← HV.out]; exact getD_mem hlt)
        have HC := Lib.hid (IH.out j hj (by omega))
        have hu := HLT.out j hj (by omega)
        have ET := Lib.hid (orTake (F := fun x => bitsN (f - 1) l x.toNat) hlt HV.out)
        simp only [Int.toNat_natCast] at ET
        generalize bitsN (f - 1) l j = u at *
        have EB : Hid (bits .or .u64 (y : Int) (u : Int) = ((y ||| u : Nat) : Int)) := bits_or_u64_nat y u (by omega) (by omega)
        have hyu : y ||| u < 4096 := Nat.or_lt_two_pow (n := 12) hy hu
        go_wp2_with (go_at_call 75; refine HC.out.mono ?_; rintro e w' ⟨rfl, rfl⟩)
        go_round
        case rel => exact ⟨k + 1, y ||| u, by omega, by go_num, by rw [EB.out], hyu, by show y ||| u = _; rw [ET.out, HY.out]⟩
        case measure => simp [intOf]; omega
      · obtain rfl : k = xs.length := by omega
        go_wp2
        go_returns
        exact ⟨by rw [E.out, HY.out, List.take_length]; rfl, rfl⟩

theorem bits_any (g : Int) (A : Option Addr) (c : Nat) (l : List OpP) (p : Nat → Option Addr × Nat) (rank : Nat → Nat) (hr : Ranked l rank) (hl : l.length ≤ 12) (q q5 : Nat) (w : World) (B : Nat) (h : IsOps w B A l p)
    (hq0 : w.cell? ⟨q, 1, none⟩ = some (.slice A l.length c)) (hq5 : w.cell? ⟨q5, 0, none⟩ = some (.func (.func 75) #[] #[.pointer (some ⟨q, 0, none⟩), .pointer (some ⟨q5, 0, none⟩)])) (f : Nat) :
    ∀ (i : Nat), i < l.length → rank i ≤ f → Calls Try.prog 75 #[.int .i64 i, .pointer (some ⟨q, 0, none⟩), .pointer (some ⟨q5, 0, none⟩)] w fun e w' => e = .returned (.int .u64 (bitsN f l i)) ∧ w = w' := by
  induction f with
  | zero => intro i hi hf; exact bits_step g A c l p rank hr hl 0 q q5 w B h hq0 hq5 (fun i _ h => absurd h (by omega)) i hi hf
  | succ f ih => intro i hi hf; exact bits_step g A c l p rank hr hl (f + 1) q q5 w B h hq0 hq5 (fun i hi hf => ih i hi (by omega)) i hi hf

theorem pRoots_any (g : Int) (A : Option Addr) (c : Nat) (l : List OpP) (p : Nat → Option Addr × Nat) (rank : Nat → Nat) (hr : Ranked l rank) (hl : l.length ≤ 12) (i : Nat) (hi : i < l.length) (w : World) (B : Nat) (hB : B ≤ w.heap.size) (h : IsOps w B A l p) :
    Calls Try.prog 52 #[.agg #[.int .i64 g, .slice A l.length c], .int .i64 i] w fun e w' => e = .returned (.int .u64 (bitsN l.length l i)) ∧ Below w.heap.size w w' := by
  have HC : Hid (∀ w0, Below w.heap.size w w0 → w0.cell? ⟨w.heap.size, 1, none⟩ = some (.slice A l.length c) → w0.cell? ⟨w.heap.size + 1, 0, none⟩ = some (.func (.func 75) #[] #[.pointer (some ⟨w.heap.size, 0, none⟩), .pointer (some ⟨w.heap.size + 1, 0, none⟩)]) →
    Calls Try.prog 75 #[.int .i64 i, .pointer (some ⟨w.heap.size, 0, none⟩), .pointer (some ⟨w.heap.size + 1, 0, none⟩)] w0 fun e w' => e = .returned (.int .u64 (bitsN l.length l i)) ∧ w0 = w') := fun w0 h0 h1 h2 =>
    bits_any g A c l p rank hr hl w.heap.size (w.heap.size + 1) w0 B (h.below (h0.mono hB)) h1 h2 l.length i hi (Nat.le_of_lt (hr i hi).1)
  clear h
  go_enter Try.func52, Try.ntmps52
  go_wp2_with fail
  refine (HC.out _ (((Below.refl _ _).alloc (Nat.le_refl _) _).alloc (by simp) _) (by go_simp) (by go_simp)).mono ?_
  rintro e w' ⟨rfl, rfl⟩
  go_wp2_with fail
  go_returns
  exact ⟨rfl, ((Below.refl _ _).alloc (Nat.le_refl _) _).alloc (by simp) _⟩

/-- the bits of a number, as a list -/
def bitsL (u n : Nat) : List Int := whichF (fun j => u.testBit j) n
theorem whichF_more {f : Nat → Bool} {k m : Nat} (h : ∀ j, k ≤ j → f j = false) (hm : k ≤ m) : whichF f m = whichF f k := by
  induction m with
  | zero => have : k = 0 := by omega
            rw [this]
  | succ m ih =>
    rcases (show k ≤ m ∨ k = m + 1 by omega) with h1 | rfl
    · rw [whichF_no (h m h1), ih h1]
    · rfl
theorem bitsL_same {u n k : Nat} (hn : u < 2 ^ n) (hk : u < 2 ^ k) : bitsL u n = bitsL u k := by
  have hz : ∀ m, u < 2 ^ m → ∀ j, m ≤ j → u.testBit j = false := fun m hm j hj => Nat.testBit_lt_two_pow (Nat.lt_of_lt_of_le hm (Nat.pow_le_pow_right (by omega) hj))
  unfold bitsL
  rcases Nat.le_total n k with h | h
  · rw [whichF_more (hz n hn) h]
  · rw [whichF_more (hz k hk) h]
theorem shr_zero {u k : Nat} (h : u / 2 ^ k = 0) : u < 2 ^ k := by
  rcases Nat.lt_or_ge u (2 ^ k) with h1 | h1
  · exact h1
  · have := Nat.div_pos h1 (Nat.two_pow_pos k); omega
theorem shr_bit (u k : Nat) : u.testBit k = decide (u / 2 ^ k % 2 = 1) := by
  rw [Nat.testBit_eq_decide_div_mod_eq]

theorem shr_cast (u k : Nat) : (u : Int) / 2 ^ k = ((u / 2 ^ k : Nat) : Int) := by simp
theorem shr_ne {u k : Nat} (h : u / 2 ^ k ≠ 0) : ((u : Int) / 2 ^ k != 0) = true := by
  rw [shr_cast]; generalize u / 2 ^ k = m at *; simp; omega
theorem shr_eq {u k : Nat} (h : u / 2 ^ k = 0) : ((u : Int) / 2 ^ k != 0) = false := by rw [shr_cast, h]; rfl
theorem shr_and {u k : Nat} (hu : u < 4096) : (bits .and .u64 ((u : Int) / 2 ^ k) 1 == 1) = u.testBit k := by
  have hle : u / 2 ^ k ≤ u := Nat.div_le_self _ _
  rw [shr_cast, show (1 : Int) = ((1 : Nat) : Int) from rfl, bits_and_u64_nat _ _ (by omega) (by omega), Nat.and_one_is_mod, shr_bit]
  generalize u / 2 ^ k % 2 = m
  rw [Bool.eq_iff_iff]; simp; omega

set_option maxHeartbeats 2000000 in
theorem roots_any (g : Int) (A : Option Addr) (c : Nat) (l : List OpP) (p : Nat → Option Addr × Nat) (rank : Nat → Nat) (hr : Ranked l rank) (hl : l.length ≤ 12) (i : Nat) (hi : i < l.length) (w : World) (B : Nat) (hB : B ≤ w.heap.size) (h : IsOps w B A l p) :
    Calls Try.prog 15 #[.agg #[.int .i64 g, .slice A l.length c], .int .i64 i] w (RetInts w (bitsL (bitsN l.length l i) l.length)) := by
  have HC := Lib.hid (pRoots_any g A c l p rank hr hl i hi (w.alloc (.cells #[.int .i64 g, .slice A l.length c] 24)) B (by simp; omega) (h.alloc hB _))
  have hlt := bitsN_lt hr l.length i hi (Nat.le_of_lt (hr i hi).1)
  have hu := lt_12 hl hlt
  have HL := Lib.hid hlt
  clear h hlt
  generalize bitsN l.length l i = u at *
  have EB : Hid (btw (i : Int) 0 ((l.length : Int) - 1) = true) := btw_yes (by omega) (by omega)
  go_enter Try.func15, Try.ntmps15
  go_wp2_with (go_at_call 51; refine (between_any _ _ _ _).mono ?_; rw [EB.out]; rintro e w' ⟨rfl, rfl⟩)
  refine HC.out.mono ?_
  rintro e w1 ⟨rfl, hb1⟩
  have HB1 := Lib.hid hb1
  clear hb1
  go_wp2_with fail
  go_loopw [5, 6] (fun v q wr => ∃ k : Nat, k ≤ 12 ∧ q = .int .i64 k ∧ OwnI wr w1.heap.size v (bitsL u k) ∧ Below w1.heap.size w1 wr) (fun _ q _ => 12 - (intOf q).toNat)
  case atStart => exact ⟨0, by omega, rfl, OwnI.nil _ _, Below.refl _ _⟩
  case round =>
    obtain ⟨k, hk, rfl, hown, hbl⟩ := hrel
    have HB := Lib.hid hbl
    have HOW := Lib.hid hown
    clear hown hbl
    have hsz : w1.heap.size ≤ wr.heap.size := HB.out.size
    by_cases h0 : u / 2 ^ k = 0
    · have E := Lib.hid (bitsL_same HL.out (shr_zero h0))
      have ht := shr_eq h0
      clear h0
      go_wp2_with fail
      go_returns
      refine ret_ints ?_ ?_
      · rw [E.out]; exact HOW.out.mono (by have := HB1.out.size; simp at this; omega)
      · exact through (through ((Below.refl _ _).alloc (Nat.le_refl _) _) (Nat.le_refl _) HB1.out) (by have := HB1.out.size; simp at this; omega) HB.out
    · have ht := shr_ne h0
      have hk12 : k < 12 := by
        rcases (show k < 12 ∨ k = 12 by omega) with h | rfl
        · exact h
        · exact absurd (Nat.div_eq_of_lt (show u < 2 ^ 12 from hu)) h0
      have hb := shr_and (u := u) (k := k) hu
      have hle : (bitsL u k).length ≤ k := whichF_len _ _
      have EY : Hid (u.testBit k = true → bitsL u (k + 1) = bitsL u k ++ [(k : Int)]) := fun h => whichF_yes h
      have EN : Hid (u.testBit k = false → bitsL u (k + 1) = bitsL u k) := fun h => whichF_no h
      clear h0
      cases ez : u.testBit k with
      | true =>
        rw [ez] at hb
        have EW := Lib.hid (EY.out ez)
        have HU := Lib.hid (show In64 (k : Int) by unfold In64; omega)
        have HLn := Lib.hid (show (bitsL u k).length < 1000000000 by omega)
        have HZ := Lib.hid hsz
        clear ez EY EN
        go_wp2_with (at_builtin; refine app_new rfl _ _ rfl w1.heap.size HOW.out rfl HU.out rfl HLn.out HZ.out ?_)
        intro v' w2 hown2 hgr
        have HO2 := Lib.hid hown2
        have HB2 := Lib.hid (HB.out.trans hgr)
        clear hown2 hgr
        go_wp2
        go_roundw
        case rel => exact ⟨k + 1, by omega, by go_num, by rw [EW.out]; exact HO2.out, HB2.out⟩
        case measure => simp [intOf]; omega
      | false =>
        rw [ez] at hb
        have EW := Lib.hid (EN.out ez)
        clear ez EY EN
        go_wp2_with fail
        go_roundw
        case rel => exact ⟨k + 1, by omega, by go_num, by rw [EW.out]; exact HOW.out, HB.out⟩
        case measure => simp [intOf]; omega
end Go.Proofs.Ytaodbjgcidkpkaa.Sp
