/- Jobs: what comes of what, as the document has it. Jobs: roots, as the program has them: bits. Jobs: roots, as the document has them; what has no roots. Jobs: have no two inputs of an operator a root in common: as the document has it. Jobs, in plain Lean: what follows where nothing is wrong so far; roots as bits and as lists. Jobs, in plain Lean: roots as bits, and as a list. -/
import Derived.Test.YtaodbjgcidkpkaaZg
import Derived.Deep.RegionHeld3
import Derived.Test.YtaodbjgcidkpkaaZf
import Derived.Laws.EntriesVeiled

namespace Go.Proofs.Ytaodbjgcidkpkaa.Sp
open Go.ChangeShapes Go.WideShapes Go.ChangeAt Go.RowKit M

theorem of_drew {w w1 : World} (h : Below w.drew.heap.size w.drew w1) : Below w.heap.size w w1 := ⟨h.os, h.tape, h.output, h.size, h.block⟩

/-- inputs are lesser, by a rank -/
def Ranked (l : List OpP) (rank : Nat → Nat) : Prop := ∀ i, i < l.length → rank i < l.length ∧ ∀ x ∈ insOf l i, ∃ j : Nat, x = j ∧ j < l.length ∧ rank j < rank i

theorem comesF_of {l : List OpP} {rank : Nat → Nat} (hr : Ranked l rank) {f i : Nat} (hi : i < l.length) (hf : rank i ≤ f) (r : Int) :
    comesF f l i r = ((i : Int) == r || (insOf l i).any fun x => comesF (f - 1) l x.toNat r) := by
  cases f with
  | succ f => rfl
  | zero =>
    have : insOf l i = [] := by
      apply List.eq_nil_iff_forall_not_mem.2
      intro x hx
      obtain ⟨j, -, -, h⟩ := (hr i hi).2 x hx
      omega
    rw [this]; simp [comesF]
theorem comes_yes {l : List OpP} {rank : Nat → Nat} (hr : Ranked l rank) {f i : Nat} (hi : i < l.length) (hf : rank i ≤ f) {r : Int} {k : Nat} {v : Int} (hk : k < (insOf l i).length) (hv : (insOf l i).getD k 0 = v) (h : comesF (f - 1) l v.toNat r = true) : comesF f l i r = true := by
  rw [comesF_of hr hi hf]
  have : ((insOf l i).any fun x => comesF (f - 1) l x.toNat r) = true := List.any_eq_true.2 ⟨v, hv ▸ getD_mem hk, h⟩
  rw [this]; simp
theorem comes_no {l : List OpP} {rank : Nat → Nat} (hr : Ranked l rank) {f i : Nat} (hi : i < l.length) (hf : rank i ≤ f) {r : Int} (h0 : ((i : Int) == r) = false) (h : ∀ k, k < (insOf l i).length → comesF (f - 1) l ((insOf l i).getD k 0).toNat r = false) : comesF f l i r = false := by
  rw [comesF_of hr hi hf, h0, Bool.false_or, List.any_eq_false]
  intro x hx
  obtain ⟨k, hk, e⟩ := mem_getD hx
  rw [← e, h k hk]; simp

set_option maxHeartbeats 2000000 in
theorem comes_step (g : Int) (A : Option Addr) (c : Nat) (l : List OpP) (p : Nat → Option Addr × Nat) (rank : Nat → Nat) (hr : Ranked l rank) (_hl : l.length ≤ 1000000) (r : Int) (f : Nat)
    (ih : ∀ (i : Nat) (w : World) (B : Nat), B ≤ w.heap.size → IsOps w B A l p → i < l.length → rank i + 1 ≤ f →
      Calls Try.prog 54 #[.agg #[.int .i64 g, .slice A l.length c], .int .i64 i, .int .i64 r] w fun e w' => e = .returned (.bool (comesF (f - 1) l i r)) ∧ Below w.heap.size w w')
    (i : Nat) (w : World) (B : Nat) (hB : B ≤ w.heap.size) (h : IsOps w B A l p) (hi : i < l.length) (hf : rank i ≤ f) :
    Calls Try.prog 54 #[.agg #[.int .i64 g, .slice A l.length c], .int .i64 i, .int .i64 r] w fun e w' => e = .returned (.bool (comesF f l i r)) ∧ Below w.heap.size w w' := by
  have HH := Lib.hid h
  obtain ⟨b, o, rfl, hb, -, c1, -, -, -, -, -, -, -, hin⟩ := (h.alloc hB (.cells #[.int .i64 g, .slice A l.length c] 24)).at_ hi
  have HI := Lib.hid hin
  have hlen : (insOf l i).length ≤ 9223372036854775807 := by have := hin.2.1; have := hin.2.2.1; unfold maxLen at this; simp only at *; omega
  have HY := Lib.hid (fun k v => @comes_yes l rank hr f i hi hf r k v)
  have HN := Lib.hid (@comes_no l rank hr f i hi hf r)
  have HIN := Lib.hid ((hr i hi).2)
  have IH := Lib.hid ih
  have E0 : Hid (((i : Int) == r) = true → comesF f l i r = true) := fun h => by rw [comesF_of hr hi hf, h]; rfl
  clear h hin ih
  generalize p i = a at *
  obtain ⟨pa, pc⟩ := a
  simp only at c1 HI
  generalize insOf l i = xs at *
  cases e0 : ((i : Int) == r) with
  | true =>
    have E := Lib.hid (E0.out e0)
    go_enter Try.func54, Try.ntmps54
    go_wp2
    go_returns
    exact ⟨ret_bool E.out.symm, by go_grown⟩
  | false =>
    have HNO := Lib.hid (HN.out e0)
    go_enter Try.func54, Try.ntmps54
    go_wp2_with fail
    go_loopw [7] (fun q wr => ∃ k : Nat, k ≤ xs.length ∧ q = .int .i64 k ∧ Below (w.heap.size + 1) (w.alloc (.cells #[.int .i64 g, .slice (some ⟨b, o, none⟩) l.length c] 24)) wr ∧ ∀ j, j < k → comesF (f - 1) l (xs.getD j 0).toNat r = false) (fun q _ => xs.length - (intOf q).toNat)
    case atStart => exact ⟨0, by omega, rfl, Below.refl _ _, fun j hj => absurd hj (by omega)⟩
    case round =>
      obtain ⟨k, hk, rfl, hbl, hno⟩ := hrel
      have HB := Lib.hid hbl
      have HX := Lib.hid hno
      have s0 : wr.cell? ⟨w.heap.size, 0, none⟩ = some (.int .i64 g) := (HB.out.cell (p := ⟨w.heap.size, 0, none⟩) (by show w.heap.size < _; omega)).trans (by go_simp)
      have s1 : wr.cell? ⟨w.heap.size, 1, none⟩ = some (.slice (some ⟨b, o, none⟩) l.length c) := (HB.out.cell (p := ⟨w.heap.size, 1, none⟩) (by show w.heap.size < _; omega)).trans (by go_simp)
      have s2 : wr.cell? ⟨b, o + i * 8 + 1, none⟩ = some (.slice pa xs.length pc) := (HB.out.cell (p := ⟨b, o + i * 8 + 1, none⟩) (by show b < _; omega)).trans c1
      have hsz : w.heap.size + 1 ≤ wr.heap.size := by have := HB.out.size; simpa using this
      clear hbl hno
      by_cases hlt : k < xs.length
      · obtain ⟨b2, o2, v, rfl, hb2, HV, -, hc0⟩ := ints_at HI.out hlt
        have s3 : wr.cell? ⟨b2, o2 + k, none⟩ = some (.int .i64 v) := (HB.out.cell (p := ⟨b2, o2 + k, none⟩) (by show b2 < _; omega)).trans hc0
        obtain ⟨j, ej, hj, hrj⟩ := HIN.out v (by rw [← HV.out]; exact getD_mem hlt)
        subst ej
        have HC : Hid (∀ w0, Below w.heap.size w w0 → Calls Try.prog 54 #[.agg #[.int .i64 g, .slice (some ⟨b, o, none⟩) l.length c], .int .i64 j, .int .i64 r] w0 fun e w' => e = .returned (.bool (comesF (f - 1) l j r)) ∧ Below w0.heap.size w0 w') := fun w0 h0 =>
          IH.out j w0 B (Nat.le_trans hB h0.size) (HH.out.below (h0.mono hB)) hj (by omega)
        have HW := Lib.hid (through ((Below.refl _ _).alloc (Nat.le_refl _) _) (Nat.le_refl _) (HB.out.mono (by simp)))
        have HZ : Hid (∀ w2, Below wr.heap.size wr w2 → w2.cell? ⟨w.heap.size, 0, none⟩ = some (.int .i64 g) ∧ w2.cell? ⟨w.heap.size, 1, none⟩ = some (.slice (some ⟨b, o, none⟩) l.length c) ∧ w2.cell? ⟨b, o + i * 8 + 1, none⟩ = some (.slice (some ⟨b2, o2, none⟩) xs.length pc) ∧ w2.cell? ⟨b2, o2 + k, none⟩ = some (.int .i64 (j : Int))) := fun w2 h2 =>
          ⟨(h2.cell (p := ⟨w.heap.size, 0, none⟩) (by show w.heap.size < _; omega)).trans s0, (h2.cell (p := ⟨w.heap.size, 1, none⟩) (by show w.heap.size < _; omega)).trans s1, (h2.cell (p := ⟨b, o + i * 8 + 1, none⟩) (by show b < _; omega)).trans s2, (h2.cell (p := ⟨b2, o2 + k, none⟩) (by show b2 < _; omega)).trans s3⟩
        have HBK : Hid (∀ w2, Below wr.heap.size wr w2 → Below (w.heap.size + 1) (w.alloc (.cells #[.int .i64 g, .slice (some ⟨b, o, none⟩) l.length c] 24)) w2) := fun w2 h2 => through HB.out (by simp) h2
        have EV : Hid ((xs.getD k 0).toNat = j) := show (xs.getD k 0).toNat = j from by rw [HV.out]; rfl
        have HYK : Hid (comesF (f - 1) l j r = true → comesF f l i r = true) := fun h => HY.out k (j : Int) hlt HV.out h
        have HNK : Hid (comesF (f - 1) l j r = false → ∀ m, m < k + 1 → comesF (f - 1) l (xs.getD m 0).toNat r = false) := fun h m hm => by
          rcases (show m < k ∨ m = k by omega) with h1 | rfl
          · exact HX.out m h1
          · rw [EV.out]; exact h
        generalize comesF (f - 1) l j r = z at *
        clear c1 hc0
        go_upto_region 6 with (fail)
        go_region_held3 (fun w' => w'.cell? ⟨w.heap.size, 0, none⟩ = some (.int .i64 g) ∧ w'.cell? ⟨w.heap.size, 1, none⟩ = some (.slice (some ⟨b, o, none⟩) l.length c) ∧ w'.cell? ⟨b, o + i * 8 + 1, none⟩ = some (.slice (some ⟨b2, o2, none⟩) xs.length pc) ∧ w'.cell? ⟨b2, o2 + k, none⟩ = some (.int .i64 (j : Int)))
          (first | exact HZ.out _ (Below.refl _ _).drew | exact HZ.out _ (Below.refl _ _) | exact HZ.out _ (of_drew hb1))
          ((go_at_call 54; refine (HC.out _ HW.out.drew).mono ?_; rintro e w1 ⟨rfl, hb1⟩))
        have HB1 := Lib.hid (HBK.out _ (of_drew hb1))
        have HW1 := Lib.hid (through HW.out (Nat.le_refl _) (of_drew hb1))
        clear hb1 s0 s1 s2 s3
        cases z with
        | true =>
          have E := Lib.hid (HYK.out rfl)
          go_wp2
          go_returns
          exact ⟨ret_bool E.out.symm, HW1.out⟩
        | false =>
          have E := Lib.hid (HNK.out rfl)
          go_wp2
          go_roundw
          case rel => exact ⟨k + 1, by omega, by go_num, HB1.out, E.out⟩
          case measure => simp [intOf]; omega
      · obtain rfl : k = xs.length := by omega
        have E := Lib.hid (HNO.out HX.out)
        go_wp2_with fail
        go_returns
        exact ⟨ret_bool E.out.symm, through ((Below.refl _ _).alloc (Nat.le_refl _) _) (Nat.le_refl _) (HB.out.mono (by simp))⟩

theorem comes_any (g : Int) (A : Option Addr) (c : Nat) (l : List OpP) (p : Nat → Option Addr × Nat) (rank : Nat → Nat) (hr : Ranked l rank) (hl : l.length ≤ 1000000) (r : Int) (f : Nat) :
    ∀ (i : Nat) (w : World) (B : Nat), B ≤ w.heap.size → IsOps w B A l p → i < l.length → rank i ≤ f →
    Calls Try.prog 54 #[.agg #[.int .i64 g, .slice A l.length c], .int .i64 i, .int .i64 r] w fun e w' => e = .returned (.bool (comesF f l i r)) ∧ Below w.heap.size w w' := by
  induction f with
  | zero => intro i w B hB h hi hf; exact comes_step g A c l p rank hr hl r 0 (fun i w B _ _ _ h => absurd h (by omega)) i w B hB h hi hf
  | succ f ih => intro i w B hB h hi hf; exact comes_step g A c l p rank hr hl r (f + 1) (fun i w B hB h hi hf => ih i w B hB h hi (by omega)) i w B hB h hi hf
end Go.Proofs.Ytaodbjgcidkpkaa.Sp

namespace Go.Proofs.Ytaodbjgcidkpkaa.Sp
open Go.ChangeShapes Go.WideShapes Go.ChangeAt Go.RowKit M

def bitsN : Nat → List OpP → Nat → Nat
  | 0, l, i => if kindOf l i = 1 then 2 ^ i else 0
  | f + 1, l, i => if kindOf l i = 1 then 2 ^ i else (insOf l i).foldl (fun z x => z ||| bitsN f l x.toNat) 0

theorem bitsN_src {f i : Nat} {l : List OpP} (h : kindOf l i = 1) : bitsN f l i = 2 ^ i := by cases f <;> (rw [bitsN, if_pos h])
theorem bitsN_op {l : List OpP} {rank : Nat → Nat} (hr : Ranked l rank) {f i : Nat} (hi : i < l.length) (hf : rank i ≤ f) (h : ¬ kindOf l i = 1) : bitsN f l i = (insOf l i).foldl (fun z x => z ||| bitsN (f - 1) l x.toNat) 0 := by
  cases f with
  | succ f => rw [bitsN, if_neg h]; rfl
  | zero =>
    have : insOf l i = [] := by
      apply List.eq_nil_iff_forall_not_mem.2
      intro x hx
      obtain ⟨j, -, -, h⟩ := (hr i hi).2 x hx
      omega
    rw [bitsN, if_neg h, this]; rfl
theorem foldl_or_lt {F : Int → Nat} {N : Nat} (xs : List Int) (z : Nat) (hz : z < 2 ^ N) (h : ∀ x ∈ xs, F x < 2 ^ N) : xs.foldl (fun z x => z ||| F x) z < 2 ^ N := by
  induction xs generalizing z with
  | nil => exact hz
  | cons y ys ih => exact ih _ (Nat.or_lt_two_pow hz (h y (by simp))) fun x hx => h x (by simp [hx])
theorem bitsN_lt {l : List OpP} {rank : Nat → Nat} (hr : Ranked l rank) (f : Nat) : ∀ i, i < l.length → rank i ≤ f → bitsN f l i < 2 ^ l.length := by
  induction f with
  | zero =>
    intro i hi hf
    by_cases h : kindOf l i = 1
    · rw [bitsN_src h]; exact Nat.pow_lt_pow_right (by omega) hi
    · rw [bitsN, if_neg h]; exact Nat.two_pow_pos _
  | succ f ih =>
    intro i hi hf
    by_cases h : kindOf l i = 1
    · rw [bitsN_src h]; exact Nat.pow_lt_pow_right (by omega) hi
    · rw [bitsN_op hr hi hf h]
      refine foldl_or_lt _ _ (Nat.two_pow_pos _) fun x hx => ?_
      obtain ⟨j, rfl, hj, hrj⟩ := (hr i hi).2 x hx
      exact ih j hj (by omega)
theorem pow_le_12 {n i : Nat} (hn : n ≤ 12) (h : i < n) : (2 : Nat) ^ i ≤ 2048 := by
  have : (2 : Nat) ^ i ≤ 2 ^ 11 := Nat.pow_le_pow_right (by omega) (by omega)
  exact this
theorem lt_12 {n z : Nat} (hn : n ≤ 12) (h : z < 2 ^ n) : z < 4096 := Nat.lt_of_lt_of_le h (Nat.pow_le_pow_right (by omega) hn)
theorem orTake {xs : List Int} {F : Int → Nat} {k : Nat} {v : Int} (hk : k < xs.length) (hv : xs.getD k 0 = v) : (xs.take (k + 1)).foldl (fun z x => z ||| F x) 0 = (xs.take k).foldl (fun z x => z ||| F x) 0 ||| F v := by
  rw [List.take_add_one, List.getElem?_eq_getElem hk]
  have : xs[k] = v := by rw [← hv, List.getD_eq_getElem?_getD, List.getElem?_eq_getElem hk]; rfl
  rw [this]; simp [List.foldl_append]

set_option maxHeartbeats 2000000 in
theorem bits_step (_g : Int) (A : Option Addr) (c : Nat) (l : List OpP) (p : Nat → Option Addr × Nat) (rank : Nat → Nat) (hr : Ranked l rank) (hl : l.length ≤ 12) (f q q5 : Nat) (w : World) (B : Nat) (h : IsOps w B A l p)
    (hq0 : w.cell? ⟨q, 1, none⟩ = some (.slice A l.length c)) (hq5 : w.cell? ⟨q5, 0, none⟩ = some (.func (.func 75) #[] #[.pointer (some ⟨q, 0, none⟩), .pointer (some ⟨q5, 0, none⟩)]))
    (ih : ∀ (i : Nat), i < l.length → rank i + 1 ≤ f → Calls Try.prog 75 #[.int .i64 i, .pointer (some ⟨q, 0, none⟩), .pointer (some ⟨q5, 0, none⟩)] w fun e w' => e = .returned (.int .u64 (bitsN (f - 1) l i)) ∧ w = w')
    (i : Nat) (hi : i < l.length) (hf : rank i ≤ f) :
    Calls Try.prog 75 #[.int .i64 i, .pointer (some ⟨q, 0, none⟩), .pointer (some ⟨q5, 0, none⟩)] w fun e w' => e = .returned (.int .u64 (bitsN f l i)) ∧ w = w' := by
  obtain ⟨b, o, rfl, hb, c0, c1, -, -, -, -, -, -, -, hin⟩ := h.at_ hi
  have HI := Lib.hid hin
  have hlen : (insOf l i).length ≤ 9223372036854775807 := by have := hin.2.1; have := hin.2.2.1; unfold maxLen at this; simp only at *; omega
  have IH := Lib.hid ih
  have ESRC := Lib.hid (fun h => bitsN_src (f := f) (i := i) (l := l) h)
  have EOP := Lib.hid (fun h => bitsN_op hr hi hf h)
  have HIN := Lib.hid ((hr i hi).2)
  have HLT := Lib.hid (fun j hj (h : rank j ≤ f - 1) => lt_12 hl (bitsN_lt hr (f - 1) j hj h))
  clear h hin ih
  generalize p i = a at *
  obtain ⟨pa, pc⟩ := a
  simp only at c1 HI
  generalize insOf l i = xs at *
  cases e0 : (kindOf l i == 1) with
  | true =>
    have E := Lib.hid (ESRC.out (by simpa using e0))
    have hw : IntKind.u64.wrap (2 ^ i) = ((2 ^ i : Nat) : Int) := by
      have := pow_le_12 hl hi
      rw [IntKind.wrap_u64, show ((2 : Int) ^ i) = ((2 ^ i : Nat) : Int) by simp]
      generalize (2 ^ i : Nat) = z at *
      omega
    have HW := Lib.hid hw
    clear hw ESRC EOP
    generalize kindOf l i = kd at *
    go_enter Try.func75, Try.ntmps75
    go_wp2_with fail
    go_returns
    exact ⟨by rw [E.out, HW.out]; rfl, rfl⟩
  | false =>
    have E := Lib.hid (EOP.out (by simpa using e0))
    clear ESRC EOP
    generalize kindOf l i = kd at *
    go_enter Try.func75, Try.ntmps75
    go_wp2_with fail
    go_loop [4, 23] (fun z q => ∃ (k y : Nat), k ≤ xs.length ∧ q = .int .i64 k ∧ z = .int .u64 y ∧ y < 4096 ∧ Hid (y = (xs.take k).foldl (fun z x => z ||| bitsN (f - 1) l x.toNat) 0)) (fun _ q => xs.length - (intOf q).toNat)
    case atStart => exact ⟨0, 0, by omega, rfl, rfl, by omega, Lib.hid rfl⟩
    case round =>
      obtain ⟨k, y, hk, rfl, rfl, hy, HY⟩ := hrel
      by_cases hlt : k < xs.length
      · obtain ⟨b2, o2, v, rfl, hb2, HV, -, hc⟩ := ints_at HI.out hlt
        obtain ⟨j, rfl, hj, hrj⟩ := HIN.out v (by rw [← HV.out]; exact getD_mem hlt)
        have HC := Lib.hid (IH.out j hj (by omega))
        have hu := HLT.out j hj (by omega)
        have ET := Lib.hid (orTake (F := fun x => bitsN (f - 1) l x.toNat) hlt HV.out)
        simp only [Int.toNat_natCast] at ET
        generalize bitsN (f - 1) l j = u at *
        have EB : Hid (bits .or .u64 (y : Int) (u : Int) = ((y ||| u : Nat) : Int)) := bits_or_u64_nat y u (by omega) (by omega)
        have hyu : y ||| u < 4096 := Nat.or_lt_two_pow (n := 12) hy hu
        go_wp2_with (go_at_call 75; refine HC.out.mono ?_; rintro e w' ⟨rfl, rfl⟩)
        go_round
        case rel => exact ⟨k + 1, y ||| u, by omega, by go_num, by rw [EB.out], hyu, by show y ||| u = _; rw [ET.out, HY.out]⟩
        case measure => simp [intOf]; omega
      · obtain rfl : k = xs.length := by omega
        go_wp2
        go_returns
        exact ⟨by rw [E.out, HY.out, List.take_length]; rfl, rfl⟩

theorem bits_any (g : Int) (A : Option Addr) (c : Nat) (l : List OpP) (p : Nat → Option Addr × Nat) (rank : Nat → Nat) (hr : Ranked l rank) (hl : l.length ≤ 12) (q q5 : Nat) (w : World) (B : Nat) (h : IsOps w B A l p)
    (hq0 : w.cell? ⟨q, 1, none⟩ = some (.slice A l.length c)) (hq5 : w.cell? ⟨q5, 0, none⟩ = some (.func (.func 75) #[] #[.pointer (some ⟨q, 0, none⟩), .pointer (some ⟨q5, 0, none⟩)])) (f : Nat) :
    ∀ (i : Nat), i < l.length → rank i ≤ f → Calls Try.prog 75 #[.int .i64 i, .pointer (some ⟨q, 0, none⟩), .pointer (some ⟨q5, 0, none⟩)] w fun e w' => e = .returned (.int .u64 (bitsN f l i)) ∧ w = w' := by
  induction f with
  | zero => intro i hi hf; exact bits_step g A c l p rank hr hl 0 q q5 w B h hq0 hq5 (fun i _ h => absurd h (by omega)) i hi hf
  | succ f ih => intro i hi hf; exact bits_step g A c l p rank hr hl (f + 1) q q5 w B h hq0 hq5 (fun i hi hf => ih i hi (by omega)) i hi hf

theorem pRoots_any (g : Int) (A : Option Addr) (c : Nat) (l : List OpP) (p : Nat → Option Addr × Nat) (rank : Nat → Nat) (hr : Ranked l rank) (hl : l.length ≤ 12) (i : Nat) (hi : i < l.length) (w : World) (B : Nat) (hB : B ≤ w.heap.size) (h : IsOps w B A l p) :
    Calls Try.prog 52 #[.agg #[.int .i64 g, .slice A l.length c], .int .i64 i] w fun e w' => e = .returned (.int .u64 (bitsN l.length l i)) ∧ Below w.heap.size w w' := by
  have HC : Hid (∀ w0, Below w.heap.size w w0 → w0.cell? ⟨w.heap.size, 1, none⟩ = some (.slice A l.length c) → w0.cell? ⟨w.heap.size + 1, 0, none⟩ = some (.func (.func 75) #[] #[.pointer (some ⟨w.heap.size, 0, none⟩), .pointer (some ⟨w.heap.size + 1, 0, none⟩)]) →
    Calls Try.prog 75 #[.int .i64 i, .pointer (some ⟨w.heap.size, 0, none⟩), .pointer (some ⟨w.heap.size + 1, 0, none⟩)] w0 fun e w' => e = .returned (.int .u64 (bitsN l.length l i)) ∧ w0 = w') := fun w0 h0 h1 h2 =>
    bits_any g A c l p rank hr hl w.heap.size (w.heap.size + 1) w0 B (h.below (h0.mono hB)) h1 h2 l.length i hi (Nat.le_of_lt (hr i hi).1)
  clear h
  go_enter Try.func52, Try.ntmps52
  go_wp2_with fail
  refine (HC.out _ (((Below.refl _ _).alloc (Nat.le_refl _) _).alloc (by simp) _) (by go_simp) (by go_simp)).mono ?_
  rintro e w' ⟨rfl, rfl⟩
  go_wp2_with fail
  go_returns
  exact ⟨rfl, ((Below.refl _ _).alloc (Nat.le_refl _) _).alloc (by simp) _⟩

/-- the bits of a number, as a list -/
def bitsL (u n : Nat) : List Int := whichF (fun j => u.testBit j) n
theorem whichF_more {f : Nat → Bool} {k m : Nat} (h : ∀ j, k ≤ j → f j = false) (hm : k ≤ m) : whichF f m = whichF f k := by
  induction m with
  | zero => have : k = 0 := by omega
            rw [this]
  | succ m ih =>
    rcases (show k ≤ m ∨ k = m + 1 by omega) with h1 | rfl
    · rw [whichF_no (h m h1), ih h1]
    · rfl
theorem bitsL_same {u n k : Nat} (hn : u < 2 ^ n) (hk : u < 2 ^ k) : bitsL u n = bitsL u k := by
  have hz : ∀ m, u < 2 ^ m → ∀ j, m ≤ j → u.testBit j = false := fun m hm j hj => Nat.testBit_lt_two_pow (Nat.lt_of_lt_of_le hm (Nat.pow_le_pow_right (by omega) hj))
  unfold bitsL
  rcases Nat.le_total n k with h | h
  · rw [whichF_more (hz n hn) h]
  · rw [whichF_more (hz k hk) h]
theorem shr_zero {u k : Nat} (h : u / 2 ^ k = 0) : u < 2 ^ k := by
  rcases Nat.lt_or_ge u (2 ^ k) with h1 | h1
  · exact h1
  · have := Nat.div_pos h1 (Nat.two_pow_pos k); omega
theorem shr_bit (u k : Nat) : u.testBit k = decide (u / 2 ^ k % 2 = 1) := by
  rw [Nat.testBit_eq_decide_div_mod_eq]

theorem shr_cast (u k : Nat) : (u : Int) / 2 ^ k = ((u / 2 ^ k : Nat) : Int) := by simp
theorem shr_ne {u k : Nat} (h : u / 2 ^ k ≠ 0) : ((u : Int) / 2 ^ k != 0) = true := by
  rw [shr_cast]; generalize u / 2 ^ k = m at *; simp; omega
theorem shr_eq {u k : Nat} (h : u / 2 ^ k = 0) : ((u : Int) / 2 ^ k != 0) = false := by rw [shr_cast, h]; rfl
theorem shr_and {u k : Nat} (hu : u < 4096) : (bits .and .u64 ((u : Int) / 2 ^ k) 1 == 1) = u.testBit k := by
  have hle : u / 2 ^ k ≤ u := Nat.div_le_self _ _
  rw [shr_cast, show (1 : Int) = ((1 : Nat) : Int) from rfl, bits_and_u64_nat _ _ (by omega) (by omega), Nat.and_one_is_mod, shr_bit]
  generalize u / 2 ^ k % 2 = m
  rw [Bool.eq_iff_iff]; simp; omega

set_option maxHeartbeats 2000000 in
theorem roots_any (g : Int) (A : Option Addr) (c : Nat) (l : List OpP) (p : Nat → Option Addr × Nat) (rank : Nat → Nat) (hr : Ranked l rank) (hl : l.length ≤ 12) (i : Nat) (hi : i < l.length) (w : World) (B : Nat) (hB : B ≤ w.heap.size) (h : IsOps w B A l p) :
    Calls Try.prog 15 #[.agg #[.int .i64 g, .slice A l.length c], .int .i64 i] w (RetInts w (bitsL (bitsN l.length l i) l.length)) := by
  have HC := Lib.hid (pRoots_any g A c l p rank hr hl i hi (w.alloc (.cells #[.int .i64 g, .slice A l.length c] 24)) B (by simp; omega) (h.alloc hB _))
  have hlt := bitsN_lt hr l.length i hi (Nat.le_of_lt (hr i hi).1)
  have hu := lt_12 hl hlt
  have HL := Lib.hid hlt
  clear h hlt
  generalize bitsN l.length l i = u at *
  have EB : Hid (btw (i : Int) 0 ((l.length : Int) - 1) = true) := btw_yes (by omega) (by omega)
  go_enter Try.func15, Try.ntmps15
  go_wp2_with (go_at_call 51; refine (between_any _ _ _ _).mono ?_; rw [EB.out]; rintro e w' ⟨rfl, rfl⟩)
  refine HC.out.mono ?_
  rintro e w1 ⟨rfl, hb1⟩
  have HB1 := Lib.hid hb1
  clear hb1
  go_wp2_with fail
  go_loopw [5, 6] (fun v q wr => ∃ k : Nat, k ≤ 12 ∧ q = .int .i64 k ∧ OwnI wr w1.heap.size v (bitsL u k) ∧ Below w1.heap.size w1 wr) (fun _ q _ => 12 - (intOf q).toNat)
  case atStart => exact ⟨0, by omega, rfl, OwnI.nil _ _, Below.refl _ _⟩
  case round =>
    obtain ⟨k, hk, rfl, hown, hbl⟩ := hrel
    have HB := Lib.hid hbl
    have HOW := Lib.hid hown
    clear hown hbl
    have hsz : w1.heap.size ≤ wr.heap.size := HB.out.size
    by_cases h0 : u / 2 ^ k = 0
    · have E := Lib.hid (bitsL_same HL.out (shr_zero h0))
      have ht := shr_eq h0
      clear h0
      go_wp2_with fail
      go_returns
      refine ret_ints ?_ ?_
      · rw [E.out]; exact HOW.out.mono (by have := HB1.out.size; simp at this; omega)
      · exact through (through ((Below.refl _ _).alloc (Nat.le_refl _) _) (Nat.le_refl _) HB1.out) (by have := HB1.out.size; simp at this; omega) HB.out
    · have ht := shr_ne h0
      have hk12 : k < 12 := by
        rcases (show k < 12 ∨ k = 12 by omega) with h | rfl
        · exact h
        · exact absurd (Nat.div_eq_of_lt (show u < 2 ^ 12 from hu)) h0
      have hb := shr_and (u := u) (k := k) hu
      have hle : (bitsL u k).length ≤ k := whichF_len _ _
      have EY : Hid (u.testBit k = true → bitsL u (k + 1) = bitsL u k ++ [(k : Int)]) := fun h => whichF_yes h
      have EN : Hid (u.testBit k = false → bitsL u (k + 1) = bitsL u k) := fun h => whichF_no h
      clear h0
      cases ez : u.testBit k with
      | true =>
        rw [ez] at hb
        have EW := Lib.hid (EY.out ez)
        have HU := Lib.hid (show In64 (k : Int) by unfold In64; omega)
        have HLn := Lib.hid (show (bitsL u k).length < 1000000000 by omega)
        have HZ := Lib.hid hsz
        clear ez EY EN
        go_wp2_with (at_builtin; refine app_new rfl _ _ rfl w1.heap.size HOW.out rfl HU.out rfl HLn.out HZ.out ?_)
        intro v' w2 hown2 hgr
        have HO2 := Lib.hid hown2
        have HB2 := Lib.hid (HB.out.trans hgr)
        clear hown2 hgr
        go_wp2
        go_roundw
        case rel => exact ⟨k + 1, by omega, by go_num, by rw [EW.out]; exact HO2.out, HB2.out⟩
        case measure => simp [intOf]; omega
      | false =>
        rw [ez] at hb
        have EW := Lib.hid (EN.out ez)
        clear ez EY EN
        go_wp2_with fail
        go_roundw
        case rel => exact ⟨k + 1, by omega, by go_num, by rw [EW.out]; exact HOW.out, HB.out⟩
        case measure => simp [intOf]; omega
end Go.Proofs.Ytaodbjgcidkpkaa.Sp

namespace Go.Proofs.Ytaodbjgcidkpkaa.Sp
open Go.ChangeShapes Go.WideShapes Go.ChangeAt Go.RowKit M

theorem roots_no (g : Int) (A : Option Addr) (c : Nat) (l : List OpP) (op : Int) (hop : op < 0 ∨ (l.length : Int) ≤ op) (hl : l.length ≤ 1000000) (w : World) :
    Calls Try.prog 15 #[.agg #[.int .i64 g, .slice A l.length c], .int .i64 op] w (RetInts w []) := by
  have EB : Hid (btw op 0 ((l.length : Int) - 1) = false) := btw_no (by omega)
  clear hop
  go_enter Try.func15, Try.ntmps15
  go_wp2_with (go_at_call 51; refine (between_any _ _ _ _).mono ?_; rw [EB.out]; rintro e w' ⟨rfl, rfl⟩)
  go_returns
  exact ret_ints (OwnI.nil _ _) (by go_grown)

theorem rootsF_no {l : List OpP} {op : Int} (hop : op < 0 ∨ (l.length : Int) ≤ op) : rootsF l op = [] := if_neg (by omega)
theorem rootsF_at {l : List OpP} {i : Nat} (hi : i < l.length) : rootsF l i = (kindF l 1).filter fun r => comesF l.length l i r := by
  unfold rootsF; rw [if_pos (by omega)]; simp

theorem filt_yes {f : Int → Bool} {xs : List Int} {k : Nat} {v : Int} (hk : k < xs.length) (hv : xs.getD k 0 = v) (h : f v = true) : (xs.take (k + 1)).filter f = (xs.take k).filter f ++ [v] := by
  rw [List.take_add_one, List.getElem?_eq_getElem hk]
  have : xs[k] = v := by rw [← hv, List.getD_eq_getElem?_getD, List.getElem?_eq_getElem hk]; rfl
  rw [this]; simp [List.filter_append, h]
theorem filt_no {f : Int → Bool} {xs : List Int} {k : Nat} {v : Int} (hk : k < xs.length) (hv : xs.getD k 0 = v) (h : f v = false) : (xs.take (k + 1)).filter f = (xs.take k).filter f := by
  rw [List.take_add_one, List.getElem?_eq_getElem hk]
  have : xs[k] = v := by rw [← hv, List.getD_eq_getElem?_getD, List.getElem?_eq_getElem hk]; rfl
  rw [this]; simp [List.filter_append, h]

theorem refRoots_no (g : Int) (A : Option Addr) (c : Nat) (l : List OpP) (p : Nat → Option Addr × Nat) (op : Int) (hop : op < 0 ∨ (l.length : Int) ≤ op) (hl : l.length ≤ 1000000) (w : World) (B : Nat) (hB : B ≤ w.heap.size) (h : IsOps w B A l p) :
    Calls Try.prog 18 #[.agg #[.int .i64 g, .slice A l.length c], .int .i64 op] w (RetInts w []) := by
  have HS := Lib.hid (refSources_any g A c l p (w.alloc (.cells #[.int .i64 g, .slice A l.length c] 24)) B (by simp; omega) (h.alloc hB _) hl)
  clear h
  go_enter Try.func18, Try.ntmps18
  go_wp2_with fail
  refine HS.out.mono ?_
  rintro e w1 ⟨A1, c1, rfl, hown, hb1⟩
  have HB1 := Lib.hid hb1
  have hg : w1.cell? ⟨w.heap.size, 1, none⟩ = some (.slice A l.length c) := (hb1.cell (p := ⟨w.heap.size, 1, none⟩) (by show w.heap.size < _; simp)).trans (by go_simp)
  clear hown hb1
  go_wp2_with fail
  refine wp_loop_rounds 1 ?_
  rw [rounds_succ]
  rcases hop with hop | hop
  · have d1 : decide (0 ≤ op) = false := decide_eq_false (by omega)
    go_wp2_with fail
    all_goals go_returns
    all_goals exact ret_ints (OwnI.nil _ _) (through ((Below.refl _ _).alloc (Nat.le_refl _) _) (Nat.le_refl _) HB1.out)
  · have d1 : decide (0 ≤ op) = true := decide_eq_true (by omega)
    have d2 : decide (op < (l.length : Int)) = false := decide_eq_false (by omega)
    go_wp2_with fail
    all_goals go_returns
    all_goals exact ret_ints (OwnI.nil _ _) (through ((Below.refl _ _).alloc (Nat.le_refl _) _) (Nat.le_refl _) HB1.out)

set_option maxHeartbeats 2000000 in
theorem refRoots_any (g : Int) (A : Option Addr) (c : Nat) (l : List OpP) (p : Nat → Option Addr × Nat) (rank : Nat → Nat) (hr : Ranked l rank) (hl : l.length ≤ 1000000) (i : Nat) (hi : i < l.length) (w : World) (B : Nat) (hB : B ≤ w.heap.size) (h : IsOps w B A l p) :
    Calls Try.prog 18 #[.agg #[.int .i64 g, .slice A l.length c], .int .i64 i] w (RetInts w (rootsF l i)) := by
  have HH := Lib.hid h
  have ER := Lib.hid (rootsF_at hi)
  have HS := Lib.hid (refSources_any g A c l p (w.alloc (.cells #[.int .i64 g, .slice A l.length c] 24)) B (by simp; omega) (h.alloc hB _) hl)
  have HCO : Hid (∀ r w0, Below w.heap.size w w0 → Calls Try.prog 54 #[.agg #[.int .i64 g, .slice A l.length c], .int .i64 i, .int .i64 r] w0 fun e w' => e = .returned (.bool (comesF l.length l i r)) ∧ Below w0.heap.size w0 w') := fun r w0 h0 =>
    comes_any g A c l p rank hr hl r l.length i w0 B (Nat.le_trans hB h0.size) (h.below (h0.mono hB)) hi (Nat.le_of_lt (hr i hi).1)
  have HKL := Lib.hid (whichF_len (fun i => kindOf l i == 1) l.length)
  have EK := Lib.hid (show kindF l 1 = whichF (fun i => kindOf l i == 1) l.length from rfl)
  clear h
  obtain ⟨F, hF⟩ : ∃ F : Int → Bool, (fun r => comesF l.length l i r) = F := ⟨_, rfl⟩
  have HFE : Hid (∀ r, comesF l.length l i r = F r) := fun r => by rw [← hF]
  rw [hF] at ER
  clear hF
  have hkl : (kindF l 1).length ≤ l.length := by rw [EK.out]; exact HKL.out
  clear HKL EK
  generalize kindF l 1 = ks at *
  go_enter Try.func18, Try.ntmps18
  go_wp2_with fail
  refine HS.out.mono ?_
  rintro e w1 ⟨A1, c1, rfl, hown, hb1⟩
  have HB1 := Lib.hid hb1
  have HI := Lib.hid hown.ints
  have HW1 := Lib.hid (through ((Below.refl _ _).alloc (Nat.le_refl _) _) (Nat.le_refl w.heap.size) hb1)
  have hsz1 : w.heap.size + 1 ≤ w1.heap.size := by have := hb1.size; simpa using this
  have HG : Hid (∀ w2, Below w1.heap.size w1 w2 → w2.cell? ⟨w.heap.size, 0, none⟩ = some (.int .i64 g) ∧ w2.cell? ⟨w.heap.size, 1, none⟩ = some (.slice A l.length c)) := fun w2 h2 =>
    ⟨((h2.cell (p := ⟨w.heap.size, 0, none⟩) (by show w.heap.size < _; omega)).trans (hb1.cell (p := ⟨w.heap.size, 0, none⟩) (by show w.heap.size < _; simp))).trans (by go_simp),
     ((h2.cell (p := ⟨w.heap.size, 1, none⟩) (by show w.heap.size < _; omega)).trans (hb1.cell (p := ⟨w.heap.size, 1, none⟩) (by show w.heap.size < _; simp))).trans (by go_simp)⟩
  clear hown hb1
  go_wp2_with fail
  go_loopw [5, 7] (fun v q wr => ∃ k : Nat, k ≤ ks.length ∧ q = .int .i64 k ∧ OwnI wr w1.heap.size v ((ks.take k).filter F) ∧ Below w1.heap.size w1 wr) (fun _ q _ => ks.length - (intOf q).toNat)
  case atStart => exact ⟨0, by omega, rfl, OwnI.nil _ _, Below.refl _ _⟩
  case round =>
    obtain ⟨k, hk, rfl, hown, hbl⟩ := hrel
    have HB := Lib.hid hbl
    have HOW := Lib.hid hown
    obtain ⟨s0, s1⟩ := HG.out wr hbl
    clear hown hbl
    by_cases hlt : k < ks.length
    · obtain ⟨b2, o2, v, rfl, hb2, HV, h64, hc0⟩ := ints_at HI.out hlt
      have s3 : wr.cell? ⟨b2, o2 + k, none⟩ = some (.int .i64 v) := (HB.out.cell (p := ⟨b2, o2 + k, none⟩) hb2).trans hc0
      have HC := Lib.hid (HCO.out v)
      have EY : Hid (F v = true → (ks.take (k + 1)).filter F = (ks.take k).filter F ++ [v]) := filt_yes hlt HV.out
      have EN : Hid (F v = false → (ks.take (k + 1)).filter F = (ks.take k).filter F) := filt_no hlt HV.out
      rw [HFE.out v] at HC
      have hszr : w1.heap.size ≤ wr.heap.size := HB.out.size
      have HWR := Lib.hid (through HW1.out (by omega) HB.out)
      have hleF : ((ks.take k).filter F).length ≤ k := Nat.le_trans (List.length_filter_le _ _) (List.length_take_le _ _)
      have HZ : Hid (∀ w2, Below wr.heap.size wr w2 → w2.cell? ⟨w.heap.size, 0, none⟩ = some (.int .i64 g) ∧ w2.cell? ⟨w.heap.size, 1, none⟩ = some (.slice A l.length c) ∧ w2.cell? ⟨b2, o2 + k, none⟩ = some (.int .i64 v)) := fun w2 h2 =>
        ⟨(h2.cell (p := ⟨w.heap.size, 0, none⟩) (by show w.heap.size < _; omega)).trans s0, (h2.cell (p := ⟨w.heap.size, 1, none⟩) (by show w.heap.size < _; omega)).trans s1, (h2.cell (p := ⟨b2, o2 + k, none⟩) (by show b2 < _; omega)).trans s3⟩
      have HX : Hid (∀ w2, Below wr.heap.size wr w2 → Below w1.heap.size w1 w2 ∧ OwnI w2 w1.heap.size u5 ((ks.take k).filter F)) := fun w2 h2 => ⟨through HB.out (Nat.le_refl _) h2, HOW.out.below h2⟩
      clear hc0
      generalize F v = z at *
      go_upto_region 6 with (fail)
      go_region_held3 (fun w' => w'.cell? ⟨w.heap.size, 0, none⟩ = some (.int .i64 g) ∧ w'.cell? ⟨w.heap.size, 1, none⟩ = some (.slice A l.length c) ∧ w'.cell? ⟨b2, o2 + k, none⟩ = some (.int .i64 v))
        (first | exact HZ.out _ (Below.refl _ _).drew | exact HZ.out _ (Below.refl _ _) | exact HZ.out _ (of_drew hb2'))
        ((go_at_call 54; refine (HC.out _ HWR.out.drew).mono ?_; rintro e w2 ⟨rfl, hb2'⟩))
      obtain ⟨hx1, hx2⟩ := HX.out _ (of_drew hb2')
      obtain ⟨-, -, s3'⟩ := HZ.out _ (of_drew hb2')
      have HX1 := Lib.hid hx1
      have HX2 := Lib.hid hx2
      clear hx1 hx2 hb2' s0 s1 s3
      cases z with
      | true =>
        have EW := Lib.hid (EY.out rfl)
        have HU := Lib.hid h64
        have HLn := Lib.hid (show ((ks.take k).filter F).length < 1000000000 by omega)
        have HZ := Lib.hid HX1.out.size
        clear EY EN
        go_wp2_with (at_builtin; refine app_new rfl _ _ rfl w1.heap.size HX2.out rfl HU.out rfl HLn.out HZ.out ?_)
        intro v' w3 hown2 hgr
        have HO2 := Lib.hid hown2
        have HB2 := Lib.hid (HX1.out.trans hgr)
        clear hown2 hgr
        go_wp2
        go_roundw
        case rel => exact ⟨k + 1, by omega, by go_num, by rw [EW.out]; exact HO2.out, HB2.out⟩
        case measure => simp [intOf]; omega
      | false =>
        have EW := Lib.hid (EN.out rfl)
        clear EY EN
        go_wp2_with fail
        go_roundw
        case rel => exact ⟨k + 1, by omega, by go_num, by rw [EW.out]; exact HX2.out, HX1.out⟩
        case measure => simp [intOf]; omega
    · obtain rfl : k = ks.length := by omega
      go_wp2_with fail
      go_returns
      exact ret_ints (by rw [ER.out, ← List.take_length (l := ks)]; exact HOW.out.mono (by omega)) (through HW1.out (by omega) HB.out)
end Go.Proofs.Ytaodbjgcidkpkaa.Sp

namespace Go.Proofs.Ytaodbjgcidkpkaa.Sp
open Go.ChangeShapes Go.WideShapes Go.ChangeAt Go.RowKit M

theorem apart_no {r : List Int} {rs : List (List Int)} {S : List Int} {k : Nat} (hk : k < r.length) (h : hasB S (r.getD k 0) = true) : apartGo (r :: rs) S = false := by
  unfold apartGo
  have : (r.any fun x => hasB S x) = true := List.any_eq_true.2 ⟨_, getD_mem hk, h⟩
  rw [this]; rfl
theorem apart_yes {r : List Int} {rs : List (List Int)} {S : List Int} (h : ∀ k, k < r.length → hasB S (r.getD k 0) = false) : apartGo (r :: rs) S = apartGo rs (S ++ r) := by
  rw [apartGo]
  have : (r.any fun x => hasB S x) = false := List.any_eq_false.2 fun x hx => by
    obtain ⟨k, hk, e⟩ := mem_getD hx
    rw [← e, h k hk]; simp
  rw [this]; rfl
theorem drop_at {xs : List Int} {k : Nat} {v : Int} (hk : k < xs.length) (hv : xs.getD k 0 = v) : xs.drop k = v :: xs.drop (k + 1) := by
  rw [List.drop_eq_getElem_cons hk]
  have : xs[k] = v := by rw [← hv, List.getD_eq_getElem?_getD, List.getElem?_eq_getElem hk]; rfl
  rw [this]
theorem rootsF_len (l : List OpP) (op : Int) : (rootsF l op).length ≤ l.length := by
  unfold rootsF; split
  · exact Nat.le_trans (List.length_filter_le _ _) (whichF_len _ _)
  · simp

set_option maxHeartbeats 4000000 in
theorem refApart_any (g : Int) (A : Option Addr) (c : Nat) (l : List OpP) (p : Nat → Option Addr × Nat) (rank : Nat → Nat) (hr : Ranked l rank) (hl : l.length ≤ 1000) (i : Nat) (hi : i < l.length) (hil : (insOf l i).length ≤ 1000) (w : World) (B : Nat) (hB : B ≤ w.heap.size) (h : IsOps w B A l p) :
    Calls Try.prog 47 #[.agg #[.int .i64 g, .slice A l.length c], .int .i64 i] w fun e w' => e = .returned (.bool (apartB l i)) ∧ Below w.heap.size w w' := by
  have HH := Lib.hid h
  obtain ⟨b, o, rfl, hb, -, c1, -, -, -, -, -, -, -, hin⟩ := (h.alloc hB (.cells #[.int .i64 g, .slice A l.length c] 24)).at_ hi
  have HI := Lib.hid hin
  have HRO : Hid (∀ (j : Nat) w0, j < l.length → Below w.heap.size w w0 → Calls Try.prog 18 #[.agg #[.int .i64 g, .slice (some ⟨b, o, none⟩) l.length c], .int .i64 j] w0 (RetInts w0 (rootsF l j))) := fun j w0 hj h0 =>
    refRoots_any g _ c l p rank hr (by omega) j hj w0 B (Nat.le_trans hB h0.size) (h.below (h0.mono hB))
  have EA := Lib.hid (show apartB l i = apartGo ((insOf l i).map (rootsF l)) [] from rfl)
  have HIN := Lib.hid ((hr i hi).2)
  clear h hin
  generalize p i = a at *
  obtain ⟨pa, pc⟩ := a
  simp only at c1 HI
  generalize insOf l i = xs at *
  generalize apartB l i = res at *
  go_enter Try.func47, Try.ntmps47
  go_wp2_with fail
  go_loopw [5, 6] (fun v q wr => ∃ (k : Nat) (S : List Int), k ≤ xs.length ∧ q = .int .i64 k ∧ OwnI wr (w.heap.size + 1) v S ∧ S.length ≤ k * 1000 ∧ Below (w.heap.size + 1) (w.alloc (.cells #[.int .i64 g, .slice (some ⟨b, o, none⟩) l.length c] 24)) wr ∧ Hid (res = apartGo ((xs.drop k).map (rootsF l)) S)) (fun _ q _ => xs.length - (intOf q).toNat)
  case atStart => exact ⟨0, [], by omega, rfl, OwnI.nil _ _, by simp, Below.refl _ _, EA.out⟩
  case round =>
    obtain ⟨k, S, hk, rfl, hown, hSl, hbl, HRES⟩ := hrel
    obtain ⟨wo, rfl⟩ : ∃ wo : World, wo = wr := ⟨_, rfl⟩
    have HB := Lib.hid hbl
    have s0 : wo.cell? ⟨w.heap.size, 0, none⟩ = some (.int .i64 g) := (HB.out.cell (p := ⟨w.heap.size, 0, none⟩) (by show w.heap.size < _; omega)).trans (by go_simp)
    have s1 : wo.cell? ⟨w.heap.size, 1, none⟩ = some (.slice (some ⟨b, o, none⟩) l.length c) := (HB.out.cell (p := ⟨w.heap.size, 1, none⟩) (by show w.heap.size < _; omega)).trans (by go_simp)
    have s2 : wo.cell? ⟨b, o + i * 8 + 1, none⟩ = some (.slice pa xs.length pc) := (HB.out.cell (p := ⟨b, o + i * 8 + 1, none⟩) (by show b < _; omega)).trans c1
    have hsz : w.heap.size + 1 ≤ wo.heap.size := by have := HB.out.size; simpa using this
    obtain ⟨As, cs, rfl⟩ := hown.form
    have HOW := Lib.hid hown
    clear hbl hown
    by_cases hlt : k < xs.length
    · obtain ⟨b2, o2, v, rfl, hb2, HV, -, hc0⟩ := ints_at HI.out hlt
      have s3 : wo.cell? ⟨b2, o2 + k, none⟩ = some (.int .i64 v) := (HB.out.cell (p := ⟨b2, o2 + k, none⟩) (by show b2 < _; omega)).trans hc0
      obtain ⟨j, ej, hj, hrj⟩ := HIN.out v (by rw [← HV.out]; exact getD_mem hlt)
      subst ej
      have HC := Lib.hid (fun w0 => HRO.out j w0 hj)
      have HW := Lib.hid (through ((Below.refl _ _).alloc (Nat.le_refl _) _) (Nat.le_refl w.heap.size) (HB.out.mono (by simp)))
      have hrl := rootsF_len l j
      have HRS : Hid (res = apartGo (rootsF l j :: (xs.drop (k + 1)).map (rootsF l)) S) := by
        show res = _
        rw [HRES.out, drop_at hlt HV.out]; rfl
      generalize rootsF l (j : Int) = r at *
      have HNO : Hid (∀ m, m < r.length → hasB S (r.getD m 0) = true → res = false) := fun m hm h => by rw [HRS.out]; exact apart_no hm h
      have HYE : Hid ((∀ m, m < r.length → hasB S (r.getD m 0) = false) → res = apartGo ((xs.drop (k + 1)).map (rootsF l)) (S ++ r)) := fun h => by rw [HRS.out]; exact apart_yes h
      clear HRS HRES hc0 c1
      have HZ : Hid (∀ w2, Below wo.heap.size wo w2 → w2.cell? ⟨w.heap.size, 0, none⟩ = some (.int .i64 g) ∧ w2.cell? ⟨w.heap.size, 1, none⟩ = some (.slice (some ⟨b, o, none⟩) l.length c) ∧ w2.cell? ⟨b, o + i * 8 + 1, none⟩ = some (.slice (some ⟨b2, o2, none⟩) xs.length pc) ∧ w2.cell? ⟨b2, o2 + k, none⟩ = some (.int .i64 (j : Int))) := fun w2 h2 =>
        ⟨(h2.cell (p := ⟨w.heap.size, 0, none⟩) (by show w.heap.size < _; omega)).trans s0, (h2.cell (p := ⟨w.heap.size, 1, none⟩) (by show w.heap.size < _; omega)).trans s1, (h2.cell (p := ⟨b, o + i * 8 + 1, none⟩) (by show b < _; omega)).trans s2, (h2.cell (p := ⟨b2, o2 + k, none⟩) (by show b2 < _; omega)).trans s3⟩
      have HX : Hid (∀ w2, Below wo.heap.size wo w2 → Below (w.heap.size + 1) (w.alloc (.cells #[.int .i64 g, .slice (some ⟨b, o, none⟩) l.length c] 24)) w2 ∧ OwnI w2 (w.heap.size + 1) (.slice As S.length cs) S) := fun w2 h2 => ⟨through HB.out (by simp) h2, HOW.out.below h2⟩
      go_upto_region 5 with (fail)
      go_region_held3 (fun w' => w'.cell? ⟨w.heap.size, 0, none⟩ = some (.int .i64 g) ∧ w'.cell? ⟨w.heap.size, 1, none⟩ = some (.slice (some ⟨b, o, none⟩) l.length c) ∧ w'.cell? ⟨b, o + i * 8 + 1, none⟩ = some (.slice (some ⟨b2, o2, none⟩) xs.length pc) ∧ w'.cell? ⟨b2, o2 + k, none⟩ = some (.int .i64 (j : Int)))
        (first | exact HZ.out _ (Below.refl _ _).drew | exact HZ.out _ (Below.refl _ _) | exact HZ.out _ (of_drew hb3))
        ((go_at_call 18; refine (HC.out _ HW.out.drew).mono ?_; rintro e w1 ⟨Ar, cr, rfl, hownr, hb3⟩))
      obtain ⟨hx1, hx2⟩ := HX.out _ (of_drew hb3)
      have HX1 := Lib.hid hx1
      have HX2 := Lib.hid hx2
      have HR := Lib.hid hownr
      have HSI := Lib.hid hx2.ints
      have HRI := Lib.hid hownr.ints
      have hbase : w.heap.size + 1 ≤ w1.heap.size := by have := hx1.size; simpa using this
      clear hx1 hx2 hb3 hownr s0 s1 s2 s3
      go_wp2_with fail
      go_loop [8] (fun q => ∃ m : Nat, m ≤ r.length ∧ q = .int .i64 m ∧ ∀ j, j < m → hasB S (r.getD j 0) = false) (fun q => r.length - (intOf q).toNat)
      case atStart => exact ⟨0, by omega, rfl, fun j hj => absurd hj (by omega)⟩
      case round =>
        obtain ⟨m, hm, rfl, hno⟩ := hrel
        have HN := Lib.hid hno
        clear hno
        by_cases hml : m < r.length
        · obtain ⟨b4, o4, u, rfl, hb4, HU, -, hc4⟩ := ints_at HRI.out hml
          have HCH := Lib.hid (refHas_any As cs S u _ w1 HSI.out)
          have HNM := Lib.hid (HNO.out m hml)
          cases eu : hasB S u with
          | true =>
            rw [eu] at HCH
            have E := Lib.hid (HNM.out (by rw [HU.out]; exact eu))
            clear eu
            go_wp2_with (go_at_call 53; refine HCH.out.mono ?_; rintro e w' ⟨rfl, rfl⟩)
            go_returns
            exact ⟨ret_bool E.out.symm, through ((Below.refl _ _).alloc (Nat.le_refl _) _) (Nat.le_refl _) (HX1.out.mono (by simp))⟩
          | false =>
            rw [eu] at HCH
            have E : Hid (hasB S (r.getD m 0) = false) := by show hasB S (r.getD m 0) = false; rw [HU.out]; exact eu
            clear eu
            go_wp2_with (go_at_call 53; refine HCH.out.mono ?_; rintro e w' ⟨rfl, rfl⟩)
            go_round
            case rel => exact ⟨m + 1, by omega, by go_num, fun j hj => by
              rcases (show j < m ∨ j = m by omega) with h | rfl
              · exact HN.out j h
              · exact E.out⟩
            case measure => simp [intOf]; omega
        · obtain rfl : m = r.length := by omega
          have E := Lib.hid (HYE.out HN.out)
          have HL := Lib.hid (show S.length + r.length < 1000000000 by omega)
          have HBS := Lib.hid hbase
          go_wp2_with (at_builtin; refine app_list rfl _ _ rfl (w.heap.size + 1) HX2.out rfl HR.out rfl HL.out HBS.out ?_)
          intro v' w3 hown2 hgr
          have HO2 := Lib.hid hown2
          have HB2 := Lib.hid (HX1.out.trans hgr)
          clear hown2 hgr
          go_wp2
          go_roundw
          case rel => exact ⟨k + 1, S ++ r, by omega, by go_num, HO2.out, by rw [List.length_append]; omega, HB2.out, E.out⟩
          case measure => simp [intOf]; omega
    · obtain rfl : k = xs.length := by omega
      have E : Hid (res = true) := by
        show res = true
        rw [HRES.out, List.drop_length]; rfl
      go_wp2_with fail
      go_returns
      exact ⟨ret_bool E.out.symm, through ((Below.refl _ _).alloc (Nat.le_refl _) _) (Nat.le_refl _) (HB.out.mono (by simp))⟩
end Go.Proofs.Ytaodbjgcidkpkaa.Sp

namespace Go.Proofs.Ytaodbjgcidkpkaa.Sp
open Go

theorem chk_g {g : Int} {l : List OpP} (h : btw g 1 64 = false) : chkE g l = 1 := by unfold chkE; rw [h]; rfl
theorem chk_n {g : Int} {l : List OpP} (h : btw g 1 64 = true) (h2 : btw l.length 1 12 = false) : chkE g l = 3 := by unfold chkE; rw [h, h2]; rfl
theorem chk_a {g : Int} {l : List OpP} (h : btw g 1 64 = true) (h2 : btw l.length 1 12 = true) {k : Nat} (hk : k < l.length) (h3 : aloneE l k ≠ 0) (hno : ∀ j, j < k → aloneE l j = 0) : chkE g l = aloneE l k := by
  have e := firstE_yes hk h3 hno
  unfold chkE; rw [h, h2, e]; simp [h3]
theorem chk_f {g : Int} {l : List OpP} (h : btw g 1 64 = true) (h2 : btw l.length 1 12 = true) (h3 : ∀ j, j < l.length → aloneE l j = 0) {k : Nat} (hk : k < l.length) (h4 : fedB l k = false) : chkE g l = 8 := by
  unfold chkE; rw [h, h2, firstE_no h3, allB_no hk h4]; rfl
theorem chk_o {g : Int} {l : List OpP} (h : btw g 1 64 = true) (h2 : btw l.length 1 12 = true) (h3 : ∀ j, j < l.length → aloneE l j = 0) (h4 : ∀ j, j < l.length → fedB l j = true) (h5 : ¬ l.length ≤ (orderF l).length) : chkE g l = 9 := by
  unfold chkE; rw [h, h2, firstE_no h3, allB_iff.2 h4]; simp [h5]
theorem chk_k {g : Int} {l : List OpP} (h : btw g 1 64 = true) (h2 : btw l.length 1 12 = true) (h3 : ∀ j, j < l.length → aloneE l j = 0) (h4 : ∀ j, j < l.length → fedB l j = true) (h5 : l.length ≤ (orderF l).length) {k : Nat} (hk : k < l.length) (h6 : apartB l k = false) : chkE g l = 10 := by
  unfold chkE; rw [h, h2, firstE_no h3, allB_iff.2 h4, if_pos h5, allB_no hk h6]; rfl
theorem chk_ok {g : Int} {l : List OpP} (h : btw g 1 64 = true) (h2 : btw l.length 1 12 = true) (h3 : ∀ j, j < l.length → aloneE l j = 0) (h4 : ∀ j, j < l.length → fedB l j = true) (h5 : l.length ≤ (orderF l).length) (h6 : ∀ j, j < l.length → apartB l j = true) : chkE g l = 0 := by
  unfold chkE; rw [h, h2, firstE_no h3, allB_iff.2 h4, if_pos h5, allB_iff.2 h6]; rfl

/-- an operator that is right by itself -/
theorem alone_in {l : List OpP} {i : Nat} (h : aloneE l i = 0) : btw (kindOf l i) 1 8 = true ∧ inputsB l.length i (kindOf l i) (insOf l i) = true ∧ mayB (opOf l i).kind (opOf l i).fo (opOf l i).fa (opOf l i).fb = true ∧ partsB (opOf l i) = true ∧ btw (opOf l i).cost 1 1000 = true := by
  unfold aloneE aloneO at h
  unfold kindOf insOf
  cases h1 : btw (opOf l i).kind 1 8 with
  | false => rw [h1] at h; simp at h
  | true =>
    rw [h1] at h
    cases h2 : inputsB l.length i (opOf l i).kind (opOf l i).ins with
    | false => rw [h2] at h; simp at h
    | true =>
      rw [h2] at h
      simp only [if_true] at h
      split at h
      · rename_i h3
        simp only [Bool.and_eq_true] at h3
        exact ⟨rfl, rfl, h3.1.1, h3.1.2, h3.2⟩
      · simp at h
theorem ins_in {l : List OpP} {i : Nat} (h : aloneE l i = 0) : ∀ x ∈ insOf l i, ∃ j : Nat, x = j ∧ j < l.length ∧ j ≠ i := by
  intro x hx
  obtain ⟨-, h2, -⟩ := alone_in h
  unfold inputsB at h2
  rw [Bool.and_eq_true, allB_iff] at h2
  obtain ⟨k, hk, e⟩ := mem_getD hx
  have := h2.1 k hk
  unfold inB btw at this
  rw [e] at this
  simp only [Bool.and_eq_true, decide_eq_true_eq] at this
  refine ⟨x.toNat, by omega, by omega, by omega⟩
theorem ins_nodup {l : List OpP} {i : Nat} (h : aloneE l i = 0) : ∀ j k, j < k → k < (insOf l i).length → (insOf l i).getD j 0 ≠ (insOf l i).getD k 0 := by
  intro j k hjk hk
  obtain ⟨-, h2, -⟩ := alone_in h
  unfold inputsB at h2
  rw [Bool.and_eq_true, allB_iff] at h2
  have := h2.1 k hk
  unfold inB at this
  simp only [Bool.and_eq_true, Bool.not_eq_true'] at this
  have h3 := this.2
  rw [hasB_no] at h3
  intro e
  apply h3
  rw [← e]
  have e2 : (List.take k (insOf l i)).getD j 0 = (insOf l i).getD j 0 := by rw [List.getD_eq_getElem?_getD, List.getD_eq_getElem?_getD, List.getElem?_take_of_lt hjk]
  rw [← e2]
  exact getD_mem (by rw [List.length_take]; omega)
theorem ins_many {l : List OpP} {i : Nat} (h : aloneE l i = 0) : (kindOf l i = 1 → insOf l i = []) ∧ (kindOf l i = 7 → 2 ≤ (insOf l i).length) ∧ (kindOf l i ≠ 1 → kindOf l i ≠ 7 → (insOf l i).length = 1) := by
  obtain ⟨-, h2, -⟩ := alone_in h
  unfold inputsB at h2
  rw [Bool.and_eq_true] at h2
  have := h2.2
  unfold manyB at this
  refine ⟨fun e => ?_, fun e => ?_, fun e1 e2 => ?_⟩
  · rw [if_pos e] at this; exact List.eq_nil_of_length_eq_zero (by simpa using this)
  · rw [if_neg (by omega), if_pos e] at this; simpa using this
  · rw [if_neg e1, if_neg e2] at this; simpa using this

/-- the order makes a rank -/
theorem ranked_of {l : List OpP} (h3 : ∀ j, j < l.length → aloneE l j = 0) (h5 : l.length ≤ (orderF l).length) : ∃ rank, Ranked l rank := by
  obtain ⟨o1, o2, o3⟩ := ordSt_ok l l.length
  have hlen : (orderF l).length ≤ l.length := ordSt_len l l.length
  have hfull := fun i hi => nodup_full o1 o2 h5 i hi
  have hidx : ∀ i : Nat, i < l.length → ∃ k, k < l.length ∧ (orderF l).getD k 0 = (i : Int) := fun i hi => by
    obtain ⟨k, hk, e⟩ := mem_getD (hfull i hi)
    exact ⟨k, Nat.lt_of_lt_of_le hk hlen, e⟩
  obtain ⟨rank, hrank⟩ := Classical.axiomOfChoice (r := fun (i : Nat) (k : Nat) => i < l.length → k < l.length ∧ (orderF l).getD k 0 = (i : Int)) (fun i => by
    by_cases hi : i < l.length
    · obtain ⟨k, hk⟩ := hidx i hi; exact ⟨k, fun _ => hk⟩
    · exact ⟨0, fun h => absurd h hi⟩)
  refine ⟨rank, fun i hi => ?_⟩
  obtain ⟨r1, r2⟩ := hrank i hi
  refine ⟨r1, fun x hx => ?_⟩
  obtain ⟨j, rfl, hj, -⟩ := ins_in (h3 i hi) x hx
  refine ⟨j, rfl, hj, ?_⟩
  obtain ⟨s1, s2⟩ := hrank j hj
  have hk : rank i < (orderF l).length := by omega
  have hm := o3 (rank i) hk (j : Int) (by
    have : (orderF l).getD (rank i) 0 = (i : Int) := r2
    show (j : Int) ∈ insOf l ((ordSt l l.length).getD (rank i) 0).toNat
    unfold orderF at this
    rw [this]; simpa using hx)
  obtain ⟨m, hm1, hm2⟩ := mem_getD hm
  rw [List.length_take] at hm1
  have hm3 : (orderF l).getD m 0 = (j : Int) := by
    rw [← hm2]
    show (ordSt l l.length).getD m 0 = _
    rw [List.getD_eq_getElem?_getD, List.getD_eq_getElem?_getD, List.getElem?_take_of_lt (by omega)]
  have hmlt : m < (orderF l).length := by omega
  -- none twice
  have : m = rank j := by
    have n1 : (orderF l)[m]'(by omega) = (orderF l)[rank j]'(by omega) := by
      have a1 : (orderF l).getD m 0 = (orderF l)[m]'(by omega) := by rw [List.getD_eq_getElem?_getD, List.getElem?_eq_getElem (by omega)]; rfl
      have a2 : (orderF l).getD (rank j) 0 = (orderF l)[rank j]'(by omega) := by rw [List.getD_eq_getElem?_getD, List.getElem?_eq_getElem (by omega)]; rfl
      rw [← a1, ← a2, hm3, s2]
    exact (List.getElem_inj o2).1 n1
  omega

/-- a rank's own: enough steps are enough -/
theorem comesF_same {l : List OpP} {rank : Nat → Nat} (hr : Ranked l rank) (r : Int) (f : Nat) : ∀ i, i < l.length → rank i ≤ f → comesF f l i r = comesF (rank i) l i r := by
  induction f with
  | zero => intro i hi hf; rw [show rank i = 0 by omega]
  | succ f ih =>
    intro i hi hf
    rw [comesF_of hr hi hf, comesF_of hr hi (Nat.le_refl _)]
    congr 1
    have hin := (hr i hi).2
    apply Bool.eq_iff_iff.2
    rw [List.any_eq_true, List.any_eq_true]
    constructor
    · rintro ⟨x, hx, h⟩
      obtain ⟨j, rfl, hj, hrj⟩ := hin x hx
      refine ⟨_, hx, ?_⟩
      have e1 := ih j hj (by omega)
      have e2 : comesF (rank i - 1) l j r = comesF (rank j) l j r := by
        have : ∀ m, rank j ≤ m → m ≤ f → comesF m l j r = comesF (rank j) l j r := by
          intro m
          induction m with
          | zero => intro h1 _; rw [show rank j = 0 by omega]
          | succ m ihm =>
            intro h1 h2
            exact cm hr r (m + 1) j hj h1
        exact this _ (by omega) (by omega)
      simp only [Int.toNat_natCast] at h ⊢
      rw [e2]; rw [show f + 1 - 1 = f from rfl, e1] at h; exact h
    · rintro ⟨x, hx, h⟩
      obtain ⟨j, rfl, hj, hrj⟩ := hin x hx
      refine ⟨_, hx, ?_⟩
      have e1 := ih j hj (by omega)
      have e2 := cm hr r (rank i - 1) j hj (by omega)
      simp only [Int.toNat_natCast] at h ⊢
      rw [show f + 1 - 1 = f from rfl, e1]; rw [e2] at h; exact h
where
  cm {l : List OpP} {rank : Nat → Nat} (hr : Ranked l rank) (r : Int) (f : Nat) : ∀ i, i < l.length → rank i ≤ f → comesF f l i r = comesF (rank i) l i r := by
    induction f using Nat.strongRecOn with
    | _ f ih =>
      intro i hi hf
      rw [comesF_of hr hi hf, comesF_of hr hi (Nat.le_refl _)]
      congr 1
      apply Bool.eq_iff_iff.2
      rw [List.any_eq_true, List.any_eq_true]
      constructor
      · rintro ⟨x, hx, h⟩
        obtain ⟨j, rfl, hj, hrj⟩ := (hr i hi).2 x hx
        refine ⟨_, hx, ?_⟩
        simp only [Int.toNat_natCast] at h ⊢
        rw [ih (f - 1) (by omega) j hj (by omega)] at h
        rcases (show rank i - 1 < f ∨ rank i - 1 = f by omega) with h1 | h1
        · rw [ih (rank i - 1) h1 j hj (by omega)]; exact h
        · omega
      · rintro ⟨x, hx, h⟩
        obtain ⟨j, rfl, hj, hrj⟩ := (hr i hi).2 x hx
        refine ⟨_, hx, ?_⟩
        simp only [Int.toNat_natCast] at h ⊢
        rw [ih (f - 1) (by omega) j hj (by omega)]
        rcases (show rank i - 1 < f ∨ rank i - 1 = f by omega) with h1 | h1
        · rw [ih (rank i - 1) h1 j hj (by omega)] at h; exact h
        · omega
end Go.Proofs.Ytaodbjgcidkpkaa.Sp

namespace Go.Proofs.Ytaodbjgcidkpkaa.Sp
open Go

/-- sources have no inputs -/
def Pure (l : List OpP) : Prop := ∀ i, i < l.length → kindOf l i = 1 → insOf l i = []

theorem foldl_or_bit {F : Int → Nat} (xs : List Int) (z j : Nat) : (xs.foldl (fun z x => z ||| F x) z).testBit j = (z.testBit j || xs.any fun x => (F x).testBit j) := by
  induction xs generalizing z with
  | nil => simp
  | cons y ys ih => rw [List.foldl_cons, ih, Nat.testBit_or, List.any_cons, Bool.or_assoc]

theorem bitsN_bit {l : List OpP} {rank : Nat → Nat} (hr : Ranked l rank) (hs : Pure l) (j : Nat) (f : Nat) : ∀ i, i < l.length → rank i ≤ f → (bitsN f l i).testBit j = (decide (j < l.length) && (kindOf l j == 1) && comesF f l i j) := by
  induction f using Nat.strongRecOn with
  | _ f ih =>
    intro i hi hf
    by_cases hk : kindOf l i = 1
    · rw [bitsN_src hk, Nat.testBit_two_pow, comesF_of hr hi hf, hs i hi hk]
      by_cases hij : i = j
      · subst hij; simp [hi, hk]
      · have : ((i : Int) == (j : Int)) = false := by simp; omega
        simp [hij, this]
    · rw [bitsN_op hr hi hf hk, foldl_or_bit, comesF_of hr hi hf, Nat.zero_testBit, Bool.false_or]
      rw [Bool.eq_iff_iff]
      simp only [List.any_eq_true, Bool.and_eq_true, Bool.or_eq_true, beq_iff_eq, decide_eq_true_eq]
      constructor
      · rintro ⟨x, hx, h⟩
        obtain ⟨m, rfl, hm, hrm⟩ := (hr i hi).2 x hx
        rw [Int.toNat_natCast, ih (f - 1) (by omega) _ hm (by omega)] at h
        simp only [Bool.and_eq_true, beq_iff_eq, decide_eq_true_eq] at h
        exact ⟨h.1, .inr ⟨_, hx, by simpa using h.2⟩⟩
      · rintro ⟨h1, h2 | ⟨x, hx, h⟩⟩
        · have : i = j := by omega
          rw [this] at hk; exact absurd h1.2 hk
        · obtain ⟨m, rfl, hm, hrm⟩ := (hr i hi).2 x hx
          refine ⟨_, hx, ?_⟩
          rw [Int.toNat_natCast, ih (f - 1) (by omega) _ hm (by omega)]
          simp only [Bool.and_eq_true, beq_iff_eq, decide_eq_true_eq]
          exact ⟨h1, by simpa using h⟩

theorem filter_whichF (f : Nat → Bool) (q : Int → Bool) (n : Nat) : (whichF f n).filter q = whichF (fun i => f i && q i) n := by
  induction n with
  | zero => rfl
  | succ n ih =>
    rw [whichF, whichF]
    cases h : f n with
    | false => simp [ih]
    | true =>
      cases hq : q (n : Int) with
      | false => simp [List.filter_append, ih, hq]
      | true => simp [List.filter_append, ih, hq]

theorem bits_roots {l : List OpP} {rank : Nat → Nat} (hr : Ranked l rank) (hs : Pure l) {i : Nat} (hi : i < l.length) : bitsL (bitsN l.length l i) l.length = rootsF l i := by
  rw [rootsF_at hi]
  unfold kindF bitsL
  rw [filter_whichF]
  exact whichF_congr fun j hj => by
    rw [bitsN_bit hr hs j l.length i hi (Nat.le_of_lt (hr i hi).1)]; simp [hj]
theorem mem_roots {l : List OpP} {rank : Nat → Nat} (hr : Ranked l rank) (hs : Pure l) {i : Nat} (hi : i < l.length) (x : Int) : x ∈ rootsF l i ↔ ∃ j : Nat, x = j ∧ (bitsN l.length l i).testBit j = true := by
  rw [← bits_roots hr hs hi]
  unfold bitsL
  rw [whichF_mem]
  constructor
  · rintro ⟨k, a, b, c⟩; exact ⟨k, a, c⟩
  · rintro ⟨k, a, c⟩
    refine ⟨k, a, ?_, c⟩
    have := bitsN_bit hr hs k l.length i hi (Nat.le_of_lt (hr i hi).1)
    rw [c] at this
    simp only [Bool.true_eq, Bool.and_eq_true, decide_eq_true_eq] at this
    exact this.1.1

/-- a mask is a list -/
def MaskOf (m : Nat) (S : List Int) : Prop := ∀ x : Int, x ∈ S ↔ ∃ j : Nat, x = j ∧ m.testBit j = true
theorem MaskOf.zero : MaskOf 0 [] := fun x => by simp
theorem MaskOf.or {m u : Nat} {S r : List Int} (h : MaskOf m S) (k : MaskOf u r) : MaskOf (m ||| u) (S ++ r) := fun x => by
  rw [List.mem_append, h, k]
  constructor
  · rintro (⟨j, a, b⟩ | ⟨j, a, b⟩)
    · exact ⟨j, a, by rw [Nat.testBit_or, b]; rfl⟩
    · exact ⟨j, a, by rw [Nat.testBit_or, b]; simp⟩
  · rintro ⟨j, a, b⟩
    rw [Nat.testBit_or, Bool.or_eq_true] at b
    rcases b with b | b
    · exact .inl ⟨j, a, b⟩
    · exact .inr ⟨j, a, b⟩
theorem MaskOf.and {m u : Nat} {S r : List Int} (h : MaskOf m S) (k : MaskOf u r) : (r.any fun x => hasB S x) = decide (m &&& u ≠ 0) := by
  rw [Bool.eq_iff_iff, List.any_eq_true, decide_eq_true_eq]
  constructor
  · rintro ⟨x, hx, hs⟩ e
    obtain ⟨j, rfl, hj⟩ := (k x).1 hx
    obtain ⟨j', e', hj'⟩ := (h _).1 (hasB_iff.1 hs)
    obtain rfl : j = j' := by omega
    have : (m &&& u).testBit j = true := by rw [Nat.testBit_and, hj, hj']; rfl
    rw [e] at this; simp at this
  · intro hne
    obtain ⟨j, hj⟩ := Nat.exists_testBit_of_ne_zero hne
    rw [Nat.testBit_and, Bool.and_eq_true] at hj
    exact ⟨(j : Int), (k _).2 ⟨j, rfl, hj.2⟩, hasB_iff.2 ((h _).2 ⟨j, rfl, hj.1⟩)⟩
theorem mask_roots {l : List OpP} {rank : Nat → Nat} (hr : Ranked l rank) (hs : Pure l) {i : Nat} (hi : i < l.length) : MaskOf (bitsN l.length l i) (rootsF l i) := fun x => mem_roots hr hs hi x

theorem apart_one {l : List OpP} {i : Nat} (h : (insOf l i).length ≤ 1) : apartB l i = true := by
  unfold apartB
  match hx : insOf l i with
  | [] => rfl
  | [x] => simp [apartGo, hasB]
  | _ :: _ :: _ => rw [hx] at h; simp at h
end Go.Proofs.Ytaodbjgcidkpkaa.Sp
