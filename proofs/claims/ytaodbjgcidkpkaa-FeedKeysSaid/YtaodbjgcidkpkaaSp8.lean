/- Jobs: what comes of what, as the document has it. -/
import Derived.Test.YtaodbjgcidkpkaaSp4
import Derived.Test.YtaodbjgcidkpkaaSp6
import Derived.Deep.RegionHeld3
namespace Go.Proofs.Ytaodbjgcidkpkaa.Sp
open Go.ChangeShapes Go.WideShapes Go.ChangeAt Go.RowKit M

theorem of_drew {w w1 : World} (h : Below w.drew.heap.size w.drew w1) : Below w.heap.size w w1 := ⟨h.os, h.tape, h.output, h.size, h.block⟩

/-- inputs are lesser, by a rank -/
def Ranked (l : List OpP) (rank : Nat → Nat) : Prop := ∀ i, i < l.length → rank i < l.length ∧ ∀ x ∈ insOf l i, ∃ j : Nat, x = j ∧ j < l.length ∧ rank j < rank i

theorem comesF_of {l : List OpP} {rank : Nat → Nat} (hr : Ranked l rank) {f i : Nat} (hi : i < l.length) (hf : rank i ≤ f) (r : Int) :
    comesF f l i r = ((i : Int) == r || (insOf l i).any fun x => comesF (f - 1) l x.toNat r) := by
  cases f with
  | succ f => rfl
  | zero =>
    have : insOf l i = [] := by
      apply List.eq_nil_iff_forall_not_mem.2
      intro x hx
      obtain ⟨j, -, -, h⟩ := (hr i hi).2 x hx
      omega
    rw [this]; simp [comesF]
theorem comes_yes {l : List OpP} {rank : Nat → Nat} (hr : Ranked l rank) {f i : Nat} (hi : i < l.length) (hf : rank i ≤ f) {r : Int} {k : Nat} {v : Int} (hk : k < (insOf l i).length) (hv : (insOf l i).getD k 0 = v) (h : comesF (f - 1) l v.toNat r = true) : comesF f l i r = true := by
  rw [comesF_of hr hi hf]
  have : ((insOf l i).any fun x => comesF (f - 1) l x.toNat r) = true := List.any_eq_true.2 ⟨v, hv ▸ getD_mem hk, h⟩
  rw [this]; simp
theorem comes_no {l : List OpP} {rank : Nat → Nat} (hr : Ranked l rank) {f i : Nat} (hi : i < l.length) (hf : rank i ≤ f) {r : Int} (h0 : ((i : Int) == r) = false) (h : ∀ k, k < (insOf l i).length → comesF (f - 1) l ((insOf l i).getD k 0).toNat r = false) : comesF f l i r = false := by
  rw [comesF_of hr hi hf, h0, Bool.false_or, List.any_eq_false]
  intro x hx
  obtain ⟨k, hk, e⟩ := mem_getD hx
  rw [← e, h k hk]; simp

set_option maxHeartbeats 2000000 in
theorem comes_step (g : Int) (A : Option Addr) (c : Nat) (l : List OpP) (p : Nat → Option Addr × Nat) (rank : Nat → Nat) (hr : Ranked l rank) (_hl : l.length ≤ 1000000) (r : Int) (f : Nat)
    (ih : ∀ (i : Nat) (w : World) (B : Nat), B ≤ w.heap.size → IsOps w B A l p → i < l.length → rank i + 1 ≤ f →
      Calls Try.prog 54 #[.agg #[.int .i64 g, .slice A l.length c], .int .i64 i, .int .i64 r] w fun e w' => e = .returned (.bool (comesF (f - 1) l i r)) ∧ Below w.heap.size w w')
    (i : Nat) (w : World) (B : Nat) (hB : B ≤ w.heap.size) (h : IsOps w B A l p) (hi : i < l.length) (hf : rank i ≤ f) :
    Calls Try.prog 54 #[.agg #[.int .i64 g, .slice A l.length c], .int .i64 i, .int .i64 r] w fun e w' => e = .returned (.bool (comesF f l i r)) ∧ Below w.heap.size w w' := by
  have HH := Lib.hid h
  obtain ⟨b, o, rfl, hb, -, c1, -, -, -, -, -, -, -, hin⟩ := (h.alloc hB (.cells #[.int .i64 g, .slice A l.length c] 24)).at_ hi
  have HI := Lib.hid hin
  have hlen : (insOf l i).length ≤ 9223372036854775807 := by have := hin.2.1; have := hin.2.2.1; unfold maxLen at this; simp only at *; omega
  have HY := Lib.hid (fun k v => @comes_yes l rank hr f i hi hf r k v)
  have HN := Lib.hid (@comes_no l rank hr f i hi hf r)
  have HIN := Lib.hid ((hr i hi).2)
  have IH := Lib.hid ih
  have E0 : Hid (((i : Int) == r) = true → comesF f l i r = true) := fun h => by rw [comesF_of hr hi hf, h]; rfl
  clear h hin ih
  generalize p i = a at *
  obtain ⟨pa, pc⟩ := a
  simp only at c1 HI
  generalize insOf l i = xs at *
  cases e0 : ((i : Int) == r) with
  | true =>
    have E := Lib.hid (E0.out e0)
    go_enter Try.func54, Try.ntmps54
    go_wp2
    go_returns
    exact ⟨ret_bool E.out.symm, by go_grown⟩
  | false =>
    have HNO := Lib.hid (HN.out e0)
    go_enter Try.func54, Try.ntmps54
    go_wp2_with fail
    go_loopw [7] (fun q wr => ∃ k : Nat, k ≤ xs.length ∧ q = .int .i64 k ∧ Below (w.heap.size + 1) (w.alloc (.cells #[.int .i64 g, .slice (some ⟨b, o, none⟩) l.length c] 24)) wr ∧ ∀ j, j < k → comesF (f - 1) l (xs.getD j 0).toNat r = false) (fun q _ => xs.length - (intOf q).toNat)
    case atStart => exact ⟨0, by omega, rfl, Below.refl _ _, fun j hj => absurd hj (by omega)⟩
    case round =>
      obtain ⟨k, hk, rfl, hbl, hno⟩ := hrel
      have HB := Lib.hid hbl
      have HX := Lib.hid hno
      have s0 : wr.cell? ⟨w.heap.size, 0, none⟩ = some (.int .i64 g) := (HB.out.cell (p := ⟨w.heap.size, 0, none⟩) (by show w.heap.size < _; omega)).trans (by go_simp)
      have s1 : wr.cell? ⟨w.heap.size, 1, none⟩ = some (.slice (some ⟨b, o, none⟩) l.length c) := (HB.out.cell (p := ⟨w.heap.size, 1, none⟩) (by show w.heap.size < _; omega)).trans (by go_simp)
      have s2 : wr.cell? ⟨b, o + i * 8 + 1, none⟩ = some (.slice pa xs.length pc) := (HB.out.cell (p := ⟨b, o + i * 8 + 1, none⟩) (by show b < _; omega)).trans c1
      have hsz : w.heap.size + 1 ≤ wr.heap.size := by have := HB.out.size; simpa using this
      clear hbl hno
      by_cases hlt : k < xs.length
      · obtain ⟨b2, o2, v, rfl, hb2, HV, -, hc0⟩ := ints_at HI.out hlt
        have s3 : wr.cell? ⟨b2, o2 + k, none⟩ = some (.int .i64 v) := (HB.out.cell (p := ⟨b2, o2 + k, none⟩) (by show b2 < _; omega)).trans hc0
        obtain ⟨j, ej, hj, hrj⟩ := HIN.out v (by rw [← HV.out]; exact getD_mem hlt)
        subst ej
        have HC : Hid (∀ w0, Below w.heap.size w w0 → Calls Try.prog 54 #[.agg #[.int .i64 g, .slice (some ⟨b, o, none⟩) l.length c], .int .i64 j, .int .i64 r] w0 fun e w' => e = .returned (.bool (comesF (f - 1) l j r)) ∧ Below w0.heap.size w0 w') := fun w0 h0 =>
          IH.out j w0 B (Nat.le_trans hB h0.size) (HH.out.below (h0.mono hB)) hj (by omega)
        have HW := Lib.hid (through ((Below.refl _ _).alloc (Nat.le_refl _) _) (Nat.le_refl _) (HB.out.mono (by simp)))
        have HZ : Hid (∀ w2, Below wr.heap.size wr w2 → w2.cell? ⟨w.heap.size, 0, none⟩ = some (.int .i64 g) ∧ w2.cell? ⟨w.heap.size, 1, none⟩ = some (.slice (some ⟨b, o, none⟩) l.length c) ∧ w2.cell? ⟨b, o + i * 8 + 1, none⟩ = some (.slice (some ⟨b2, o2, none⟩) xs.length pc) ∧ w2.cell? ⟨b2, o2 + k, none⟩ = some (.int .i64 (j : Int))) := fun w2 h2 =>
          ⟨(h2.cell (p := ⟨w.heap.size, 0, none⟩) (by show w.heap.size < _; omega)).trans s0, (h2.cell (p := ⟨w.heap.size, 1, none⟩) (by show w.heap.size < _; omega)).trans s1, (h2.cell (p := ⟨b, o + i * 8 + 1, none⟩) (by show b < _; omega)).trans s2, (h2.cell (p := ⟨b2, o2 + k, none⟩) (by show b2 < _; omega)).trans s3⟩
        have HBK : Hid (∀ w2, Below wr.heap.size wr w2 → Below (w.heap.size + 1) (w.alloc (.cells #[.int .i64 g, .slice (some ⟨b, o, none⟩) l.length c] 24)) w2) := fun w2 h2 => through HB.out (by simp) h2
        have EV : Hid ((xs.getD k 0).toNat = j) := show (xs.getD k 0).toNat = j from by rw [HV.out]; rfl
        have HYK : Hid (comesF (f - 1) l j r = true → comesF f l i r = true) := fun h => HY.out k (j : Int) hlt HV.out h
        have HNK : Hid (comesF (f - 1) l j r = false → ∀ m, m < k + 1 → comesF (f - 1) l (xs.getD m 0).toNat r = false) := fun h m hm => by
          rcases (show m < k ∨ m = k by omega) with h1 | rfl
          · exact HX.out m h1
          · rw [EV.out]; exact h
        generalize comesF (f - 1) l j r = z at *
        clear c1 hc0
        go_upto_region 6 with (fail)
        go_region_held3 (fun w' => w'.cell? ⟨w.heap.size, 0, none⟩ = some (.int .i64 g) ∧ w'.cell? ⟨w.heap.size, 1, none⟩ = some (.slice (some ⟨b, o, none⟩) l.length c) ∧ w'.cell? ⟨b, o + i * 8 + 1, none⟩ = some (.slice (some ⟨b2, o2, none⟩) xs.length pc) ∧ w'.cell? ⟨b2, o2 + k, none⟩ = some (.int .i64 (j : Int)))
          (first | exact HZ.out _ (Below.refl _ _).drew | exact HZ.out _ (Below.refl _ _) | exact HZ.out _ (of_drew hb1))
          ((go_at_call 54; refine (HC.out _ HW.out.drew).mono ?_; rintro e w1 ⟨rfl, hb1⟩))
        have HB1 := Lib.hid (HBK.out _ (of_drew hb1))
        have HW1 := Lib.hid (through HW.out (Nat.le_refl _) (of_drew hb1))
        clear hb1 s0 s1 s2 s3
        cases z with
        | true =>
          have E := Lib.hid (HYK.out rfl)
          go_wp2
          go_returns
          exact ⟨ret_bool E.out.symm, HW1.out⟩
        | false =>
          have E := Lib.hid (HNK.out rfl)
          go_wp2
          go_roundw
          case rel => exact ⟨k + 1, by omega, by go_num, HB1.out, E.out⟩
          case measure => simp [intOf]; omega
      · obtain rfl : k = xs.length := by omega
        have E := Lib.hid (HNO.out HX.out)
        go_wp2_with fail
        go_returns
        exact ⟨ret_bool E.out.symm, through ((Below.refl _ _).alloc (Nat.le_refl _) _) (Nat.le_refl _) (HB.out.mono (by simp))⟩

theorem comes_any (g : Int) (A : Option Addr) (c : Nat) (l : List OpP) (p : Nat → Option Addr × Nat) (rank : Nat → Nat) (hr : Ranked l rank) (hl : l.length ≤ 1000000) (r : Int) (f : Nat) :
    ∀ (i : Nat) (w : World) (B : Nat), B ≤ w.heap.size → IsOps w B A l p → i < l.length → rank i ≤ f →
    Calls Try.prog 54 #[.agg #[.int .i64 g, .slice A l.length c], .int .i64 i, .int .i64 r] w fun e w' => e = .returned (.bool (comesF f l i r)) ∧ Below w.heap.size w w' := by
  induction f with
  | zero => intro i w B hB h hi hf; exact comes_step g A c l p rank hr hl r 0 (fun i w B _ _ _ h => absurd h (by omega)) i w B hB h hi hf
  | succ f ih => intro i w B hB h hi hf; exact comes_step g A c l p rank hr hl r (f + 1) (fun i w B hB h hi hf => ih i w B hB h hi (by omega)) i w B hB h hi hf
end Go.Proofs.Ytaodbjgcidkpkaa.Sp
