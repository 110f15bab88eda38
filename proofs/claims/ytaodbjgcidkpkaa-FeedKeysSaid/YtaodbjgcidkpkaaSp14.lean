/- Jobs: the known ones. -/
import Derived.Test.YtaodbjgcidkpkaaSp13
import Derived.Test.YtaodbjgcidkpkaaKi
namespace Go.Proofs.Ytaodbjgcidkpkaa.Sp
open Go.ChangeShapes Go.WideShapes Go.ChangeAt Go.RowKit M

/-- a source, and a sink of it -/
def twoL : List OpP := [⟨1, [], 0, 0, 0, 1, 1, 1⟩, ⟨8, [0], 0, 0, 0, 0, 0, 1⟩]

set_option maxHeartbeats 2000000 in
theorem two_any (w : World) :
    Calls Try.prog 31 #[] w fun e w' => e = .returned (.agg #[.int .i64 4, .slice (some ⟨w.heap.size + 2, 0, none⟩) 2 2]) ∧ Below w.heap.size w w' ∧ w'.heap.size = w.heap.size + 3 ∧
      Blk w' (w.heap.size + 1) 3 #[.int .i64 0] ∧
      Blk w' (w.heap.size + 2) 40 #[.int .i64 1, .slice none 0 0, .int .i64 0, .int .i64 0, .int .i64 0, .int .i64 1, .int .i64 1, .int .i64 1, .int .i64 8, .slice (some ⟨w.heap.size + 1, 0, none⟩) 1 1, .int .i64 0, .int .i64 0, .int .i64 0, .int .i64 0, .int .i64 0, .int .i64 1] := by
  go_enter Try.func31, Try.ntmps31
  go_wp2_with fail
  go_returns
  refine ⟨rfl, ((((Below.refl _ _).alloc (Nat.le_refl _) _).alloc (by simp) _).alloc (by simp; omega) _), by simp, ?_, ?_⟩
  · have := (Blk.new (w.alloc (.cells #[.int .i64 4, .slice (some ⟨w.heap.size + 1 + 1, 0, none⟩) 2 2] 24)) 3 #[.int .i64 0]).alloc (.cells #[.int .i64 1, .slice none 0 0, .int .i64 0, .int .i64 0, .int .i64 0, .int .i64 1, .int .i64 1, .int .i64 1, .int .i64 8, .slice (some ⟨w.heap.size + 1, 0, none⟩) 1 1, .int .i64 0, .int .i64 0, .int .i64 0, .int .i64 0, .int .i64 0, .int .i64 1] 40)
    simpa using this
  · have := Blk.new ((w.alloc (.cells #[.int .i64 4, .slice (some ⟨w.heap.size + 1 + 1, 0, none⟩) 2 2] 24)).alloc (.cells #[.int .i64 0] 3)) 40 #[.int .i64 1, .slice none 0 0, .int .i64 0, .int .i64 0, .int .i64 0, .int .i64 1, .int .i64 1, .int .i64 1, .int .i64 8, .slice (some ⟨w.heap.size + 1, 0, none⟩) 1 1, .int .i64 0, .int .i64 0, .int .i64 0, .int .i64 0, .int .i64 0, .int .i64 1]
    simpa using this

theorem ops_blk {w : World} {g : Nat} {T : TypeId} {cs : Array Value} {l : List OpP} {p : Nat → Option Addr × Nat} (h : Blk w g T cs) (hc : ∀ i, i < l.length → ∀ j, j < 8 → cs[i * 8 + j]? = some (cellsOp (opOf l i) (p i) j))
    (hin : ∀ i, i < l.length → OpIn (opOf l i) ∧ IsInts w w.heap.size ⟨(p i).1, (p i).2, insOf l i⟩) : IsOps w w.heap.size (some ⟨g, 0, none⟩) l p := ⟨(h.lies hc).more h.lt, hin⟩
theorem ints_nil {w : World} {B : Nat} (A : Option Addr) (c : Nat) (hc : c ≤ maxLen) : IsInts w B ⟨A, c, []⟩ := ⟨Lies.zero _ _, Nat.zero_le _, hc, fun x hx => absurd hx (by simp)⟩
theorem ints_blk {w : World} {g : Nat} {T : TypeId} {xs : List Int} (h : Blk w g T (xs.map (Value.int .i64)).toArray) (hl : xs.length ≤ 1000000) (h64 : ∀ x ∈ xs, In64 x) : IsInts w w.heap.size ⟨some ⟨g, 0, none⟩, xs.length, xs⟩ := by
  refine ⟨(h.lies fun i hi j hj => ?_).more h.lt, Nat.le_refl _, by unfold maxLen; simp only; omega, h64⟩
  obtain rfl : j = 0 := by omega
  have hi' : i < xs.length := hi
  simp [hi', List.getD_eq_getElem?_getD]
def twoP (q : Nat) (i : Nat) : Option Addr × Nat := if i = 1 then (some ⟨q, 0, none⟩, 1) else (none, 0)
theorem two_ops {w : World} {q g : Nat} (h1 : Blk w q 3 #[.int .i64 0]) (h2 : Blk w g 40 #[.int .i64 1, .slice none 0 0, .int .i64 0, .int .i64 0, .int .i64 0, .int .i64 1, .int .i64 1, .int .i64 1, .int .i64 8, .slice (some ⟨q, 0, none⟩) 1 1, .int .i64 0, .int .i64 0, .int .i64 0, .int .i64 0, .int .i64 0, .int .i64 1]) :
    IsOps w w.heap.size (some ⟨g, 0, none⟩) twoL (twoP q) := by
  refine ops_blk h2 (fun i hi j hj => ?_) (fun i hi => ?_)
  · have hi' : i < 2 := hi
    rcases (show i = 0 ∨ i = 1 by omega) with rfl | rfl <;> rcases (show j = 0 ∨ j = 1 ∨ j = 2 ∨ j = 3 ∨ j = 4 ∨ j = 5 ∨ j = 6 ∨ j = 7 by omega) with rfl | rfl | rfl | rfl | rfl | rfl | rfl | rfl <;> rfl
  · have hi' : i < 2 := hi
    rcases (show i = 0 ∨ i = 1 by omega) with rfl | rfl
    · exact ⟨by unfold OpIn In64; decide, ints_nil _ _ (Nat.zero_le _)⟩
    · exact ⟨by unfold OpIn In64; decide, ints_blk (xs := [0]) h1 (by decide) (by simp [In64])⟩
theorem IsOps.less {w : World} {B : Nat} {A : Option Addr} {l : List OpP} {p : Nat → Option Addr × Nat} (h : IsOps w B A l p) (m : Nat) (hm : m ≤ l.length) : IsOps w B A (l.take m) p := by
  have hl : (l.take m).length = m := by rw [List.length_take]; omega
  have he : ∀ i, i < m → opOf (l.take m) i = opOf l i := fun i hi => by
    unfold opOf; rw [List.getD_eq_getElem?_getD, List.getD_eq_getElem?_getD, List.getElem?_take_of_lt hi]
  refine ⟨?_, fun i hi => ?_⟩
  · rw [hl]; exact (h.1.less hm).congr fun i hi j _ => by rw [he i hi]
  · rw [hl] at hi
    have := h.2 i (by omega)
    unfold insOf at *
    rw [he i hi]; exact this


theorem known_chk : chkE 4 twoL = 0 := by decide +kernel
theorem known_chk1 : chkE 4 (twoL.take 1) = 8 := by decide +kernel
theorem known_ord : orderF twoL = [0, 1] := by decide +kernel
theorem known_root : rootsF twoL 1 = [0] := by decide +kernel
theorem two_al : ∀ j, j < twoL.length → aloneE twoL j = 0 := by decide +kernel
theorem two_rank : ∃ rank, Ranked twoL rank := ranked_of two_al (by decide +kernel)
theorem two_bits : bitsL (bitsN twoL.length twoL 1) twoL.length = [0] := by decide +kernel

def longB (l : List OpP) : Bool := decide (20 < l.length) || !(allB (fun i => decide ((insOf l i).length ≤ 20)) l.length)
theorem long_no {l : List OpP} (h : longB l = false) : l.length ≤ 20 ∧ ∀ i, i < l.length → (insOf l i).length ≤ 20 := by
  unfold longB at h
  simp only [Bool.or_eq_false_iff, decide_eq_false_iff_not, Bool.not_eq_false', allB_iff, decide_eq_true_eq] at h
  exact ⟨by omega, h.2⟩

theorem long_any (g : Int) (A : Option Addr) (c : Nat) (l : List OpP) (p : Nat → Option Addr × Nat) (hl : l.length ≤ 9223372036854775807) (w : World) (B : Nat) (hB : B ≤ w.heap.size) (h : IsOps w B A l p) :
    Calls Try.prog 11 #[.agg #[.int .i64 g, .slice A l.length c]] w fun e w' => e = .returned (.bool (longB l)) ∧ Below w.heap.size w w' := by
  have HH := Lib.hid h
  clear h
  have EL := Lib.hid (show longB l = (decide (20 < l.length) || !(allB (fun i => decide ((insOf l i).length ≤ 20)) l.length)) from rfl)
  by_cases h20 : 20 < l.length
  · have E := Lib.hid (show longB l = true by rw [EL.out]; simp [h20])
    have ht : decide (20 < (l.length : Int)) = true := decide_eq_true (by omega)
    go_enter Try.func11, Try.ntmps11
    go_wp2_with fail
    go_returns
    exact ⟨ret_bool E.out.symm, by go_grown⟩
  · have E0 := Lib.hid (show longB l = !(allB (fun i => decide ((insOf l i).length ≤ 20)) l.length) by rw [EL.out]; simp [h20])
    have ht : decide (20 < (l.length : Int)) = false := decide_eq_false (by omega)
    go_enter Try.func11, Try.ntmps11
    go_wp2_with fail
    go_loop [3] (fun q => ∃ k : Nat, k ≤ l.length ∧ q = .int .i64 k ∧ ∀ j, j < k → decide ((insOf l j).length ≤ 20) = true) (fun q => l.length - (intOf q).toNat)
    case atStart => exact ⟨0, by omega, rfl, fun j hj => absurd hj (by omega)⟩
    case round =>
      obtain ⟨k, hk, rfl, hno⟩ := hrel
      have HN := Lib.hid hno
      clear hno
      by_cases hlt : k < l.length
      · obtain ⟨b, o, rfl, hb, -, c1, -, -, -, -, -, -, -, hin⟩ := HH.out.at_ hlt
        have hbw : b < w.heap.size := by omega
        have hxl : (insOf l k).length ≤ 9223372036854775807 := by have := hin.2.1; have := hin.2.2.1; unfold maxLen at this; simp only at *; omega
        by_cases hx : (insOf l k).length ≤ 20
        · have E := Lib.hid (show decide ((insOf l k).length ≤ 20) = true by simpa using hx)
          have ht2 : decide (20 < ((insOf l k).length : Int)) = false := decide_eq_false (by omega)
          clear hin
          go_wp2_with fail
          go_round
          case rel => exact ⟨k + 1, by omega, by go_num, fun j hj => by
            rcases (show j < k ∨ j = k by omega) with h | rfl
            · exact HN.out j h
            · exact E.out⟩
          case measure => simp [intOf]; omega
        · have E := Lib.hid (show longB l = true by rw [E0.out, allB_no hlt (by simpa using hx)]; rfl)
          have ht2 : decide (20 < ((insOf l k).length : Int)) = true := decide_eq_true (by omega)
          clear hin
          go_wp2_with fail
          go_returns
          exact ⟨ret_bool E.out.symm, by go_grown⟩
      · obtain rfl : k = l.length := by omega
        have E := Lib.hid (show longB l = false by rw [E0.out, allB_iff.2 HN.out]; rfl)
        go_wp2_with fail
        go_returns
        exact ⟨ret_bool E.out.symm, by go_grown⟩
end Go.Proofs.Ytaodbjgcidkpkaa.Sp
