/- Jobs: what the program's and the document's small functions return, each from any memory. -/
import Derived.Test.YtaodbjgcidkpkaaRows
import Derived.Test.YtaodbjgcidkpkaaSpPlain
import Derived.Test.YtaodbjgcidkpkaaOpen
import Derived.WalkKit
import Derived.ProofKit
import Derived.OpenShut
import Derived.Outline
import Derived.Handy
import Derived.WalkLawsBesides
import Derived.Lib.Hide
import Derived.RegionTactic
import Derived.BigRegion
import Derived.Deep.DeepCutAuto
import Derived.Deep.QuietTactic
import Derived.BigQuiet
namespace Go.Proofs.Ytaodbjgcidkpkaa.Sp
open Go.ChangeShapes Go.WideShapes Go.ChangeAt Go.RowKit M

theorem ret_int {k : IntKind} {a b : Int} (h : a = b) : Ending.returned (.int k a) = .returned (.int k b) := by rw [h]
theorem ret_bool {a b : Bool} (h : a = b) : Ending.returned (.bool a) = .returned (.bool b) := by rw [h]

theorem between_any (n lo hi : Int) (w : World) :
    Calls Try.prog 51 #[.int .i64 n, .int .i64 lo, .int .i64 hi] w fun e w' => e = .returned (.bool (btw n lo hi)) ∧ w = w' := by
  have E := Lib.hid (show btw n lo hi = (decide (lo ≤ n) && decide (n ≤ hi)) from rfl)
  cases h1 : decide (lo ≤ n) <;> cases h2 : decide (n ≤ hi)
  all_goals
    rw [h1, h2] at E
    go_enter Try.func51, Try.ntmps51
    go_wp2
    go_returns
    exact ⟨ret_bool (by rw [E.out]; rfl), rfl⟩


/-- a job in memory -/
def cellsOp (o : OpP) (a : Option Addr × Nat) : Nat → Value
  | 0 => .int .i64 o.kind
  | 1 => .slice a.1 o.ins.length a.2
  | 2 => .int .i64 o.fo
  | 3 => .int .i64 o.fa
  | 4 => .int .i64 o.fb
  | 5 => .int .i64 o.parts
  | 6 => .int .i64 o.rate
  | _ => .int .i64 o.cost
def OpIn (o : OpP) : Prop := In64 o.kind ∧ In64 o.fo ∧ In64 o.fa ∧ In64 o.fb ∧ In64 o.parts ∧ In64 o.rate ∧ In64 o.cost
def IsOps (w : World) (B : Nat) (A : Option Addr) (l : List OpP) (p : Nat → Option Addr × Nat) : Prop :=
  Lies w B 8 A l.length (fun i j => cellsOp (opOf l i) (p i) j) ∧ ∀ i, i < l.length → OpIn (opOf l i) ∧ IsInts w B ⟨(p i).1, (p i).2, insOf l i⟩
section
variable {w w' : World} {B B' : Nat} {A : Option Addr} {l : List OpP} {p : Nat → Option Addr × Nat}
theorem IsOps.below (h : IsOps w B A l p) (hb : Below B w w') : IsOps w' B A l p := ⟨h.1.below hb, fun i hi => ⟨(h.2 i hi).1, (h.2 i hi).2.below hb⟩⟩
theorem IsOps.more (h : IsOps w B A l p) (hB : B ≤ B') : IsOps w B' A l p := ⟨h.1.more hB, fun i hi => ⟨(h.2 i hi).1, (h.2 i hi).2.more hB⟩⟩
theorem IsOps.keep (h : IsOps w B A l p) (hk : ∀ q : Addr, q.block < B → w'.cell? q = w.cell? q) : IsOps w' B A l p := ⟨h.1.keep hk, fun i hi => ⟨(h.2 i hi).1, (h.2 i hi).2.keep hk⟩⟩
theorem IsOps.alloc (h : IsOps w B A l p) (hB : B ≤ w.heap.size) (o : Obj) : IsOps (w.alloc o) B A l p := h.keep fun q hq => World.cell?_alloc_lt w o q (by omega)
theorem IsOps.drew (h : IsOps w B A l p) : IsOps w.drew B A l p := h
theorem IsOps.drewN (h : IsOps w B A l p) (k : Nat) : IsOps (w.drewN k) B A l p := h
/-- operator i -/
theorem IsOps.at_ (h : IsOps w B A l p) {i : Nat} (hi : i < l.length) : ∃ b o, A = some ⟨b, o, none⟩ ∧ b < B ∧
    w.cell? ⟨b, o + i * 8, none⟩ = some (.int .i64 (kindOf l i)) ∧ w.cell? ⟨b, o + i * 8 + 1, none⟩ = some (.slice (p i).1 (insOf l i).length (p i).2) ∧
    w.cell? ⟨b, o + i * 8 + 2, none⟩ = some (.int .i64 (opOf l i).fo) ∧ w.cell? ⟨b, o + i * 8 + 3, none⟩ = some (.int .i64 (opOf l i).fa) ∧ w.cell? ⟨b, o + i * 8 + 4, none⟩ = some (.int .i64 (opOf l i).fb) ∧
    w.cell? ⟨b, o + i * 8 + 5, none⟩ = some (.int .i64 (opOf l i).parts) ∧ w.cell? ⟨b, o + i * 8 + 6, none⟩ = some (.int .i64 (opOf l i).rate) ∧ w.cell? ⟨b, o + i * 8 + 7, none⟩ = some (.int .i64 (opOf l i).cost) ∧
    OpIn (opOf l i) ∧ IsInts w B ⟨(p i).1, (p i).2, insOf l i⟩ := by
  obtain ⟨b, o, e, hb, hc⟩ := h.1.at_ hi
  exact ⟨b, o, e, hb, by simpa [cellsOp, kindOf] using hc 0 (by omega), by simpa [cellsOp, insOf] using hc 1 (by omega), by simpa [cellsOp] using hc 2 (by omega), by simpa [cellsOp] using hc 3 (by omega), by simpa [cellsOp] using hc 4 (by omega),
    by simpa [cellsOp] using hc 5 (by omega), by simpa [cellsOp] using hc 6 (by omega), by simpa [cellsOp] using hc 7 (by omega), (h.2 i hi).1, (h.2 i hi).2⟩
end

set_option maxHeartbeats 4000000 in
theorem may_any (k o a b : Int) (w : World) (ha : In64 a) :
    Calls Try.prog 78 #[.int .i64 k, .agg #[.int .i64 o, .int .i64 a, .int .i64 b]] w fun e w' => e = .returned (.bool (mayB k o a b)) ∧ Below w.heap.size w w' := by
  unfold In64 at ha
  go_enter Try.func78, Try.ntmps78
  go_wp2_with (go_at_call 51; refine (between_any _ _ _ _).mono ?_; rintro e w' ⟨rfl, rfl⟩)
  all_goals (go_returns; exact ⟨ret_bool (by first | (simp_all [mayB, btw]; done) | (simp_all [mayB, btw]; omega) | (simp_all [mayB, btw]; intros; omega) | (unfold mayB btw; simp_all; omega) | (simp_all [mayB, btw]; rw [Bool.eq_iff_iff]; simp; omega)), by go_grown⟩)

set_option maxHeartbeats 4000000 in
theorem refMay_any (k o a b : Int) (w : World) (ha : In64 a) :
    Calls Try.prog 73 #[.int .i64 k, .agg #[.int .i64 o, .int .i64 a, .int .i64 b]] w fun e w' => e = .returned (.bool (mayB k o a b)) ∧ Below w.heap.size w w' := by
  unfold In64 at ha
  go_enter Try.func73, Try.ntmps73
  go_wp2
  all_goals (go_returns; exact ⟨ret_bool (by first | (simp_all [mayB, btw]; done) | (simp_all [mayB, btw]; omega) | (simp_all [mayB, btw]; intros; omega) | (unfold mayB btw; simp_all; omega) | (simp_all [mayB, btw]; rw [Bool.eq_iff_iff]; simp; omega)), by go_grown⟩)

/-- a list's head in memory -/
theorem ints_take {w : World} {B : Nat} {A : Option Addr} {c : Nat} {xs : List Int} (h : IsInts w B ⟨A, c, xs⟩) (k : Nat) (hk : k ≤ xs.length) : IsInts w B ⟨A, c, xs.take k⟩ := by
  obtain ⟨h1, h2, h3, h4⟩ := h
  have hl : (xs.take k).length = k := by rw [List.length_take]; omega
  refine ⟨?_, by rw [hl]; exact Nat.le_trans hk h2, h3, fun x hx => h4 x (List.mem_of_mem_take hx)⟩
  show Lies w B 1 A (xs.take k).length _
  rw [hl]
  exact (h1.less hk).congr fun i hi j _ => by
    show Value.int .i64 (xs.getD i 0) = Value.int .i64 ((xs.take k).getD i 0)
    rw [List.getD_eq_getElem?_getD, List.getD_eq_getElem?_getD, List.getElem?_take_of_lt hi]

theorem ints_at {w : World} {B : Nat} {A : Option Addr} {c : Nat} {xs : List Int} (h : IsInts w B ⟨A, c, xs⟩) {k : Nat} (hk : k < xs.length) :
    ∃ b o v, A = some ⟨b, o, none⟩ ∧ b < B ∧ Hid (xs.getD k 0 = v) ∧ In64 v ∧ w.cell? ⟨b, o + k, none⟩ = some (.int .i64 v) := by
  obtain ⟨b, o, e, hb, hc⟩ := h.1.at1 hk
  exact ⟨b, o, _, e, hb, Lib.hid rfl, h.2.2.2 _ (getD_mem hk), hc⟩

theorem ints_get {w : World} {B b o c : Nat} {xs : List Int} (h : IsInts w B ⟨some ⟨b, o, none⟩, c, xs⟩) {k : Nat} (hk : k < xs.length) :
    ∃ v, Hid (xs.getD k 0 = v) ∧ In64 v ∧ w.cell? ⟨b, o + k, none⟩ = some (.int .i64 v) := by
  obtain ⟨b', o', v, e, hb, hv, h64, hc⟩ := ints_at h hk
  simp only [Option.some.injEq, Addr.mk.injEq, and_true] at e
  obtain ⟨rfl, rfl⟩ := e
  exact ⟨v, hv, h64, hc⟩

theorem index_any (A : Option Addr) (c : Nat) (xs : List Int) (n : Int) (B : Nat) (w : World) (h : IsInts w B ⟨A, c, xs⟩) :
    Calls Try.prog 74 #[.slice A xs.length c, .int .i64 n] w fun e w' => e = .returned (.int .i64 (idxB xs n)) ∧ w = w' := by
  have hlen : xs.length ≤ 9223372036854775807 := by have := h.2.1; have := h.2.2.1; unfold maxLen at this; simp only at *; omega
  have H := Lib.hid h
  clear h
  go_enter Try.func74, Try.ntmps74
  go_wp2
  go_loop [8] (fun i => ∃ k : Nat, k ≤ xs.length ∧ i = .int .i64 k ∧ ∀ j, j < k → xs.getD j 0 ≠ n) (fun i => xs.length - (intOf i).toNat)
  case atStart => exact ⟨0, by omega, rfl, fun j hj => absurd hj (by omega)⟩
  case round =>
    obtain ⟨k, hk, rfl, hno⟩ := hrel
    have HN := Lib.hid hno
    clear hno
    by_cases hlt : k < xs.length
    · obtain ⟨b, o, v, rfl, hb, HV, -, hc⟩ := ints_at H.out hlt
      by_cases hx : n = v
      · have E := Lib.hid (idxB_at hlt (HV.out.trans hx.symm) HN.out)
        have hq : (n == v) = true := beq_iff_eq.2 hx
        clear hx
        go_wp2
        go_returns
        exact ⟨ret_int E.out.symm, rfl⟩
      · have hq : (n == v) = false := beq_eq_false_iff_ne.2 hx
        have HX := Lib.hid hx
        clear hx
        go_wp2
        go_round
        case rel => exact ⟨k + 1, by omega, by go_num, fun j hj => by
          rcases (show j < k ∨ j = k by omega) with h | rfl
          · exact HN.out j h
          · exact fun e => HX.out (e.symm.trans HV.out)⟩
        case measure => simp [intOf]; omega
    · obtain rfl : k = xs.length := by omega
      have E := Lib.hid (idxB_none HN.out)
      go_wp2
      go_returns
      exact ⟨ret_int E.out.symm, rfl⟩

theorem contains_any (A : Option Addr) (c : Nat) (xs : List Int) (n : Int) (B : Nat) (w : World) (h : IsInts w B ⟨A, c, xs⟩) :
    Calls Try.prog 50 #[.slice A xs.length c, .int .i64 n] w fun e w' => e = .returned (.bool (hasB xs n)) ∧ w = w' := by
  have H := Lib.hid (index_any A c xs n B w h)
  have E := Lib.hid (idxB_has xs n)
  clear h
  generalize idxB xs n = q at *
  go_enter Try.func50, Try.ntmps50
  go_wp2_with fail
  refine H.out.mono ?_; rintro e w' ⟨rfl, rfl⟩
  go_wp2
  go_returns
  exact ⟨ret_bool E.out, rfl⟩

theorem refHas_any (A : Option Addr) (c : Nat) (xs : List Int) (n : Int) (B : Nat) (w : World) (h : IsInts w B ⟨A, c, xs⟩) :
    Calls Try.prog 53 #[.slice A xs.length c, .int .i64 n] w fun e w' => e = .returned (.bool (hasB xs n)) ∧ w = w' := by
  have hlen : xs.length ≤ 9223372036854775807 := by have := h.2.1; have := h.2.2.1; unfold maxLen at this; simp only at *; omega
  have H := Lib.hid h
  clear h
  go_enter Try.func53, Try.ntmps53
  go_wp2
  go_loop [5] (fun i => ∃ k : Nat, k ≤ xs.length ∧ i = .int .i64 k ∧ ∀ j, j < k → xs.getD j 0 ≠ n) (fun i => xs.length - (intOf i).toNat)
  case atStart => exact ⟨0, by omega, rfl, fun j hj => absurd hj (by omega)⟩
  case round =>
    obtain ⟨k, hk, rfl, hno⟩ := hrel
    have HN := Lib.hid hno
    clear hno
    by_cases hlt : k < xs.length
    · obtain ⟨b, o, v, rfl, hb, HV, -, hc⟩ := ints_at H.out hlt
      by_cases hx : v = n
      · have E := Lib.hid (has_at hlt (HV.out.trans hx))
        have hq : (v == n) = true := beq_iff_eq.2 hx
        clear hx
        go_wp2
        go_returns
        exact ⟨ret_bool E.out.symm, rfl⟩
      · have hq : (v == n) = false := beq_eq_false_iff_ne.2 hx
        have HX := Lib.hid hx
        clear hx
        go_wp2
        go_round
        case rel => exact ⟨k + 1, by omega, by go_num, fun j hj => by
          rcases (show j < k ∨ j = k by omega) with h | rfl
          · exact HN.out j h
          · exact fun e => HX.out (HV.out.symm.trans e)⟩
        case measure => simp [intOf]; omega
    · obtain rfl : k = xs.length := by omega
      have E := Lib.hid (has_none HN.out)
      go_wp2
      go_returns
      exact ⟨ret_bool E.out.symm, rfl⟩
end Go.Proofs.Ytaodbjgcidkpkaa.Sp
