/- Cmp is an order of fractions, and Ceil the least whole number that is not less. No condition. -/
import Derived.Test.YtjfahghdaoickaaRows
import Derived.Test.YtjfahghdaoickaaRow
import Derived.WalkKit
import Derived.ProofKit
import Derived.OpenShut
import Derived.Test.YtjfahghdaoickaaFrP
namespace Go.Proofs.Ytjfahghdaoickaa.fracOrder
open Go.ChangeShapes Go.WideShapes Go.ChangeAt Go.RowKit
set_option linter.unusedVariables false

theorem own : ownKnob Try.prog.godebug = none := by kernel_rfl

set_option maxRecDepth 100000 in
theorem lifted (os : Os) (started : os.Started) (H : Type) (enc : TypeId × Value → H) :
    ReturnsInHanded {} Try.checked os 5 .any (Rows.fracOrderSpec.pre6 enc Try.prog Try.f5 Rows.fracOrderRow.domain false) (Rows.fracOrderSpec.post enc Try.prog Try.f5 false true false false) := by
  refine returnsInHanded_of_change (C := Try.checked) own started (by kernel_rfl) Try.func5
    (ChangeSpec.witness6 (enc := enc) (C := Try.checked) false ⟨#[], #[.agg #[.int .i64 0, .int .i64 0], .agg #[.int .i64 0, .int .i64 0], .agg #[.int .i64 0, .int .i64 0]], []⟩ 8 (by kernel_rfl) (by kernel_rfl) (by kernel_rfl) (by kernel_rfl)) ?_
  intro W base args ds gs before hval0 hW hcnd _
  have hval : ∀ (j : Nat) t v, Try.f5.params[j]? = some t → args[j]? = some v → Value.okWide Try.prog W .any base t v := hval0
  have hW' := hW
  obtain ⟨p, q, hA0, hV, rfl, hfz, hnd⟩ := hW
  have hA : DataW.TrodAll enc Try.prog W 0 (fun _ => true) true Try.f5.params.toList args.toList ds p := hA0
  rw [Try.params5] at hA hval
  obtain ⟨v0, vs0, d0, ds0, p0, q0, hargs, rfl, rfl, h0, r0⟩ := trodAll_cons hA
  obtain ⟨v1, vs1, d1, ds1, p1, q1, rfl, rfl, rfl, h1, r1⟩ := trodAll_cons r0
  obtain ⟨v2, vs2, d2, ds2, p2, q2, rfl, rfl, rfl, h2, r2⟩ := trodAll_cons r1
  obtain ⟨rfl, rfl, rfl⟩ := trodAll_nil r2
  obtain rfl : args = #[v0, v1, v2] := by cases args; simp_all
  obtain ⟨rfl, rfl⟩ := trodVars_none hV
  have ok0 := hval 0 28 v0 rfl rfl
  have ok1 := hval 1 28 v1 rfl rfl
  have ok2 := hval 2 28 v2 rfl rfl
  clear hA0 hval0
  simp only [List.append_nil, List.nil_append] at hW'
  have hlt : ∀ x ∈ (p0 ++ (p1 ++ p2) : List MemPlace), x.block < W.heap.size := fun x hx => hW'.lt x hx
  have key : Calls Try.prog 5 #[v0, v1, v2] W fun e w' => e = .returned (.bool true) ∧ Below W.heap.size W w' := by
    obtain ⟨x0, y0, rfl, i0, j0⟩ := Fr.open_frac ok0 h0
    obtain ⟨x1, y1, rfl, i1, j1⟩ := Fr.open_frac ok1 h1
    obtain ⟨x2, y2, rfl, i2, j2⟩ := Fr.open_frac ok2 h2
    exact Fr.order_any x0 y0 x1 y1 x2 y2 W i0 j0 i1 j1 i2 j2
  refine key.mono fun e W' ⟨he, hb⟩ => ?_
  subst he
  have hargs : ∀ sp : Nat → Bool, (∀ p ∈ (p0 ++ (p1 ++ p2) : List MemPlace), sp p.block = true) → DataW.TrodAll enc Try.prog W' 0 sp true Try.f5.params.toList (#[v0, v1, v2] : Array Value).toList [d0, d1, d2] (p0 ++ (p1 ++ (p2 ++ ([])))) := fun sp hsp => by
    rw [Try.params5]
    exact (trodAll_cons_mk (M.still (by kernel_rfl) (of_decide_eq_true (by kernel_rfl)) h0 hb (fun x hx => by simp [hx]) hlt hsp) (trodAll_cons_mk (M.still (by kernel_rfl) (of_decide_eq_true (by kernel_rfl)) h1 hb (fun x hx => by simp [hx]) hlt hsp) (trodAll_cons_mk (M.still (by kernel_rfl) (of_decide_eq_true (by kernel_rfl)) h2 hb (fun x hx => by simp [hx]) hlt hsp) trodAll_mk0)))
  simp only [List.append_nil, List.nil_append] at hargs
  exact ⟨_, rfl, M.post_below (pa := p0 ++ (p1 ++ p2)) (pv := []) hW' (fun _ _ _ => (trodAll_cons_mk (shut_bool Try.underlying4 _) trodAll_mk0)) (fun sp hsp => hargs sp hsp) (fun _ _ => rfl) (by simp)
    hb (ok_one (by kernel_rfl) rfl (okWide_bool_mk Try.underlying4 _))⟩

theorem over : Rows.fracOrderRow.holds Try.pinned (OpenSpec.ofChange Rows.fracOrderSpec) :=
  OpenClaim.holds_of_wide 5 Try.f5 rfl rfl rfl rfl rfl rfl rfl ⟨rfl, rfl, rfl, rfl, rfl⟩ rfl rfl rfl rfl rfl (by kernel_rfl) Try.func5 (by kernel_rfl)
    (of_decide_eq_true (by kernel_rfl)) (by unfold Func.isWrapper; first | (rw [if_pos (by decide +kernel)]; kernel_rfl) | (rw [if_neg (by decide +kernel)]; exact ⟨rfl, rfl⟩))
    (fun os started H enc _ => lifted os started H enc)

theorem proved : Rows.FracOrderSaid :=
  over
#print axioms proved
end Go.Proofs.Ytjfahghdaoickaa.fracOrder
