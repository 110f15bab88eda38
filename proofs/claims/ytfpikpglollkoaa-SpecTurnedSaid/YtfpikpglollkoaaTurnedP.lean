/- A job that may be may be with its operators numbered the other way round; with one cost, groups, kind or input out of its place it may not. No condition. -/
import Derived.Test.YtfpikpglollkoaaRows
import Derived.Test.YtfpikpglollkoaaRow
import Derived.WalkKit
import Derived.ProofKit
import Derived.OpenShut
import Derived.Test.YtfpikpglollkoaaSpU
namespace Go.Proofs.Ytfpikpglollkoaa.specTurned
open Go.ChangeShapes Go.WideShapes Go.ChangeAt Go.RowKit
set_option linter.unusedVariables false

theorem own : ownKnob Try.prog.godebug = none := by kernel_rfl

set_option maxRecDepth 100000 in
theorem lifted (os : Os) (started : os.Started) (H : Type) (enc : TypeId × Value → H) :
    ReturnsInHanded {} Try.checked os 7 .any (Rows.specTurnedSpec.pre6 enc Try.prog Try.f7 Rows.specTurnedRow.domain false) (Rows.specTurnedSpec.post enc Try.prog Try.f7 false true false false) := by
  refine returnsInHanded_of_change (C := Try.checked) own started (by kernel_rfl) Try.func7
    (ChangeSpec.witness6 (enc := enc) (C := Try.checked) false ⟨#[], #[.agg #[.int .i64 0, .slice none 0 0], .int .i64 0], []⟩ 8 (by kernel_rfl) (by kernel_rfl) (by kernel_rfl) (by kernel_rfl)) ?_
  intro W base args ds gs before hval0 hW hcnd _
  have hval : ∀ (j : Nat) t v, Try.f7.params[j]? = some t → args[j]? = some v → Value.okWide Try.prog W .any base t v := hval0
  have hW' := hW
  obtain ⟨p, q, hA0, hV, rfl, hfz, hnd⟩ := hW
  have hA : DataW.TrodAll enc Try.prog W 0 (fun _ => true) true Try.f7.params.toList args.toList ds p := hA0
  rw [Try.params7] at hA hval
  obtain ⟨v0, vs0, d0, ds0, p0, q0, hargs, rfl, rfl, h0, r0⟩ := trodAll_cons hA
  obtain ⟨v1, vs1, d1, ds1, p1, q1, rfl, rfl, rfl, h1, r1⟩ := trodAll_cons r0
  obtain ⟨rfl, rfl, rfl⟩ := trodAll_nil r1
  obtain rfl : args = #[v0, v1] := by cases args; simp_all
  obtain ⟨rfl, rfl⟩ := trodVars_none hV
  have ok0 := hval 0 24 v0 rfl rfl
  obtain ⟨a1, rfl, rfl, rfl, w1⟩ := open_int Try.underlying3 (hval 1 3 v1 rfl rfl) h1
  clear hA0 hval0
  simp only [List.append_nil, List.nil_append] at hW'
  have hlt : ∀ x ∈ (p0 : List MemPlace), x.block < W.heap.size := fun x hx => hW'.lt x hx
  have key : Calls Try.prog 7 #[v0, .int .i64 a1] W fun e w' => e = .returned (.bool true) ∧ Below W.heap.size W w' := by
    obtain ⟨g0, A0, c0, l0, q0, rfl, hg0, hl0, hi0⟩ := Sp.open_spec ok0 h0
    exact Sp.specTurned_any g0 A0 c0 l0 q0 hl0 a1 (M.wf_in64 w1) W W.heap.size (Nat.le_refl _) hi0
  refine key.mono fun e W' ⟨he, hb⟩ => ?_
  subst he
  have hargs : ∀ sp : Nat → Bool, (∀ p ∈ (p0 : List MemPlace), sp p.block = true) → DataW.TrodAll enc Try.prog W' 0 sp true Try.f7.params.toList (#[v0, .int .i64 a1] : Array Value).toList [d0, (.lit (.int .i64 a1))] (p0 ++ ([] ++ ([]))) := fun sp hsp => by
    rw [Try.params7]
    exact (trodAll_cons_mk (M.still (by kernel_rfl) (of_decide_eq_true (by kernel_rfl)) h0 hb (fun x hx => by simp [hx]) hlt hsp) (trodAll_cons_mk (shut_int Try.underlying3 w1) trodAll_mk0))
  simp only [List.append_nil, List.nil_append] at hargs
  exact ⟨_, rfl, M.post_below (pa := p0) (pv := []) hW' (fun _ _ _ => (trodAll_cons_mk (shut_bool Try.underlying4 _) trodAll_mk0)) (fun sp hsp => hargs sp hsp) (fun _ _ => rfl) (by simp)
    hb (ok_one (by kernel_rfl) rfl (okWide_bool_mk Try.underlying4 _))⟩

theorem over : Rows.specTurnedRow.holds Try.pinned (OpenSpec.ofChange Rows.specTurnedSpec) :=
  OpenClaim.holds_of_wide 7 Try.f7 rfl rfl rfl rfl rfl rfl rfl ⟨rfl, rfl, rfl, rfl, rfl⟩ rfl rfl rfl rfl rfl (by kernel_rfl) Try.func7 (by kernel_rfl)
    (of_decide_eq_true (by kernel_rfl)) (by unfold Func.isWrapper; first | (rw [if_pos (by decide +kernel)]; kernel_rfl) | (rw [if_neg (by decide +kernel)]; exact ⟨rfl, rfl⟩))
    (fun os started H enc _ => lifted os started H enc)

theorem proved : Rows.SpecTurnedSaid :=
  over
#print axioms proved
end Go.Proofs.Ytfpikpglollkoaa.specTurned
