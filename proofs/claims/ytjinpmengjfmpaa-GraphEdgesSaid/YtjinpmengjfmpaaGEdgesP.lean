/- Of a job that may be, its edges, and those to and from any task, are what the document says. No condition. -/
import Derived.Test.YtjinpmengjfmpaaRows
import Derived.Test.YtjinpmengjfmpaaRow
import Derived.WalkKit
import Derived.ProofKit
import Derived.OpenShut
import Derived.Test.YtjinpmengjfmpaaGpL
namespace Go.Proofs.Ytjinpmengjfmpaa.graphEdges
open Go.ChangeShapes Go.WideShapes Go.ChangeAt Go.RowKit
set_option linter.unusedVariables false

theorem own : ownKnob Try.prog.godebug = none := by kernel_rfl

set_option maxRecDepth 100000 in
theorem lifted (os : Os) (started : os.Started) (H : Type) (enc : TypeId × Value → H) :
    ReturnsInHanded {} Try.checked os 4 .any (Rows.graphEdgesSpec.pre6 enc Try.prog Try.f4 Rows.graphEdgesRow.domain false) (Rows.graphEdgesSpec.post enc Try.prog Try.f4 false true false false) := by
  refine returnsInHanded_of_change (C := Try.checked) own started (by kernel_rfl) Try.func4
    (ChangeSpec.witness6 (enc := enc) (C := Try.checked) false ⟨#[], #[.agg #[.int .i64 0, .slice none 0 0], .slice none 0 0, .int .i64 0], []⟩ 8 (by kernel_rfl) (by kernel_rfl) (by kernel_rfl) (by kernel_rfl)) ?_
  intro W base args ds gs before hval0 hW hcnd _
  have hval : ∀ (j : Nat) t v, Try.f4.params[j]? = some t → args[j]? = some v → Value.okWide Try.prog W .any base t v := hval0
  have hW' := hW
  obtain ⟨p, q, hA0, hV, rfl, hfz, hnd⟩ := hW
  have hA : DataW.TrodAll enc Try.prog W 0 (fun _ => true) true Try.f4.params.toList args.toList ds p := hA0
  rw [Try.params4] at hA hval
  obtain ⟨v0, vs0, d0, ds0, p0, q0, hargs, rfl, rfl, h0, r0⟩ := trodAll_cons hA
  obtain ⟨v1, vs1, d1, ds1, p1, q1, rfl, rfl, rfl, h1, r1⟩ := trodAll_cons r0
  obtain ⟨v2, vs2, d2, ds2, p2, q2, rfl, rfl, rfl, h2, r2⟩ := trodAll_cons r1
  obtain ⟨rfl, rfl, rfl⟩ := trodAll_nil r2
  obtain rfl : args = #[v0, v1, v2] := by cases args; simp_all
  obtain ⟨rfl, rfl⟩ := trodVars_none hV
  have ok0 := hval 0 35 v0 rfl rfl
  have ok1 := hval 1 22 v1 rfl rfl
  obtain ⟨a2, rfl, rfl, rfl, w2⟩ := open_int Try.underlying3 (hval 2 3 v2 rfl rfl) h2
  clear hA0 hval0
  simp only [List.append_nil, List.nil_append] at hW'
  have hlt : ∀ x ∈ (p0 ++ p1 : List MemPlace), x.block < W.heap.size := fun x hx => hW'.lt x hx
  have key : Calls Try.prog 4 #[v0, v1, .int .i64 a2] W fun e w' => e = .returned (.bool true) ∧ Below W.heap.size W w' := by
    obtain ⟨g0, A0, c0, l0, q0, rfl, -, hl0, hi0⟩ := Gp.open_spec ok0 h0
    obtain ⟨P1, cp1, xs1, rfl, hi1⟩ := Gp.open_ints ok1 h1
    exact Gp.graphEdges_any g0 A0 P1 c0 cp1 l0 q0 hl0 xs1 a2 W hi0 hi1
  refine key.mono fun e W' ⟨he, hb⟩ => ?_
  subst he
  have hargs : ∀ sp : Nat → Bool, (∀ p ∈ (p0 ++ p1 : List MemPlace), sp p.block = true) → DataW.TrodAll enc Try.prog W' 0 sp true Try.f4.params.toList (#[v0, v1, .int .i64 a2] : Array Value).toList [d0, d1, (.lit (.int .i64 a2))] (p0 ++ (p1 ++ ([] ++ ([])))) := fun sp hsp => by
    rw [Try.params4]
    exact (trodAll_cons_mk (M.still (by kernel_rfl) (of_decide_eq_true (by kernel_rfl)) h0 hb (fun x hx => by simp [hx]) hlt hsp) (trodAll_cons_mk (M.still (by kernel_rfl) (of_decide_eq_true (by kernel_rfl)) h1 hb (fun x hx => by simp [hx]) hlt hsp) (trodAll_cons_mk (shut_int Try.underlying3 w2) trodAll_mk0)))
  simp only [List.append_nil, List.nil_append] at hargs
  exact ⟨_, rfl, M.post_below (pa := p0 ++ p1) (pv := []) hW' (fun _ _ _ => (trodAll_cons_mk (shut_bool Try.underlying4 _) trodAll_mk0)) (fun sp hsp => hargs sp hsp) (fun _ _ => rfl) (by simp)
    hb (ok_one (by kernel_rfl) rfl (okWide_bool_mk Try.underlying4 _))⟩

theorem over : Rows.graphEdgesRow.holds Try.pinned (OpenSpec.ofChange Rows.graphEdgesSpec) :=
  OpenClaim.holds_of_wide 4 Try.f4 rfl rfl rfl rfl rfl rfl rfl ⟨rfl, rfl, rfl, rfl, rfl⟩ rfl rfl rfl rfl rfl (by kernel_rfl) Try.func4 (by kernel_rfl)
    (of_decide_eq_true (by kernel_rfl)) (by unfold Func.isWrapper; first | (rw [if_pos (by decide +kernel)]; kernel_rfl) | (rw [if_neg (by decide +kernel)]; exact ⟨rfl, rfl⟩))
    (fun os started H enc _ => lifted os started H enc)

theorem proved : Rows.GraphEdgesSaid :=
  over
#print axioms proved
end Go.Proofs.Ytjinpmengjfmpaa.graphEdges
