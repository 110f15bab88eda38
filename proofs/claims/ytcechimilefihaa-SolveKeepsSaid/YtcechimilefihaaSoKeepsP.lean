/- An operator of which nothing was measured keeps what it has, and so does each that comes of it; others have what they would have. No condition. -/
import Derived.Test.YtcechimilefihaaRows
import Derived.Test.YtcechimilefihaaRow
import Derived.WalkKit
import Derived.ProofKit
import Derived.OpenShut
import Derived.Test.YtcechimilefihaaSoIKY
namespace Go.Proofs.Ytcechimilefihaa.solveKeeps
open Go.ChangeShapes Go.WideShapes Go.ChangeAt Go.RowKit
set_option linter.unusedVariables false

theorem own : ownKnob Try.prog.godebug = none := by kernel_rfl

set_option maxRecDepth 100000 in
theorem lifted (os : Os) (started : os.Started) (H : Type) (enc : TypeId × Value → H) :
    ReturnsInHanded {} Try.checked os 10 .any (Rows.solveKeepsSpec.pre6 enc Try.prog Try.f10 Rows.solveKeepsRow.domain false) (Rows.solveKeepsSpec.post enc Try.prog Try.f10 false true false false) := by
  refine returnsInHanded_of_change (C := Try.checked) own started (by kernel_rfl) Try.func10
    (ChangeSpec.witness6 (enc := enc) (C := Try.checked) false ⟨#[], #[.agg #[.int .i64 0, .slice none 0 0], .slice none 0 0, .slice none 0 0, .slice none 0 0], []⟩ 8 (by kernel_rfl) (by kernel_rfl) (by kernel_rfl) (by kernel_rfl)) ?_
  intro W base args ds gs before hval0 hW hcnd _
  have hval : ∀ (j : Nat) t v, Try.f10.params[j]? = some t → args[j]? = some v → Value.okWide Try.prog W .any base t v := hval0
  have hW' := hW
  obtain ⟨p, q, hA0, hV, rfl, hfz, hnd⟩ := hW
  have hA : DataW.TrodAll enc Try.prog W 0 (fun _ => true) true Try.f10.params.toList args.toList ds p := hA0
  rw [Try.params10] at hA hval
  obtain ⟨v0, vs0, d0, ds0, p0, q0, hargs, rfl, rfl, h0, r0⟩ := trodAll_cons hA
  obtain ⟨v1, vs1, d1, ds1, p1, q1, rfl, rfl, rfl, h1, r1⟩ := trodAll_cons r0
  obtain ⟨v2, vs2, d2, ds2, p2, q2, rfl, rfl, rfl, h2, r2⟩ := trodAll_cons r1
  obtain ⟨v3, vs3, d3, ds3, p3, q3, rfl, rfl, rfl, h3, r3⟩ := trodAll_cons r2
  obtain ⟨rfl, rfl, rfl⟩ := trodAll_nil r3
  obtain rfl : args = #[v0, v1, v2, v3] := by cases args; simp_all
  obtain ⟨rfl, rfl⟩ := trodVars_none hV
  have ok0 := hval 0 24 v0 rfl rfl
  have ok1 := hval 1 56 v1 rfl rfl
  have ok2 := hval 2 29 v2 rfl rfl
  have ok3 := hval 3 70 v3 rfl rfl
  clear hA0 hval0
  simp only [List.append_nil, List.nil_append] at hW'
  have hlt : ∀ x ∈ (p0 ++ (p1 ++ (p2 ++ p3)) : List MemPlace), x.block < W.heap.size := fun x hx => hW'.lt x hx
  have key : Calls Try.prog 10 #[v0, v1, v2, v3] W fun e w' => e = .returned (.bool true) ∧ Below W.heap.size W w' := by
    obtain ⟨g0, A0, c0, l0, q0, rfl, -, hl0, hi0⟩ := M.open_spec ok0 h0
    obtain ⟨M1, c1, xs1, rfl, hi1⟩ := So.open_mea ok1 h1
    obtain ⟨C2, c2, xs2, rfl, hi2⟩ := So.open_ints ok2 h2
    obtain ⟨C3, c3, xs3, rfl, hi3⟩ := So.open_bools ok3 h3
    exact So.solveKeeps_any g0 A0 M1 C2 C3 c0 c1 c2 c3 l0 q0 xs1 xs2 xs3 hl0 W W.heap.size (Nat.le_refl _) hi0 hi1 hi2 hi3
  refine key.mono fun e W' ⟨he, hb⟩ => ?_
  subst he
  have hargs : ∀ sp : Nat → Bool, (∀ p ∈ (p0 ++ (p1 ++ (p2 ++ p3)) : List MemPlace), sp p.block = true) → DataW.TrodAll enc Try.prog W' 0 sp true Try.f10.params.toList (#[v0, v1, v2, v3] : Array Value).toList [d0, d1, d2, d3] (p0 ++ (p1 ++ (p2 ++ (p3 ++ ([]))))) := fun sp hsp => by
    rw [Try.params10]
    exact (trodAll_cons_mk (M.still (by kernel_rfl) (of_decide_eq_true (by kernel_rfl)) h0 hb (fun x hx => by simp [hx]) hlt hsp) (trodAll_cons_mk (M.still (by kernel_rfl) (of_decide_eq_true (by kernel_rfl)) h1 hb (fun x hx => by simp [hx]) hlt hsp) (trodAll_cons_mk (M.still (by kernel_rfl) (of_decide_eq_true (by kernel_rfl)) h2 hb (fun x hx => by simp [hx]) hlt hsp) (trodAll_cons_mk (M.still (by kernel_rfl) (of_decide_eq_true (by kernel_rfl)) h3 hb (fun x hx => by simp [hx]) hlt hsp) trodAll_mk0))))
  simp only [List.append_nil, List.nil_append] at hargs
  exact ⟨_, rfl, M.post_below (pa := p0 ++ (p1 ++ (p2 ++ p3))) (pv := []) hW' (fun _ _ _ => (trodAll_cons_mk (shut_bool Try.underlying4 _) trodAll_mk0)) (fun sp hsp => hargs sp hsp) (fun _ _ => rfl) (by simp)
    hb (ok_one (by kernel_rfl) rfl (okWide_bool_mk Try.underlying4 _))⟩

theorem over : Rows.solveKeepsRow.holds Try.pinned (OpenSpec.ofChange Rows.solveKeepsSpec) :=
  OpenClaim.holds_of_wide 10 Try.f10 rfl rfl rfl rfl rfl rfl rfl ⟨rfl, rfl, rfl, rfl, rfl⟩ rfl rfl rfl rfl rfl (by kernel_rfl) Try.func10 (by kernel_rfl)
    (of_decide_eq_true (by kernel_rfl)) (by unfold Func.isWrapper; first | (rw [if_pos (by decide +kernel)]; kernel_rfl) | (rw [if_neg (by decide +kernel)]; exact ⟨rfl, rfl⟩))
    (fun os started H enc _ => lifted os started H enc)

theorem proved : Rows.SolveKeepsSaid :=
  over
#print axioms proved
end Go.Proofs.Ytcechimilefihaa.solveKeeps
