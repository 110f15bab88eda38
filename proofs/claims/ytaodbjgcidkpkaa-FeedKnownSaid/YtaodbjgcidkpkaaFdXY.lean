/- May a job be, of however many operators? What the statements lay first: a box, may it be gone through, may the job be. -/
import Derived.Test.YtaodbjgcidkpkaaFdUY
import Derived.Test.YtaodbjgcidkpkaaFdLkY
import Derived.Test.YtaodbjgcidkpkaaFdQY
import Derived.Test.YtaodbjgcidkpkaaZj
import Derived.Test.YtaodbjgcidkpkaaZf

namespace Go.Proofs.Ytaodbjgcidkpkaa.Fd
open Go.ChangeShapes Go.WideShapes Go.ChangeAt Go.RowKit M Sp

theorem check_long (g : Int) (A : Option Addr) (c : Nat) (l : List OpP) (h : 12 < l.length) (hl : l.length ≤ 9223372036854775807) (w : World) :
    Calls Try.prog 27 #[.agg #[.int .i64 g, .slice A l.length c]] w fun e w' => e = .returned (.int .i64 (chkE g l)) ∧ Below w.heap.size w w' := by
  have e2 : btw (l.length : Int) 1 12 = false := btw_no (by omega)
  cases e1 : btw g 1 64 with
  | false =>
    have E := Lib.hid (Sp.chk_g (l := l) e1)
    go_enter Try.func27, Try.ntmps27
    go_wp2_with (go_at_call 51; refine (between_any _ _ _ _).mono ?_; rintro e w' ⟨rfl, rfl⟩)
    go_returns
    exact ⟨Sp.ret_int E.out.symm, by go_grown⟩
  | true =>
    have E := Lib.hid (Sp.chk_n e1 e2)
    go_enter Try.func27, Try.ntmps27
    go_wp2_with (go_at_call 51; refine (between_any _ _ _ _).mono ?_; rintro e w' ⟨rfl, rfl⟩)
    go_returns
    exact ⟨Sp.ret_int E.out.symm, by go_grown⟩
theorem checkI_any (g : Int) (A : Option Addr) (c : Nat) (l : List OpP) (p : Nat → Option Addr × Nat) (hl : l.length ≤ 9223372036854775807) (w : World) (B : Nat) (hB : B ≤ w.heap.size) (h : IsOps w B A l p) :
    Calls Try.prog 27 #[.agg #[.int .i64 g, .slice A l.length c]] w fun e w' => e = .returned (.int .i64 (chkE g l)) ∧ Below w.heap.size w w' := by
  by_cases h12 : l.length ≤ 12
  · exact check_any g A c l p (by omega) w B hB h
  · exact check_long g A c l (by omega) hl w
/-- what may be gone through is short -/
theorem short_of {fs : List Fp} (h : longB fs = false) : Short fs := by
  obtain ⟨h1, h2, h3⟩ := longB_no h
  refine ⟨by unfold LB; omega, fun i hi => ?_, fun i k hi hk => ?_⟩
  · have := prtF_mem (feeds_mem hi); unfold LB; omega
  · have h4 := cntF_mem (feeds_mem hi)
    have h5 := cntL_mem (lists_mem hk)
    unfold LB; omega
theorem short_parts {fs : List Fp} (h : longB fs = false) : ∀ f ∈ fs, f.parts.length ≤ 1000000 ∧ ∀ r ∈ f.parts, r.length ≤ 1000000 := by
  obtain ⟨h1, h2, h3⟩ := longB_no h
  refine fun f hf => ⟨?_, fun r hr => ?_⟩
  · have := prtF_mem hf; omega
  · have h4 := cntF_mem hf
    have h5 := cntL_mem hr
    omega
end Go.Proofs.Ytaodbjgcidkpkaa.Fd
