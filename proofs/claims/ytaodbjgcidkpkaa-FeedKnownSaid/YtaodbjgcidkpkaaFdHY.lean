/- Has a partition a record of a key? -/
import Derived.Test.YtaodbjgcidkpkaaFdMY
import Derived.Test.YtaodbjgcidkpkaaFdPY
import Derived.Test.YtaodbjgcidkpkaaZf
import Derived.WalkKit
import Derived.Handy
import Derived.Lib.Hide

namespace Go.Proofs.Ytaodbjgcidkpkaa.Fd
open Go.ChangeShapes Go.WideShapes Go.ChangeAt Go.RowKit M

theorem keys_at {r : List Rc} {k : Nat} {x : Rc} (hk : k < r.length) (hx : r.getD k (0, 0) = x) : x.1 ∈ keysR r := by
  unfold keysR
  exact List.mem_map.2 ⟨x, hx ▸ pairs_mem hk, rfl⟩
set_option maxHeartbeats 2000000 in
theorem has_any (A : Option Addr) (c : Nat) (r : List Rc) (key : Int) (w : World) (B : Nat) (h : IsRecs w B A c r) :
    Calls Try.prog 83 #[.slice A r.length c, .int .i64 key] w fun e w' => e = .returned (.bool (decide (key ∈ keysR r))) ∧ Below w.heap.size w w' := by
  have hl := h.2
  unfold LB at hl
  have HH := Lib.hid h
  clear h
  go_enter Try.func83, Try.ntmps83
  go_wp2_with fail
  go_loop [5] (fun q => ∃ k : Nat, k ≤ r.length ∧ q = .int .i64 k ∧ ∀ x ∈ keysR (r.take k), x ≠ key) (fun q => r.length - (Go.RowKit.intOf q).toNat)
  case atStart => exact ⟨0, by omega, rfl, fun x hx => by simp [keysR] at hx⟩
  case round =>
    obtain ⟨k, hk, rfl, hno⟩ := hrel
    have HN := Lib.hid hno
    clear hno
    by_cases hlt : k < r.length
    · obtain ⟨b, o, x, rfl, hb, HV, hin, c0, c1⟩ := pairs_at HH.out.1 hlt
      obtain ⟨x, y⟩ := x
      by_cases he : x = key
      · subst he
        have E := Lib.hid (decide_eq_true (keys_at hlt HV.out))
        clear hin c1
        go_wp2_with fail
        go_returns
        exact ⟨Sp.ret_bool E.out.symm, Below.refl _ _⟩
      · have HT := Lib.hid (keysR_take hlt HV.out)
        have hed : decide (x = key) = false := decide_eq_false he
        clear hin c1
        go_wp2_with fail
        go_round
        case rel => exact ⟨k + 1, by omega, by go_num, fun z hz => by
          rw [HT.out, List.mem_append] at hz
          rcases hz with hz | hz
          · exact HN.out z hz
          · obtain rfl : z = x := by simpa using hz
            exact he⟩
        case measure => simp [Go.RowKit.intOf]; omega
    · obtain rfl : k = r.length := by omega
      rw [List.take_length] at HN
      have E := Lib.hid (decide_eq_false (p := key ∈ keysR r) fun hm => HN.out key hm rfl)
      go_wp2_with fail
      go_returns
      exact ⟨Sp.ret_bool E.out.symm, Below.refl _ _⟩
end Go.Proofs.Ytaodbjgcidkpkaa.Fd
