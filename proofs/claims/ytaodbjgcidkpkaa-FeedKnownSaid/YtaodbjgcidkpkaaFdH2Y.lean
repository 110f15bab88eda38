/- Do two partitions share a key? -/
import Derived.Test.YtaodbjgcidkpkaaFdHY
import Derived.Test.YtaodbjgcidkpkaaFdCY

namespace Go.Proofs.Ytaodbjgcidkpkaa.Fd
open Go.ChangeShapes Go.WideShapes Go.ChangeAt Go.RowKit M

set_option maxHeartbeats 2000000 in
theorem twice_any (A A2 : Option Addr) (c c2 : Nat) (r r2 : List Rc) (w : World) (B : Nat) (hB : B ≤ w.heap.size) (h : IsRecs w B A c r) (h2 : IsRecs w B A2 c2 r2) :
    Calls Try.prog 69 #[.slice A r.length c, .slice A2 r2.length c2] w fun e w' => e = .returned (.bool (!decide (NoSh r r2))) ∧ Below w.heap.size w w' := by
  have hl := h.2
  unfold LB at hl
  have HH := Lib.hid h
  have H2 := Lib.hid h2
  clear h h2
  go_enter Try.func69, Try.ntmps69
  go_wp2_with fail
  go_loopw [5] (fun q wr => ∃ k : Nat, k ≤ r.length ∧ q = .int .i64 k ∧ (∀ x ∈ keysR (r.take k), x ∉ keysR r2) ∧ Below w.heap.size w wr) (fun q _ => r.length - (Go.RowKit.intOf q).toNat)
  case atStart => exact ⟨0, by omega, rfl, fun x hx => by simp [keysR] at hx, Below.refl _ _⟩
  case round =>
    obtain ⟨k, hk, rfl, hno, hbl⟩ := hrel
    have HN := Lib.hid hno
    have HB := Lib.hid hbl
    clear hno hbl
    by_cases hlt : k < r.length
    · obtain ⟨b, o, x, rfl, hb, HV, hin, c0, c1⟩ := pairs_at HH.out.1 hlt
      obtain ⟨x, y⟩ := x
      have e0 := (HB.out.cell (p := ⟨b, o + k * 2, none⟩) (by show b < _; omega)).trans c0
      have HT := Lib.hid (keysR_take hlt HV.out)
      have HM := Lib.hid (keys_at hlt HV.out)
      have HC := Lib.hid (has_any A2 c2 r2 x wr B (H2.out.below (HB.out.mono hB)))
      clear hin c0 c1
      go_wp2_with fail
      refine HC.out.mono ?_
      rintro e w1 ⟨rfl, hb1⟩
      have HB1 := Lib.hid (through HB.out (Nat.le_refl _) hb1)
      clear hb1 HB HC e0
      by_cases he : x ∈ keysR r2
      · rw [decide_eq_true he]
        have E := Lib.hid (show (!decide (NoSh r r2)) = true by rw [decide_eq_false (fun hs : NoSh r r2 => hs x HM.out he)]; rfl)
        go_wp2_with fail
        go_returns
        exact ⟨Sp.ret_bool E.out.symm, HB1.out⟩
      · rw [decide_eq_false he]
        have HE := Lib.hid he
        clear he
        go_wp2_with fail
        go_roundw
        case rel => exact ⟨k + 1, by omega, by go_num, fun z hz => by
          rw [HT.out, List.mem_append] at hz
          rcases hz with hz | hz
          · exact HN.out z hz
          · obtain rfl : z = x := by simpa using hz
            exact HE.out, HB1.out⟩
        case measure => simp [Go.RowKit.intOf]; omega
    · obtain rfl : k = r.length := by omega
      rw [List.take_length] at HN
      have E := Lib.hid (show (!decide (NoSh r r2)) = false by rw [decide_eq_true (show NoSh r r2 from HN.out)]; rfl)
      go_wp2_with fail
      go_returns
      exact ⟨Sp.ret_bool E.out.symm, HB.out⟩
end Go.Proofs.Ytaodbjgcidkpkaa.Fd
