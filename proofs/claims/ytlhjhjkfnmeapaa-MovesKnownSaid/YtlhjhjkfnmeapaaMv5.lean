/- Moves held against one another. -/
import Derived.Test.YtlhjhjkfnmeapaaMv4
namespace Go.Proofs.Ytlhjhjkfnmeapaa.Mv
open Go.ChangeShapes Go.WideShapes Go.ChangeAt Go.RowKit M

set_option maxHeartbeats 2000000 in
theorem sameMoves_any (A D : Option Addr) (c d : Nat) (xs : List Q4) (B B2 : Nat) (w : World) (h : IsQuads w B A c xs) (k : IsQuads w B2 D d xs) :
    Calls Try.prog 14 #[.slice A xs.length c, .slice D xs.length d] w fun e w' => e = .returned (.bool true) ∧ Below w.heap.size w w' := by
  have hlen := h.len
  have HX := Lib.hid h
  have HY := Lib.hid k
  have ht : ((xs.length : Int) != (xs.length : Int)) = false := by simp
  clear h k
  go_enter Try.func14, Try.ntmps14
  go_wp2_with fail
  go_loopw [5] (fun q wr => ∃ k : Nat, k ≤ xs.length ∧ q = .int .i64 k ∧ Below w.heap.size w wr ∧ (∀ p : Addr, wr.cell? p = w.cell? p)) (fun q _ => xs.length - (intOf q).toNat)
  case atStart => exact ⟨0, by omega, rfl, Below.refl _ _, fun _ => rfl⟩
  case round =>
    obtain ⟨k, hk, rfl, hbl, hcl⟩ := hrel
    have HB := Lib.hid hbl
    have HC := Lib.hid hcl
    clear hbl hcl
    by_cases hlt : k < xs.length
    · obtain ⟨b, o, x, rfl, hb, HV, -, c0, c1, c2, c3⟩ := quads_at HX.out hlt
      obtain ⟨b2, o2, x2, rfl, hb2, HV2, -, d0, d1, d2, d3⟩ := quads_at HY.out hlt
      obtain rfl : x = x2 := HV.out.symm.trans HV2.out
      obtain ⟨x, y, z, u⟩ := x
      have e0 := (HC.out ⟨b, o + k * 4, none⟩).trans c0
      have e1 := (HC.out ⟨b, o + k * 4 + 1, none⟩).trans c1
      have e2 := (HC.out ⟨b, o + k * 4 + 2, none⟩).trans c2
      have e3 := (HC.out ⟨b, o + k * 4 + 3, none⟩).trans c3
      have f0 := (HC.out ⟨b2, o2 + k * 4, none⟩).trans d0
      have f1 := (HC.out ⟨b2, o2 + k * 4 + 1, none⟩).trans d1
      have f2 := (HC.out ⟨b2, o2 + k * 4 + 2, none⟩).trans d2
      have f3 := (HC.out ⟨b2, o2 + k * 4 + 3, none⟩).trans d3
      clear c0 c1 c2 c3 d0 d1 d2 d3
      go_wp2_with fail
      go_quiet (fail)
      go_wp2_with fail
      go_roundw
      case rel => exact ⟨k + 1, by omega, by go_num, below_drewN HB.out _, HC.out⟩
      case measure => simp [intOf]; omega
    · obtain rfl : k = xs.length := by omega
      go_wp2_with fail
      go_returns
      exact ⟨rfl, HB.out⟩
end Go.Proofs.Ytlhjhjkfnmeapaa.Mv
