/- How many records; which values a key has. -/
import Derived.Test.YtaodbjgcidkpkaaFdMY
import Derived.Test.YtaodbjgcidkpkaaZi
import Derived.Test.YtaodbjgcidkpkaaZa

namespace Go.Proofs.Ytaodbjgcidkpkaa.Fd
open Go.ChangeShapes Go.WideShapes Go.ChangeAt Go.RowKit M

set_option maxHeartbeats 2000000 in
theorem cnt_any (A : Option Addr) (c : Nat) (fs : List Fp) (w : World) (B : Nat) (hB : B ≤ w.heap.size) (h : IsFeeds w B A c fs) (hm : cntF fs ≤ 4611686018427387904) :
    Calls Try.prog 36 #[.slice A fs.length c] w fun e w' => e = .returned (.int .i64 (cntF fs : Nat)) ∧ Below w.heap.size w w' := by
  have hl := h.len
  unfold LB at hl
  have HH := Lib.hid h
  have HM := Lib.hid hm
  clear h
  go_enter Try.func36, Try.ntmps36
  go_wp2_with fail
  go_loopw [3, 10] (fun n u wr => ∃ k : Nat, k ≤ fs.length ∧ u = .int .i64 k ∧ n = .int .i64 (cntF (fs.take k) : Nat) ∧ Below w.heap.size w wr) (fun _ u _ => fs.length - (intOf u).toNat)
  case atStart => exact ⟨0, by omega, rfl, by simp [cntF], Below.refl _ _⟩
  case round =>
    obtain ⟨k, hk, rfl, rfl, hbl⟩ := hrel
    have HB := Lib.hid hbl
    clear hbl
    by_cases hlt : k < fs.length
    · obtain ⟨b, o, f, A', c', rfl, hb, HV, -, c0, c1, hli⟩ := feeds_at (HH.out.below (HB.out.mono hB)) hlt
      have HLI := Lib.hid hli
      have hll := hli.len
      unfold LB at hll
      have HT := Lib.hid (cntF_take hlt HV.out)
      have hle := cntF_le fs (k + 1)
      rw [HT.out] at hle
      generalize cntF (fs.take k) = n0 at *
      obtain ⟨g9, hg⟩ : ∃ x, wr.heap.size = x := ⟨_, rfl⟩
      obtain ⟨X, hX⟩ : ∃ X, wr.alloc (.cells #[.int .i64 f.op, .slice A' f.parts.length c'] 47) = X := ⟨_, rfl⟩
      have KB := Lib.hid (show Blk X g9 47 #[.int .i64 f.op, .slice A' f.parts.length c'] from hX ▸ hg ▸ Blk.new _ _ _)
      have HBX := Lib.hid (show Below w.heap.size w X from hX ▸ HB.out.alloc HB.out.size _)
      have HLX := Lib.hid (show IsLists X B A' c' f.parts from hX ▸ hli.below (((Below.refl _ wr).alloc (Nat.le_refl _) _).mono (Nat.le_trans hB HB.out.size)))
      go_upto_region 5 with (fail)
      (try rw [hX])
      (try rw [hg])
      clear hX hg c0 c1 hli HLI
      have b1 := KB.out.cell 1
      go_wp2_with fail
      go_loop [3, 17] (fun n u => ∃ j : Nat, j ≤ f.parts.length ∧ u = .int .i64 j ∧ n = .int .i64 (n0 + cntL (f.parts.take j) : Nat)) (fun _ u => f.parts.length - (intOf u).toNat)
      case atStart => exact ⟨0, by omega, rfl, by simp [cntL]⟩
      case round =>
        obtain ⟨j, hj, rfl, rfl⟩ := hrel
        by_cases hltj : j < f.parts.length
        · obtain ⟨b2, o2, r, A2, c2, rfl, hb2, HV2, d0, hrr⟩ := lists_at HLX.out hltj
          have HT2 := Lib.hid (cntL_take hltj HV2.out)
          have hle2 := cntL_le f.parts (j + 1)
          rw [HT2.out] at hle2
          have hrl := hrr.2
          unfold LB at hrl
          generalize cntL (f.parts.take j) = n1 at *
          have hm2 := HM.out
          have hs1 : (n0 : Int) + (n1 : Int) + (r.length : Int) ≤ 9223372036854775807 := by omega
          have hs2 : ((n0 + n1 : Nat) : Int) = (n0 : Int) + (n1 : Int) := Int.natCast_add _ _
          rw [hs2]
          clear hrr
          go_wp2_with fail
          go_round
          case rel => exact ⟨j + 1, by omega, by go_num, by rw [HT2.out]; push_cast; rw [Int.add_assoc]⟩
          case measure => simp [intOf]; omega
        · obtain rfl : j = f.parts.length := by omega
          rw [List.take_length]
          go_wp2_with fail
          go_roundw
          case rel => exact ⟨k + 1, by omega, by go_num, by rw [HT.out], HBX.out⟩
          case measure => simp [intOf]; omega
    · obtain rfl : k = fs.length := by omega
      have E := Lib.hid (show cntF (fs.take fs.length) = cntF fs by rw [List.take_length])
      go_wp2_with fail
      go_returns
      exact ⟨Sp.ret_int (by first | rfl | rw [List.take_length]), HB.out⟩
theorem rcnt_any (A : Option Addr) (c : Nat) (fs : List Fp) (w : World) (B : Nat) (h : IsFeeds w B A c fs) (hm : cntF fs ≤ 4611686018427387904) :
    Calls Try.prog 41 #[.slice A fs.length c] w fun e w' => e = .returned (.int .i64 (cntF fs : Nat)) ∧ Below w.heap.size w w' := by
  have hl := h.len
  unfold LB at hl
  have HH := Lib.hid h
  have HM := Lib.hid hm
  clear h
  go_enter Try.func41, Try.ntmps41
  go_wp2_with fail
  go_loop [3, 4] (fun n u => ∃ k : Nat, k ≤ fs.length ∧ u = .int .i64 k ∧ n = .int .i64 (cntF (fs.take k) : Nat)) (fun _ u => fs.length - (intOf u).toNat)
  case atStart => exact ⟨0, by omega, rfl, by simp [cntF]⟩
  case round =>
    obtain ⟨k, hk, rfl, rfl⟩ := hrel
    by_cases hlt : k < fs.length
    · obtain ⟨b, o, f, A', c', rfl, hb, HV, -, c0, c1, hli⟩ := feeds_at HH.out hlt
      have HLX := Lib.hid hli
      have hll := hli.len
      unfold LB at hll
      have HT := Lib.hid (cntF_take hlt HV.out)
      have hle := cntF_le fs (k + 1)
      rw [HT.out] at hle
      generalize cntF (fs.take k) = n0 at *
      clear c0 hli
      go_wp2_with fail
      go_loop [3, 5] (fun n u => ∃ j : Nat, j ≤ f.parts.length ∧ u = .int .i64 j ∧ n = .int .i64 (n0 + cntL (f.parts.take j) : Nat)) (fun _ u => f.parts.length - (intOf u).toNat)
      case atStart => exact ⟨0, by omega, rfl, by simp [cntL]⟩
      case round =>
        obtain ⟨j, hj, rfl, rfl⟩ := hrel
        by_cases hltj : j < f.parts.length
        · obtain ⟨b2, o2, r, A2, c2, rfl, hb2, HV2, d0, hrr⟩ := lists_at HLX.out hltj
          have HT2 := Lib.hid (cntL_take hltj HV2.out)
          have hle2 := cntL_le f.parts (j + 1)
          rw [HT2.out] at hle2
          have hrl := hrr.2
          unfold LB at hrl
          generalize cntL (f.parts.take j) = n1 at *
          have hm2 := HM.out
          have hs1 : (n0 : Int) + (n1 : Int) + (r.length : Int) ≤ 9223372036854775807 := by omega
          have hs2 : ((n0 + n1 : Nat) : Int) = (n0 : Int) + (n1 : Int) := Int.natCast_add _ _
          rw [hs2]
          clear hrr
          go_wp2_with fail
          go_round
          case rel => exact ⟨j + 1, by omega, by go_num, by rw [HT2.out]; push_cast; rw [Int.add_assoc]⟩
          case measure => simp [intOf]; omega
        · obtain rfl : j = f.parts.length := by omega
          rw [List.take_length]
          go_wp2_with fail
          go_round
          case rel => exact ⟨k + 1, by omega, by go_num, by rw [HT.out]⟩
          case measure => simp [intOf]; omega
    · obtain rfl : k = fs.length := by omega
      have E := Lib.hid (show cntF (fs.take fs.length) = cntF fs by rw [List.take_length])
      go_wp2_with fail
      go_returns
      exact ⟨Sp.ret_int (by first | rfl | rw [List.take_length]), Below.refl _ _⟩

/-- more than the statements go through? -/
def longB (fs : List Fp) : Bool := decide (20 < fs.length) || decide (100 < prtF fs) || decide (600 < cntF fs)
theorem cntF_bd {w : World} {B c : Nat} {A : Option Addr} {fs : List Fp} (h : IsFeeds w B A c fs) (hp : prtF fs ≤ 100) : cntF fs ≤ 100 * LB := by
  obtain ⟨q, h1, h2, h3, h4, h5⟩ := h
  refine Nat.le_trans (m := prtF fs * LB) ?_ (Nat.mul_le_mul_right _ hp)
  unfold cntF prtF
  have : ∀ f ∈ fs, cntL f.parts ≤ f.parts.length * LB := fun f hf => by
    obtain ⟨i, hi, rfl⟩ := List.mem_iff_getElem.1 hf
    have := (h5 i hi).2
    rw [List.getD_eq_getElem?_getD, List.getElem?_eq_getElem hi] at this
    exact cntL_bd this (Nat.le_refl _)
  clear h1 h2 h3 h4 h5 hp
  induction fs with
  | nil => simp
  | cons f fs ih =>
    rw [List.map_cons, List.map_cons, List.sum_cons, List.sum_cons, Nat.add_mul]
    have h1 := this f (by simp)
    have h2 := ih (fun g hg => this g (List.mem_cons_of_mem _ hg))
    omega
theorem prtF_bd {w : World} {B c : Nat} {A : Option Addr} {fs : List Fp} (h : IsFeeds w B A c fs) (hp : fs.length ≤ 20) : prtF fs ≤ 20 * LB := by
  obtain ⟨q, h1, h2, h3, h4, h5⟩ := h
  refine sum_bd _ hp fun f hf => ?_
  obtain ⟨i, hi, rfl⟩ := List.mem_iff_getElem.1 hf
  have := (h5 i hi).2
  rw [List.getD_eq_getElem?_getD, List.getElem?_eq_getElem hi] at this
  exact this.len
theorem long_any (A : Option Addr) (c : Nat) (fs : List Fp) (w : World) (B : Nat) (h : IsFeeds w B A c fs) :
    Calls Try.prog 32 #[.slice A fs.length c] w fun e w' => e = .returned (.bool (longB fs)) ∧ Below w.heap.size w w' := by
  have hl := h.len
  unfold LB at hl
  have HH := Lib.hid h
  by_cases h20 : 20 < fs.length
  · have E := Lib.hid (show longB fs = true by unfold longB; rw [decide_eq_true h20]; simp)
    have t0 : decide ((20 : Int) < (fs.length : Int)) = true := decide_eq_true (by omega)
    clear h
    go_enter Try.func32, Try.ntmps32
    go_wp2_with fail
    go_loop [3, 4] (fun n u => ∃ k : Nat, k ≤ fs.length ∧ u = .int .i64 k ∧ ∃ x : Int, n = .int .i64 x) (fun _ u => fs.length - (intOf u).toNat)
    case atStart => exact ⟨0, by omega, rfl, 0, rfl⟩
    case round =>
      obtain ⟨k, hk, rfl, x, rfl⟩ := hrel
      by_cases hlt : k < fs.length
      · obtain ⟨b, o, f, A', c', rfl, hb, HV, -, c0, c1, hli⟩ := feeds_at HH.out hlt
        clear hli
        go_wp2_with fail
        go_round
        case rel => exact ⟨k + 1, by omega, by go_num, _, rfl⟩
        case measure => simp [intOf]; omega
      · obtain rfl : k = fs.length := by omega
        go_wp2_with fail
        go_returns
        exact ⟨Sp.ret_bool E.out.symm, Below.refl _ _⟩
  · have t0 : decide ((20 : Int) < (fs.length : Int)) = false := decide_eq_false (by omega)
    have hpb := prtF_bd h (by omega)
    have HCB := Lib.hid (fun hp => cntF_bd h hp)
    have HRC := Lib.hid (fun hm => rcnt_any A c fs w B h hm)
    unfold LB at hpb HCB
    clear h
    go_enter Try.func32, Try.ntmps32
    go_wp2_with fail
    go_loop [3, 4] (fun n u => ∃ k : Nat, k ≤ fs.length ∧ u = .int .i64 k ∧ n = .int .i64 (prtF (fs.take k) : Nat)) (fun _ u => fs.length - (intOf u).toNat)
    case atStart => exact ⟨0, by omega, rfl, by simp [prtF]⟩
    case round =>
      obtain ⟨k, hk, rfl, rfl⟩ := hrel
      by_cases hlt : k < fs.length
      · obtain ⟨b, o, f, A', c', rfl, hb, HV, -, c0, c1, hli⟩ := feeds_at HH.out hlt
        have HT := Lib.hid (prtF_take hlt HV.out)
        have hle := prtF_le fs (k + 1)
        rw [HT.out] at hle
        generalize prtF (fs.take k) = n0 at *
        clear hli
        go_wp2_with fail
        go_round
        case rel => exact ⟨k + 1, by omega, by go_num, by rw [HT.out]; push_cast; rfl⟩
        case measure => simp [intOf]; omega
      · obtain rfl : k = fs.length := by omega
        rw [List.take_length]
        by_cases h100 : 100 < prtF fs
        · have E := Lib.hid (show longB fs = true by unfold longB; rw [decide_eq_true h100]; simp)
          have t1 : decide ((100 : Int) < (prtF fs : Int)) = true := decide_eq_true (by omega)
          go_wp2_with fail
          go_returns
          exact ⟨Sp.ret_bool E.out.symm, Below.refl _ _⟩
        · have t1 : decide ((100 : Int) < (prtF fs : Int)) = false := decide_eq_false (by omega)
          have hcb := HCB.out (by omega)
          have HRD := Lib.hid (HRC.out (by omega))
          have E := Lib.hid (show longB fs = decide (600 < cntF fs) by unfold longB; rw [decide_eq_false h20, decide_eq_false h100]; rfl)
          go_wp2_with fail
          refine HRD.out.mono ?_
          rintro e w2 ⟨rfl, hb⟩
          have HB := Lib.hid hb
          clear hb
          go_wp2_with fail
          go_returns
          exact ⟨Sp.ret_bool (by rw [E.out]; exact decide_eq_decide.2 (by omega)), HB.out⟩
end Go.Proofs.Ytaodbjgcidkpkaa.Fd
