/- The document's edges, from any memory. -/
import Derived.Test.YtjinpmengjfmpaaGpG
import Derived.Test.YtjinpmengjfmpaaGpF
import Derived.Test.YtjinpmengjfmpaaGp7
namespace Go.Proofs.Ytjinpmengjfmpaa.Gp
open Go.ChangeShapes Go.WideShapes Go.ChangeAt Go.RowKit M Sp

def edgesTo (l : List OpP) (par : List Int) (i : Nat) : List (Int × Int) := ((spotsN par).take i).flatMap (edgesAt l par)
theorem spot_at {par : List Int} {i m t : Nat} (hi : i < (spotsP par).length) (hy : (spotsP par).getD i (0, 0) = ((m : Int), (t : Int))) : (spotsN par)[i]? = some (i, m, t) := by
  have hk' : i < (spotsN par).length := by rw [← spotsP_len]; exact hi
  have h3 : (spotsN par)[i].1 = i := upto_num par.length i hk'
  rw [List.getD_eq_getElem?_getD] at hy
  unfold spotsP prs at hy
  rw [List.getElem?_map, List.getElem?_eq_getElem hk'] at hy
  rw [List.getElem?_eq_getElem hk']
  generalize (spotsN par)[i] = x at *
  obtain ⟨a, b, c⟩ := x
  simp at hy h3
  obtain ⟨e1, e2⟩ := hy
  have : b = m := by omega
  have : c = t := by omega
  subst_vars
  rfl
theorem edgesTo_snoc {l : List OpP} {par : List Int} {i m t : Nat} (hi : i < (spotsP par).length) (hy : (spotsP par).getD i (0, 0) = ((m : Int), (t : Int))) :
    edgesTo l par (i + 1) = edgesTo l par i ++ edgesK par i (insOf l m) (insOf l m).length := by
  unfold edgesTo
  rw [List.take_add_one, spot_at hi hy]
  simp [edgesAt]
theorem edgesTo_all (l : List OpP) (par : List Int) : edgesTo l par (spotsP par).length = edgesP l par := by
  unfold edgesTo edgesP
  rw [List.take_of_length_le (by rw [spotsP_len]; omega)]
theorem edgesTo_len {l : List OpP} {par : List Int} (h8 : ∀ x ∈ par, x ≤ 8) (hin : ∀ i, i < par.length → (insOf l i).length ≤ 12) : ∀ i, (edgesTo l par i).length ≤ 96 * i
  | 0 => by simp [edgesTo]
  | i + 1 => by
    have ih := edgesTo_len h8 hin i
    by_cases hi : i < (spotsP par).length
    · obtain ⟨m, t, hy, hm, -, -⟩ := at_place (par := par) hi rfl
      rw [edgesTo_snoc hi hy, List.length_append]
      have h1 := hin m hm
      have h2 := edgesK_len (par := par) (n := i) (ins := insOf l m) h8 (insOf l m).length
      omega
    · have : edgesTo l par (i + 1) = edgesTo l par i := by
        unfold edgesTo
        rw [spotsP_len] at hi
        rw [List.take_of_length_le (by omega), List.take_of_length_le (by omega)]
      rw [this]; omega

set_option maxRecDepth 100000 in
set_option maxHeartbeats 8000000 in
theorem refEdges_any (g : Int) (A P : Option Addr) (c cp : Nat) (l : List OpP) (q : Nat → Option Addr × Nat) (par : List Int) (hl : l.length ≤ 12) (hp : par.length = l.length) (h8 : ∀ x ∈ par, x ≤ 8)
    (hin : ∀ i, i < l.length → (insOf l i).length ≤ 12 ∧ ∀ x ∈ insOf l i, ∃ j : Nat, x = j ∧ j < l.length) (w : World) (hO : IsOps w w.heap.size A l q) (hI : IsInts w w.heap.size ⟨P, cp, par⟩) :
    Calls Try.prog 27 #[.agg #[.int .i64 g, .slice A l.length c], .slice P par.length cp] w (RetPairs 49 w (edgesP l par)) := by
  have h96 : (spotsN par).length ≤ 96 := (show Few par from ⟨by omega, h8⟩).len
  obtain ⟨W0, hW0⟩ : ∃ W0, w.alloc (.cells #[.int .i64 g, .slice A l.length c] 35) = W0 := ⟨_, rfl⟩
  have hb0 : Below w.heap.size w W0 := hW0 ▸ (Below.refl _ _).alloc (Nat.le_refl _) _
  have hz0 : W0.heap.size = w.heap.size + 1 := by rw [← hW0]; simp
  have hk0 : Blk W0 w.heap.size 35 #[.int .i64 g, .slice A l.length c] := hW0 ▸ Blk.new w _ _
  have HT := Lib.hid (refTasks_any P cp par w.heap.size W0 (by omega) (by omega) (hI.below hb0))
  have HP := Lib.hid hp
  have H8 := Lib.hid h8
  have HIN := Lib.hid hin
  have HB0 := Lib.hid hb0
  have HK0 := Lib.hid hk0
  have HW0 := Lib.hid hW0
  have HOO := Lib.hid (hO.below hb0)
  have HZ0 := Lib.hid hz0
  have H96 := Lib.hid h96
  clear hp h8 hin hb0 hk0 hW0 hO hI hz0 h96
  go_enter Try.func27, Try.ntmps27
  go_wp2_with fail
  rw [HW0.out]
  refine HT.out.mono ?_
  rintro e w1 ⟨A1, c1, rfl, own, hb⟩
  have HQ := Lib.hid own.pairs
  have HB1 := Lib.hid hb
  have HL96 := Lib.hid (show (spotsP par).length ≤ 96 by rw [spotsP_len]; exact H96.out)
  obtain ⟨L, hL⟩ : ∃ L, spotsP par = L := ⟨_, rfl⟩
  rw [hL] at HQ HL96 ⊢
  have HLL := Lib.hid hL
  have hL9 : L.length ≤ 9223372036854775807 := by have := HL96.out; omega
  have HKS : Hid (∀ Y, Below w1.heap.size w1 Y → Y.cell? ⟨w.heap.size, 1, none⟩ = some (.slice A l.length c) ∧ IsOps Y w.heap.size A l q ∧ IsPairs Y w1.heap.size A1 c1 L ∧ Below w.heap.size w Y) := Lib.hid (fun Y hY => by
    have h1 : Below W0.heap.size W0 Y := through HB1.out (Nat.le_refl _) hY
    have hk := HK0.out.below h1 (by have := HZ0.out; omega)
    exact ⟨by simpa using hk.cell 1, HOO.out.below (h1.mono (by have := HZ0.out; omega)), HQ.out.below hY, HB0.out.trans (h1.mono (by have := HZ0.out; omega))⟩)
  clear own hb HT hL
  go_wp2_with fail
  go_loopw [5, 7] (fun v qq wr => ∃ i : Nat, i ≤ L.length ∧ qq = .int .i64 i ∧ OwnP 49 wr w1.heap.size v (edgesTo l par i) ∧ Below w1.heap.size w1 wr) (fun _ qq _ => L.length - (intOf qq).toNat)
  case atStart => exact ⟨0, by omega, rfl, OwnP.nil _ _ _, Below.refl _ _⟩
  case round =>
    obtain ⟨i, hi, rfl, hown, hb⟩ := hrel
    obtain ⟨wo, rfl⟩ : ∃ wo : World, wo = wr := ⟨_, rfl⟩
    have HO := Lib.hid hown
    have HB := Lib.hid hb
    clear hown hb
    by_cases hlt : i < L.length
    · have t1 : decide (i < L.length) = true := decide_eq_true hlt
      obtain ⟨s1, hO2, hQ2, -⟩ := HKS.out _ HB.out
      obtain ⟨b, o, y, rfl, hbb, HV, -, c0, -⟩ := pairs_at hQ2 hlt
      obtain ⟨m, t, rfl, hm, ht, -⟩ := at_place (par := par) (k := i) (y := y) (by rw [HLL.out]; exact hlt) (by rw [HLL.out]; exact HV.out)
      have HSN := Lib.hid (edgesTo_snoc (l := l) (par := par) (i := i) (m := m) (t := t) (by rw [HLL.out]; exact hlt) (by rw [HLL.out]; exact HV.out))
      have hml : m < l.length := by have := HP.out; omega
      obtain ⟨ba, oa, rfl, hba, -, d1, -, -, -, -, -, -, -, hins⟩ := hO2.at_ hml
      have hq := HIN.out m hml
      obtain ⟨ins, hi0⟩ : ∃ ins, insOf l m = ins := ⟨_, rfl⟩
      rw [hi0] at d1 hins hq HSN
      obtain ⟨hq12, hqm⟩ := hq
      obtain ⟨qa, hqa⟩ : ∃ qa, q m = qa := ⟨_, rfl⟩
      obtain ⟨qa, qc⟩ := qa
      rw [hqa] at d1 hins
      simp only at d1 hins c0
      have HINS : Hid (∀ Y, Below w1.heap.size w1 Y → IsInts Y w.heap.size ⟨qa, qc, ins⟩) := Lib.hid (fun Y hY => by
        have := ((HKS.out _ hY).2.1.at_ hml).choose_spec.choose_spec.2.2.2.2.2.2.2.2.2.2.2
        rw [hi0, hqa] at this
        exact this)
      have HQM := Lib.hid hqm
      have hi9 := ints_len9 hins
      have HEL := Lib.hid (edgesTo_len (l := l) (par := par) H8.out (fun i hi => (HIN.out i (by have := HP.out; omega)).1) i)
      have hl9 : l.length ≤ 9223372036854775807 := by omega
      obtain ⟨E0, hE0⟩ : ∃ E0, edgesTo l par i = E0 := ⟨_, rfl⟩
      rw [hE0] at HO HSN HEL
      clear hqm hi0 hqa hE0 hins hO2 hQ2 ht hbb
      go_wp2_with fail
      go_quiet (fail)
      go_wp2_with fail
      go_loopw [5, 9] (fun v qq wr => ∃ k : Nat, k ≤ ins.length ∧ qq = .int .i64 k ∧ OwnP 49 wr w1.heap.size v (E0 ++ edgesK par i ins k) ∧ Below w1.heap.size w1 wr) (fun _ qq _ => ins.length - (intOf qq).toNat)
      case atStart => exact ⟨0, by omega, rfl, by rw [edgesK_zero, List.append_nil]; exact HO.out.drewN _, below_drewN HB.out _⟩
      case round =>
        obtain ⟨k, hk, rfl, hown, hb⟩ := hrel
        obtain ⟨wq, rfl⟩ : ∃ wq : World, wq = wr := ⟨_, rfl⟩
        have HO2 := Lib.hid hown
        have HB2 := Lib.hid hb
        clear hown hb
        by_cases hlk : k < ins.length
        · have t2 : decide (k < ins.length) = true := decide_eq_true hlk
          obtain ⟨b3, o3, rfl⟩ := ints_addr (HINS.out _ HB2.out) (by omega)
          obtain ⟨v, hv⟩ : ∃ v, ins.getD k 0 = v := ⟨_, rfl⟩
          obtain ⟨m2, hvm, hml2⟩ := HQM.out v (by rw [← hv]; exact getD_mem hlk)
          subst hvm
          have hmp2 : m2 < par.length := by have := HP.out; omega
          have HSK := Lib.hid (edgesK_snoc (par := par) (n := i) hlk hv)
          have HSE := Lib.hid (sel_spots (par := par) (m := m2) (n := i) hmp2)
          rw [show ((m2 : Int)).toNat = m2 by omega, ← HSE.out, HLL.out] at HSK
          have HIC : Hid (∀ Y, Below w1.heap.size w1 Y → Y.cell? ⟨b3, o3 + k, none⟩ = some (.int .i64 (m2 : Int))) := Lib.hid (fun Y hY => hv ▸ ints_get (HINS.out _ hY) hlk)
          have HKL := Lib.hid (edgesK_len (par := par) (n := i) (ins := ins) H8.out k)
          clear hv
          go_wp2_with fail
          go_loopw [5, 10] (fun v qq wr => ∃ j : Nat, j ≤ L.length ∧ qq = .int .i64 j ∧ OwnP 49 wr w1.heap.size v (E0 ++ edgesK par i ins k ++ sel (m2 : Int) i 0 (L.take j)) ∧ Below w1.heap.size w1 wr) (fun _ qq _ => L.length - (intOf qq).toNat)
          case atStart => exact ⟨0, by omega, rfl, by rw [List.take_zero]; show OwnP _ _ _ _ (_ ++ []); rw [List.append_nil]; exact HO2.out, HB2.out⟩
          case round =>
            obtain ⟨j, hj, rfl, hown, hb⟩ := hrel
            have HO3 := Lib.hid hown
            have HB3 := Lib.hid hb
            clear hown hb
            by_cases hlj : j < L.length
            · have t3 : decide (j < L.length) = true := decide_eq_true hlj
              obtain ⟨y, HV2, -, e0, -⟩ := pairs_get (HKS.out _ HB3.out).2.2.1 hlj
              have ec := HIC.out _ HB3.out
              obtain ⟨y1, y2⟩ := y
              have HSS := Lib.hid (sel_snoc (m := (m2 : Int)) (n := i) hlj HV2.out)
              simp only at e0
              by_cases he : y1 = (m2 : Int)
              · subst he
                simp only [if_true] at HSS
                have HU := Lib.hid (show In2 ((j : Int), (i : Int)) by refine ⟨?_, ?_⟩ <;> (unfold In64; simp only; omega))
                have HLN := Lib.hid (show (E0 ++ edgesK par i ins k ++ sel (m2 : Int) i 0 (L.take j)).length < 1000000000 by
                  have h1 := HEL.out; have h2 := HKL.out; have h3 := HL96.out
                  have h4 : ∀ (p : Nat) (M : List (Int × Int)), (sel (m2 : Int) i p M).length ≤ M.length := fun p M => by
                    induction M generalizing p with
                    | nil => exact Nat.le_refl _
                    | cons a M ih => have := ih (p + 1); unfold sel; split <;> simp <;> omega
                  have h5 := h4 0 (L.take j)
                  rw [List.length_take] at h5
                  rw [List.length_append, List.length_append]; omega)
                go_wp2_with fail
                go_quiet (fail)
                go_wp2_with (at_builtin; refine app_pair edgeT rfl _ _ rfl w1.heap.size (HO3.out.drewN _) rfl HU.out rfl HLN.out HB3.out.size ?_; intro v2 w2 ho2 hb2; have HO4 := Lib.hid ho2; have HB4 := Lib.hid hb2; clear ho2 hb2)
                go_roundw
                case rel => exact ⟨j + 1, by omega, by go_num, by rw [HSS.out, ← List.append_assoc]; exact HO4.out, (below_drewN HB3.out _).trans HB4.out⟩
                case measure => simp [intOf]; omega
              · have u1 : (y1 == (m2 : Int)) = false := by simpa using he
                rw [if_neg he, List.append_nil] at HSS
                clear he
                go_wp2_with fail
                go_quiet (fail)
                go_wp2_with fail
                go_roundw
                case rel => exact ⟨j + 1, by omega, by go_num, by rw [HSS.out]; exact HO3.out.drewN _, below_drewN HB3.out _⟩
                case measure => simp [intOf]; omega
            · obtain rfl : L.length = j := by omega
              go_wp2_with fail
              go_roundw
              case rel => exact ⟨k + 1, by omega, by go_num, by rw [HSK.out, ← List.append_assoc]; have h1 := HO3.out; rw [List.take_length] at h1; exact h1, HB3.out⟩
              case measure => simp [intOf]; omega
        · obtain rfl : ins.length = k := by omega
          go_wp2_with fail
          go_roundw
          case rel => exact ⟨i + 1, by omega, by go_num, by rw [HSN.out]; exact HO2.out, HB2.out⟩
          case measure => simp [intOf]; omega
    · obtain rfl : L.length = i := by omega
      have h1 := HO.out
      rw [← HLL.out, edgesTo_all] at h1
      have HF := Lib.hid (h1.mono (B' := w.heap.size) (by have := HB0.out.size; have := HB1.out.size; omega))
      have HBF := Lib.hid (HKS.out _ HB.out).2.2.2
      clear h1
      go_wp2_with fail
      go_returns
      exact ret_pairs HF.out HBF.out
end Go.Proofs.Ytjinpmengjfmpaa.Gp
