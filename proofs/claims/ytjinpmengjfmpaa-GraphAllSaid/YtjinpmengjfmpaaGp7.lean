/- The document's tasks and numbers; numbers of tasks of any. -/
import Derived.Test.YtjinpmengjfmpaaGpF
import Derived.Test.YtjinpmengjfmpaaGp3
import Derived.Test.YtjinpmengjfmpaaGp4
namespace Go.Proofs.Ytjinpmengjfmpaa.Gp
open Go.ChangeShapes Go.WideShapes Go.ChangeAt Go.RowKit M

set_option maxHeartbeats 4000000 in
theorem refTasks_any (A : Option Addr) (c : Nat) (par : List Int) (B : Nat) (w : World) (hB : B ≤ w.heap.size) (hN : (spotsN par).length ≤ 1000000) (h : IsInts w B ⟨A, c, par⟩) :
    Calls Try.prog 19 #[.slice A par.length c] w (RetPairs 24 w (spotsP par)) := by
  have HI := Lib.hid (h.more hB)
  have HN := Lib.hid hN
  have hl9 := ints_len9 h
  clear h hN
  go_enter Try.func19, Try.ntmps19
  go_wp2_with fail
  go_loopw [3, 4] (fun v q wr => ∃ i : Nat, i ≤ par.length ∧ q = .int .i64 i ∧ OwnP 24 wr w.heap.size v (prs (upto par i)) ∧ Below w.heap.size w wr) (fun _ q _ => par.length - (intOf q).toNat)
  case atStart => exact ⟨0, by omega, rfl, OwnP.nil _ _ _, Below.refl _ _⟩
  case round =>
    obtain ⟨i, hi, rfl, hown, hb⟩ := hrel
    obtain ⟨wo, rfl⟩ : ∃ wo : World, wo = wr := ⟨_, rfl⟩
    have HO := Lib.hid hown
    have HB := Lib.hid hb
    clear hown hb
    by_cases hlt : i < par.length
    · have t1 : decide (i < par.length) = true := decide_eq_true hlt
      obtain ⟨b, o, rfl⟩ := ints_addr HI.out (by omega)
      have h64 := ints_in64 HI.out i
      obtain ⟨k, hk⟩ : ∃ k, par.getD i 0 = k := ⟨_, rfl⟩
      rw [hk] at h64
      unfold In64 at h64
      obtain ⟨k0, k1⟩ := h64
      have HK := Lib.hid hk
      clear hk
      go_wp2_with fail
      go_loopw [3, 5] (fun v q wr => ∃ t : Nat, (t : Int) ≤ max k 0 ∧ q = .int .i64 t ∧ OwnP 24 wr w.heap.size v (prs (uptoT par i t)) ∧ Below w.heap.size w wr) (fun _ q _ => k.toNat - (intOf q).toNat)
      case atStart => exact ⟨0, by omega, rfl, by rw [uptoT_zero]; exact HO.out, HB.out⟩
      case round =>
        obtain ⟨t, ht, rfl, hown, hb⟩ := hrel
        have HO2 := Lib.hid hown
        have HB2 := Lib.hid hb
        clear hown hb
        have hcell := ints_get (HI.out.below HB2.out) hlt
        rw [HK.out] at hcell
        by_cases hlk : (t : Int) < k
        · have t2 : decide ((t : Int) < k) = true := decide_eq_true hlk
          have hpre := uptoT_in (par := par) (i := i) (t := t + 1) hlt (by rw [HK.out]; omega)
          have HL := Lib.hid (show (prs (uptoT par i t)).length < 1000000000 by
            have h1 := hpre.length_le; have h2 := HN.out; rw [uptoT_len] at h1; rw [prs_len, uptoT_len]; omega)
          have HU := Lib.hid (show In2 ((i : Int), (t : Int)) by refine ⟨?_, ?_⟩ <;> (unfold In64; simp only; omega))
          clear hpre
          go_wp2_with (at_builtin; refine app_pair spotT rfl _ _ rfl w.heap.size HO2.out rfl HU.out rfl HL.out HB2.out.size ?_; intro v2 w2 ho2 hb2; have HO3 := Lib.hid ho2; have HB3 := Lib.hid hb2; clear ho2 hb2)
          go_roundw
          case rel => exact ⟨t + 1, by omega, by go_num, by rw [uptoT_snoc, prs_snoc]; exact HO3.out, HB2.out.trans HB3.out⟩
          case measure => simp [intOf]; omega
        · have E1 := Lib.hid (show upto par (i + 1) = uptoT par i t by rw [upto_succ, HK.out]; congr 1; omega)
          go_wp2_with fail
          go_roundw
          case rel => exact ⟨i + 1, by omega, by go_num, by rw [E1.out]; exact HO2.out, HB2.out⟩
          case measure => simp [intOf]; omega
    · obtain rfl : i = par.length := by omega
      go_wp2_with fail
      go_returns
      exact ret_pairs HO.out HB.out

set_option maxHeartbeats 4000000 in
theorem refIndex_any (A : Option Addr) (c : Nat) (par : List Int) (s : Int × Int) (B : Nat) (w : World) (hB : B ≤ w.heap.size) (hN : (spotsN par).length ≤ 1000000) (h : IsInts w B ⟨A, c, par⟩) :
    Calls Try.prog 21 #[.slice A par.length c, .agg #[.int .i64 s.1, .int .i64 s.2]] w fun e w' => e = .returned (.int .i64 (idxP (spotsP par) s)) ∧ Below w.heap.size w w' := by
  obtain ⟨s1, s2⟩ := s
  simp only
  have hb0 : Below w.heap.size w (w.alloc (.cells #[.int .i64 s1, .int .i64 s2] 24)) := (Below.refl _ _).alloc (Nat.le_refl _) _
  have HT := Lib.hid (refTasks_any A c par B (w.alloc (.cells #[.int .i64 s1, .int .i64 s2] 24)) (by simp; omega) hN (h.below (hb0.mono hB)))
  have HB0 := Lib.hid hb0
  have HK := Lib.hid (Blk.new w 24 #[.int .i64 s1, .int .i64 s2])
  clear h hN hb0
  go_enter Try.func21, Try.ntmps21
  go_wp2_with fail
  refine HT.out.mono ?_
  rintro e w1 ⟨A1, c1, rfl, own, hb⟩
  have HK1 := Lib.hid (HK.out.below hb (by simp))
  have HB1 := Lib.hid (HB0.out.trans (hb.mono (by simp)))
  have HQ := Lib.hid own.pairs
  obtain ⟨L, hL⟩ : ∃ L, spotsP par = L := ⟨_, rfl⟩
  have hl9 := own.pairs.len
  rw [hL] at HQ hl9 ⊢
  have HLL := Lib.hid hL
  clear own hb HT HK HB0 hL
  go_wp2_with fail
  go_loopw [6] (fun q wr => ∃ k : Nat, k ≤ L.length ∧ q = .int .i64 k ∧ (∀ y ∈ L.take k, y ≠ (s1, s2)) ∧ Below w.heap.size w wr ∧ (∀ p : Addr, wr.cell? p = w1.cell? p)) (fun q _ => L.length - (intOf q).toNat)
  case atStart => exact ⟨0, by omega, rfl, by simp, HB1.out, fun _ => rfl⟩
  case round =>
    obtain ⟨k, hk, rfl, hno, hb, hcl⟩ := hrel
    have HNO := Lib.hid hno
    have HB := Lib.hid hb
    have HC := Lib.hid hcl
    clear hno hb hcl
    by_cases hlt : k < L.length
    · have t1 : decide (k < L.length) = true := decide_eq_true hlt
      obtain ⟨b, o, y, rfl, hbb, HV, -, c0, c1'⟩ := pairs_at HQ.out hlt
      have e0 := (HC.out ⟨b, o + k * 2, none⟩).trans c0
      have e1 := (HC.out ⟨b, o + k * 2 + 1, none⟩).trans c1'
      have q0 := (HC.out ⟨w.heap.size, 0, none⟩).trans (HK1.out.cell 0)
      have q1 := (HC.out ⟨w.heap.size, 1, none⟩).trans (HK1.out.cell 1)
      simp at q0 q1
      obtain ⟨y1, y2⟩ := y
      have HTK := Lib.hid (take_pair hlt HV.out)
      simp only at e0 e1
      clear c0 c1'
      by_cases h1 : y1 = s1
      · have u1 : (y1 == s1) = true := by simpa using h1
        by_cases h2 : y2 = s2
        · have u2 : (y2 == s2) = true := by simpa using h2
          have HE := Lib.hid (show idxP L (s1, s2) = (k : Int) by
            have e : L = L.take k ++ (s1, s2) :: L.drop (k + 1) := by
              have := HTK.out
              rw [h1, h2] at this
              have h3 := (List.take_append_drop (k + 1) L).symm
              rw [this] at h3
              simpa using h3
            rw [e, idxP_at HNO.out, List.length_take]
            congr 1
            omega)
          clear h1 h2
          go_wp2_with fail
          go_quiet (fail)
          go_wp2_with fail
          go_returns
          exact ⟨by rw [HLL.out, HE.out]; rfl, below_drewN HB.out _⟩
        · have u2 : (y2 == s2) = false := by simpa using h2
          have HE := Lib.hid (show (y1, y2) ≠ (s1, s2) from fun e => h2 (by injection e))
          clear h1 h2
          go_wp2_with fail
          go_quiet (fail)
          go_wp2_with fail
          go_roundw
          case rel => exact ⟨k + 1, by omega, by go_num, by rw [HTK.out]; intro y hy; rcases List.mem_append.1 hy with hy | hy; exact HNO.out y hy; simp at hy; subst hy; exact HE.out, below_drewN HB.out _, HC.out⟩
          case measure => simp [intOf]; omega
      · have u1 : (y1 == s1) = false := by simpa using h1
        have HE := Lib.hid (show (y1, y2) ≠ (s1, s2) from fun e => h1 (by injection e))
        clear h1
        go_wp2_with fail
        go_quiet (fail)
        go_wp2_with fail
        go_roundw
        case rel => exact ⟨k + 1, by omega, by go_num, by rw [HTK.out]; intro y hy; rcases List.mem_append.1 hy with hy | hy; exact HNO.out y hy; simp at hy; subst hy; exact HE.out, below_drewN HB.out _, HC.out⟩
        case measure => simp [intOf]; omega
    · obtain rfl : k = L.length := by omega
      have HE := Lib.hid (show idxP L (s1, s2) = -1 from idxP_none (by have := HNO.out; rwa [List.take_length] at this))
      go_wp2_with fail
      go_returns
      exact ⟨by rw [HLL.out, HE.out]; rfl, HB.out⟩

set_option maxHeartbeats 2000000 in
theorem few_any (A : Option Addr) (c : Nat) (par : List Int) (B : Nat) (w : World) (h : IsInts w B ⟨A, c, par⟩) :
    Calls Try.prog 15 #[.slice A par.length c] w fun e w' => e = .returned (.bool (fewB par)) ∧ w = w' := by
  have hl9 := ints_len9 h
  have HI := Lib.hid h
  clear h
  go_enter Try.func15, Try.ntmps15
  go_wp2_with fail
  go_loop [3] (fun q => ∃ k : Nat, k ≤ par.length ∧ q = .int .i64 k ∧ ∀ y ∈ par.take k, y ≤ 8) (fun q => par.length - (intOf q).toNat)
  case atStart => exact ⟨0, by omega, rfl, by simp⟩
  case round =>
    obtain ⟨k, hk, rfl, hno⟩ := hrel
    have HNO := Lib.hid hno
    clear hno
    by_cases hlt : k < par.length
    · have t1 : decide (k < par.length) = true := decide_eq_true hlt
      obtain ⟨b, o, rfl⟩ := ints_addr HI.out (by omega)
      have hcell := ints_get HI.out hlt
      obtain ⟨v, hv⟩ : ∃ v, par.getD k 0 = v := ⟨_, rfl⟩
      rw [hv] at hcell
      have HTK := Lib.hid (show par.take (k + 1) = par.take k ++ [v] by
        rw [List.take_add_one, List.getElem?_eq_getElem hlt]
        have : par[k] = v := by rw [← hv, List.getD_eq_getElem?_getD, List.getElem?_eq_getElem hlt]; rfl
        rw [this]; rfl)
      have HM := Lib.hid (show v ∈ par by rw [← hv, List.getD_eq_getElem?_getD, List.getElem?_eq_getElem hlt]; exact List.getElem_mem hlt)
      clear hv
      by_cases h8 : 8 < v
      · have t2 : decide (8 < v) = true := decide_eq_true h8
        have HE := Lib.hid (show fewB par = false by
          cases hf : fewB par with
          | false => rfl
          | true => have := (fewB_iff.1 hf).2 v HM.out; omega)
        go_wp2_with fail
        go_returns
        exact ⟨by rw [HE.out]; rfl, rfl⟩
      · have t2 : decide (8 < v) = false := decide_eq_false h8
        have h8' : v ≤ 8 := by omega
        have H8 := Lib.hid h8'
        clear h8 h8'
        go_wp2_with fail
        go_round
        case rel => exact ⟨k + 1, by omega, by go_num, by rw [HTK.out]; intro y hy; rcases List.mem_append.1 hy with hy | hy; exact HNO.out y hy; simp at hy; subst hy; exact H8.out⟩
        case measure => simp [intOf]; omega
    · obtain rfl : k = par.length := by omega
      have HE := Lib.hid (show fewB par = decide ((par.length : Int) ≤ 12) by
        have h1 := HNO.out
        rw [List.take_length] at h1
        rw [Bool.eq_iff_iff, fewB_iff]
        unfold Few
        simp only [decide_eq_true_eq]
        constructor
        · intro h; omega
        · intro h; exact ⟨by omega, h1⟩)
      go_wp2_with fail
      go_returns
      exact ⟨by rw [HE.out]; first | rfl | (congr 2; rw [Bool.eq_iff_iff]; simp; omega), rfl⟩

set_option maxHeartbeats 2000000 in
theorem pars_any (g : Int) (A P : Option Addr) (n c cp : Nat) (hn : n ≤ 1000) (xs : List Int) (B : Nat) (w : World) (hB : B ≤ w.heap.size) (h : IsInts w B ⟨P, cp, xs⟩) :
    Calls Try.prog 25 #[.agg #[.int .i64 g, .slice A n c], .slice P xs.length cp] w (RetInts w (parsF xs n)) := by
  have HI := Lib.hid (h.more hB)
  have hl9 := ints_len9 h
  have hb0 : Below w.heap.size w (w.alloc (.cells #[.int .i64 g, .slice A n c] 35)) := (Below.refl _ _).alloc (Nat.le_refl _) _
  have HB0 := Lib.hid hb0
  have HK := Lib.hid (Blk.new w 35 #[.int .i64 g, .slice A n c])
  clear h hb0
  go_enter Try.func25, Try.ntmps25
  go_wp2_with fail
  go_loopw [5, 6] (fun v q wr => ∃ k : Nat, k ≤ n ∧ q = .int .i64 k ∧ OwnI wr (w.heap.size + 1) v (parsF xs k) ∧ Below (w.heap.size + 1) (w.alloc (.cells #[.int .i64 g, .slice A n c] 35)) wr) (fun _ q _ => n - (intOf q).toNat)
  case atStart => exact ⟨0, by omega, rfl, OwnI.nil _ _, Below.refl _ _⟩
  case round =>
    obtain ⟨k, hk, rfl, hown, hb⟩ := hrel
    have hkb := HK.out.below hb (by omega)
    have HBW := Lib.hid (HB0.out.trans (hb.mono (by omega)) : Below w.heap.size w wr)
    have HSZ := Lib.hid (show w.heap.size + 1 ≤ wr.heap.size by have := hb.size; simpa using this)
    have HO := Lib.hid hown
    have HB := Lib.hid hb
    have q1 := hkb.cell 1
    simp at q1
    clear hown hb hkb
    by_cases hlt : k < n
    · have t1 : decide (k < n) = true := decide_eq_true hlt
      have HSN := Lib.hid (parsF_snoc xs k)
      have HL := Lib.hid (show (parsF xs k).length < 1000000000 by rw [parsF_len]; omega)
      by_cases hx : k < xs.length
      · have t2 : decide (k < xs.length) = true := decide_eq_true hx
        obtain ⟨b, o, rfl⟩ := ints_addr HI.out (by omega)
        have hcell := ints_get (HI.out.below HBW.out) hx
        have h64 := ints_in64 HI.out k
        obtain ⟨v, hv⟩ : ∃ v, xs.getD k 0 = v := ⟨_, rfl⟩
        rw [hv] at hcell h64
        rw [if_pos hx, hv] at HSN
        obtain ⟨r, hr⟩ : ∃ r, pickF v 8 = r := ⟨_, rfl⟩
        have hrb := pickF_bd (k := v) (n := 8) (by omega)
        rw [hr] at hrb HSN
        obtain ⟨r0, r1⟩ := hrb
        have HP := Lib.hid (hr ▸ pick_any v 8 wr (by unfold In64; omega) h64)
        have HU := Lib.hid (show In64 (1 + r) by unfold In64; omega)
        clear hv hr h64
        go_wp2_with fail
        refine HP.out.mono ?_
        rintro e w1 ⟨rfl, rfl⟩
        go_wp2_with (at_builtin; refine app_new rfl _ _ rfl (w.heap.size + 1) HO.out rfl HU.out rfl HL.out HSZ.out ?_; intro v2 w2 ho2 hb2; have HO2 := Lib.hid ho2; have HB2 := Lib.hid hb2; clear ho2 hb2)
        go_roundw
        case rel => exact ⟨k + 1, by omega, by go_num, by rw [HSN.out]; exact HO2.out, HB.out.trans HB2.out⟩
        case measure => simp [intOf]; omega
      · have t2 : decide (k < xs.length) = false := decide_eq_false hx
        rw [if_neg hx] at HSN
        have HU := Lib.hid (show In64 1 by unfold In64; decide)
        clear hx
        go_wp2_with (at_builtin; refine app_new rfl _ _ rfl (w.heap.size + 1) HO.out rfl HU.out rfl HL.out HSZ.out ?_; intro v2 w2 ho2 hb2; have HO2 := Lib.hid ho2; have HB2 := Lib.hid hb2; clear ho2 hb2)
        go_roundw
        case rel => exact ⟨k + 1, by omega, by go_num, by rw [HSN.out]; exact HO2.out, HB.out.trans HB2.out⟩
        case measure => simp [intOf]; omega
    · obtain rfl : n = k := by omega
      go_wp2_with fail
      go_returns
      exact ret_ints (HO.out.mono (by omega)) HBW.out
end Go.Proofs.Ytjinpmengjfmpaa.Gp
