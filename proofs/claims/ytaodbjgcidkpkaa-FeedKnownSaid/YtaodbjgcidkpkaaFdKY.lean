/- All keys, rising: the walk over a map of the call's own. -/
import Derived.Test.YtaodbjgcidkpkaaFdPY
import Derived.Test.YtaodbjgcidkpkaaFdKsY
import Derived.Test.YtaodbjgcidkpkaaZa
import Derived.Maps.OwnSet
import Derived.Maps.OwnOps
import Derived.WalkKit
import Derived.Handy
import Derived.Lib.Hide

namespace Go.Proofs.Ytaodbjgcidkpkaa.Fd
open Go.ChangeShapes Go.WideShapes Go.ChangeAt Go.RowKit Go.Maps M

theorem lawI : Keyed Try.prog 3 := int_keyed Try.underlying3
theorem zeroI (w : World) : (zeroValue 3).run Try.prog w = .ok (.int .i64 0) w := by kernel_rfl
/-- block b is a map whose keys are these -/
def MapOf (w : World) (b : Nat) (ks : List Int) : Prop := ∃ D : DataW Unit, w.ownsMap Try.prog 3 (plainElem Try.prog 3) b ks.length D ∧ ∀ x : Int, Maps.has D (.int .i64 x) = true ↔ x ∈ ks
section
variable {w w' : World} {b : Nat} {ks : List Int}
theorem MapOf.made (w : World) : MapOf (w.alloc (.map #[] 0)) w.heap.size [] := ⟨.map [], World.ownsMap_made _ _ _ _, fun x => by simp [Maps.has_eq]⟩
theorem MapOf.alloc (h : MapOf w b ks) (o : Obj) : MapOf (w.alloc o) b ks := by obtain ⟨D, h1, h2⟩ := h; exact ⟨D, h1.alloc o, h2⟩
theorem MapOf.lt (h : MapOf w b ks) : b < w.heap.size := by obtain ⟨D, h1, h2⟩ := h; exact h1.lt
theorem has_put {D : DataW Unit} (hm : IsMap D) (x y : Int) (d : DataW Unit) : Maps.has (D.put (.int .i64 x) d) (.int .i64 y) = true ↔ y = x ∨ Maps.has D (.int .i64 y) = true := by
  by_cases e : y = x
  · subst e
    rw [has_put_same (k := .int .i64 y) hm (show WideAt.IsKeyLit (.int .i64 y) from trivial)]; simp
  · rw [has_put_other (fun h => e (by injection h))]
    simp [e]
end
theorem wf64 {x : Int} (h : In64 x) : (Lit.int .i64 x).wf = true := WalkArith.wf_i64 h
theorem MapOf.own {w' : World} {b : Nat} {ks : List Int} (h : MapOf w' b ks) : ∃ D : DataW Unit, ∃ ss : List Int, ss.Nodup ∧ (∀ y, y ∈ ss ↔ y ∈ ks) ∧ ss = intKeys D ∧ (∀ y ∈ ss, In64 y) ∧ w'.ownsMap Try.prog 3 (plainElem Try.prog 3) b ks.length D := by
  obtain ⟨D, h1, h2⟩ := h
  obtain ⟨es, hD, hp, -⟩ := h1.entries lawI
  obtain ⟨es', hD', hko⟩ := h1.keysOf
  obtain rfl : es = es' := by rw [hD] at hD'; simpa using hD'
  subst hD
  have hk : ∀ p ∈ es, ∃ x, p.1 = .int .i64 x := fun p hpm => by
    obtain ⟨v, hv⟩ := hko p hpm
    obtain ⟨x, -, hx, -⟩ := Maps.keyOf_i64 Try.underlying3 hv
    exact ⟨x, hx⟩
  refine ⟨_, _, ?_, fun y => ?_, rfl, fun y hy => ?_, h1⟩
  · show (es.map fun p => Go.intOf p.1).Nodup
    refine List.pairwise_map.2 (hp.imp_of_mem fun {p q} hp' hq' hne e => hne ?_)
    obtain ⟨a, ha⟩ := hk p hp'
    obtain ⟨b, hb⟩ := hk q hq'
    rw [ha, hb] at e ⊢
    exact congrArg _ e
  · rw [← h2 y, Maps.has_eq, List.any_eq_true]
    show y ∈ (es.map fun p => Go.intOf p.1) ↔ _
    rw [List.mem_map]
    constructor
    · rintro ⟨p, hp', rfl⟩
      obtain ⟨a, ha⟩ := hk p hp'
      exact ⟨p, hp', by rw [ha]; simp [Lit.sameKey, Go.intOf]⟩
    · rintro ⟨p, hp', hs⟩
      obtain ⟨a, ha⟩ := hk p hp'
      rw [ha] at hs
      exact ⟨p, hp', by rw [ha]; simpa [Lit.sameKey, Go.intOf] using hs⟩
  · have := intKeys_wf h1 Try.underlying3 y hy
    exact wf_in64 this

set_option maxRecDepth 100000 in
set_option maxHeartbeats 4000000 in
theorem keys_any (A : Option Addr) (c : Nat) (fs : List Fp) (w : World) (B : Nat) (hB : B ≤ w.heap.size) (h : IsFeeds w B A c fs) (hm : cntF fs ≤ 1000000) :
    Calls Try.prog 34 #[.slice A fs.length c] w (RetInts w (keysF fs)) := by
  have hl := h.len
  unfold LB at hl
  have HH := Lib.hid h
  have HM := Lib.hid hm
  clear h
  have hmm := @run_makeMap Try.prog
  go_enter Try.func34, Try.ntmps34
  go_wp2_with fail
  go_loopw [13] (fun u wr => ∃ k : Nat, k ≤ fs.length ∧ u = .int .i64 k ∧ MapOf wr w.heap.size (keysA (fs.take k)) ∧ Below w.heap.size w wr) (fun u _ => fs.length - (intOf u).toNat)
  case atStart => exact ⟨0, by omega, rfl, MapOf.made w, (Below.refl _ _).alloc (Nat.le_refl _) _⟩
  case round =>
    obtain ⟨k, hk, rfl, hmo, hbl⟩ := hrel
    have HB := Lib.hid hbl
    have HO := Lib.hid hmo
    clear hbl hmo
    by_cases hlt : k < fs.length
    · obtain ⟨b, o, f, A', c', rfl, hb, HV, -, c0, c1, hli⟩ := feeds_at HH.out hlt
      have e0 := (HB.out.cell (p := ⟨b, o + k * 2, none⟩) (by show b < _; omega)).trans c0
      have e1 := (HB.out.cell (p := ⟨b, o + k * 2 + 1, none⟩) (by show b < _; omega)).trans c1
      have HLI := Lib.hid hli
      have hll := hli.len
      unfold LB at hll
      have HT := Lib.hid (keysA_take hlt HV.out)
      have HCT := Lib.hid (Nat.le_trans (cntF_mem (fs := fs) (f := f) (HV.out ▸ feeds_mem hlt)) HM.out)
      have HKL := Lib.hid (show (keysA (fs.take k)).length + cntL f.parts ≤ 1000000 by
        have h1 := cntF_take hlt HV.out
        have h2 := cntF_le fs (k + 1)
        have h3 := HM.out
        rw [keysA_len]; omega)
      generalize keysA (fs.take k) = K0 at *
      obtain ⟨X, hX⟩ : ∃ X, wr.alloc (.cells #[.int .i64 f.op, .slice A' f.parts.length c'] 47) = X := ⟨_, rfl⟩
      have HBX := Lib.hid (show Below w.heap.size w X from hX ▸ HB.out.alloc HB.out.size _)
      have HOX := Lib.hid (show MapOf X w.heap.size K0 from hX ▸ HO.out.alloc _)
      obtain ⟨g9, hg⟩ : ∃ x, wr.heap.size = x := ⟨_, rfl⟩
      have KB := Lib.hid (show Blk X g9 47 #[.int .i64 f.op, .slice A' f.parts.length c'] from hX ▸ hg ▸ Blk.new _ _ _)
      clear c0 c1 hli
      go_upto_region 5 with (fail)
      (try rw [hX])
      (try rw [hg])
      clear e0 e1 hX hg HO HB
      have b1 := KB.out.cell 1
      go_wp2_with fail
      go_loopw [20] (fun u wr => ∃ j : Nat, j ≤ f.parts.length ∧ u = .int .i64 j ∧ MapOf wr w.heap.size (K0 ++ keysL (f.parts.take j)) ∧ Below w.heap.size w wr) (fun u _ => f.parts.length - (intOf u).toNat)
      case atStart => exact ⟨0, by omega, rfl, by simpa [keysL] using HOX.out, HBX.out⟩
      case round =>
        clear HOX HBX
        obtain ⟨j, hj, rfl, hmo, hbl⟩ := hrel
        have HB := Lib.hid hbl
        have HO := Lib.hid hmo
        clear hbl hmo
        by_cases hltj : j < f.parts.length
        · obtain ⟨b2, o2, r, A2, c2, rfl, hb2, HV2, d0, hrr⟩ := lists_at HLI.out hltj
          have e0 := (HB.out.cell (p := ⟨b2, o2 + j, none⟩) (by show b2 < _; omega)).trans d0
          have HRR := Lib.hid hrr
          have hrl := hrr.2
          unfold LB at hrl
          have HT2 := Lib.hid (keysL_take hltj HV2.out)
          have HK2 := Lib.hid (show (K0 ++ keysL (f.parts.take j)).length + r.length ≤ 1000000 by
            have h1 := cntL_take hltj HV2.out
            have h2 := cntL_le f.parts (j + 1)
            have h3 := HKL.out
            rw [List.length_append, keysL_len]; omega)
          have HASS := Lib.hid (List.append_assoc K0 (keysL (f.parts.take j)) (keysR r))
          rw [← HT2.out] at HASS
          generalize K0 ++ keysL (f.parts.take j) = K1 at *
          clear d0 hrr
          go_wp2_with fail
          go_loopw [26] (fun u wr => ∃ i : Nat, i ≤ r.length ∧ u = .int .i64 i ∧ MapOf wr w.heap.size (K1 ++ keysR (r.take i)) ∧ Below w.heap.size w wr) (fun u _ => r.length - (intOf u).toNat)
          case atStart => exact ⟨0, by omega, rfl, by simpa [keysR] using HO.out, HB.out⟩
          case round =>
            clear HO HB e0
            obtain ⟨i, hi, rfl, hmo, hbl⟩ := hrel
            have HB := Lib.hid hbl
            have HO := Lib.hid hmo
            clear hbl hmo
            by_cases hlti : i < r.length
            · obtain ⟨b3, o3, x, rfl, hb3, HV3, hin, g0, g1⟩ := pairs_at HRR.out.1 hlti
              have e0 := (HB.out.cell (p := ⟨b3, o3 + i * 2, none⟩) (by show b3 < _; omega)).trans g0
              have e1 := (HB.out.cell (p := ⟨b3, o3 + i * 2 + 1, none⟩) (by show b3 < _; omega)).trans g1
              obtain ⟨x, y⟩ := x
              have HT3 := Lib.hid (keysR_take hlti HV3.out)
              have hkey : keyOf Try.prog 3 (.int .i64 x) = some (.int .i64 x) := keyOf_int_mk Try.underlying3 (wf64 hin.1)
              have HK3 := Lib.hid (show (K1 ++ keysR (r.take i)).length ≤ 1000000 by
                have h3 := HK2.out
                rw [List.length_append, keysR_len, List.length_take]; omega)
              have HAS2 := Lib.hid (List.append_assoc K1 (keysR (r.take i)) [x])
              rw [← HT3.out] at HAS2
              generalize K1 ++ keysR (r.take i) = K2 at *
              obtain ⟨D, hown, hhas⟩ := HO.out
              have HOW := Lib.hid (hown.alloc (.cells #[.int .i64 x, .int .i64 y] 57))
              have HHAS := Lib.hid hhas
              have HIM := Lib.hid hown.isMap
              have HBA := Lib.hid (HB.out.alloc HB.out.size (.cells #[.int .i64 x, .int .i64 y] 57))
              have hk3 := HK3.out
              clear g0 g1 hin hown hhas HO HB
              go_wp2_with (first
                | (at_lookup; refine wpList_lookup_own_int _ rfl _ _ 75 rfl 3 3 .i64 lawI Try.underlying75 Try.underlying3 (zeroI _) w.heap.size K2.length _ rfl HOW.out _ _ rfl hkey ?_; intro cc hat hwc)
                | (at_mapUpdate; refine wpList_mapUpdate_own _ rfl _ _ _ 75 rfl 3 3 lawI Try.underlying75 _ w.heap.size K2.length _ rfl HOW.out (by unfold maxLen; omega) _ _ _ rfl rfl hkey _ [] (plainElem_int Try.underlying3 (wrap64_wf _)) ?_; intro w1 hown1 hgrow1))
              have HN := Lib.hid (show MapOf w1 w.heap.size (K2 ++ [x]) from ⟨_, by rw [List.length_append]; exact hown1, fun z => by
                rw [has_put HIM.out, HHAS.out z, List.mem_append, List.mem_singleton]
                exact Or.comm⟩)
              have HB1 := Lib.hid (HBA.out.grown hgrow1 HBA.out.size (fun j hj => by cases hj; exact Nat.le_refl _))
              clear hown1 hgrow1
              go_wp2_with fail
              go_roundw
              case rel => exact ⟨i + 1, by omega, by go_num, by rw [← HAS2.out]; exact HN.out, HB1.out⟩
              case measure => simp [intOf]; omega
            · obtain rfl : i = r.length := by omega
              rw [List.take_length, HASS.out] at HO
              go_wp2_with fail
              go_roundw
              case rel => exact ⟨j + 1, by omega, by go_num, HO.out, HB.out⟩
              case measure => simp [intOf]; omega
        · obtain rfl : j = f.parts.length := by omega
          rw [List.take_length] at HO
          go_wp2_with fail
          go_roundw
          case rel => exact ⟨k + 1, by omega, by go_num, by rw [HT.out]; exact HO.out, HB.out⟩
          case measure => simp [intOf]; omega
    · obtain rfl : k = fs.length := by omega
      rw [List.take_length] at HO
      obtain ⟨D, ss, hnd, hmem, hss, hin, hown⟩ := HO.out.own
      have hsz : Maps.size D ≤ 1000000 := Nat.le_trans hown.size_le (by rw [keysA_len]; exact HM.out)
      have HKA := Lib.hid (fun W => mapsKeys_any (some w.heap.size) W)
      have HSO := Lib.hid (sorted_any w.heap.size _ D _ wr hown (by unfold maxLen; omega) (by omega))
      have HND := Lib.hid hnd
      have HMEM := Lib.hid hmem
      have HIN := Lib.hid hin
      clear hown hnd hmem hin hsz HO
      go_wp2_with fail
      refine (HKA.out _).mono ?_
      rintro e w1 ⟨rfl, rfl⟩
      go_wp2_with fail
      refine HSO.out.mono ?_
      rintro e w2 ⟨v, ts, rfl, hperm, hrow, -, hb⟩
      have HB2 := Lib.hid (through (HB.out.alloc HB.out.size _) (Nat.le_refl _) hb)
      subst hss
      have hts := keysF_sorted (ss := ts) (hperm.nodup_iff.2 HND.out) (fun y => by rw [hperm.mem_iff]; exact HMEM.out y)
      have hlen : ts.length = (keysF fs).length := by rw [← hts, List.length_mergeSort]
      have HR := Lib.hid (show OwnI w2 w.heap.size v (keysF fs) from ⟨by
        have h1 := hrow.mono (show w.heap.size ≤ (wr.alloc (.cells #[.map (some w.heap.size)] 75)).heap.size by have := HB.out.size; simp; omega)
        rw [hlen] at h1
        change w2.ownsRow w.heap.size 3 1 v _ ((ts.mergeSort leI).map encZ) at h1
        rw [hts] at h1
        exact h1, fun y hy => by
        rw [← hts] at hy
        exact HIN.out y (hperm.mem_iff.1 ((List.mergeSort_perm ts leI).mem_iff.1 hy))⟩)
      clear hperm hrow hb hts hlen
      go_wp2_with fail
      go_returns
      exact ret_ints HR.out HB2.out
end Go.Proofs.Ytaodbjgcidkpkaa.Fd
