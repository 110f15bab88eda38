/- The document's keys: a number laid in its place; all keys. -/
import Derived.Test.YtaodbjgcidkpkaaFdPY
import Derived.Test.YtaodbjgcidkpkaaZi
import Derived.Test.YtaodbjgcidkpkaaZa

namespace Go.Proofs.Ytaodbjgcidkpkaa.Fd
open Go.ChangeShapes Go.WideShapes Go.ChangeAt Go.RowKit M

theorem layR_lt {key : Int} : ∀ {xs : List Int}, (∀ x ∈ xs, x < key) → layR key xs = xs ++ [key]
  | [], _ => rfl
  | x :: xs, h => by
    have h1 := h x (by simp)
    rw [layR, if_neg (by omega), layR_lt (fun y hy => h y (List.mem_cons_of_mem _ hy))]; rfl
def tailR (key y : Int) : List Int := if y ≠ key then [y] else []
theorem layR_turn {key y : Int} : ∀ {xs : List Int}, (∀ x ∈ xs, x < key) → key ≤ y → layR key (xs ++ [y]) = xs ++ [key] ++ tailR key y
  | [], _, hy => by
    rw [List.nil_append, layR, if_pos hy]
    unfold tailR
    by_cases e : y = key <;> simp [e]
  | x :: xs, h, hy => by
    have h1 := h x (by simp)
    rw [List.cons_append, layR, if_neg (by omega), layR_turn (fun z hz => h z (List.mem_cons_of_mem _ hz)) hy]; rfl
theorem layR_more {key y : Int} : ∀ {xs : List Int}, (∃ x ∈ xs, key ≤ x) → layR key (xs ++ [y]) = layR key xs ++ tailR key y
  | [], h => by obtain ⟨x, hx, -⟩ := h; cases hx
  | x :: xs, h => by
    rw [List.cons_append, layR, layR]
    by_cases e : key ≤ x
    · rw [if_pos e, if_pos e, ← List.cons_append, List.filter_append]
      unfold tailR
      by_cases e2 : y = key <;> simp [e2]
    · rw [if_neg e, if_neg e, layR_more]
      · rfl
      · obtain ⟨z, hz, h2⟩ := h
        rcases List.mem_cons.1 hz with rfl | hz
        · exact absurd h2 e
        · exact ⟨z, hz, h2⟩
theorem tailR_no {key y : Int} (h : y = key) : tailR key y = [] := by unfold tailR; simp [h]
theorem tailR_yes {key y : Int} (h : y ≠ key) : tailR key y = [y] := if_pos h
theorem tailR_len (key y : Int) : (tailR key y).length ≤ 1 := by unfold tailR; split <;> simp

set_option maxHeartbeats 2000000 in
theorem rlay_any (A : Option Addr) (c : Nat) (xs : List Int) (key : Int) (w : World) (B : Nat) (hB : B ≤ w.heap.size) (h : IsInts w B ⟨A, c, xs⟩) (hkey : In64 key) (hl : xs.length ≤ 1000000) :
    Calls Try.prog 70 #[.slice A xs.length c, .int .i64 key] w (RetInts w (layR key xs)) := by
  have HX := Lib.hid h
  have HK := Lib.hid hkey
  clear h hkey
  go_enter Try.func70, Try.ntmps70
  go_wp2_with fail
  go_loopw [5, 6, 7] (fun v b u wr => ∃ k : Nat, k ≤ xs.length ∧ u = .int .i64 k ∧ ((b = .bool false ∧ (∀ x ∈ xs.take k, x < key) ∧ OwnI wr w.heap.size v (xs.take k)) ∨ (b = .bool true ∧ (∃ x ∈ xs.take k, key ≤ x) ∧ OwnI wr w.heap.size v (layR key (xs.take k)))) ∧ Below w.heap.size w wr) (fun _ _ u _ => xs.length - (Go.RowKit.intOf u).toNat)
  case atStart => exact ⟨0, by omega, rfl, .inl ⟨rfl, fun x hx => by simp at hx, OwnI.nil _ _⟩, Below.refl _ _⟩
  case round =>
    obtain ⟨k, hk, rfl, hst, hbl⟩ := hrel
    have HB := Lib.hid hbl
    clear hbl
    by_cases hlt : k < xs.length
    · obtain ⟨b0, o0, y, rfl, hb, HV, h64, c0⟩ := Sp.ints_at HX.out hlt
      have e0 := (HB.out.cell (p := ⟨b0, o0 + k, none⟩) (by show b0 < _; omega)).trans c0
      have HT := Lib.hid (take_snocG hlt HV.out)
      have HTL := Lib.hid (show (xs.take k).length ≤ 1000000 by rw [List.length_take]; omega)
      have HU := Lib.hid h64
      clear c0 h64
      rcases hst with ⟨rfl, hall, hown⟩ | ⟨rfl, hex, hown⟩
      · have HALL := Lib.hid hall
        have HOW := Lib.hid hown
        clear hall hown
        have HL := Lib.hid (show (xs.take k).length < 1000000000 by have := HTL.out; omega)
        have HZ := Lib.hid HB.out.size
        by_cases hle : key ≤ y
        · have hd : decide (key ≤ y) = true := decide_eq_true hle
          have HLE := Lib.hid hle
          have HUy := HU
          have HU := HK
          clear hle
          go_wp2_with (at_builtin; refine app_new rfl _ _ rfl w.heap.size HOW.out rfl HU.out rfl HL.out HZ.out ?_)
          intro v1 w1 hown1 hb1
          have HOW := Lib.hid hown1
          have HB := Lib.hid (HB.out.trans hb1)
          have HZ := Lib.hid HB.out.size
          have HL := Lib.hid (show (xs.take k ++ [key]).length < 1000000000 by have := HTL.out; rw [List.length_append]; simp only [List.length_singleton]; omega)
          have HU := HUy
          have e0 := (hb1.cell (p := ⟨b0, o0 + k, none⟩) (by show b0 < _; omega)).trans e0
          clear hown1 hb1
          by_cases hne : y = key
          · have hn : (y != key) = false := by simp [hne]
            have HR := Lib.hid (show layR key (xs.take (k + 1)) = xs.take k ++ [key] by rw [HT.out, layR_turn HALL.out HLE.out, tailR_no hne, List.append_nil])
            have HEX := Lib.hid (show ∃ x ∈ xs.take (k + 1), key ≤ x from ⟨y, by rw [HT.out]; simp, HLE.out⟩)
            clear hne
            go_wp2_with fail
            go_roundw
            case rel => exact ⟨k + 1, by omega, by go_num, .inr ⟨rfl, HEX.out, by rw [HR.out]; exact HOW.out⟩, HB.out⟩
            case measure => simp [Go.RowKit.intOf]; omega
          · have hn : (y != key) = true := by simp [hne]
            have HR := Lib.hid (show layR key (xs.take (k + 1)) = xs.take k ++ [key, y] by rw [HT.out, layR_turn HALL.out HLE.out, tailR_yes hne, List.append_assoc]; rfl)
            have HEX := Lib.hid (show ∃ x ∈ xs.take (k + 1), key ≤ x from ⟨y, by rw [HT.out]; simp, HLE.out⟩)
            clear hne
            go_wp2_with (at_builtin; refine app_new rfl _ _ rfl w.heap.size HOW.out rfl HU.out rfl HL.out HZ.out ?_)
            intro v2 w2 hown2 hb2
            have HO2 := Lib.hid hown2
            have HB2 := Lib.hid (HB.out.trans hb2)
            clear hown2 hb2
            go_wp2
            go_roundw
            case rel => exact ⟨k + 1, by omega, by go_num, .inr ⟨rfl, HEX.out, by rw [HR.out]; exact HO2.out⟩, HB2.out⟩
            case measure => simp [Go.RowKit.intOf]; omega
        · have hd : decide (key ≤ y) = false := decide_eq_false hle
          have hn : (y != key) = true := by simp; omega
          have HALL1 := Lib.hid (show ∀ x ∈ xs.take (k + 1), x < key from fun x hx => by
            rw [HT.out, List.mem_append] at hx
            rcases hx with hx | hx
            · exact HALL.out x hx
            · obtain rfl : x = y := by simpa using hx
              omega)
          clear hle
          go_wp2_with (at_builtin; refine app_new rfl _ _ rfl w.heap.size HOW.out rfl HU.out rfl HL.out HZ.out ?_)
          intro v2 w2 hown2 hb2
          have HO2 := Lib.hid hown2
          have HB2 := Lib.hid (HB.out.trans hb2)
          clear hown2 hb2
          go_wp2
          go_roundw
          case rel => exact ⟨k + 1, by omega, by go_num, .inl ⟨rfl, HALL1.out, by rw [HT.out]; exact HO2.out⟩, HB2.out⟩
          case measure => simp [Go.RowKit.intOf]; omega
      · have HEX := Lib.hid (show ∃ x ∈ xs.take (k + 1), key ≤ x by obtain ⟨x, hx, h2⟩ := hex; exact ⟨x, by rw [HT.out]; exact List.mem_append_left _ hx, h2⟩)
        have HR := Lib.hid (show layR key (xs.take (k + 1)) = layR key (xs.take k) ++ tailR key y by rw [HT.out, layR_more hex])
        have HOW := Lib.hid hown
        clear hex hown
        have HL := Lib.hid (show (layR key (xs.take k)).length < 1000000000 by have := HTL.out; have := layR_len key (xs.take k); omega)
        have HZ := Lib.hid HB.out.size
        by_cases hne : y = key
        · have hn : (y != key) = false := by simp [hne]
          have HR := Lib.hid (show layR key (xs.take (k + 1)) = layR key (xs.take k) by rw [HR.out, tailR_no hne, List.append_nil])
          clear hne
          go_wp2_with fail
          go_roundw
          case rel => exact ⟨k + 1, by omega, by go_num, .inr ⟨rfl, HEX.out, by rw [HR.out]; exact HOW.out⟩, HB.out⟩
          case measure => simp [Go.RowKit.intOf]; omega
        · have hn : (y != key) = true := by simp [hne]
          have HR := Lib.hid (show layR key (xs.take (k + 1)) = layR key (xs.take k) ++ [y] by rw [HR.out, tailR_yes hne])
          clear hne
          go_wp2_with (at_builtin; refine app_new rfl _ _ rfl w.heap.size HOW.out rfl HU.out rfl HL.out HZ.out ?_)
          intro v2 w2 hown2 hb2
          have HO2 := Lib.hid hown2
          have HB2 := Lib.hid (HB.out.trans hb2)
          clear hown2 hb2
          go_wp2
          go_roundw
          case rel => exact ⟨k + 1, by omega, by go_num, .inr ⟨rfl, HEX.out, by rw [HR.out]; exact HO2.out⟩, HB2.out⟩
          case measure => simp [Go.RowKit.intOf]; omega
    · obtain rfl : k = xs.length := by omega
      rw [List.take_length] at hst
      rcases hst with ⟨rfl, hall, hown⟩ | ⟨rfl, hex, hown⟩
      · have HR := Lib.hid (layR_lt hall)
        have HOW := Lib.hid hown
        have HU := HK
        have HL := Lib.hid (show xs.length < 1000000000 by omega)
        have HZ := Lib.hid HB.out.size
        clear hall hown
        go_wp2_with (at_builtin; refine app_new rfl _ _ rfl w.heap.size HOW.out rfl HU.out rfl HL.out HZ.out ?_)
        intro v2 w2 hown2 hb2
        have HO2 := Lib.hid hown2
        have HB2 := Lib.hid (HB.out.trans hb2)
        clear hown2 hb2
        go_wp2
        go_returns
        exact ret_ints (by rw [HR.out]; exact HO2.out) HB2.out
      · have HOW := Lib.hid hown
        clear hex hown
        go_wp2
        go_returns
        exact ret_ints HOW.out HB.out

def kfold (ks : List Int) : List Int := ks.foldl (fun l k => layR k l) []
theorem kfold_snoc (ks : List Int) (k : Int) : kfold (ks ++ [k]) = layR k (kfold ks) := by unfold kfold; rw [List.foldl_append]; rfl
theorem kfold_len (ks : List Int) : (kfold ks).length ≤ ks.length := by have := fold_len ks []; simpa [kfold] using this
set_option maxHeartbeats 2000000 in
theorem rkeys_any (A : Option Addr) (c : Nat) (fs : List Fp) (w : World) (B : Nat) (hB : B ≤ w.heap.size) (h : IsFeeds w B A c fs) (hm : cntF fs ≤ 1000000) :
    Calls Try.prog 40 #[.slice A fs.length c] w (RetInts w (keysF fs)) := by
  have hl := h.len
  unfold LB at hl
  have HH := Lib.hid h
  have HM := Lib.hid hm
  clear h
  go_enter Try.func40, Try.ntmps40
  go_wp2_with fail
  go_loopw [3, 4] (fun v u wr => ∃ k : Nat, k ≤ fs.length ∧ u = .int .i64 k ∧ OwnI wr w.heap.size v (kfold (keysA (fs.take k))) ∧ Below w.heap.size w wr) (fun _ u _ => fs.length - (Go.RowKit.intOf u).toNat)
  case atStart => exact ⟨0, by omega, rfl, OwnI.nil _ _, Below.refl _ _⟩
  case round =>
    obtain ⟨k, hk, rfl, hown, hbl⟩ := hrel
    have HB := Lib.hid hbl
    have HOW := Lib.hid hown
    clear hown hbl
    by_cases hlt : k < fs.length
    · obtain ⟨b, o, f, A', c', rfl, hb, HV, -, c0, c1, hli⟩ := feeds_at HH.out hlt
      have HLI := Lib.hid hli
      have hll := hli.len
      unfold LB at hll
      have HT := Lib.hid (keysA_take hlt HV.out)
      have HN := Lib.hid (show (keysA (fs.take k)).length + cntL f.parts ≤ 1000000 by
        have h1 := cntF_take hlt HV.out
        have h2 := cntF_le fs (k + 1)
        have h3 := HM.out
        rw [keysA_len]; omega)
      generalize keysA (fs.take k) = K0 at *
      clear c0 hli
      go_wp2_with fail
      go_loopw [3, 5] (fun v u wr => ∃ j : Nat, j ≤ f.parts.length ∧ u = .int .i64 j ∧ OwnI wr w.heap.size v (kfold (K0 ++ keysL (f.parts.take j))) ∧ Below w.heap.size w wr) (fun _ u _ => f.parts.length - (Go.RowKit.intOf u).toNat)
      case atStart => exact ⟨0, by omega, rfl, by simpa [keysL] using HOW.out, HB.out⟩
      case round =>
        clear HB HOW
        obtain ⟨j, hj, rfl, hown, hbl⟩ := hrel
        have HB := Lib.hid hbl
        have HOW := Lib.hid hown
        clear hown hbl
        have e1 := (HB.out.cell (p := ⟨b, o + k * 2 + 1, none⟩) (by show b < _; omega)).trans c1
        by_cases hltj : j < f.parts.length
        · obtain ⟨b2, o2, r, A2, c2, rfl, hb2, HV2, d0, hrr⟩ := lists_at HLI.out hltj
          have HT2 := Lib.hid (keysL_take hltj HV2.out)
          have HN2 := Lib.hid (show (K0 ++ keysL (f.parts.take j)).length + r.length ≤ 1000000 by
            have h1 := cntL_take hltj HV2.out
            have h2 := cntL_le f.parts (j + 1)
            have h3 := HN.out
            rw [List.length_append, keysL_len]; omega)
          have hrl := hrr.2
          unfold LB at hrl
          have HRR := Lib.hid hrr.1
          have HTT := Lib.hid (show K0 ++ keysL (f.parts.take (j + 1)) = (K0 ++ keysL (f.parts.take j)) ++ keysR r by rw [HT2.out, List.append_assoc])
          generalize K0 ++ keysL (f.parts.take j) = K1 at *
          clear hrr
          go_wp2_with fail
          go_loopw [3, 6] (fun v u wr => ∃ t : Nat, t ≤ r.length ∧ u = .int .i64 t ∧ OwnI wr w.heap.size v (kfold (K1 ++ keysR (r.take t))) ∧ Below w.heap.size w wr) (fun _ u _ => r.length - (Go.RowKit.intOf u).toNat)
          case atStart => exact ⟨0, by omega, rfl, by simpa [keysR] using HOW.out, HB.out⟩
          case round =>
            clear HB HOW e1
            obtain ⟨t, ht, rfl, hown, hbl⟩ := hrel
            have HB := Lib.hid hbl
            obtain ⟨A9, c9, rfl⟩ := hown.form
            have HOW := Lib.hid hown
            clear hown hbl
            have e1 := (HB.out.cell (p := ⟨b, o + k * 2 + 1, none⟩) (by show b < _; omega)).trans c1
            have e2 := (HB.out.cell (p := ⟨b2, o2 + j, none⟩) (by show b2 < _; omega)).trans d0
            by_cases hltt : t < r.length
            · obtain ⟨b3, o3, x, rfl, hb3, HV3, hx64, f0, f1⟩ := pairs_at HRR.out hltt
              have e3 := (HB.out.cell (p := ⟨b3, o3 + t * 2, none⟩) (by show b3 < _; omega)).trans f0
              have HT3 := Lib.hid (show kfold (K1 ++ keysR (r.take (t + 1))) = layR x.1 (kfold (K1 ++ keysR (r.take t))) by rw [keysR_take hltt HV3.out, ← List.append_assoc, kfold_snoc])
              have HN3 := Lib.hid (show (kfold (K1 ++ keysR (r.take t))).length ≤ 1000000 by
                have h1 := kfold_len (K1 ++ keysR (r.take t))
                rw [List.length_append, keysR_len, List.length_take] at h1
                have h2 := HN2.out
                omega)
              have HC := Lib.hid (rlay_any A9 c9 (kfold (K1 ++ keysR (r.take t))) x.1 wr _ (Nat.le_refl _) HOW.out.ints hx64.1 HN3.out)
              generalize kfold (K1 ++ keysR (r.take t)) = K2 at *
              clear hx64 f0 f1
              go_wp2_with fail
              refine HC.out.mono ?_
              rintro e w2 ⟨A5, c5, rfl, hown, hb⟩
              have HO2 := Lib.hid (hown.mono HB.out.size)
              have HB2 := Lib.hid (through HB.out (Nat.le_refl _) hb)
              clear hown hb
              go_wp2_with fail
              go_roundw
              case rel => exact ⟨t + 1, by omega, by go_num, by rw [HT3.out]; exact HO2.out, HB2.out⟩
              case measure => simp [Go.RowKit.intOf]; omega
            · obtain rfl : t = r.length := by omega
              rw [List.take_length] at HOW
              rw [List.take_length]
              go_wp2_with fail
              go_roundw
              case rel => exact ⟨j + 1, by omega, by go_num, by rw [HTT.out]; exact HOW.out, HB.out⟩
              case measure => simp [Go.RowKit.intOf]; omega
        · obtain rfl : j = f.parts.length := by omega
          rw [List.take_length] at HOW
          go_wp2_with fail
          go_roundw
          case rel => exact ⟨k + 1, by omega, by go_num, by rw [HT.out]; exact HOW.out, HB.out⟩
          case measure => simp [Go.RowKit.intOf]; omega
    · obtain rfl : k = fs.length := by omega
      rw [List.take_length] at HOW
      go_wp2_with fail
      go_returns
      exact ret_ints HOW.out HB.out
end Go.Proofs.Ytaodbjgcidkpkaa.Fd
