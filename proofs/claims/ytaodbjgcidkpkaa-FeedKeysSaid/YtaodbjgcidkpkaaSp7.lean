/- Jobs: the order, as the program has it. -/
import Derived.Test.YtaodbjgcidkpkaaSp3
import Derived.Test.YtaodbjgcidkpkaaSp6
import Derived.ScopeJumps
import Derived.WalkMore
namespace Go.Proofs.Ytaodbjgcidkpkaa.Sp
open Go.ChangeShapes Go.WideShapes Go.ChangeAt Go.RowKit M

theorem order1_any (A : Option Addr) (c : Nat) (xs : List Int) (n : Int) (q B : Nat) (w : World) (h : IsInts w B ⟨A, c, xs⟩) (hq : w.cell? ⟨q, 0, none⟩ = some (.slice A xs.length c)) :
    Calls Try.prog 56 #[.int .i64 n, .pointer (some ⟨q, 0, none⟩)] w fun e w' => e = .returned (.bool (!hasB xs n)) ∧ w = w' := by
  have HC := Lib.hid (contains_any A c xs n B w h)
  clear h
  go_enter Try.func56, Try.ntmps56
  go_wp2_with fail
  refine HC.out.mono ?_
  rintro e w' ⟨rfl, rfl⟩
  go_wp2
  go_returns
  exact ⟨rfl, rfl⟩

/-- where the first missing one stands -/
def missB (out ys : List Int) : Bool := ys.any fun y => !hasB out y
theorem miss_at {out ys : List Int} {k : Nat} (hk : k < ys.length) (h : hasB out (ys.getD k 0) = false) : missB out ys = true := by
  unfold missB; rw [List.any_eq_true]; exact ⟨_, getD_mem hk, by rw [h]; rfl⟩
theorem miss_none {out ys : List Int} (h : ∀ k, k < ys.length → hasB out (ys.getD k 0) = true) : missB out ys = false := by
  unfold missB; rw [List.any_eq_false]; intro y hy
  obtain ⟨k, hk, e⟩ := mem_getD hy
  rw [← e, h k hk]; simp
theorem ready_miss (l : List OpP) (out : List Int) (i : Nat) : readyB l out i = (!hasB out i && !missB out (insOf l i)) := by
  unfold readyB missB; congr 1
  rw [Bool.eq_iff_iff]; simp

theorem indexF_any (A Y : Option Addr) (c cy : Nat) (xs ys : List Int) (q B : Nat) (w : World) (h : IsInts w B ⟨A, c, xs⟩) (hq : w.cell? ⟨q, 0, none⟩ = some (.slice A xs.length c)) (hy : IsInts w B ⟨Y, cy, ys⟩) :
    Calls Try.prog 76 #[.slice Y ys.length cy, .func (.func 56) #[] #[.pointer (some ⟨q, 0, none⟩)]] w fun e w' => (∃ n : Int, e = .returned (.int .i64 n) ∧ missB xs ys = decide (0 ≤ n)) ∧ w = w' := by
  have hlen : ys.length ≤ 9223372036854775807 := by have := hy.2.1; have := hy.2.2.1; unfold maxLen at this; simp only at *; omega
  have HC := Lib.hid (fun n => order1_any A c xs n q B w h hq)
  have HY := Lib.hid hy
  clear h hq hy
  go_enter Try.func76, Try.ntmps76
  go_wp2
  go_loop [8] (fun i => ∃ k : Nat, k ≤ ys.length ∧ i = .int .i64 k ∧ ∀ j, j < k → hasB xs (ys.getD j 0) = true) (fun i => ys.length - (intOf i).toNat)
  case atStart => exact ⟨0, by omega, rfl, fun j hj => absurd hj (by omega)⟩
  case round =>
    obtain ⟨k, hk, rfl, hno⟩ := hrel
    have HN := Lib.hid hno
    clear hno
    by_cases hlt : k < ys.length
    · obtain ⟨b, o, v, rfl, hb, HV, -, hc⟩ := ints_at HY.out hlt
      have HC1 := Lib.hid (HC.out v)
      cases hv : hasB xs v with
      | true =>
        rw [hv] at HC1
        have HX := Lib.hid (show hasB xs (ys.getD k 0) = true by rw [HV.out]; exact hv)
        clear hv
        go_wp2_with fail
        refine HC1.out.mono ?_
        rintro e w' ⟨rfl, rfl⟩
        go_wp2
        go_round
        case rel => exact ⟨k + 1, by omega, by go_num, fun j hj => by
          rcases (show j < k ∨ j = k by omega) with h | rfl
          · exact HN.out j h
          · exact HX.out⟩
        case measure => simp [intOf]; omega
      | false =>
        rw [hv] at HC1
        have HX := Lib.hid (miss_at (out := xs) hlt (by rw [HV.out]; exact hv))
        clear hv
        go_wp2_with fail
        refine HC1.out.mono ?_
        rintro e w' ⟨rfl, rfl⟩
        go_wp2
        go_returns
        exact ⟨⟨k, rfl, by rw [HX.out]; simp⟩, rfl⟩
    · obtain rfl : k = ys.length := by omega
      have HX := Lib.hid (miss_none HN.out)
      go_wp2
      go_returns
      exact ⟨⟨-1, rfl, by rw [HX.out]; rfl⟩, rfl⟩

theorem containsF_any (A Y : Option Addr) (c cy : Nat) (xs ys : List Int) (q B : Nat) (w : World) (h : IsInts w B ⟨A, c, xs⟩) (hq : w.cell? ⟨q, 0, none⟩ = some (.slice A xs.length c)) (hy : IsInts w B ⟨Y, cy, ys⟩) :
    Calls Try.prog 57 #[.slice Y ys.length cy, .func (.func 56) #[] #[.pointer (some ⟨q, 0, none⟩)]] w fun e w' => e = .returned (.bool (missB xs ys)) ∧ w = w' := by
  have HC := Lib.hid (indexF_any A Y c cy xs ys q B w h hq hy)
  clear h hq hy
  go_enter Try.func57, Try.ntmps57
  go_wp2_with fail
  refine HC.out.mono ?_
  rintro e w' ⟨⟨n, rfl, hn⟩, rfl⟩
  have HN := Lib.hid hn
  clear hn
  go_wp2
  go_returns
  exact ⟨by rw [HN.out]; rfl, rfl⟩

/-- the world at a jump: m operators stand in the order -/
def OrdW (w : World) (g : Int) (A : Option Addr) (l : List OpP) (c m : Nat) (wr : World) : Prop :=
  Below (w.heap.size + 1) (w.alloc (.cells #[.int .i64 g, .slice A l.length c] 24)) wr ∧ (ordSt l m).length = m ∧
  ∃ v, Blk wr (w.heap.size + 1) 29 #[v] ∧ OwnI wr (w.heap.size + 2) v (ordSt l m)
def lenOut (B : Nat) (w : World) : Nat := match w.cell? ⟨B, 0, none⟩ with | some (.slice _ n _) => n | _ => 0
theorem OrdW.len {w : World} {g : Int} {A : Option Addr} {l : List OpP} {c m : Nat} {wr : World} (h : OrdW w g A l c m wr) : lenOut (w.heap.size + 1) wr = m := by
  obtain ⟨-, hm, v, hb, ho⟩ := h
  obtain ⟨A', c', rfl⟩ := ho.form
  unfold lenOut
  rw [hb.cell]
  exact hm
theorem OrdW.size {w : World} {g : Int} {A : Option Addr} {l : List OpP} {c m : Nat} {wr : World} (h : OrdW w g A l c m wr) : w.heap.size + 2 ≤ wr.heap.size := by
  obtain ⟨-, hm, v, hb, ho⟩ := h
  have := hb.lt; omega
theorem OrdW.alloc {w : World} {g : Int} {A : Option Addr} {l : List OpP} {c m : Nat} {wr : World} (h : OrdW w g A l c m wr) (o : Obj) : OrdW w g A l c m (wr.alloc o) := by
  have hs := h.size
  obtain ⟨h1, hm, v, hb, ho⟩ := h
  exact ⟨h1.alloc (by omega) o, hm, v, hb.alloc o, ho.alloc o⟩

theorem wp_scope_from {P : Program} {a : Act} {w : World} {Q : Exit → Act → World → Prop} {c r : Code} (l : Nat) (J : Act → World → Prop) (μ : Act → World → Nat) (hf : findLabel c l = some (Code.skip.seq r))
    (start : (∀ a' w', J a' w' → r.wp P (Exit.jump l J Q) a' w') → c.wp P (Exit.jump l J Q) a w)
    (pass : ∀ a w, J a w → r.wp P (Exit.jump l (fun a' w' => J a' w' ∧ μ a' w' < μ a w) Q) a w) : (Code.scope c).wp P Q a w :=
  wp_scope_jumps l J μ hf (start fun a' w' hJ => wp_mono (pass a' w' hJ) fun e a2 w2 h => by
    cases e with
    | goto l' => exact ⟨h.1, h.2.1⟩
    | _ => exact h) fun a' w' hJ => by
      have h := pass a' w' hJ
      apply wp_seq
      apply wp_skip
      exact h

set_option maxHeartbeats 4000000 in
theorem order_any (g : Int) (A : Option Addr) (c : Nat) (l : List OpP) (p : Nat → Option Addr × Nat) (w : World) (B : Nat) (hB : B ≤ w.heap.size) (h : IsOps w B A l p) (hl : l.length ≤ 1000000) :
    Calls Try.prog 20 #[.agg #[.int .i64 g, .slice A l.length c]] w (RetInts w (orderF l)) := by
  have HH := Lib.hid h
  clear h
  go_enter Try.func20, Try.ntmps20
  go_wp2
  refine wp_scope_from 0 (fun a' w' => (∃ m, OrdW w g A l c m w') ∧ ∃ (u5 u6 u7 u8 u9 u10 u11 u12 u13 u14 u15 u16 u17 u18 u19 u20 u21 u22 u23 u24 u25 u26 u27 u28 u29 u30 u31 : Value), a' = { tmps := #[.agg #[.int .i64 g, .slice A l.length c], .pointer (some ⟨w.heap.size, 0, none⟩), .slice none 0 0, .pointer (some ⟨w.heap.size + 1, 0, none⟩), .func (.func 56) #[] #[.pointer (some ⟨w.heap.size + 1, 0, none⟩)], u5, u6, u7, u8, u9, u10, u11, u12, u13, u14, u15, u16, u17, u18, u19, u20, u21, u22, u23, u24, u25, u26, u27, u28, u29, u30, u31], defers := [] }) (fun _ w' => l.length - lenOut (w.heap.size + 1) w') rfl ?_ ?_
  · intro H
    have HST := Lib.hid H
    clear H
    go_wp2
    go_step3
    rename_i hK
    refine hK _ _ (HST.out _ _ ⟨⟨0, ?_⟩, _, _, _, _, _, _, _, _, _, _, _, _, _, _, _, _, _, _, _, _, _, _, _, _, _, _, _, rfl⟩)
    refine ⟨(Below.refl _ _).alloc (by simp) _, rfl, .slice none 0 0, ?_, OwnI.nil _ _⟩
    have := Blk.new (w.alloc (.cells #[.int .i64 g, .slice A l.length c] 24)) 29 #[.slice none 0 0]
    simpa using this
  · rintro a' w' ⟨⟨m, hj⟩, u5, u6, u7, u8, u9, u10, u11, u12, u13, u14, u15, u16, u17, u18, u19, u20, u21, u22, u23, u24, u25, u26, u27, u28, u29, u30, u31, rfl⟩
    have HJ := Lib.hid hj
    have HM := Lib.hid hj.len
    have hg : w'.cell? ⟨w.heap.size, 1, none⟩ = some (.slice A l.length c) := (hj.1.cell (p := ⟨w.heap.size, 1, none⟩) (by show w.heap.size < _; omega)).trans (by go_simp)
    clear hj
    go_wp2
    go_loopw [11] (fun q wr => ∃ k : Nat, k ≤ l.length ∧ q = .int .i64 k ∧ OrdW w g A l c m wr ∧ ∀ j, j < k → readyB l (ordSt l m) j = false) (fun q _ => l.length - (intOf q).toNat)
    case atStart => exact ⟨0, by omega, rfl, HJ.out, fun j hj => absurd hj (by omega)⟩
    case round =>
      obtain ⟨k, hk, rfl, hjr, hno⟩ := hrel
      have HN := Lib.hid hno
      have HR := Lib.hid hjr
      clear hno hg
      obtain ⟨hb1, hlen, v, hblk, hown⟩ := hjr
      have hsz := HR.out.size
      obtain ⟨Ao, co, rfl⟩ := hown.form
      have hcell : wr.cell? ⟨w.heap.size + 1, 0, none⟩ = some (.slice Ao (ordSt l m).length co) := by rw [hblk.cell]; rfl
      have hfree := hblk.frozen 0
      have HB := Lib.hid hb1
      have HLEN := Lib.hid hlen
      have HBK := Lib.hid hblk
      have HOW := Lib.hid hown
      clear hb1 hlen hblk hown
      by_cases hlt : k < l.length
      · obtain ⟨b, o, rfl, hb, c0, c1, c2, c3, c4, c5, c6, c7, -, hin⟩ := (HH.out.alloc hB (.cells #[.int .i64 g, .slice A l.length c] 24)).at_ hlt
        have ER := Lib.hid (ready_miss l (ordSt l m) k)
        have HYES : Hid (readyB l (ordSt l m) k = true → ordSt l (m + 1) = ordSt l m ++ [(k : Int)]) := fun h => ordSt_some (nextF_is hlt h HN.out)
        have HNO : Hid (readyB l (ordSt l m) k = false → ∀ j, j < k + 1 → readyB l (ordSt l m) j = false) := fun h j hj => by
          rcases (show j < k ∨ j = k by omega) with h1 | rfl
          · exact HN.out j h1
          · exact h
        have hbw : b < wr.heap.size := by omega
        have hb1w : w.heap.size + 1 < wr.heap.size := by omega
        have k0 := (HB.out.cell (p := ⟨b, o + k * 8, none⟩) (by show b < _; omega)).trans c0
        have k1 := (HB.out.cell (p := ⟨b, o + k * 8 + 1, none⟩) (by show b < _; omega)).trans c1
        have k2 := (HB.out.cell (p := ⟨b, o + k * 8 + 2, none⟩) (by show b < _; omega)).trans c2
        have k3 := (HB.out.cell (p := ⟨b, o + k * 8 + 3, none⟩) (by show b < _; omega)).trans c3
        have k4 := (HB.out.cell (p := ⟨b, o + k * 8 + 4, none⟩) (by show b < _; omega)).trans c4
        have k5 := (HB.out.cell (p := ⟨b, o + k * 8 + 5, none⟩) (by show b < _; omega)).trans c5
        have k6 := (HB.out.cell (p := ⟨b, o + k * 8 + 6, none⟩) (by show b < _; omega)).trans c6
        have k7 := (HB.out.cell (p := ⟨b, o + k * 8 + 7, none⟩) (by show b < _; omega)).trans c7
        have hinr := (hin.more (B' := w.heap.size) hB).keep (w' := wr) (fun q hq => HB.out.cell (p := q) (by omega))
        have hlen2 : (ordSt l m).length < 1000000000 := by have := ordSt_len l m; omega
        clear c0 c1 c2 c3 c4 c5 c6 c7 hin
        generalize insOf l k = xs at *
        generalize kindOf l k = kd at *
        generalize opOf l k = O at *
        generalize p k = a at *
        obtain ⟨pa, pc⟩ := a
        simp only at k1 hinr
        have HC1 := Lib.hid (fun ob => order1_any Ao co (ordSt l m) (k : Int) (w.heap.size + 1) _ (wr.alloc ob) (HOW.out.alloc ob).ints (by rw [World.cell?_alloc_lt _ _ _ (by show w.heap.size + 1 < _; omega)]; exact hcell))
        have HC2 := Lib.hid (fun ob => containsF_any Ao pa co pc (ordSt l m) xs (w.heap.size + 1) _ (wr.alloc ob) (HOW.out.alloc ob).ints (by rw [World.cell?_alloc_lt _ _ _ (by show w.heap.size + 1 < _; omega)]; exact hcell) ((hinr.keep (w' := wr.alloc ob) (fun q hq => World.cell?_alloc_lt wr _ q (by omega))).more (by simp; omega)))
        clear hinr
        cases e1 : hasB (ordSt l m) (k : Int) with
        | true =>
          have EN := Lib.hid (HNO.out (by rw [ER.out, e1]; rfl))
          rw [e1] at HC1
          clear e1
          go_wp2_with (first | (go_at_call 56; refine (HC1.out _).mono ?_; rintro e w2 ⟨rfl, rfl⟩))
          go_roundw
          case rel => exact ⟨k + 1, by omega, by go_num, HR.out.alloc _, EN.out⟩
          case measure => simp [intOf]; omega
        | false =>
          cases e2 : missB (ordSt l m) xs with
          | true =>
            have EN := Lib.hid (HNO.out (by rw [ER.out, e1, e2]; rfl))
            rw [e1] at HC1
            rw [e2] at HC2
            clear e1 e2
            go_wp2_with (first | (go_at_call 56; refine (HC1.out _).mono ?_; rintro e w2 ⟨rfl, rfl⟩) | (go_at_call 57; refine (HC2.out _).mono ?_; rintro e w3 ⟨rfl, rfl⟩))
            go_roundw
            case rel => exact ⟨k + 1, by omega, by go_num, HR.out.alloc _, EN.out⟩
            case measure => simp [intOf]; omega
          | false =>
            have EY := Lib.hid (HYES.out (by rw [ER.out, e1, e2]; rfl))
            have HU := Lib.hid (show In64 (k : Int) by unfold In64; omega)
            have HL := Lib.hid hlen2
            have HSZ : Hid (∀ ob, (wr.alloc ob).heap.size = wr.heap.size + 1) := fun ob => by simp
            have HZ : Hid (∀ ob, w.heap.size + 2 ≤ (wr.alloc ob).heap.size) := fun ob => by simp; omega
            rw [e1] at HC1
            rw [e2] at HC2
            clear e1 e2
            go_wp2_with (first | (go_at_call 56; refine (HC1.out _).mono ?_; rintro e w2 ⟨rfl, rfl⟩) | (go_at_call 57; refine (HC2.out _).mono ?_; rintro e w3 ⟨rfl, rfl⟩) | (at_builtin; refine app_newN rfl _ _ rfl (w.heap.size + 2) (HOW.out.alloc _) rfl HU.out (wr.heap.size + 1) (HSZ.out _) rfl HL.out (HZ.out _) ?_))
            intro v' w4 hown4 hb4
            obtain ⟨A4, c4, rfl⟩ := hown4.form
            obtain ⟨n4, hn4⟩ : ∃ n, (ordSt l m ++ [(k : Int)]).length = n := ⟨_, rfl⟩
            rw [hn4] at hown4 ⊢
            clear hn4
            have HO4 := Lib.hid hown4
            have HB4 := Lib.hid hb4
            have hblk4 := (HBK.out.alloc (.cells #[.int .i64 kd, .slice pa xs.length pc, .int .i64 O.fo, .int .i64 O.fa, .int .i64 O.fb, .int .i64 O.parts, .int .i64 O.rate, .int .i64 O.cost] 40)).below HB4.out (by omega)
            have hcell4 : w4.cell? ⟨w.heap.size + 1, 0, none⟩ = some (.slice Ao (ordSt l m).length co) := by rw [hblk4.cell]; rfl
            have hfree4 := hblk4.frozen 0
            have HOD : Hid (OrdW w g (some ⟨b, o, none⟩) l c (m + 1) (w4.setCell ⟨w.heap.size + 1, 0, none⟩ (.slice A4 n4 c4))) := by
              refine ⟨((HB.out.alloc (by omega) _).trans (HB4.out.mono (by omega))).setCell (by simp) _, by rw [EY.out, List.length_append, HLEN.out]; rfl, _, hblk4.set_ 0 _, ?_⟩
              rw [EY.out]
              refine HO4.out.far (fun e => ?_) _
              have := (HO4.out.blk _ e).1
              simp at this
            have HMS : Hid (l.length - lenOut (w.heap.size + 1) (w4.setCell ⟨w.heap.size + 1, 0, none⟩ (.slice A4 n4 c4)) < l.length - lenOut (w.heap.size + 1) w') := by
              have h1 := HOD.out.len
              have h2 := ordSt_len l (m + 1)
              rw [EY.out, List.length_append, HLEN.out] at h2
              have h3 := HM.out
              show l.length - _ < l.length - _
              rw [h1, h3]
              simp at h2
              omega
            clear hown4 hb4 hblk4 hcell
            go_wp2
            go_step3
            exact ⟨rfl, ⟨⟨m + 1, HOD.out⟩, _, _, _, _, _, _, _, _, _, _, _, _, _, _, _, _, _, _, _, _, _, _, _, _, _, _, _, rfl⟩, HMS.out⟩
      · obtain rfl : k = l.length := by omega
        have EO := Lib.hid (show orderF l = ordSt l m from ordSt_none (nextF_no HN.out) l.length (by have := ordSt_len l m; rw [HLEN.out] at this; exact this))
        go_wp2
        simp only [Exit.jump]
        go_returns
        exact ret_ints (by rw [EO.out]; exact HOW.out.mono (by omega)) (through ((Below.refl _ _).alloc (Nat.le_refl _) _) (Nat.le_refl _) (HB.out.mono (by simp)))
end Go.Proofs.Ytaodbjgcidkpkaa.Sp
