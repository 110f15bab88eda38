/- The iterator over the longest runs of groups: for every loop body that keeps what lay ahead. -/
import Derived.Test.YtlhjhjkfnmeapaaMv1
import Derived.BigQuiet
import Derived.Deep.QuietTactic
namespace Go.Proofs.Ytlhjhjkfnmeapaa.Mv
open Go.ChangeShapes Go.WideShapes Go.ChangeAt Go.RowKit Go.Shelf M
attribute [local go_sem] Oper.semAt_some

/-- what the iterator has caught -/
structure CaughtR (w : World) (Bg Bf bo bg bp : Nat) (old par : Int) (G : Nat) : Prop where
  g : w.cell? ⟨Bg, 0, none⟩ = some (.int .i64 (G : Int))
  f : w.cell? ⟨Bf, 0, none⟩ = some (Value.func (.func 43) #[] #[.pointer (some ⟨bo, 0, none⟩), .pointer (some ⟨bg, 0, none⟩), .pointer (some ⟨bp, 0, none⟩)])
  c : Caught w bo bg bp old par G
theorem CaughtR.below {w w' : World} {Bg Bf bo bg bp n : Nat} {old par : Int} {G : Nat} (h : CaughtR w Bg Bf bo bg bp old par G) (hb : Below n w w') (h1 : Bg < n) (h2 : Bf < n) (h3 : bo < n) (h4 : bg < n) (h5 : bp < n) : CaughtR w' Bg Bf bo bg bp old par G :=
  ⟨(hb.cell (p := ⟨Bg, 0, none⟩) h1).trans h.g, (hb.cell (p := ⟨Bf, 0, none⟩) h2).trans h.f, h.c.below hb h3 h4 h5⟩

theorem two_ne {x y : Int × Int} (h : x ≠ y) : (x.1 == y.1 && x.2 == y.2) = false := by
  cases hc : (x.1 == y.1 && x.2 == y.2)
  · rfl
  · simp at hc; exact absurd (Prod.ext hc.1 hc.2) h

theorem lt_of_cell {w : World} {b i : Nat} {v : Value} (h : w.cell? ⟨b, i, none⟩ = some v) : b < w.heap.size := by
  obtain ⟨o, ho, -⟩ := not_walk_of_cell h
  exact (Array.getElem?_eq_some_iff.1 ho).1
theorem CaughtR.on {w w' : World} {Bg Bf bo bg bp : Nat} {old par : Int} {G : Nat} (h : CaughtR w Bg Bf bo bg bp old par G) (hb : Below w.heap.size w w') : CaughtR w' Bg Bf bo bg bp old par G :=
  h.below hb (lt_of_cell h.g) (lt_of_cell h.f) (lt_of_cell h.c.o) (lt_of_cell h.c.g) (lt_of_cell h.c.p)

set_option maxRecDepth 100000 in
set_option maxHeartbeats 4000000 in
theorem runs1_in (n : Nat) (hn : 1 ≤ n) (l Bg Bf bo bg bp : Nat) (old par : Int) (G : Nat) (hG : G ≤ 64)
    (J Jx : List (Nat × Nat) → World → Prop) (hJ : ∀ pre A B, J pre A → Below A.heap.size A B → J pre B)
    (hY : ∀ (pre : List (Nat × Nat)) (x : Nat × Nat) (W : World), J pre W → pre.length < G → YieldAt Fence.wide (n - 1) Try.prog l #[.int .i64 (x.1 : Int), .int .i64 (x.2 : Int)] W fun e W' =>
      (e = .returned (.bool true) ∧ J (pre ++ [x]) W' ∧ (CaughtR W Bg Bf bo bg bp old par G → CaughtR W' Bg Bf bo bg bp old par G)) ∨ (e = .returned (.bool false) ∧ Jx (pre ++ [x]) W'))
    (W : World) (hC : CaughtR W Bg Bf bo bg bp old par G) (h0 : J [] W) :
    CallsIn Fence.wide n Try.prog 64 #[.func (.yield l) #[] #[], .pointer (some ⟨Bg, 0, none⟩), .pointer (some ⟨Bf, 0, none⟩)] W fun e W' => (∃ v, e = .returned v) ∧
      ((∃ ys, Runs old par G 0 ys G ∧ J ys W') ∨ (∃ pre, (∃ b, Runs old par G 0 pre b) ∧ Jx pre W')) := by
  have HJ := Lib.hid hJ
  have HY := Lib.hid hY
  have HC := Lib.hid hC
  clear hJ hY hC
  refine callsIn_of_wp Try.func64 rfl trivial ?_ rfl
  simp only [Try.ntmps64, List.size_toArray, List.length_cons, List.length_nil, Nat.reduceAdd, Nat.reduceSub, Array.replicate_succ, Array.replicate_zero, List.push_toArray, List.append_toArray, List.nil_append, List.cons_append]
  gi_wp2
  gi_loopw [4, 5] (fun p q wr => ∃ (pre : List (Nat × Nat)) (b : Nat), b ≤ G ∧ p = .int .i64 b ∧ q = .int .i64 b ∧ Runs old par G 0 pre b ∧ J pre wr ∧ CaughtR wr Bg Bf bo bg bp old par G) (fun p _ _ => G - (intOf p).toNat)
  case atStart => exact ⟨[], 0, by omega, rfl, rfl, rfl, h0, HC.out⟩
  case round =>
    obtain ⟨pre, b, hb, rfl, rfl, hr, hJs, hB⟩ := hrel
    have HCR := Lib.hid hB
    have HR := Lib.hid hr
    have HJS := Lib.hid hJs
    have HB := Lib.hid hB
    have c1 := HCR.out.g
    clear hr hJs hB
    by_cases hlt : b < G
    · have t1 : decide ((b : Int) < (G : Int)) = true := decide_eq_true (by omega)
      gi_wp2
      refine wpIn_wide.2 ?_
      go_loopw [5] (fun q wi => ∃ h : Nat, q = .int .i64 h ∧ b < h ∧ h ≤ G ∧ (∀ j, b ≤ j → j < h → ow old par G j = ow old par G b) ∧ J pre wi ∧ CaughtR wi Bg Bf bo bg bp old par G) (fun q _ => G - (intOf q).toNat)
      case atStart => exact ⟨b + 1, by simp, by omega, by omega, fun j hj hk => by rw [show j = b by omega], HJS.out, HB.out⟩
      case round =>
        obtain ⟨h, rfl, hbh, hhG, hsame, hJi, hBi⟩ := hrel
        have HSM := Lib.hid hsame
        have HJI := Lib.hid hJi
        have HBI := Lib.hid hBi
        have hci := hBi
        have k1 := hci.g
        have k2 := hci.f
        have HOW : Hid (∀ (g : Nat) (Z : World), Below wr.heap.size wr Z → Calls Try.prog 43 #[.int .i64 (g : Int), .pointer (some ⟨bo, 0, none⟩), .pointer (some ⟨bg, 0, none⟩), .pointer (some ⟨bp, 0, none⟩)] Z
            fun e w' => e = .returned (.agg #[.int .i64 (ow old par G g).1, .int .i64 (ow old par G g).2]) ∧ Below Z.heap.size Z w') := by
          have hci' := Lib.hid hci
          exact Lib.hid (fun g Z hZ => owners_any g old par G bo bg bp Z ((hci'.out.on hZ).c) (lt_of_cell (hci'.out.on hZ).c.o) (lt_of_cell (hci'.out.on hZ).c.g) (lt_of_cell (hci'.out.on hZ).c.p))
        have HSC : Hid (∀ Y, Below wr.heap.size wr Y → (fun (w' : World) => w'.cell? ⟨Bg, 0, none⟩ = some (.int .i64 (G : Int)) ∧ w'.cell? ⟨Bf, 0, none⟩ = some (Value.func (.func 43) #[] #[.pointer (some ⟨bo, 0, none⟩), .pointer (some ⟨bg, 0, none⟩), .pointer (some ⟨bp, 0, none⟩)]) ∧ Below wr.heap.size wr w') Y) := by
          have hci' := Lib.hid hci
          exact Lib.hid (fun Y hY => ⟨(hci'.out.on hY).g, (hci'.out.on hY).f, hY⟩)
        clear hsame hJi hBi hci
        have HBH := Lib.hid hbh
        by_cases hlh : h < G
        · have t2 : decide ((h : Int) < (G : Int)) = true := decide_eq_true (by omega)
          by_cases he : ow old par G h = ow old par G b
          · have hq : ((ow old par G h).1 == (ow old par G b).1 && (ow old par G h).2 == (ow old par G b).2) = true := by rw [he]; simp
            have HE := Lib.hid he
            clear he k1 k2
            go_upto_region 4 with (fail)
            go_region_held3 ((fun (w' : World) => w'.cell? ⟨Bg, 0, none⟩ = some (.int .i64 (G : Int)) ∧ w'.cell? ⟨Bf, 0, none⟩ = some (Value.func (.func 43) #[] #[.pointer (some ⟨bo, 0, none⟩), .pointer (some ⟨bg, 0, none⟩), .pointer (some ⟨bp, 0, none⟩)]) ∧ Below wr.heap.size wr w'))
              (first | exact HSC.out _ (Below.refl _ _) | exact HSC.out _ (Below.refl _ _).drew | exact HSC.out _ r2 | exact HSC.out _ r1)
              ((first
                | (go_at_call_of 43 (Value.int .i64 (h : Int)); refine (HOW.out h _ (Below.refl _ _).drew).mono ?_; rintro e v1 ⟨rfl, q1⟩; have r1 : Below wr.heap.size wr v1 := through (Below.refl _ _).drew (Nat.le_refl _) q1)
                | (go_at_call 43; refine (HOW.out b _ r1).mono ?_; rintro e v2 ⟨rfl, q2⟩; have r2 : Below wr.heap.size wr v2 := through r1 (Nat.le_refl _) q2)))
            have HBZ := Lib.hid r2
            go_wp2_with fail
            go_roundw
            case rel => exact ⟨h + 1, by go_num, by omega, by omega, fun j hj hk => by
                rcases Nat.lt_or_ge j h with hjh | hjh
                · exact HSM.out j hj hjh
                · rw [show j = h by omega]; exact HE.out, HJ.out _ _ _ HJI.out HBZ.out, HBI.out.on HBZ.out⟩
            case measure => simp [intOf]; omega
          · have hq := two_ne he
            have HRUN : Hid (IsRun old par G (b, h)) := Lib.hid ⟨hbh, hhG, HSM.out, fun _ => he⟩
            clear he k1 k2
            go_upto_region 4 with (fail)
            go_region_held3 ((fun (w' : World) => w'.cell? ⟨Bg, 0, none⟩ = some (.int .i64 (G : Int)) ∧ w'.cell? ⟨Bf, 0, none⟩ = some (Value.func (.func 43) #[] #[.pointer (some ⟨bo, 0, none⟩), .pointer (some ⟨bg, 0, none⟩), .pointer (some ⟨bp, 0, none⟩)]) ∧ Below wr.heap.size wr w'))
              (first | exact HSC.out _ (Below.refl _ _) | exact HSC.out _ (Below.refl _ _).drew | exact HSC.out _ r2 | exact HSC.out _ r1)
              ((first
                | (go_at_call_of 43 (Value.int .i64 (h : Int)); refine (HOW.out h _ (Below.refl _ _).drew).mono ?_; rintro e v1 ⟨rfl, q1⟩; have r1 : Below wr.heap.size wr v1 := through (Below.refl _ _).drew (Nat.le_refl _) q1)
                | (go_at_call 43; refine (HOW.out b _ r1).mono ?_; rintro e v2 ⟨rfl, q2⟩; have r2 : Below wr.heap.size wr v2 := through r1 (Nat.le_refl _) q2)))
            have HBZ := Lib.hid r2
            clear r1 r2 q1 q2
            go_wp2_with fail
            have hJZ : J pre v2 := HJ.out pre wr v2 HJI.out HBZ.out
            obtain ⟨fn, tmps, assign, body, hy, hR⟩ := HY.out pre (b, h) v2 hJZ (by have := HR.out.len; omega)
            dsimp only at hy
            clear hJZ
            gi_wp2
            refine hR.mono ?_
            rintro e W3 (⟨rfl, hJ3, hk3⟩ | ⟨rfl, hJx3⟩)
            · have HK3 := Lib.hid hk3
              clear hk3 hy hR
              gi_wp2
              go_roundw
              case rel => exact ⟨pre ++ [(b, h)], h, hhG, rfl, rfl, HR.out.snoc rfl HRUN.out, hJ3, HK3.out (HBI.out.on HBZ.out)⟩
              case measure => simp [intOf]; omega
            · gi_wp2
              refine bodyPost_ret (results_none rfl _ _ _) rfl ?_
              exact ⟨⟨_, rfl⟩, .inr ⟨_, ⟨_, HR.out.snoc rfl HRUN.out⟩, hJx3⟩⟩
        · have t2 : decide ((h : Int) < (G : Int)) = false := decide_eq_false (by omega)
          have HRUN : Hid (IsRun old par G (b, h)) := Lib.hid ⟨hbh, hhG, HSM.out, fun hl => absurd hl hlh⟩
          go_upto_region 4 with (fail)
          go_quiet (fail)
          go_wp2_with fail
          have HBZ : Hid (Below wr.heap.size wr (wr.drewN nq)) := Lib.hid (below_drewN (Below.refl _ _) _)
          have hJZ : J pre (wr.drewN nq) := HJ.out pre wr (wr.drewN nq) HJI.out HBZ.out
          obtain ⟨fn, tmps, assign, body, hy, hR⟩ := HY.out pre (b, h) (wr.drewN nq) hJZ (by have := HR.out.len; omega)
          dsimp only at hy
          clear hJZ
          gi_wp2
          refine hR.mono ?_
          rintro e W3 (⟨rfl, hJ3, hk3⟩ | ⟨rfl, hJx3⟩)
          · have HK3 := Lib.hid hk3
            clear hk3 hy hR
            gi_wp2
            go_roundw
            case rel => exact ⟨pre ++ [(b, h)], h, hhG, rfl, rfl, HR.out.snoc rfl HRUN.out, hJ3, HK3.out (HBI.out.on HBZ.out)⟩
            case measure => simp [intOf]; omega
          · gi_wp2
            refine bodyPost_ret (results_none rfl _ _ _) rfl ?_
            exact ⟨⟨_, rfl⟩, .inr ⟨_, ⟨_, HR.out.snoc rfl HRUN.out⟩, hJx3⟩⟩
    · obtain rfl : b = G := by omega
      gi_wp2
      go_end0
      exact ⟨⟨_, rfl⟩, .inl ⟨pre, HR.out, HJS.out⟩⟩
end Go.Proofs.Ytlhjhjkfnmeapaa.Mv
