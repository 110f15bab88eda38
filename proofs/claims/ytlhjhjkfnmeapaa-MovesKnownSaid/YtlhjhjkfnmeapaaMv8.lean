/- The document's plan of moves: numbers that fit. -/
import Derived.Test.YtlhjhjkfnmeapaaMv7
namespace Go.Proofs.Ytlhjhjkfnmeapaa.Mv
open Go.ChangeShapes Go.WideShapes Go.ChangeAt Go.RowKit M

section
variable {old par : Int} {G : Nat} {L : List Q4} {n0 g : Nat} {m : Q4} {a b : Int}
theorem last_getD (hn : L.length = n0 + 1) (hm : L.getD n0 z4 = m) : L.getLast? = some m := by
  rw [List.getLast?_eq_getElem?, hn, ← hm, List.getD_eq_getElem?_getD]
  have h : n0 < L.length := by omega
  simp [List.getElem?_eq_getElem h]
theorem drop_set {x : Q4} (hn : L.length = n0 + 1) : L.dropLast ++ [x] = L.set n0 x := by
  rcases List.eq_nil_or_concat L with h | ⟨L', y, h⟩
  · subst h; simp at hn
  · subst h
    have h2 : L'.length = n0 := by simpa using hn
    subst h2
    simp
theorem step_set (ha : (ow old par G g).1 = a) (hb : (ow old par G g).2 = b) (hn : L.length = n0 + 1) (hm : L.getD n0 z4 = m) (h1 : m.1 = a) (h2 : m.2.1 = b) (h3 : m.2.2.2 = (g : Int)) :
    refStep old par G L g = L.set n0 (m.1, m.2.1, m.2.2.1, (g : Int) + 1) := by
  unfold refStep
  rw [last_getD hn hm]
  simp only
  rw [if_pos ⟨h3, by rw [h1, h2, ← ha, ← hb]⟩, drop_set hn]
theorem step_nil (ha : (ow old par G g).1 = a) (hb : (ow old par G g).2 = b) (hn : L.length = 0) : refStep old par G L g = if a = b then L else L ++ [(a, b, (g : Int), (g : Int) + 1)] := by
  have : L = [] := List.eq_nil_of_length_eq_zero hn
  subst this
  rw [refStep_no (fun m hm => by simp at hm), ha, hb]
theorem step_not (ha : (ow old par G g).1 = a) (hb : (ow old par G g).2 = b) (hn : L.length = n0 + 1) (hm : L.getD n0 z4 = m) (h : ¬ (m.2.2.2 = (g : Int) ∧ m.1 = a ∧ m.2.1 = b)) :
    refStep old par G L g = if a = b then L else L ++ [(a, b, (g : Int), (g : Int) + 1)] := by
  rw [refStep_no, ha, hb]
  intro m' hm' hc
  rw [last_getD hn hm] at hm'
  injection hm' with hm'
  subst hm'
  have h5 : (m.1, m.2.1) = ((ow old par G g).1, (ow old par G g).2) := hc.2
  injection h5 with h6 h7
  exact h ⟨hc.1, h6.trans ha, h7.trans hb⟩
end

theorem refL_len (old par : Int) (G : Nat) : ∀ g : Nat, (refL old par G g).length ≤ g
  | 0 => Nat.le_refl _
  | g + 1 => by
    have ih := refL_len old par G g
    show (refStep old par G (refL old par G g) g).length ≤ _
    generalize refL old par G g = L at *
    unfold refStep
    split
    · rename_i m hm
      have hne : L ≠ [] := by rintro rfl; simp at hm
      have hp : 0 < L.length := List.length_pos_iff.2 hne
      split
      · simp; omega
      · split
        · omega
        · simp; omega
    · split
      · omega
      · simp; omega
theorem quadCells_set3 (ys : List Q4) (k : Nat) (u : Int) (hk : k < ys.length) :
    (quadCells ys).set (k * 4 + 3) (.int .i64 u) = quadCells (ys.set k ((ys.getD k z4).1, (ys.getD k z4).2.1, (ys.getD k z4).2.2.1, u)) := by
  induction ys generalizing k with
  | nil => simp at hk
  | cons y ys ih =>
    cases k with
    | zero => simp [quadCells]
    | succ k =>
      have := ih k (by simpa using hk)
      have e1 : (k + 1) * 4 = k * 4 + 1 + 1 + 1 + 1 := by omega
      simp only [quadCells, List.flatMap_cons, e1] at *
      simpa using this
theorem own_quad_set3 {T : TypeId} {w : World} {B b n c : Nat} {ys : List Q4} (h : OwnQ T w B (.slice (some ⟨b, 0, none⟩) n c) ys) {k : Nat} (hk : k < ys.length) {m : Q4} (hm : ys.getD k z4 = m) (u : Int) (hu : In64 u) :
    w.frozen? ⟨b, k * 4 + 3, none⟩ = false ∧ OwnQ T (w.setCell ⟨b, k * 4 + 3, none⟩ (.int .i64 u)) B (.slice (some ⟨b, 0, none⟩) n c) (ys.set k (m.1, m.2.1, m.2.2.1, u)) := by
  subst hm
  have hn : n = ys.length := by
    rcases h.1.2 with ⟨hv, -⟩ | ⟨g, cap, cur, hv, -⟩
    · cases hv
    · injection hv with e1 e2 e3
  subst hn
  have hin := h.2 _ (quads_mem hk)
  refine ⟨h.1.frozenAt _, ?_, fun x hx => ?_⟩
  · have h1 := World.ownsRow.stored h.1 (k * 4 + 3) (.int .i64 u)
    rw [quadCells_set3 _ _ _ hk] at h1
    rw [List.length_set]; exact h1.1
  · rcases List.mem_or_eq_of_mem_set hx with h3 | h3
    · exact h.2 x h3
    · rw [h3]; exact ⟨hin.1, hin.2.1, hin.2.2.1, hu⟩
theorem refL_in {old par : Int} {G g : Nat} (hG : G ≤ 64) (hg : g < G) (a b : Int) (ha : Gr.ownerG (g : Int) old (G : Int) = a) (hb : Gr.ownerG (g : Int) par (G : Int) = b) : In4 (a, b, (g : Int), (g : Int) + 1) := by
  have o1 := Gr.ownerG_bd (g : Int) old (G : Int)
  have o2 := Gr.ownerG_bd (g : Int) par (G : Int)
  rw [ha] at o1
  rw [hb] at o2
  refine ⟨?_, ?_, ?_, ?_⟩ <;> (unfold In64; simp only; omega)

set_option maxRecDepth 100000 in
set_option maxHeartbeats 4000000 in
theorem refPlan_fit (old par : Int) (G : Nat) (w : World) (hG : 1 ≤ G ∧ G ≤ 64) (ho : 1 ≤ old ∧ old ≤ G) (hp : 1 ≤ par ∧ par ≤ G) :
    Calls Try.prog 15 #[.int .i64 old, .int .i64 par, .int .i64 (G : Int)] w (RetQuads 34 w (refL old par G G)) := by
  obtain ⟨g0, g1⟩ := hG
  obtain ⟨o0, o1⟩ := ho
  obtain ⟨p0, p1⟩ := hp
  have d1 : decide ((G : Int) < 1) = false := decide_eq_false (by omega)
  have d2 : decide ((64 : Int) < (G : Int)) = false := decide_eq_false (by omega)
  have d3 : decide (old < 1) = false := decide_eq_false (by omega)
  have d4 : decide ((G : Int) < old) = false := decide_eq_false (by omega)
  have d5 : decide (par < 1) = false := decide_eq_false (by omega)
  have d6 : decide ((G : Int) < par) = false := decide_eq_false (by omega)
  go_enter Try.func15, Try.ntmps15
  go_wp2_with fail
  go_loopw [7, 8] (fun p q wr => ∃ (g : Nat) (A : Option Addr) (c : Nat), g ≤ G ∧ q = .int .i64 g ∧ p = .slice A (refL old par G g).length c ∧ OwnQ 34 wr w.heap.size (.slice A (refL old par G g).length c) (refL old par G g) ∧ Below w.heap.size w wr) (fun _ q _ => G - (intOf q).toNat)
  case atStart => exact ⟨0, none, 0, by omega, rfl, rfl, OwnQ.nil _ _ _, Below.refl _ _⟩
  case round =>
    obtain ⟨g, A, c, hg, rfl, rfl, hq, hb⟩ := hrel
    obtain ⟨L, hL⟩ : ∃ L, refL old par G g = L := ⟨_, rfl⟩
    rw [hL] at hq ⊢
    have HL := Lib.hid hL
    have HQ := Lib.hid hq
    have HB := Lib.hid hb
    have hlen : L.length ≤ 9223372036854775807 := hq.quads.len
    have HL64 : Hid (L.length ≤ g) := Lib.hid (by rw [← hL]; exact refL_len _ _ _ _)
    clear hq hb hL
    by_cases hlt : g < G
    · have t1 : decide ((g : Int) < (G : Int)) = true := decide_eq_true (by omega)
      obtain ⟨a, ha⟩ : ∃ a, Gr.ownerG (g : Int) old (G : Int) = a := ⟨_, rfl⟩
      obtain ⟨b, hb⟩ : ∃ b, Gr.ownerG (g : Int) par (G : Int) = b := ⟨_, rfl⟩
      have HO1 : Hid (∀ Z, Calls Try.prog 45 #[.int .i64 (g : Int), .int .i64 old, .int .i64 (G : Int)] Z fun e w' => e = .returned (.int .i64 a) ∧ Z = w') := Lib.hid (fun Z => ha ▸ Gr.refOwner_any _ _ _ Z)
      have HO2 : Hid (∀ Z, Calls Try.prog 45 #[.int .i64 (g : Int), .int .i64 par, .int .i64 (G : Int)] Z fun e w' => e = .returned (.int .i64 b) ∧ Z = w') := Lib.hid (fun Z => hb ▸ Gr.refOwner_any _ _ _ Z)
      have HA := Lib.hid ha
      have HBB := Lib.hid hb
      have HIN := Lib.hid (refL_in g1 hlt a b ha hb)
      clear ha hb
      obtain ⟨n, hn⟩ : ∃ n, L.length = n := ⟨_, rfl⟩
      rw [hn] at HQ hlen ⊢
      have HN := Lib.hid hn
      clear hn
      go_wp2_with fail
      refine (HO1.out _).mono ?_
      rintro e w1 ⟨rfl, rfl⟩
      go_wp2_with fail
      refine (HO2.out _).mono ?_
      rintro e w1 ⟨rfl, rfl⟩
      go_upto_region 9 with (fail)
      obtain ⟨X, hX⟩ : ∃ X, wr.alloc (.cells #[.int .i64 a, .int .i64 b, .int .i64 (g : Int), .int .i64 ((g : Int) + 1)] 34) = X := ⟨_, rfl⟩
      have kb : Blk X wr.heap.size 34 #[.int .i64 a, .int .i64 b, .int .i64 (g : Int), .int .i64 ((g : Int) + 1)] := hX ▸ Blk.new wr _ _
      have HQX : Hid (OwnQ 34 X w.heap.size (.slice A n c) L) := Lib.hid (hX ▸ HQ.out.alloc _)
      have HBX : Hid (Below w.heap.size w X) := Lib.hid (hX ▸ HB.out.alloc HB.out.size _)
      rw [hX]
      have x0 := kb.cell 0
      have x1 := kb.cell 1
      have x2 := kb.cell 2
      have x3 := kb.cell 3
      simp at x0 x1 x2 x3
      have HKB := Lib.hid kb
      clear hX kb HO1 HO2
      by_cases h0 : n = 0
      · subst h0
        have HST := Lib.hid (step_nil (old := old) (par := par) (G := G) (L := L) (g := g) HA.out HBB.out HN.out)
        by_cases hab : a = b
        · have t99 : (a != b) = false := by simpa using hab
          have HS2 := Lib.hid (HST.out.trans (if_pos hab))
          clear hab
          go_quiet (fail)
          go_wp2_with fail
          go_roundw
          case rel => exact ⟨g + 1, A, c, by omega, by go_num, by show _ = Value.slice _ (refStep old par G (refL old par G g) g).length c; rw [HL.out, HS2.out, HN.out], by show OwnQ _ _ _ (.slice _ (refStep old par G (refL old par G g) g).length c) (refStep old par G (refL old par G g) g); rw [HL.out, HS2.out, HN.out]; exact HQX.out.drewN _, below_drewN HBX.out _⟩
          case measure => simp [intOf]; omega
        · have t99 : (a != b) = true := by simpa using hab
          have HS2 := Lib.hid (HST.out.trans (if_neg hab))
          clear hab
          go_quiet (fail)
          go_wp2_with (at_builtin; refine app_quad quadT rfl _ _ rfl w.heap.size (HQX.out.drewN _) rfl HIN.out rfl (by have := HN.out; have := HL64.out; omega) (by have := HBX.out.size; show w.heap.size ≤ X.heap.size; omega) ?_; intro v2 w2 hq2 hb2; obtain ⟨A2, c2, rfl⟩ := hq2.form; have HQ2 := Lib.hid hq2; have HB2 := Lib.hid hb2; clear hq2 hb2)
          go_roundw
          case rel => exact ⟨g + 1, A2, c2, by omega, by go_num, by show _ = Value.slice _ (refStep old par G (refL old par G g) g).length c2; rw [HL.out, HS2.out, List.length_append]; rfl, by show OwnQ _ _ _ (.slice _ (refStep old par G (refL old par G g) g).length c2) (refStep old par G (refL old par G g) g); rw [HL.out, HS2.out]; exact HQ2.out, (below_drewN HBX.out _).trans HB2.out⟩
          case measure => simp [intOf]; omega
      · obtain ⟨n0, rfl⟩ : ∃ n0, n = n0 + 1 := ⟨n - 1, by omega⟩
        have hk0 : n0 < L.length := by have := HN.out; omega
        have HK0 := Lib.hid hk0
        obtain ⟨bb, oo, m, hbb, hblt, HM, h64, c0, c1, c2, c3⟩ := quads_at HQX.out.quads hk0
        subst hbb
        obtain ⟨hbw, hoo, -⟩ := HQX.out.own rfl
        subst hoo
        have HBW := Lib.hid hbw
        obtain ⟨m0, m1, m2, m3⟩ := m
        simp only [Nat.zero_add] at c0 c1 c2 c3
        clear hk0 h64 hbw h0 hblt
        have e1 : IntKind.i64.wrap (((n0 + 1 : Nat) : Int) - 1) = (n0 : Int) := by rw [IntWalk.i64_in _ (by omega)]; omega
        by_cases g3 : m3 = (g : Int)
        · have t64 : (m3 == (g : Int)) = true := by simpa using g3
          by_cases g4 : m0 = a
          · have t75 : (m0 == a) = true := by simpa using g4
            by_cases g5 : m1 = b
            · have t86 : (m1 == b) = true := by simpa using g5
              have HS2 := Lib.hid (step_set (old := old) (par := par) (G := G) (L := L) (g := g) HA.out HBB.out HN.out HM.out g4 g5 g3)
              have HST := Lib.hid (own_quad_set3 HQX.out HK0.out HM.out ((g : Int) + 1) HIN.out.2.2.2)
              clear g3 g4 g5
              go_quiet (fail)
              have f3 : (X.drewN nq).frozen? ⟨bb, n0 * 4 + 3, none⟩ = false := HST.out.1
              go_wp2_with fail
              go_roundw
              case rel => exact ⟨g + 1, some ⟨bb, 0, none⟩, c, by omega, by go_num, by show _ = Value.slice _ (refStep old par G (refL old par G g) g).length c; rw [HL.out, HS2.out, List.length_set, HN.out], by show OwnQ _ _ _ (.slice _ (refStep old par G (refL old par G g) g).length c) (refStep old par G (refL old par G g) g); rw [HL.out, HS2.out, List.length_set, HN.out]; exact HST.out.2.drewN _, (below_drewN HBX.out _).setCell HBW.out _⟩
              case measure => simp [intOf]; omega
            · have t86 : (m1 == b) = false := by simpa using g5
              have HST := Lib.hid (step_not (old := old) (par := par) (G := G) (L := L) (g := g) HA.out HBB.out HN.out HM.out (fun h => g5 h.2.2))
              clear g3 g4 g5
              by_cases hab : a = b
              · have t99 : (a != b) = false := by simpa using hab
                have HS2 := Lib.hid (HST.out.trans (if_pos hab))
                clear hab
                go_quiet (fail)
                go_wp2_with fail
                go_roundw
                case rel => exact ⟨g + 1, some ⟨bb, 0, none⟩, c, by omega, by go_num, by show _ = Value.slice _ (refStep old par G (refL old par G g) g).length c; rw [HL.out, HS2.out, HN.out], by show OwnQ _ _ _ (.slice _ (refStep old par G (refL old par G g) g).length c) (refStep old par G (refL old par G g) g); rw [HL.out, HS2.out, HN.out]; exact HQX.out.drewN _, below_drewN HBX.out _⟩
                case measure => simp [intOf]; omega
              · have t99 : (a != b) = true := by simpa using hab
                have HS2 := Lib.hid (HST.out.trans (if_neg hab))
                clear hab
                go_quiet (fail)
                go_wp2_with (at_builtin; refine app_quad quadT rfl _ _ rfl w.heap.size (HQX.out.drewN _) rfl HIN.out rfl (by have := HN.out; have := HL64.out; omega) (by have := HBX.out.size; show w.heap.size ≤ X.heap.size; omega) ?_; intro v2 w2 hq2 hb2; obtain ⟨A2, c2, rfl⟩ := hq2.form; have HQ2 := Lib.hid hq2; have HB2 := Lib.hid hb2; clear hq2 hb2)
                go_roundw
                case rel => exact ⟨g + 1, A2, c2, by omega, by go_num, by show _ = Value.slice _ (refStep old par G (refL old par G g) g).length c2; rw [HL.out, HS2.out, List.length_append]; rfl, by show OwnQ _ _ _ (.slice _ (refStep old par G (refL old par G g) g).length c2) (refStep old par G (refL old par G g) g); rw [HL.out, HS2.out]; exact HQ2.out, (below_drewN HBX.out _).trans HB2.out⟩
                case measure => simp [intOf]; omega
          · have t75 : (m0 == a) = false := by simpa using g4
            have HST := Lib.hid (step_not (old := old) (par := par) (G := G) (L := L) (g := g) HA.out HBB.out HN.out HM.out (fun h => g4 h.2.1))
            clear g3 g4
            by_cases hab : a = b
            · have t99 : (a != b) = false := by simpa using hab
              have HS2 := Lib.hid (HST.out.trans (if_pos hab))
              clear hab
              go_quiet (fail)
              go_wp2_with fail
              go_roundw
              case rel => exact ⟨g + 1, some ⟨bb, 0, none⟩, c, by omega, by go_num, by show _ = Value.slice _ (refStep old par G (refL old par G g) g).length c; rw [HL.out, HS2.out, HN.out], by show OwnQ _ _ _ (.slice _ (refStep old par G (refL old par G g) g).length c) (refStep old par G (refL old par G g) g); rw [HL.out, HS2.out, HN.out]; exact HQX.out.drewN _, below_drewN HBX.out _⟩
              case measure => simp [intOf]; omega
            · have t99 : (a != b) = true := by simpa using hab
              have HS2 := Lib.hid (HST.out.trans (if_neg hab))
              clear hab
              go_quiet (fail)
              go_wp2_with (at_builtin; refine app_quad quadT rfl _ _ rfl w.heap.size (HQX.out.drewN _) rfl HIN.out rfl (by have := HN.out; have := HL64.out; omega) (by have := HBX.out.size; show w.heap.size ≤ X.heap.size; omega) ?_; intro v2 w2 hq2 hb2; obtain ⟨A2, c2, rfl⟩ := hq2.form; have HQ2 := Lib.hid hq2; have HB2 := Lib.hid hb2; clear hq2 hb2)
              go_roundw
              case rel => exact ⟨g + 1, A2, c2, by omega, by go_num, by show _ = Value.slice _ (refStep old par G (refL old par G g) g).length c2; rw [HL.out, HS2.out, List.length_append]; rfl, by show OwnQ _ _ _ (.slice _ (refStep old par G (refL old par G g) g).length c2) (refStep old par G (refL old par G g) g); rw [HL.out, HS2.out]; exact HQ2.out, (below_drewN HBX.out _).trans HB2.out⟩
              case measure => simp [intOf]; omega
        · have t64 : (m3 == (g : Int)) = false := by simpa using g3
          have HST := Lib.hid (step_not (old := old) (par := par) (G := G) (L := L) (g := g) HA.out HBB.out HN.out HM.out (fun h => g3 h.1))
          clear g3
          by_cases hab : a = b
          · have t99 : (a != b) = false := by simpa using hab
            have HS2 := Lib.hid (HST.out.trans (if_pos hab))
            clear hab
            go_quiet (fail)
            go_wp2_with fail
            go_roundw
            case rel => exact ⟨g + 1, some ⟨bb, 0, none⟩, c, by omega, by go_num, by show _ = Value.slice _ (refStep old par G (refL old par G g) g).length c; rw [HL.out, HS2.out, HN.out], by show OwnQ _ _ _ (.slice _ (refStep old par G (refL old par G g) g).length c) (refStep old par G (refL old par G g) g); rw [HL.out, HS2.out, HN.out]; exact HQX.out.drewN _, below_drewN HBX.out _⟩
            case measure => simp [intOf]; omega
          · have t99 : (a != b) = true := by simpa using hab
            have HS2 := Lib.hid (HST.out.trans (if_neg hab))
            clear hab
            go_quiet (fail)
            go_wp2_with (at_builtin; refine app_quad quadT rfl _ _ rfl w.heap.size (HQX.out.drewN _) rfl HIN.out rfl (by have := HN.out; have := HL64.out; omega) (by have := HBX.out.size; show w.heap.size ≤ X.heap.size; omega) ?_; intro v2 w2 hq2 hb2; obtain ⟨A2, c2, rfl⟩ := hq2.form; have HQ2 := Lib.hid hq2; have HB2 := Lib.hid hb2; clear hq2 hb2)
            go_roundw
            case rel => exact ⟨g + 1, A2, c2, by omega, by go_num, by show _ = Value.slice _ (refStep old par G (refL old par G g) g).length c2; rw [HL.out, HS2.out, List.length_append]; rfl, by show OwnQ _ _ _ (.slice _ (refStep old par G (refL old par G g) g).length c2) (refStep old par G (refL old par G g) g); rw [HL.out, HS2.out]; exact HQ2.out, (below_drewN HBX.out _).trans HB2.out⟩
            case measure => simp [intOf]; omega
    · obtain rfl : g = G := by omega
      go_wp2_with fail
      go_returns
      have e := HL.out
      rw [e]
      exact ret_quads HQ.out HB.out
end Go.Proofs.Ytlhjhjkfnmeapaa.Mv
