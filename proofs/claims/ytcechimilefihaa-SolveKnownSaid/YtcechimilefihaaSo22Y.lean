/- The law: the chapter's examples, measures about their ends, all limits, are as the document says. -/
import Derived.Test.YtcechimilefihaaSo16Y
import Derived.Test.YtcechimilefihaaSo18Y
import Derived.Test.YtcechimilefihaaSo20Y
import Derived.Test.YtcechimilefihaaSo21Y
import Derived.Test.YtcechimilefihaaJoinY

namespace Go.Proofs.Ytcechimilefihaa.So
open Go.ChangeShapes Go.WideShapes Go.ChangeAt Go.RowKit M Sp Fr

def nL : List Int := [0, 1, 2, 50, 99, 100, 101, 1048576, 1099511627776, 288230376151711744, 9223372036854775807]
def twoL : List OpP := [⟨1, [], 0, 0, 0, 2, 7, 1⟩, ⟨1, [], 0, 0, 0, 1, 1048576, 1⟩, ⟨7, [1, 0], 0, 0, 0, 0, 0, 1⟩, ⟨8, [2], 0, 0, 0, 0, 0, 1⟩]
def twoCells (u v : Value) : Array Value := #[.int .i64 1, .slice none 0 0, .int .i64 0, .int .i64 0, .int .i64 0, .int .i64 2, .int .i64 7, .int .i64 1, .int .i64 1, .slice none 0 0, .int .i64 0, .int .i64 0, .int .i64 0, .int .i64 1, .int .i64 1048576, .int .i64 1, .int .i64 7, u, .int .i64 0, .int .i64 0, .int .i64 0, .int .i64 0, .int .i64 0, .int .i64 1, .int .i64 8, v, .int .i64 0, .int .i64 0, .int .i64 0, .int .i64 0, .int .i64 0, .int .i64 1]
def twoP (q r : Nat) (i : Nat) : Option Addr × Nat := if i = 2 then (some ⟨q, 0, none⟩, 2) else if i = 3 then (some ⟨r, 0, none⟩, 1) else (none, 0)
theorem two_ops {w : World} {q r g : Nat} (h1 : Blk w q 3 #[.int .i64 1, .int .i64 0]) (h2 : Blk w r 3 #[.int .i64 2]) (h3 : Blk w g 40 (twoCells (.slice (some ⟨q, 0, none⟩) 2 2) (.slice (some ⟨r, 0, none⟩) 1 1))) :
    IsOps w w.heap.size (some ⟨g, 0, none⟩) twoL (twoP q r) := by
  refine ops_blk h3 (fun i hi j hj => ?_) (fun i hi => ?_)
  · have hi' : i < 4 := hi
    rcases (show i = 0 ∨ i = 1 ∨ i = 2 ∨ i = 3 by omega) with rfl | rfl | rfl | rfl <;> rcases (show j = 0 ∨ j = 1 ∨ j = 2 ∨ j = 3 ∨ j = 4 ∨ j = 5 ∨ j = 6 ∨ j = 7 by omega) with rfl | rfl | rfl | rfl | rfl | rfl | rfl | rfl <;> rfl
  · have hi' : i < 4 := hi
    rcases (show i = 0 ∨ i = 1 ∨ i = 2 ∨ i = 3 by omega) with rfl | rfl | rfl | rfl
    · exact ⟨by show OpIn ⟨1, [], 0, 0, 0, 2, 7, 1⟩; unfold OpIn In64; decide, Sp.ints_nil _ _ (Nat.zero_le _)⟩
    · exact ⟨by show OpIn ⟨1, [], 0, 0, 0, 1, 1048576, 1⟩; unfold OpIn In64; decide, Sp.ints_nil _ _ (Nat.zero_le _)⟩
    · exact ⟨by show OpIn ⟨7, [1, 0], 0, 0, 0, 0, 0, 1⟩; unfold OpIn In64; decide, ints_blk (xs := [1, 0]) h1 (by decide) (by simp [In64])⟩
    · exact ⟨by show OpIn ⟨8, [2], 0, 0, 0, 0, 0, 1⟩; unfold OpIn In64; decide, ints_blk (xs := [2]) h2 (by decide) (by simp [In64])⟩
theorem bools_blk {w : World} {g : Nat} {bs : List Bool} (h : Blk w g 4 (blCells bs)) (hl : bs.length ≤ 1000000) : IsBools w w.heap.size (some ⟨g, 0, none⟩) bs.length bs := by
  refine ⟨(h.lies fun i hi j hj => ?_).more h.lt, Nat.le_refl _, by unfold maxLen; omega⟩
  obtain rfl : j = 0 := by omega
  rw [Nat.mul_one, Nat.add_zero]
  unfold blCells
  rw [List.getElem?_toArray, List.getElem?_map, List.getElem?_eq_getElem hi, List.getD_eq_getElem?_getD, List.getElem?_eq_getElem hi]; rfl
def msK (a b c : Int) : List Q4 := [(a, b, c, 0), (b, a, 7, 0), (3, b, a, 0), (5, 0, b, 0)]
def msC (a b c : Int) : Array Value := #[.int .i64 a, .int .i64 b, .int .i64 c, .int .i64 0, .int .i64 b, .int .i64 a, .int .i64 7, .int .i64 0, .int .i64 3, .int .i64 b, .int .i64 a, .int .i64 0, .int .i64 5, .int .i64 0, .int .i64 b, .int .i64 0]
theorem msK_quads {w : World} {g : Nat} {a b c : Int} (h : Blk w g 55 (msC a b c)) (ha : In64 a) (hb : In64 b) (hc : In64 c) : IsQuads w w.heap.size (some ⟨g, 0, none⟩) 4 (msK a b c) :=
  quads_blk (xs := msK a b c) h (by simp [msK]) (by
    intro x hx
    simp only [msK, List.mem_cons, List.not_mem_nil, or_false] at hx
    have z : ∀ k : Int, 0 ≤ k → k ≤ 7 → In64 k := fun k h0 h1 => by unfold In64; omega
    rcases hx with rfl | rfl | rfl | rfl
    · exact ⟨ha, hb, hc, z 0 (by decide) (by decide)⟩
    · exact ⟨hb, ha, z 7 (by decide) (by decide), z 0 (by decide) (by decide)⟩
    · exact ⟨z 3 (by decide) (by decide), hb, ha, z 0 (by decide) (by decide)⟩
    · exact ⟨z 5 (by decide) (by decide), z 0 (by decide) (by decide), hb, z 0 (by decide) (by decide)⟩)
theorem nL_at {i : Nat} (h : i < 11) {v : Int} (hv : nL.getD i 0 = v) : 0 ≤ v ∧ In64 v := by
  have : ∀ x ∈ nL, 0 ≤ x ∧ In64 x := by unfold In64; decide
  exact hv ▸ this _ (getD_mem h)
/-- what the region reads -/
def SK (bn i k j : Nat) (ni nk nj : Int) (Y : World) : Prop :=
  Y.cell? ⟨bn, i, none⟩ = some (.int .i64 ni) ∧ Y.cell? ⟨bn, k, none⟩ = some (.int .i64 nk) ∧ Y.cell? ⟨bn, j, none⟩ = some (.int .i64 nj) ∧ Y.cell? ⟨bn + 1 + 1 + 1 + 1, 0, none⟩ = some (.int .i64 4) ∧ Y.cell? ⟨bn + 1 + 1 + 1 + 1, 1, none⟩ = some (.slice (some ⟨bn + 1 + 1 + 1, 0, none⟩) 4 4)
theorem lines_on {r : Int} {A : Option Addr} {y Y : World} (h : ∃ p, IsOps y y.heap.size A (lineL r) p) (hb : Below y.heap.size y Y) : ∃ p, IsOps Y Y.heap.size A (lineL r) p := by
  obtain ⟨p, hp⟩ := h
  exact ⟨p, (hp.below hb).more hb.size⟩
set_option maxRecDepth 100000 in
set_option maxHeartbeats 8000000 in
theorem solveKnown_any (w : World) : Calls Try.prog 11 #[] w fun e w' => e = .returned (.bool true) ∧ Below w.heap.size w w' := by
  obtain ⟨X, hX⟩ : ∃ X, (((((w.alloc (.cells (intCells nL) 3)).alloc (.cells #[.int .i64 1, .int .i64 0] 3)).alloc (.cells #[.int .i64 2] 3)).alloc (.cells (twoCells (.slice (some ⟨w.heap.size + 1, 0, none⟩) 2 2) (.slice (some ⟨w.heap.size + 1 + 1, 0, none⟩) 1 1)) 40)).alloc (.cells #[.int .i64 4, .slice (some ⟨w.heap.size + 1 + 1 + 1, 0, none⟩) 4 4] 24)) = X := ⟨_, rfl⟩
  have T0 : Bs w w.heap.size [(w.heap.size + 1 + 1 + 1 + 1, 24, #[.int .i64 4, .slice (some ⟨w.heap.size + 1 + 1 + 1, 0, none⟩) 4 4]), (w.heap.size + 1 + 1 + 1, 40, twoCells (.slice (some ⟨w.heap.size + 1, 0, none⟩) 2 2) (.slice (some ⟨w.heap.size + 1 + 1, 0, none⟩) 1 1)), (w.heap.size + 1 + 1, 3, #[.int .i64 2]), (w.heap.size + 1, 3, #[.int .i64 1, .int .i64 0]), (w.heap.size, 3, intCells nL)] X := by
    rw [← hX]
    exact (((((Bs.nil w w.heap.size).alloc (Nat.le_refl _) _ _ rfl).alloc (Nat.le_refl _) _ _ (by simp)).alloc (Nat.le_refl _) _ _ (by simp)).alloc (Nat.le_refl _) _ _ (by simp)).alloc (Nat.le_refl _) _ _ (by simp)
  have T := Lib.hid T0
  have HX := Lib.hid hX
  have hsp := Sp.spec_blk T.out.g0
  have HTW : Hid (∀ Y, Below X.heap.size X Y → IsOps Y Y.heap.size (some ⟨w.heap.size + 1 + 1 + 1, 0, none⟩) twoL (twoP (w.heap.size + 1) (w.heap.size + 1 + 1))) := fun Y hY =>
    ((two_ops T.out.g3 T.out.g2 T.out.g1).below hY).more hY.size
  have HNL : Hid (∀ Y, Below X.heap.size X Y → IsInts Y Y.heap.size ⟨some ⟨w.heap.size, 0, none⟩, 11, nL⟩) := fun Y hY =>
    ((ints_blk (xs := nL) (show Blk X w.heap.size 3 _ from T.out.2 (w.heap.size, 3, intCells nL) (by simp)) (by decide) (by unfold In64; decide)).below hY).more hY.size
  have HBW := Lib.hid T.out.1
  have hbT : w.heap.size + 1 + 1 + 1 + 1 < X.heap.size := T.out.g0.lt
  clear T0 hX
  go_enter Try.func11, Try.ntmps11
  go_upto_region 3 with (fail)
  have HX2 := HX.out
  simp only [twoCells] at HX2
  change ((((w.alloc (.cells #[.int .i64 0, .int .i64 1, .int .i64 2, .int .i64 50, .int .i64 99, .int .i64 100, .int .i64 101, .int .i64 1048576, .int .i64 1099511627776, .int .i64 288230376151711744, .int .i64 9223372036854775807] 3)).alloc _).alloc _).alloc _).alloc _ = X at HX2
  rw [HX2]
  clear HX2 HX
  go_wp2_with fail
  go_loopw [3] (fun u wr => ∃ i : Nat, i ≤ 11 ∧ u = .int .i64 i ∧ Below X.heap.size X wr) (fun u _ => 11 - (intOf u).toNat)
  case atStart => exact ⟨0, by omega, rfl, Below.refl _ _⟩
  case round =>
    obtain ⟨i, hi, rfl, hbr⟩ := hrel
    have HB1 := Lib.hid hbr
    clear hbr
    by_cases hlt : i < 11
    · have hlt2 : (i : Int) < 11 := by omega
      have hlt4 : decide ((i : Int) < 11) = true := by simpa using hlt2
      go_wp2_with fail
      go_loopw [4] (fun u wr => ∃ k : Nat, k ≤ 11 ∧ u = .int .i64 k ∧ Below X.heap.size X wr) (fun u _ => 11 - (intOf u).toNat)
      case atStart => exact ⟨0, by omega, rfl, HB1.out⟩
      case round =>
        clear HB1
        obtain ⟨k, hk, rfl, hbr⟩ := hrel
        have HB1 := Lib.hid hbr
        clear hbr
        by_cases hltk : k < 11
        · have hlt3 : (k : Int) < 11 := by omega
          have hlt5 : decide ((k : Int) < 11) = true := by simpa using hlt3
          go_wp2_with fail
          go_loopw [5] (fun u wr => ∃ mo : Int, 1 ≤ mo ∧ mo ≤ 14 ∧ u = .int .i64 mo ∧ Below X.heap.size X wr) (fun u _ => (15 - intOf u).toNat)
          case atStart => exact ⟨1, by omega, by omega, rfl, HB1.out⟩
          case round =>
            clear HB1
            obtain ⟨mo, hm0, hm1, rfl, hbr⟩ := hrel
            have HB0 := Lib.hid hbr
            clear hbr
            by_cases hltm : mo < 12
            · obtain ⟨j, hj⟩ : ∃ j : Nat, (i + k) % 11 = j := ⟨_, rfl⟩
              have hj1 : j < 11 := by omega
              have hj2 : ((i : Int) + (k : Int)) % 11 = (j : Int) := by omega
              obtain ⟨ni, hni, -, c0⟩ := Sp.ints_get (HNL.out _ (Below.refl _ _)) (k := i) hlt
              obtain ⟨nk, hnk, -, c1⟩ := Sp.ints_get (HNL.out _ (Below.refl _ _)) (k := k) hltk
              obtain ⟨nj, hnj, -, c2⟩ := Sp.ints_get (HNL.out _ (Below.refl _ _)) (k := j) hj1
              obtain ⟨hni0, hni1⟩ := nL_at hlt hni.out
              obtain ⟨hnk0, hnk1⟩ := nL_at hltk hnk.out
              obtain ⟨hnj0, hnj1⟩ := nL_at hj1 hnj.out
              have HNI := Lib.hid hni1
              have HNK := Lib.hid hnk1
              have HNJ := Lib.hid hnj1
              have HLI := Lib.hid (show In64 (1 + ni % 1000) by unfold In64; omega)
              simp only [Nat.zero_add] at c0 c1 c2
              have HST : Hid (∀ Y, Below X.heap.size X Y → (fun Y => Y.cell? ⟨w.heap.size, i, none⟩ = some (.int .i64 ni) ∧ Y.cell? ⟨w.heap.size, k, none⟩ = some (.int .i64 nk) ∧ Y.cell? ⟨w.heap.size, j, none⟩ = some (.int .i64 nj) ∧ Y.cell? ⟨w.heap.size + 1 + 1 + 1 + 1, 0, none⟩ = some (.int .i64 4) ∧ Y.cell? ⟨w.heap.size + 1 + 1 + 1 + 1, 1, none⟩ = some (.slice (some ⟨w.heap.size + 1 + 1 + 1, 0, none⟩) 4 4)) Y) := fun Y hY => by
                have h0 : ∀ {g o : Nat} {v : Value}, g < X.heap.size → X.cell? ⟨g, o, none⟩ = some v → Y.cell? ⟨g, o, none⟩ = some v := fun hg hv => (hY.cell hg).trans hv
                exact ⟨h0 (by omega) c0, h0 (by omega) c1, h0 (by omega) c2, h0 hbT hsp.1, h0 hbT hsp.2⟩
              have hw0 : IntKind.i64.wrap ((i : Int) + (k : Int)) = (i : Int) + (k : Int) := by rw [IntKind.wrap_i64]; omega
              have ht0 : ((i : Int) + (k : Int)).tmod 11 = (j : Int) := by rw [Int.tmod_eq_emod_of_nonneg (by omega)]; omega
              have ht1 : ni.tmod 1000 = ni % 1000 := Int.tmod_eq_emod_of_nonneg hni0
              have hw1 : IntKind.i64.wrap (1 + ni % 1000) = 1 + ni % 1000 := by rw [IntKind.wrap_i64]; omega
              have ht2 : ni.tmod 1048576 = ni % 1048576 := Int.tmod_eq_emod_of_nonneg hni0
              have hw2 : IntKind.i64.wrap (1 + ni % 1048576) = 1 + ni % 1048576 := by rw [IntKind.wrap_i64]; omega
              have ht3 : (i : Int).tmod 2 = (i : Int) % 2 := Int.tmod_eq_emod_of_nonneg (by omega)
              have ht4 : (k : Int).tmod 2 = (k : Int) % 2 := Int.tmod_eq_emod_of_nonneg (by omega)
              have ht5 : (i : Int).tmod 3 = (i : Int) % 3 := Int.tmod_eq_emod_of_nonneg (by omega)
              have hj3 : (0 : Int) ≤ (j : Int) := by omega
              have hj4 : (j : Int) < 11 := by omega
              clear hni hnk hnj c0 c1 c2 hni1 hnk1 hnj1 hj
              go_upto_region 12 with (fail)
              refine wp_region_held_drew (S := (fun Y => Y.cell? ⟨w.heap.size, i, none⟩ = some (.int .i64 ni) ∧ Y.cell? ⟨w.heap.size, k, none⟩ = some (.int .i64 nk) ∧ Y.cell? ⟨w.heap.size, j, none⟩ = some (.int .i64 nj) ∧ Y.cell? ⟨w.heap.size + 1 + 1 + 1 + 1, 0, none⟩ = some (.int .i64 4) ∧ Y.cell? ⟨w.heap.size + 1 + 1 + 1 + 1, 1, none⟩ = some (.slice (some ⟨w.heap.size + 1 + 1 + 1, 0, none⟩) 4 4))) (by kernel_rfl) (HST.out _ HB0.out.drew) (fun hHeld => ?_)
              have HB := Lib.hid HB0.out.drew
              obtain ⟨y0, hy0⟩ : ∃ Y, wr.drew = Y := ⟨_, rfl⟩
              rw [hy0] at HB hHeld ⊢
              clear hy0
              (refine held_take 0 (by kernel_rfl) (by kernel_rfl) (by kernel_rfl) (by assumption) ?_; simp only [List.getElem?_toArray, List.getElem?_cons_zero]; refine ⟨fun _ _ _ _ h => h, ?_, Or.inl ⟨by kernel_rfl, ?_⟩, ?_⟩; rotate_left; (focus (intro wS hSw; (try dsimp only at hSw); go_simp; try with_reducible rfl)); (try simp only [Act.put, List.setIfInBounds_toArray, List.set_cons_zero, List.set_cons_succ]))
              (refine held_take 1 (by kernel_rfl) (by kernel_rfl) (by kernel_rfl) (by assumption) ?_; simp only [List.getElem?_toArray, List.getElem?_cons_succ, List.getElem?_cons_zero]; refine ⟨fun _ _ _ _ h => h, ?_, Or.inl ⟨by kernel_rfl, ?_⟩, ?_⟩; rotate_left; (focus (intro wS hSw; (try dsimp only at hSw); go_simp; try with_reducible rfl)); (try simp only [Act.put, List.setIfInBounds_toArray, List.set_cons_zero, List.set_cons_succ]))
              (refine held_take 2 (by kernel_rfl) (by kernel_rfl) (by kernel_rfl) (by assumption) ?_; simp only [List.getElem?_toArray, List.getElem?_cons_succ, List.getElem?_cons_zero]; refine ⟨fun _ _ _ _ h => h, ?_, Or.inl ⟨by kernel_rfl, ?_⟩, ?_⟩; rotate_left; (focus (intro wS hSw; (try dsimp only at hSw); go_simp; try with_reducible rfl)); (try simp only [Act.put, List.setIfInBounds_toArray, List.set_cons_zero, List.set_cons_succ]))
              (refine held_take 3 (by kernel_rfl) (by kernel_rfl) (by kernel_rfl) (by assumption) ?_; simp only [List.getElem?_toArray, List.getElem?_cons_succ, List.getElem?_cons_zero]; refine ⟨fun _ _ _ _ h => h, ?_, Or.inl ⟨by kernel_rfl, ?_⟩, ?_⟩; rotate_left; (focus (intro wS hSw; (try dsimp only at hSw); go_simp; try with_reducible rfl)); (try simp only [Act.put, List.setIfInBounds_toArray, List.set_cons_zero, List.set_cons_succ]))
              (refine held_take 4 (by kernel_rfl) (by kernel_rfl) (by kernel_rfl) (by assumption) ?_; simp only [List.getElem?_toArray, List.getElem?_cons_succ, List.getElem?_cons_zero]; refine ⟨fun _ _ _ _ h => h, ?_, Or.inl ⟨by kernel_rfl, ?_⟩, ?_⟩; rotate_left; (focus (intro wS hSw; (try dsimp only at hSw); go_simp; try with_reducible rfl)); (try simp only [Act.put, List.setIfInBounds_toArray, List.set_cons_zero, List.set_cons_succ]))
              (refine held_take 5 (by kernel_rfl) (by kernel_rfl) (by kernel_rfl) (by assumption) ?_; simp only [List.getElem?_toArray, List.getElem?_cons_succ, List.getElem?_cons_zero]; refine ⟨fun _ _ _ _ h => h, ?_, Or.inl ⟨by kernel_rfl, ?_⟩, ?_⟩; rotate_left; (focus (intro wS hSw; (try dsimp only at hSw); go_simp; try with_reducible rfl)); (try simp only [Act.put, List.setIfInBounds_toArray, List.set_cons_zero, List.set_cons_succ]))
              (refine held_take 6 (by kernel_rfl) (by kernel_rfl) (by kernel_rfl) (by assumption) ?_; simp only [List.getElem?_toArray, List.getElem?_cons_succ, List.getElem?_cons_zero]; refine ⟨fun _ _ _ _ h => h, ?_, Or.inl ⟨by kernel_rfl, ?_⟩, ?_⟩; rotate_left; (focus (intro wS hSw; (try dsimp only at hSw); go_simp; try with_reducible rfl)); (try simp only [Act.put, List.setIfInBounds_toArray, List.set_cons_zero, List.set_cons_succ]))
              (refine held_take 7 (by kernel_rfl) (by kernel_rfl) (by kernel_rfl) (by assumption) ?_; simp only [List.getElem?_toArray, List.getElem?_cons_succ, List.getElem?_cons_zero]; refine ⟨fun _ _ _ _ h => h, ?_, Or.inl ⟨by kernel_rfl, ?_⟩, ?_⟩; rotate_left; (focus (intro wS hSw; (try dsimp only at hSw); go_simp; try with_reducible rfl)); (try simp only [Act.put, List.setIfInBounds_toArray, List.set_cons_zero, List.set_cons_succ]))
              (refine held_take 8 (by kernel_rfl) (by kernel_rfl) (by kernel_rfl) (by assumption) ?_; simp only [List.getElem?_toArray, List.getElem?_cons_succ, List.getElem?_cons_zero]; refine ⟨fun _ _ _ _ h => h, ?_, Or.inl ⟨by kernel_rfl, ?_⟩, ?_⟩; rotate_left; (focus (intro wS hSw; (try dsimp only at hSw); go_simp; try with_reducible rfl)); (try simp only [Act.put, List.setIfInBounds_toArray, List.set_cons_zero, List.set_cons_succ]))
              (refine held_take 9 (by kernel_rfl) (by kernel_rfl) (by kernel_rfl) (by assumption) ?_; simp only [List.getElem?_toArray, List.getElem?_cons_succ, List.getElem?_cons_zero]; refine ⟨fun _ _ _ _ h => h, ?_, Or.inl ⟨by kernel_rfl, ?_⟩, ?_⟩; rotate_left; (focus (intro wS hSw; (try dsimp only at hSw); go_simp; try with_reducible rfl)); (try simp only [Act.put, List.setIfInBounds_toArray, List.set_cons_zero, List.set_cons_succ]))
              (refine held_take 10 (by kernel_rfl) (by kernel_rfl) (by kernel_rfl) (by assumption) ?_; simp only [List.getElem?_toArray, List.getElem?_cons_succ, List.getElem?_cons_zero]; refine ⟨fun _ _ _ _ h => h, ?_, Or.inl ⟨by kernel_rfl, ?_⟩, ?_⟩; rotate_left; (focus (intro wS hSw; (try dsimp only at hSw); go_simp; try with_reducible rfl)); (try simp only [Act.put, List.setIfInBounds_toArray, List.set_cons_zero, List.set_cons_succ]))
              (refine held_take 11 (by kernel_rfl) (by kernel_rfl) (by kernel_rfl) (by assumption) ?_; simp only [List.getElem?_toArray, List.getElem?_cons_succ, List.getElem?_cons_zero]; refine ⟨fun _ _ _ _ h => h, ?_, Or.inl ⟨by kernel_rfl, ?_⟩, ?_⟩; rotate_left; (focus (intro wS hSw; (try dsimp only at hSw); go_simp; try with_reducible rfl)); (try simp only [Act.put, List.setIfInBounds_toArray, List.set_cons_zero, List.set_cons_succ]))
              (refine held_take 12 (by kernel_rfl) (by kernel_rfl) (by kernel_rfl) (by assumption) ?_; simp only [List.getElem?_toArray, List.getElem?_cons_succ, List.getElem?_cons_zero]; refine ⟨fun _ _ _ _ h => h, ?_, Or.inl ⟨by kernel_rfl, ?_⟩, ?_⟩; rotate_left; (focus (intro wS hSw; (try dsimp only at hSw); go_simp; try with_reducible rfl)); (try simp only [Act.put, List.setIfInBounds_toArray, List.set_cons_zero, List.set_cons_succ]))
              (refine held_take 13 (by kernel_rfl) (by kernel_rfl) (by kernel_rfl) (by assumption) ?_; simp only [List.getElem?_toArray, List.getElem?_cons_succ, List.getElem?_cons_zero]; refine ⟨fun _ _ _ _ h => h, ?_, Or.inl ⟨by kernel_rfl, ?_⟩, ?_⟩; rotate_left; (focus (intro wS hSw; (try dsimp only at hSw); go_simp; try with_reducible rfl)); (try simp only [Act.put, List.setIfInBounds_toArray, List.set_cons_zero, List.set_cons_succ]))
              (refine held_take 14 (by kernel_rfl) (by kernel_rfl) (by kernel_rfl) (by assumption) ?_; simp only [List.getElem?_toArray, List.getElem?_cons_succ, List.getElem?_cons_zero]; refine ⟨fun _ _ _ _ h => h, ?_, Or.inl ⟨by kernel_rfl, ?_⟩, ?_⟩; rotate_left; (focus (intro wS hSw; (try dsimp only at hSw); go_simp; try with_reducible rfl)); (try simp only [Act.put, List.setIfInBounds_toArray, List.set_cons_zero, List.set_cons_succ]))
              (refine held_take 15 (by kernel_rfl) (by kernel_rfl) (by kernel_rfl) (by assumption) ?_; simp only [List.getElem?_toArray, List.getElem?_cons_succ, List.getElem?_cons_zero]; refine ⟨fun _ _ _ _ h => h, ?_, Or.inl ⟨by kernel_rfl, ?_⟩, ?_⟩; rotate_left; (focus (intro wS hSw; (try dsimp only at hSw); go_simp; try with_reducible rfl)); (try simp only [Act.put, List.setIfInBounds_toArray, List.set_cons_zero, List.set_cons_succ]))
              (refine held_take 16 (by kernel_rfl) (by kernel_rfl) (by kernel_rfl) (by assumption) ?_; simp only [List.getElem?_toArray, List.getElem?_cons_succ, List.getElem?_cons_zero]; refine ⟨fun _ _ _ _ h => h, ?_, Or.inl ⟨by kernel_rfl, ?_⟩, ?_⟩; rotate_left; (focus (intro wS hSw; (try dsimp only at hSw); go_simp; try with_reducible rfl)); (try simp only [Act.put, List.setIfInBounds_toArray, List.set_cons_zero, List.set_cons_succ]))
              (refine held_take 17 (by kernel_rfl) (by kernel_rfl) (by kernel_rfl) (by assumption) ?_; simp only [List.getElem?_toArray, List.getElem?_cons_succ, List.getElem?_cons_zero]; refine ⟨fun _ _ _ _ h => h, ?_, Or.inl ⟨by kernel_rfl, ?_⟩, ?_⟩; rotate_left; (focus (intro wS hSw; (try dsimp only at hSw); go_simp; try with_reducible rfl)); (try simp only [Act.put, List.setIfInBounds_toArray, List.set_cons_zero, List.set_cons_succ]))
              (refine held_take 18 (by kernel_rfl) (by kernel_rfl) (by kernel_rfl) (by assumption) ?_; simp only [List.getElem?_toArray, List.getElem?_cons_succ, List.getElem?_cons_zero]; refine ⟨fun _ _ _ _ h => h, ?_, Or.inl ⟨by kernel_rfl, ?_⟩, ?_⟩; rotate_left; (focus (intro wS hSw; (try dsimp only at hSw); go_simp; try with_reducible rfl)); (try simp only [Act.put, List.setIfInBounds_toArray, List.set_cons_zero, List.set_cons_succ]))
              (refine held_take 19 (by kernel_rfl) (by kernel_rfl) (by kernel_rfl) (by assumption) ?_; simp only [List.getElem?_toArray, List.getElem?_cons_succ, List.getElem?_cons_zero]; refine ⟨fun _ _ _ _ h => h, ?_, Or.inl ⟨by kernel_rfl, ?_⟩, ?_⟩; rotate_left; (focus (intro wS hSw; (try dsimp only at hSw); go_simp; try with_reducible rfl)); (try simp only [Act.put, List.setIfInBounds_toArray, List.set_cons_zero, List.set_cons_succ]))
              (refine held_take 20 (by kernel_rfl) (by kernel_rfl) (by kernel_rfl) (by assumption) ?_; simp only [List.getElem?_toArray, List.getElem?_cons_succ, List.getElem?_cons_zero]; refine ⟨fun _ _ _ _ h => h, ?_, Or.inl ⟨by kernel_rfl, ?_⟩, ?_⟩; rotate_left; (focus (intro wS hSw; (try dsimp only at hSw); go_simp; try with_reducible rfl)); (try simp only [Act.put, List.setIfInBounds_toArray, List.set_cons_zero, List.set_cons_succ]))
              (refine held_take 21 (by kernel_rfl) (by kernel_rfl) (by kernel_rfl) (by assumption) ?_; simp only [List.getElem?_toArray, List.getElem?_cons_succ, List.getElem?_cons_zero]; refine ⟨fun _ _ _ _ h => h, ?_, Or.inl ⟨by kernel_rfl, ?_⟩, ?_⟩; rotate_left; (focus (intro wS hSw; (try dsimp only at hSw); go_simp; try with_reducible rfl)); (try simp only [Act.put, List.setIfInBounds_toArray, List.set_cons_zero, List.set_cons_succ]))
              (refine held_take 22 (by kernel_rfl) (by kernel_rfl) (by kernel_rfl) (by assumption) ?_; simp only [List.getElem?_toArray, List.getElem?_cons_succ, List.getElem?_cons_zero]; refine ⟨fun _ _ _ _ h => h, ?_, Or.inl ⟨by kernel_rfl, ?_⟩, ?_⟩; rotate_left; (focus (intro wS hSw; (try dsimp only at hSw); go_simp; try with_reducible rfl)); (try simp only [Act.put, List.setIfInBounds_toArray, List.set_cons_zero, List.set_cons_succ]))
              (refine held_take 23 (by kernel_rfl) (by kernel_rfl) (by kernel_rfl) (by assumption) ?_; simp only [List.getElem?_toArray, List.getElem?_cons_succ, List.getElem?_cons_zero]; refine ⟨fun _ _ _ _ h => h, ?_, Or.inl ⟨by kernel_rfl, ?_⟩, ?_⟩; rotate_left; (focus (intro wS hSw; (try dsimp only at hSw); go_simp; try with_reducible rfl)); (try simp only [Act.put, List.setIfInBounds_toArray, List.set_cons_zero, List.set_cons_succ]))
              (refine held_take 24 (by kernel_rfl) (by kernel_rfl) (by kernel_rfl) (by assumption) ?_; simp only [List.getElem?_toArray, List.getElem?_cons_succ, List.getElem?_cons_zero]; refine ⟨fun _ _ _ _ h => h, ?_, Or.inl ⟨by kernel_rfl, ?_⟩, ?_⟩; rotate_left; (focus (intro wS hSw; (try dsimp only at hSw); go_simp; try with_reducible rfl)); (try simp only [Act.put, List.setIfInBounds_toArray, List.set_cons_zero, List.set_cons_succ]))
              (refine held_take 25 (by kernel_rfl) (by kernel_rfl) (by kernel_rfl) (by assumption) ?_; simp only [List.getElem?_toArray, List.getElem?_cons_succ, List.getElem?_cons_zero]; refine ⟨fun _ _ _ _ h => h, ?_, Or.inl ⟨by kernel_rfl, ?_⟩, ?_⟩; rotate_left; (focus (intro wS hSw; (try dsimp only at hSw); go_simp; try with_reducible rfl)); (try simp only [Act.put, List.setIfInBounds_toArray, List.set_cons_zero, List.set_cons_succ]))
              (refine held_take 26 (by kernel_rfl) (by kernel_rfl) (by kernel_rfl) (by assumption) ?_; simp only [List.getElem?_toArray, List.getElem?_cons_succ, List.getElem?_cons_zero]; refine ⟨fun _ _ _ _ h => h, ?_, Or.inl ⟨by kernel_rfl, ?_⟩, ?_⟩; rotate_left; (focus (intro wS hSw; (try dsimp only at hSw); go_simp; try with_reducible rfl)); (try simp only [Act.put, List.setIfInBounds_toArray, List.set_cons_zero, List.set_cons_succ]))
              (refine held_take 27 (by kernel_rfl) (by kernel_rfl) (by kernel_rfl) (by assumption) ?_; simp only [List.getElem?_toArray, List.getElem?_cons_succ, List.getElem?_cons_zero]; refine ⟨fun _ _ _ _ h => h, ?_, Or.inl ⟨by kernel_rfl, ?_⟩, ?_⟩; rotate_left; (focus (intro wS hSw; (try dsimp only at hSw); go_simp; try with_reducible rfl)); (try simp only [Act.put, List.setIfInBounds_toArray, List.set_cons_zero, List.set_cons_succ]))
              (refine held_take 28 (by kernel_rfl) (by kernel_rfl) (by kernel_rfl) (by assumption) ?_; simp only [List.getElem?_toArray, List.getElem?_cons_succ, List.getElem?_cons_zero]; refine ⟨fun _ _ _ _ h => h, ?_, Or.inl ⟨by kernel_rfl, ?_⟩, ?_⟩; rotate_left; (focus (intro wS hSw; (try dsimp only at hSw); go_simp; try with_reducible rfl)); (try simp only [Act.put, List.setIfInBounds_toArray, List.set_cons_zero, List.set_cons_succ]))
              (refine held_take 29 (by kernel_rfl) (by kernel_rfl) (by kernel_rfl) (by assumption) ?_; simp only [List.getElem?_toArray, List.getElem?_cons_succ, List.getElem?_cons_zero]; refine ⟨fun _ _ _ _ h => h, ?_, Or.inl ⟨by kernel_rfl, ?_⟩, ?_⟩; rotate_left; (focus (intro wS hSw; (try dsimp only at hSw); go_simp; try with_reducible rfl)); (try simp only [Act.put, List.setIfInBounds_toArray, List.set_cons_zero, List.set_cons_succ]))
              (refine held_take 30 (by kernel_rfl) (by kernel_rfl) (by kernel_rfl) (by assumption) ?_; simp only [List.getElem?_toArray, List.getElem?_cons_succ, List.getElem?_cons_zero]; refine ⟨fun _ _ _ _ h => h, ?_, Or.inl ⟨by kernel_rfl, ?_⟩, ?_⟩; rotate_left; (focus (intro wS hSw; (try dsimp only at hSw); go_simp; try with_reducible rfl)); (try simp only [Act.put, List.setIfInBounds_toArray, List.set_cons_zero, List.set_cons_succ]))
              (refine held_take 31 (by kernel_rfl) (by kernel_rfl) (by kernel_rfl) (by assumption) ?_; simp only [List.getElem?_toArray, List.getElem?_cons_succ, List.getElem?_cons_zero]; refine ⟨fun _ _ _ _ h => h, ?_, Or.inl ⟨by kernel_rfl, ?_⟩, ?_⟩; rotate_left; (focus (intro wS hSw; (try dsimp only at hSw); go_simp; try with_reducible rfl)); (try simp only [Act.put, List.setIfInBounds_toArray, List.set_cons_zero, List.set_cons_succ]))
              (refine held_take 32 (by kernel_rfl) (by kernel_rfl) (by kernel_rfl) (by assumption) ?_; simp only [List.getElem?_toArray, List.getElem?_cons_succ, List.getElem?_cons_zero]; refine ⟨fun _ _ _ _ h => h, ?_, Or.inl ⟨by kernel_rfl, ?_⟩, ?_⟩; rotate_left; (focus (intro wS hSw; (try dsimp only at hSw); go_simp; try with_reducible rfl)); (try simp only [Act.put, List.setIfInBounds_toArray, List.set_cons_zero, List.set_cons_succ]))
              (refine held_take 33 (by kernel_rfl) (by kernel_rfl) (by kernel_rfl) (by assumption) ?_; simp only [List.getElem?_toArray, List.getElem?_cons_succ, List.getElem?_cons_zero]; refine ⟨fun _ _ _ _ h => h, ?_, Or.inl ⟨by kernel_rfl, ?_⟩, ?_⟩; rotate_left; (focus (intro wS hSw; (try dsimp only at hSw); go_simp; try with_reducible rfl)); (try simp only [Act.put, List.setIfInBounds_toArray, List.set_cons_zero, List.set_cons_succ]))
              (refine held_take 34 (by kernel_rfl) (by kernel_rfl) (by kernel_rfl) (by assumption) ?_; simp only [List.getElem?_toArray, List.getElem?_cons_succ, List.getElem?_cons_zero]; refine ⟨fun _ _ _ _ h => h, ?_, Or.inl ⟨by kernel_rfl, ?_⟩, ?_⟩; rotate_left; (focus (intro wS hSw; (try dsimp only at hSw); go_simp; try with_reducible rfl)); (try simp only [Act.put, List.setIfInBounds_toArray, List.set_cons_zero, List.set_cons_succ]))
              (refine held_take 35 (by kernel_rfl) (by kernel_rfl) (by kernel_rfl) (by assumption) ?_; simp only [List.getElem?_toArray, List.getElem?_cons_succ, List.getElem?_cons_zero]; refine ⟨fun _ _ _ _ h => h, ?_, Or.inl ⟨by kernel_rfl, ?_⟩, ?_⟩; rotate_left; (focus (intro wS hSw; (try dsimp only at hSw); go_simp; try with_reducible rfl)); (try simp only [Act.put, List.setIfInBounds_toArray, List.set_cons_zero, List.set_cons_succ]))
              (refine held_take 36 (by kernel_rfl) (by kernel_rfl) (by kernel_rfl) (by assumption) ?_; simp only [List.getElem?_toArray, List.getElem?_cons_succ, List.getElem?_cons_zero]; refine ⟨fun _ _ _ _ h => h, ?_, Or.inl ⟨by kernel_rfl, ?_⟩, ?_⟩; rotate_left; (focus (intro wS hSw; (try dsimp only at hSw); go_simp; try with_reducible rfl)); (try simp only [Act.put, List.setIfInBounds_toArray, List.set_cons_zero, List.set_cons_succ]))
              (refine held_take 37 (by kernel_rfl) (by kernel_rfl) (by kernel_rfl) (by assumption) ?_; simp only [List.getElem?_toArray, List.getElem?_cons_succ, List.getElem?_cons_zero]; refine ⟨fun _ _ _ _ h => h, ?_, Or.inl ⟨by kernel_rfl, ?_⟩, ?_⟩; rotate_left; (focus (intro wS hSw; (try dsimp only at hSw); go_simp; try with_reducible rfl)); (try simp only [Act.put, List.setIfInBounds_toArray, List.set_cons_zero, List.set_cons_succ]))
              (refine held_take 38 (by kernel_rfl) (by kernel_rfl) (by kernel_rfl) (by assumption) ?_; simp only [List.getElem?_toArray, List.getElem?_cons_succ, List.getElem?_cons_zero]; refine ⟨fun _ _ _ _ h => h, ?_, Or.inl ⟨by kernel_rfl, ?_⟩, ?_⟩; rotate_left; (focus (intro wS hSw; (try dsimp only at hSw); go_simp; try with_reducible rfl)); (try simp only [Act.put, List.setIfInBounds_toArray, List.set_cons_zero, List.set_cons_succ]))
              (refine held_take 39 (by kernel_rfl) (by kernel_rfl) (by kernel_rfl) (by assumption) ?_; simp only [List.getElem?_toArray, List.getElem?_cons_succ, List.getElem?_cons_zero]; refine ⟨fun _ _ _ _ h => h, ?_, Or.inl ⟨by kernel_rfl, ?_⟩, ?_⟩; rotate_left; (focus (intro wS hSw; (try dsimp only at hSw); go_simp; try with_reducible rfl)); (try simp only [Act.put, List.setIfInBounds_toArray, List.set_cons_zero, List.set_cons_succ]))
              (refine held_take 40 (by kernel_rfl) (by kernel_rfl) (by kernel_rfl) (by assumption) ?_; simp only [List.getElem?_toArray, List.getElem?_cons_succ, List.getElem?_cons_zero]; refine ⟨fun _ _ _ _ h => h, ?_, Or.inl ⟨by kernel_rfl, ?_⟩, ?_⟩; rotate_left; (focus (intro wS hSw; (try dsimp only at hSw); go_simp; try with_reducible rfl)); (try simp only [Act.put, List.setIfInBounds_toArray, List.set_cons_zero, List.set_cons_succ]))
              (refine held_one 41 (by kernel_rfl) ?_; simp only [List.getElem?_toArray, List.getElem?_cons_succ, List.getElem?_cons_zero]; intro K hK; go_simp)
              clear hHeld
              have hb : Below y0.heap.size y0 (y0.alloc (.cells (msC ni nk nj) 55)) := (Below.refl _ _).alloc (Nat.le_refl _) _
              have KN := Lib.hid (Blk.new y0 55 (msC ni nk nj))
              (go_wp2_with fail; refine hK.out _ _ ?_ (fun hHeld => ?_); (focus (exact HST.out _ (through HB.out (Nat.le_refl _) hb))); clear hK K; (try simp only [Act.put, List.setIfInBounds_toArray, List.set_cons_zero, List.set_cons_succ]))
              obtain ⟨bA, hbk⟩ : ∃ z, y0.heap.size = z := ⟨_, rfl⟩
              obtain ⟨y1, hY⟩ : ∃ Y, y0.alloc (.cells (msC ni nk nj) 55) = Y := ⟨_, rfl⟩
              have hY2 := hY
              simp only [msC] at hY2
              rw [hY] at hb KN
              rw [hbk] at KN
              (try rw [hY2] at hHeld)
              (try rw [hY2])
              (try rw [hY])
              (try rw [hbk])
              have KA := KN
              have HB := Lib.hid (through HB.out (Nat.le_refl _) hb)
              clear hb hY hY2 hbk KN
              (refine held_take 42 (by kernel_rfl) (by kernel_rfl) (by kernel_rfl) (by assumption) ?_; simp only [List.getElem?_toArray, List.getElem?_cons_succ, List.getElem?_cons_zero]; refine ⟨fun _ _ _ _ h => h, ?_, Or.inl ⟨by kernel_rfl, ?_⟩, ?_⟩; rotate_left; (focus (intro wS hSw; (try dsimp only at hSw); go_simp; try with_reducible rfl)); (try simp only [Act.put, List.setIfInBounds_toArray, List.set_cons_zero, List.set_cons_succ]))
              (refine wpAnyH_done (by kernel_rfl) ?_ _)
              clear hHeld
              go_upto_region 13 with (fail)
              (try simp only [List.append_eq, List.cons_append, List.nil_append])
              refine wp_region_held_drew (S := (fun Y => Y.cell? ⟨w.heap.size, i, none⟩ = some (.int .i64 ni) ∧ Y.cell? ⟨w.heap.size, k, none⟩ = some (.int .i64 nk) ∧ Y.cell? ⟨w.heap.size, j, none⟩ = some (.int .i64 nj) ∧ Y.cell? ⟨w.heap.size + 1 + 1 + 1 + 1, 0, none⟩ = some (.int .i64 4) ∧ Y.cell? ⟨w.heap.size + 1 + 1 + 1 + 1, 1, none⟩ = some (.slice (some ⟨w.heap.size + 1 + 1 + 1, 0, none⟩) 4 4))) (by kernel_rfl) (HST.out _ HB.out.drew) (fun hHeld => ?_)
              obtain ⟨yb, hyb⟩ : ∃ Y, y1.drew = Y := ⟨_, rfl⟩
              have HB2 := Lib.hid HB.out.drew
              have KA2 := Lib.hid KA.out.drew
              clear HB KA
              have HB := HB2
              have KA := KA2
              clear HB2 KA2
              rw [hyb] at HB hHeld KA ⊢
              clear hyb
              (refine held_take 0 (by kernel_rfl) (by kernel_rfl) (by kernel_rfl) (by assumption) ?_; simp only [List.getElem?_toArray, List.getElem?_cons_zero]; refine ⟨fun _ _ _ _ h => h, ?_, Or.inl ⟨by kernel_rfl, ?_⟩, ?_⟩; rotate_left; (focus (intro wS hSw; (try dsimp only at hSw); go_simp; try with_reducible rfl)); (try simp only [Act.put, List.setIfInBounds_toArray, List.set_cons_zero, List.set_cons_succ]))
              (refine held_take 1 (by kernel_rfl) (by kernel_rfl) (by kernel_rfl) (by assumption) ?_; simp only [List.getElem?_toArray, List.getElem?_cons_succ, List.getElem?_cons_zero]; refine ⟨fun _ _ _ _ h => h, ?_, Or.inl ⟨by kernel_rfl, ?_⟩, ?_⟩; rotate_left; (focus (intro wS hSw; (try dsimp only at hSw); go_simp; try with_reducible rfl)); (try simp only [Act.put, List.setIfInBounds_toArray, List.set_cons_zero, List.set_cons_succ]))
              (refine held_take 2 (by kernel_rfl) (by kernel_rfl) (by kernel_rfl) (by assumption) ?_; simp only [List.getElem?_toArray, List.getElem?_cons_succ, List.getElem?_cons_zero]; refine ⟨fun _ _ _ _ h => h, ?_, Or.inl ⟨by kernel_rfl, ?_⟩, ?_⟩; rotate_left; (focus (intro wS hSw; (try dsimp only at hSw); go_simp; try with_reducible rfl)); (try simp only [Act.put, List.setIfInBounds_toArray, List.set_cons_zero, List.set_cons_succ]))
              (refine held_take 3 (by kernel_rfl) (by kernel_rfl) (by kernel_rfl) (by assumption) ?_; simp only [List.getElem?_toArray, List.getElem?_cons_succ, List.getElem?_cons_zero]; refine ⟨fun _ _ _ _ h => h, ?_, Or.inl ⟨by kernel_rfl, ?_⟩, ?_⟩; rotate_left; (focus (intro wS hSw; (try dsimp only at hSw); go_simp; try with_reducible rfl)); (try simp only [Act.put, List.setIfInBounds_toArray, List.set_cons_zero, List.set_cons_succ]))
              (refine held_take 4 (by kernel_rfl) (by kernel_rfl) (by kernel_rfl) (by assumption) ?_; simp only [List.getElem?_toArray, List.getElem?_cons_succ, List.getElem?_cons_zero]; refine ⟨fun _ _ _ _ h => h, ?_, Or.inl ⟨by kernel_rfl, ?_⟩, ?_⟩; rotate_left; (focus (intro wS hSw; (try dsimp only at hSw); go_simp; try with_reducible rfl)); (try simp only [Act.put, List.setIfInBounds_toArray, List.set_cons_zero, List.set_cons_succ]))
              (refine held_take 5 (by kernel_rfl) (by kernel_rfl) (by kernel_rfl) (by assumption) ?_; simp only [List.getElem?_toArray, List.getElem?_cons_succ, List.getElem?_cons_zero]; refine ⟨fun _ _ _ _ h => h, ?_, Or.inl ⟨by kernel_rfl, ?_⟩, ?_⟩; rotate_left; (focus (intro wS hSw; (try dsimp only at hSw); go_simp; try with_reducible rfl)); (try simp only [Act.put, List.setIfInBounds_toArray, List.set_cons_zero, List.set_cons_succ]))
              (refine held_take 7 (by kernel_rfl) (by kernel_rfl) (by kernel_rfl) (by assumption) ?_; simp only [List.getElem?_toArray, List.getElem?_cons_succ, List.getElem?_cons_zero]; refine ⟨fun _ _ _ _ h => h, ?_, Or.inl ⟨by kernel_rfl, ?_⟩, ?_⟩; rotate_left; (focus (intro wS hSw; (try dsimp only at hSw); go_simp; try with_reducible rfl)); (try simp only [Act.put, List.setIfInBounds_toArray, List.set_cons_zero, List.set_cons_succ]))
              (refine held_take 8 (by kernel_rfl) (by kernel_rfl) (by kernel_rfl) (by assumption) ?_; simp only [List.getElem?_toArray, List.getElem?_cons_succ, List.getElem?_cons_zero]; refine ⟨fun _ _ _ _ h => h, ?_, Or.inl ⟨by kernel_rfl, ?_⟩, ?_⟩; rotate_left; (focus (intro wS hSw; (try dsimp only at hSw); go_simp; try with_reducible rfl)); (try simp only [Act.put, List.setIfInBounds_toArray, List.set_cons_zero, List.set_cons_succ]))
              (refine held_take 10 (by kernel_rfl) (by kernel_rfl) (by kernel_rfl) (by assumption) ?_; simp only [List.getElem?_toArray, List.getElem?_cons_succ, List.getElem?_cons_zero]; refine ⟨fun _ _ _ _ h => h, ?_, Or.inl ⟨by kernel_rfl, ?_⟩, ?_⟩; rotate_left; (focus (intro wS hSw; (try dsimp only at hSw); go_simp; try with_reducible rfl)); (try simp only [Act.put, List.setIfInBounds_toArray, List.set_cons_zero, List.set_cons_succ]))
              have HH0 := Lib.hid hHeld
              clear hHeld
              apply held_join3 (#[true, true, true, true, true, true, true, true, true, true, true, false, false, false, false, false, false, false, false, false, false, false, false, false, false, false, false, false, false, false, false, false, false, false, false, false, false, false, false, false, false, false, false, false, false, false, false, false, false, false, false, false, false, false, false, false, false, false, false, false, false, false, false, false, false, false, false]) (fun bB (A1 : Option Addr) (c1 : Nat) (Y : World) => Below X.heap.size X Y ∧ Blk Y bA 55 (msC ni nk nj) ∧ Blk Y bB 3 #[.int .i64 1, .int .i64 2, .int .i64 3] ∧ ∃ p, IsOps Y Y.heap.size A1 (lineL (1 + ni % 1000)) p)
              case main =>
                intro J
                have hHeld := HH0.out
                refine held_two 6 9 (by kernel_rfl) ?_ ?_
                · (simp only [List.getElem?_toArray, List.getElem?_cons_succ, List.getElem?_cons_zero]; intro K hK; go_simp)
                  clear hHeld
                  have HC := Lib.hid (line_any (1 + ni % 1000) yb HLI.out)
                  refine HC.out.mono ?_
                  rintro e y2 ⟨A1, c1, p1, rfl, hio, hb⟩
                  have KN := Lib.hid (show ∃ p, IsOps _ _ A1 (lineL (1 + ni % 1000)) p from ⟨p1, hio⟩)
                  clear hio
                  (go_wp2_with fail; refine hK.out _ _ ?_ (fun hHeld => ?_); (focus (exact HST.out _ (through HB.out (Nat.le_refl _) hb))); clear hK K; (try simp only [Act.put, List.setIfInBounds_toArray, List.set_cons_zero, List.set_cons_succ]))
                  have KA := Lib.hid (KA.out.below hb KA.out.lt)
                  have HB := Lib.hid (through HB.out (Nat.le_refl _) hb)
                  clear hb HC
                  have KC := KN
                  clear KN
                  (refine held_one 9 (by kernel_rfl) ?_; simp only [List.getElem?_toArray, List.getElem?_cons_succ, List.getElem?_cons_zero]; intro K hK; go_simp)
                  clear hHeld
                  have hb : Below y2.heap.size y2 (y2.alloc (.cells #[.int .i64 1, .int .i64 2, .int .i64 3] 3)) := (Below.refl _ _).alloc (Nat.le_refl _) _
                  have KN := Lib.hid (Blk.new y2 3 #[.int .i64 1, .int .i64 2, .int .i64 3])
                  (go_wp2_with fail; refine hK.out _ _ ?_ (fun hHeld => ?_); (focus (exact HST.out _ (through HB.out (Nat.le_refl _) hb))); clear hK K; (try simp only [Act.put, List.setIfInBounds_toArray, List.set_cons_zero, List.set_cons_succ]))
                  obtain ⟨bB, hbk⟩ : ∃ z, y2.heap.size = z := ⟨_, rfl⟩
                  obtain ⟨y3, hY⟩ : ∃ Y, y2.alloc (.cells #[.int .i64 1, .int .i64 2, .int .i64 3] 3) = Y := ⟨_, rfl⟩
                  have hY2 := hY
                  skip
                  rw [hY] at hb KN
                  rw [hbk] at KN
                  (try rw [hY2] at hHeld)
                  (try rw [hY2])
                  (try rw [hY])
                  (try rw [hbk])
                  have KB := KN
                  have KA := Lib.hid (KA.out.below hb KA.out.lt)
                  have KC := Lib.hid (lines_on KC.out hb)
                  have HB := Lib.hid (through HB.out (Nat.le_refl _) hb)
                  clear hb hY hY2 hbk KN
                  refine held_listed (listed' := #[true, true, true, true, true, true, true, true, true, true, true, false, false, false, false, false, false, false, false, false, false, false, false, false, false, false, false, false, false, false, false, false, false, false, false, false, false, false, false, false, false, false, false, false, false, false, false, false, false, false, false, false, false, false, false, false, false, false, false, false, false, false, false, false, false, false, false]) (by kernel_rfl) ?_
                  exact J bB A1 c1 y3 ⟨HB.out, KA.out, KB.out, KC.out⟩ hHeld
                · (simp only [List.getElem?_toArray, List.getElem?_cons_succ, List.getElem?_cons_zero]; intro K hK; go_simp)
                  clear hHeld
                  have hb : Below yb.heap.size yb (yb.alloc (.cells #[.int .i64 1, .int .i64 2, .int .i64 3] 3)) := (Below.refl _ _).alloc (Nat.le_refl _) _
                  have KN := Lib.hid (Blk.new yb 3 #[.int .i64 1, .int .i64 2, .int .i64 3])
                  (go_wp2_with fail; refine hK.out _ _ ?_ (fun hHeld => ?_); (focus (exact HST.out _ (through HB.out (Nat.le_refl _) hb))); clear hK K; (try simp only [Act.put, List.setIfInBounds_toArray, List.set_cons_zero, List.set_cons_succ]))
                  obtain ⟨bB, hbk⟩ : ∃ z, yb.heap.size = z := ⟨_, rfl⟩
                  obtain ⟨y4, hY⟩ : ∃ Y, yb.alloc (.cells #[.int .i64 1, .int .i64 2, .int .i64 3] 3) = Y := ⟨_, rfl⟩
                  have hY2 := hY
                  skip
                  rw [hY] at hb KN
                  rw [hbk] at KN
                  (try rw [hY2] at hHeld)
                  (try rw [hY2])
                  (try rw [hY])
                  (try rw [hbk])
                  have KB := KN
                  have KA := Lib.hid (KA.out.below hb KA.out.lt)
                  have HB := Lib.hid (through HB.out (Nat.le_refl _) hb)
                  clear hb hY hY2 hbk KN
                  (refine held_one 6 (by kernel_rfl) ?_; simp only [List.getElem?_toArray, List.getElem?_cons_succ, List.getElem?_cons_zero]; intro K hK; go_simp)
                  clear hHeld
                  have HC := Lib.hid (line_any (1 + ni % 1000) y4 HLI.out)
                  refine HC.out.mono ?_
                  rintro e y5 ⟨A1, c1, p1, rfl, hio, hb⟩
                  have KN := Lib.hid (show ∃ p, IsOps _ _ A1 (lineL (1 + ni % 1000)) p from ⟨p1, hio⟩)
                  clear hio
                  (go_wp2_with fail; refine hK.out _ _ ?_ (fun hHeld => ?_); (focus (exact HST.out _ (through HB.out (Nat.le_refl _) hb))); clear hK K; (try simp only [Act.put, List.setIfInBounds_toArray, List.set_cons_zero, List.set_cons_succ]))
                  have KA := Lib.hid (KA.out.below hb KA.out.lt)
                  have KB := Lib.hid (KB.out.below hb KB.out.lt)
                  have HB := Lib.hid (through HB.out (Nat.le_refl _) hb)
                  clear hb HC
                  have KC := KN
                  clear KN
                  refine held_listed (listed' := #[true, true, true, true, true, true, true, true, true, true, true, false, false, false, false, false, false, false, false, false, false, false, false, false, false, false, false, false, false, false, false, false, false, false, false, false, false, false, false, false, false, false, false, false, false, false, false, false, false, false, false, false, false, false, false, false, false, false, false, false, false, false, false, false, false, false, false]) (by kernel_rfl) ?_
                  exact J bB A1 c1 y5 ⟨HB.out, KA.out, KB.out, KC.out⟩ hHeld
              case rest =>
                clear HB KA
                clear HH0
                intro bB A1 c1 y1 hR hHeld
                obtain ⟨hr1, hr2, hr3, hr4⟩ := hR
                have HB := Lib.hid hr1
                have KA := Lib.hid hr2
                have KB := Lib.hid hr3
                have KC := Lib.hid hr4
                clear hr1 hr2 hr3 hr4
                obtain ⟨p1, hp1⟩ := KC.out
                (refine held_one 11 (by kernel_rfl) ?_; simp only [List.getElem?_toArray, List.getElem?_cons_succ, List.getElem?_cons_zero]; intro K hK; go_simp)
                clear hHeld
                have HC := Lib.hid (solveTells_any 8 mo A1 (some ⟨bA, 0, none⟩) (some ⟨bB, 0, none⟩) c1 4 3 (lineL (1 + ni % 1000)) p1 [(ni, nk, nj, 0), (nk, ni, 7, 0), (3, nk, ni, 0)] [1, 2, 3] (by show 3 ≤ _; decide) y1 y1.heap.size (Nat.le_refl _) hp1 (quads_head (xs := [(ni, nk, nj, 0), (nk, ni, 7, 0), (3, nk, ni, 0)]) (ys := [(5, 0, nk, 0)]) (msK_quads KA.out HNI.out HNK.out HNJ.out)) (ints_blk (xs := [1, 2, 3]) KB.out (by decide) (by simp [In64])))
                refine HC.out.mono ?_
                rintro e y101 ⟨rfl, hb⟩
                (go_wp2_with fail; refine hK.out _ _ ?_ (fun hHeld => ?_); (focus (exact HST.out _ (through HB.out (Nat.le_refl _) hb))); clear hK K; (try simp only [List.setIfInBounds_toArray, List.set_cons_zero, List.set_cons_succ]))
                have KA := Lib.hid (KA.out.below hb KA.out.lt)
                have KB := Lib.hid (KB.out.below hb KB.out.lt)
                have KC := Lib.hid (lines_on KC.out hb)
                have HB := Lib.hid (through HB.out (Nat.le_refl _) hb)
                clear hb HC
                clear KB KC hp1
                (refine held_take 12 (by kernel_rfl) (by kernel_rfl) (by kernel_rfl) (by assumption) ?_; simp only [List.getElem?_toArray, List.getElem?_cons_succ, List.getElem?_cons_zero]; refine ⟨fun _ _ _ _ h => h, ?_, Or.inl ⟨by kernel_rfl, ?_⟩, ?_⟩; rotate_left; (focus (intro wS hSw; (try dsimp only at hSw); go_simp; try with_reducible rfl)); (try simp only [Act.put, List.setIfInBounds_toArray, List.set_cons_zero, List.set_cons_succ]))
                (refine held_take 13 (by kernel_rfl) (by kernel_rfl) (by kernel_rfl) (by assumption) ?_; simp only [List.getElem?_toArray, List.getElem?_cons_succ, List.getElem?_cons_zero]; refine ⟨fun _ _ _ _ h => h, ?_, Or.inl ⟨by kernel_rfl, ?_⟩, ?_⟩; rotate_left; (focus (intro wS hSw; (try dsimp only at hSw); go_simp; try with_reducible rfl)); (try simp only [Act.put, List.setIfInBounds_toArray, List.set_cons_zero, List.set_cons_succ]))
                (refine held_take 14 (by kernel_rfl) (by kernel_rfl) (by kernel_rfl) (by assumption) ?_; simp only [List.getElem?_toArray, List.getElem?_cons_succ, List.getElem?_cons_zero]; refine ⟨fun _ _ _ _ h => h, ?_, Or.inl ⟨by kernel_rfl, ?_⟩, ?_⟩; rotate_left; (focus (intro wS hSw; (try dsimp only at hSw); go_simp; try with_reducible rfl)); (try simp only [Act.put, List.setIfInBounds_toArray, List.set_cons_zero, List.set_cons_succ]))
                (refine held_take 15 (by kernel_rfl) (by kernel_rfl) (by kernel_rfl) (by assumption) ?_; simp only [List.getElem?_toArray, List.getElem?_cons_succ, List.getElem?_cons_zero]; refine ⟨fun _ _ _ _ h => h, ?_, Or.inl ⟨by kernel_rfl, ?_⟩, ?_⟩; rotate_left; (focus (intro wS hSw; (try dsimp only at hSw); go_simp; try with_reducible rfl)); (try simp only [Act.put, List.setIfInBounds_toArray, List.set_cons_zero, List.set_cons_succ]))
                (refine held_take 17 (by kernel_rfl) (by kernel_rfl) (by kernel_rfl) (by assumption) ?_; simp only [List.getElem?_toArray, List.getElem?_cons_succ, List.getElem?_cons_zero]; refine ⟨fun _ _ _ _ h => h, ?_, Or.inl ⟨by kernel_rfl, ?_⟩, ?_⟩; rotate_left; (focus (intro wS hSw; (try dsimp only at hSw); go_simp; try with_reducible rfl)); (try simp only [Act.put, List.setIfInBounds_toArray, List.set_cons_zero, List.set_cons_succ]))
                (refine held_one 16 (by kernel_rfl) ?_; simp only [List.getElem?_toArray, List.getElem?_cons_succ, List.getElem?_cons_zero]; intro K hK; go_simp)
                clear hHeld
                have hb : Below y101.heap.size y101 (y101.alloc (.cells #[.int .i64 3, .int .i64 2, .int .i64 1, .int .i64 5] 3)) := (Below.refl _ _).alloc (Nat.le_refl _) _
                have KN := Lib.hid (Blk.new y101 3 #[.int .i64 3, .int .i64 2, .int .i64 1, .int .i64 5])
                (go_wp2_with fail; refine hK.out _ _ ?_ (fun hHeld => ?_); (focus (exact HST.out _ (through HB.out (Nat.le_refl _) hb))); clear hK K; (try simp only [List.setIfInBounds_toArray, List.set_cons_zero, List.set_cons_succ]))
                obtain ⟨bD, hbk⟩ : ∃ z, y101.heap.size = z := ⟨_, rfl⟩
                obtain ⟨y102, hY⟩ : ∃ Y, y101.alloc (.cells #[.int .i64 3, .int .i64 2, .int .i64 1, .int .i64 5] 3) = Y := ⟨_, rfl⟩
                have hY2 := hY
                skip
                rw [hY] at hb KN
                rw [hbk] at KN
                (try rw [hY2] at hHeld)
                (try rw [hY2])
                (try rw [hY])
                (try rw [hbk])
                have KD := KN
                have KA := Lib.hid (KA.out.below hb KA.out.lt)
                have HB := Lib.hid (through HB.out (Nat.le_refl _) hb)
                clear hb hY hY2 hbk KN
                (refine held_one 18 (by kernel_rfl) ?_; simp only [List.getElem?_toArray, List.getElem?_cons_succ, List.getElem?_cons_zero]; intro K hK; go_simp)
                clear hHeld
                have HC := Lib.hid (solveTells_any 4 mo (some ⟨w.heap.size + 1 + 1 + 1, 0, none⟩) (some ⟨bA, 0, none⟩) (some ⟨bD, 0, none⟩) 4 4 4 twoL _ (msK ni nk nj) [3, 2, 1, 5] (by show 4 ≤ _; decide) y102 y102.heap.size (Nat.le_refl _) ((HTW.out y102 HB.out)) (msK_quads KA.out HNI.out HNK.out HNJ.out) (ints_blk (xs := [3, 2, 1, 5]) KD.out (by decide) (by simp [In64])))
                refine HC.out.mono ?_
                rintro e y103 ⟨rfl, hb⟩
                (go_wp2_with fail; refine hK.out _ _ ?_ (fun hHeld => ?_); (focus (exact HST.out _ (through HB.out (Nat.le_refl _) hb))); clear hK K; (try simp only [List.setIfInBounds_toArray, List.set_cons_zero, List.set_cons_succ]))
                have KA := Lib.hid (KA.out.below hb KA.out.lt)
                have KD := Lib.hid (KD.out.below hb KD.out.lt)
                have HB := Lib.hid (through HB.out (Nat.le_refl _) hb)
                clear hb HC
                clear KD
                (refine held_take 19 (by kernel_rfl) (by kernel_rfl) (by kernel_rfl) (by assumption) ?_; simp only [List.getElem?_toArray, List.getElem?_cons_succ, List.getElem?_cons_zero]; refine ⟨fun _ _ _ _ h => h, ?_, Or.inl ⟨by kernel_rfl, ?_⟩, ?_⟩; rotate_left; (focus (intro wS hSw; (try dsimp only at hSw); go_simp; try with_reducible rfl)); (try simp only [Act.put, List.setIfInBounds_toArray, List.set_cons_zero, List.set_cons_succ]))
                (refine held_take 20 (by kernel_rfl) (by kernel_rfl) (by kernel_rfl) (by assumption) ?_; simp only [List.getElem?_toArray, List.getElem?_cons_succ, List.getElem?_cons_zero]; refine ⟨fun _ _ _ _ h => h, ?_, Or.inl ⟨by kernel_rfl, ?_⟩, ?_⟩; rotate_left; (focus (intro wS hSw; (try dsimp only at hSw); go_simp; try with_reducible rfl)); (try simp only [Act.put, List.setIfInBounds_toArray, List.set_cons_zero, List.set_cons_succ]))
                (refine held_take 21 (by kernel_rfl) (by kernel_rfl) (by kernel_rfl) (by assumption) ?_; simp only [List.getElem?_toArray, List.getElem?_cons_succ, List.getElem?_cons_zero]; refine ⟨fun _ _ _ _ h => h, ?_, Or.inl ⟨by kernel_rfl, ?_⟩, ?_⟩; rotate_left; (focus (intro wS hSw; (try dsimp only at hSw); go_simp; try with_reducible rfl)); (try simp only [Act.put, List.setIfInBounds_toArray, List.set_cons_zero, List.set_cons_succ]))
                (refine held_take 22 (by kernel_rfl) (by kernel_rfl) (by kernel_rfl) (by assumption) ?_; simp only [List.getElem?_toArray, List.getElem?_cons_succ, List.getElem?_cons_zero]; refine ⟨fun _ _ _ _ h => h, ?_, Or.inl ⟨by kernel_rfl, ?_⟩, ?_⟩; rotate_left; (focus (intro wS hSw; (try dsimp only at hSw); go_simp; try with_reducible rfl)); (try simp only [Act.put, List.setIfInBounds_toArray, List.set_cons_zero, List.set_cons_succ]))
                (refine held_take 23 (by kernel_rfl) (by kernel_rfl) (by kernel_rfl) (by assumption) ?_; simp only [List.getElem?_toArray, List.getElem?_cons_succ, List.getElem?_cons_zero]; refine ⟨fun _ _ _ _ h => h, ?_, Or.inl ⟨by kernel_rfl, ?_⟩, ?_⟩; rotate_left; (focus (intro wS hSw; (try dsimp only at hSw); go_simp; try with_reducible rfl)); (try simp only [Act.put, List.setIfInBounds_toArray, List.set_cons_zero, List.set_cons_succ]))
                (refine held_take 26 (by kernel_rfl) (by kernel_rfl) (by kernel_rfl) (by assumption) ?_; simp only [List.getElem?_toArray, List.getElem?_cons_succ, List.getElem?_cons_zero]; refine ⟨fun _ _ _ _ h => h, ?_, Or.inl ⟨by kernel_rfl, ?_⟩, ?_⟩; rotate_left; (focus (intro wS hSw; (try dsimp only at hSw); go_simp; try with_reducible rfl)); (try simp only [Act.put, List.setIfInBounds_toArray, List.set_cons_zero, List.set_cons_succ]))
                (refine held_take 27 (by kernel_rfl) (by kernel_rfl) (by kernel_rfl) (by assumption) ?_; simp only [List.getElem?_toArray, List.getElem?_cons_succ, List.getElem?_cons_zero]; refine ⟨fun _ _ _ _ h => h, ?_, Or.inl ⟨by kernel_rfl, ?_⟩, ?_⟩; rotate_left; (focus (intro wS hSw; (try dsimp only at hSw); go_simp; try with_reducible rfl)); (try simp only [Act.put, List.setIfInBounds_toArray, List.set_cons_zero, List.set_cons_succ]))
                have HH0 := Lib.hid hHeld
                clear hHeld
                apply held_join2 (#[true, true, true, true, true, true, true, true, true, true, true, true, true, true, true, true, true, true, true, true, true, true, true, true, true, true, true, true, false, false, false, false, false, false, false, false, false, false, false, false, false, false, false, false, false, false, false, false, false, false, false, false, false, false, false, false, false, false, false, false, false, false, false, false, false, false, false]) (fun bE bF (Y : World) => Below X.heap.size X Y ∧ Blk Y bA 55 (msC ni nk nj) ∧ Blk Y bE 3 #[.int .i64 1, .int .i64 1, .int .i64 1, .int .i64 1] ∧ Blk Y bF 3 #[.int .i64 4, .int .i64 3, .int .i64 2, .int .i64 1])
                case main =>
                  intro J
                  have hHeld := HH0.out
                  refine held_two 24 25 (by kernel_rfl) ?_ ?_
                  · (simp only [List.getElem?_toArray, List.getElem?_cons_succ, List.getElem?_cons_zero]; intro K hK; go_simp)
                    clear hHeld
                    have hb : Below y103.heap.size y103 (y103.alloc (.cells #[.int .i64 1, .int .i64 1, .int .i64 1, .int .i64 1] 3)) := (Below.refl _ _).alloc (Nat.le_refl _) _
                    have KN := Lib.hid (Blk.new y103 3 #[.int .i64 1, .int .i64 1, .int .i64 1, .int .i64 1])
                    (go_wp2_with fail; refine hK.out _ _ ?_ (fun hHeld => ?_); (focus (exact HST.out _ (through HB.out (Nat.le_refl _) hb))); clear hK K; (try simp only [List.setIfInBounds_toArray, List.set_cons_zero, List.set_cons_succ]))
                    obtain ⟨bE, hbk⟩ : ∃ z, y103.heap.size = z := ⟨_, rfl⟩
                    obtain ⟨y104, hY⟩ : ∃ Y, y103.alloc (.cells #[.int .i64 1, .int .i64 1, .int .i64 1, .int .i64 1] 3) = Y := ⟨_, rfl⟩
                    have hY2 := hY
                    skip
                    rw [hY] at hb KN
                    rw [hbk] at KN
                    (try rw [hY2] at hHeld)
                    (try rw [hY2])
                    (try rw [hY])
                    (try rw [hbk])
                    have KE := KN
                    have KA := Lib.hid (KA.out.below hb KA.out.lt)
                    have HB := Lib.hid (through HB.out (Nat.le_refl _) hb)
                    clear hb hY hY2 hbk KN
                    (refine held_one 25 (by kernel_rfl) ?_; simp only [List.getElem?_toArray, List.getElem?_cons_succ, List.getElem?_cons_zero]; intro K hK; go_simp)
                    clear hHeld
                    have hb : Below y104.heap.size y104 (y104.alloc (.cells #[.int .i64 4, .int .i64 3, .int .i64 2, .int .i64 1] 3)) := (Below.refl _ _).alloc (Nat.le_refl _) _
                    have KN := Lib.hid (Blk.new y104 3 #[.int .i64 4, .int .i64 3, .int .i64 2, .int .i64 1])
                    (go_wp2_with fail; refine hK.out _ _ ?_ (fun hHeld => ?_); (focus (exact HST.out _ (through HB.out (Nat.le_refl _) hb))); clear hK K; (try simp only [List.setIfInBounds_toArray, List.set_cons_zero, List.set_cons_succ]))
                    obtain ⟨bF, hbk⟩ : ∃ z, y104.heap.size = z := ⟨_, rfl⟩
                    obtain ⟨y105, hY⟩ : ∃ Y, y104.alloc (.cells #[.int .i64 4, .int .i64 3, .int .i64 2, .int .i64 1] 3) = Y := ⟨_, rfl⟩
                    have hY2 := hY
                    skip
                    rw [hY] at hb KN
                    rw [hbk] at KN
                    (try rw [hY2] at hHeld)
                    (try rw [hY2])
                    (try rw [hY])
                    (try rw [hbk])
                    have KF := KN
                    have KA := Lib.hid (KA.out.below hb KA.out.lt)
                    have KE := Lib.hid (KE.out.below hb KE.out.lt)
                    have HB := Lib.hid (through HB.out (Nat.le_refl _) hb)
                    clear hb hY hY2 hbk KN
                    refine held_listed (listed' := #[true, true, true, true, true, true, true, true, true, true, true, true, true, true, true, true, true, true, true, true, true, true, true, true, true, true, true, true, false, false, false, false, false, false, false, false, false, false, false, false, false, false, false, false, false, false, false, false, false, false, false, false, false, false, false, false, false, false, false, false, false, false, false, false, false, false, false]) (by kernel_rfl) ?_
                    exact J bE bF y105 ⟨HB.out, KA.out, KE.out, KF.out⟩ hHeld
                  · (simp only [List.getElem?_toArray, List.getElem?_cons_succ, List.getElem?_cons_zero]; intro K hK; go_simp)
                    clear hHeld
                    have hb : Below y103.heap.size y103 (y103.alloc (.cells #[.int .i64 4, .int .i64 3, .int .i64 2, .int .i64 1] 3)) := (Below.refl _ _).alloc (Nat.le_refl _) _
                    have KN := Lib.hid (Blk.new y103 3 #[.int .i64 4, .int .i64 3, .int .i64 2, .int .i64 1])
                    (go_wp2_with fail; refine hK.out _ _ ?_ (fun hHeld => ?_); (focus (exact HST.out _ (through HB.out (Nat.le_refl _) hb))); clear hK K; (try simp only [List.setIfInBounds_toArray, List.set_cons_zero, List.set_cons_succ]))
                    obtain ⟨bF, hbk⟩ : ∃ z, y103.heap.size = z := ⟨_, rfl⟩
                    obtain ⟨y106, hY⟩ : ∃ Y, y103.alloc (.cells #[.int .i64 4, .int .i64 3, .int .i64 2, .int .i64 1] 3) = Y := ⟨_, rfl⟩
                    have hY2 := hY
                    skip
                    rw [hY] at hb KN
                    rw [hbk] at KN
                    (try rw [hY2] at hHeld)
                    (try rw [hY2])
                    (try rw [hY])
                    (try rw [hbk])
                    have KF := KN
                    have KA := Lib.hid (KA.out.below hb KA.out.lt)
                    have HB := Lib.hid (through HB.out (Nat.le_refl _) hb)
                    clear hb hY hY2 hbk KN
                    (refine held_one 24 (by kernel_rfl) ?_; simp only [List.getElem?_toArray, List.getElem?_cons_succ, List.getElem?_cons_zero]; intro K hK; go_simp)
                    clear hHeld
                    have hb : Below y106.heap.size y106 (y106.alloc (.cells #[.int .i64 1, .int .i64 1, .int .i64 1, .int .i64 1] 3)) := (Below.refl _ _).alloc (Nat.le_refl _) _
                    have KN := Lib.hid (Blk.new y106 3 #[.int .i64 1, .int .i64 1, .int .i64 1, .int .i64 1])
                    (go_wp2_with fail; refine hK.out _ _ ?_ (fun hHeld => ?_); (focus (exact HST.out _ (through HB.out (Nat.le_refl _) hb))); clear hK K; (try simp only [List.setIfInBounds_toArray, List.set_cons_zero, List.set_cons_succ]))
                    obtain ⟨bE, hbk⟩ : ∃ z, y106.heap.size = z := ⟨_, rfl⟩
                    obtain ⟨y107, hY⟩ : ∃ Y, y106.alloc (.cells #[.int .i64 1, .int .i64 1, .int .i64 1, .int .i64 1] 3) = Y := ⟨_, rfl⟩
                    have hY2 := hY
                    skip
                    rw [hY] at hb KN
                    rw [hbk] at KN
                    (try rw [hY2] at hHeld)
                    (try rw [hY2])
                    (try rw [hY])
                    (try rw [hbk])
                    have KE := KN
                    have KA := Lib.hid (KA.out.below hb KA.out.lt)
                    have KF := Lib.hid (KF.out.below hb KF.out.lt)
                    have HB := Lib.hid (through HB.out (Nat.le_refl _) hb)
                    clear hb hY hY2 hbk KN
                    refine held_listed (listed' := #[true, true, true, true, true, true, true, true, true, true, true, true, true, true, true, true, true, true, true, true, true, true, true, true, true, true, true, true, false, false, false, false, false, false, false, false, false, false, false, false, false, false, false, false, false, false, false, false, false, false, false, false, false, false, false, false, false, false, false, false, false, false, false, false, false, false, false]) (by kernel_rfl) ?_
                    exact J bE bF y107 ⟨HB.out, KA.out, KE.out, KF.out⟩ hHeld
                case rest =>
                  clear HB KA
                  clear HH0
                  intro bE bF y2 hR hHeld
                  obtain ⟨hr1, hr2, hr3, hr4⟩ := hR
                  have HB := Lib.hid hr1
                  have KA := Lib.hid hr2
                  have KE := Lib.hid hr3
                  have KF := Lib.hid hr4
                  clear hr1 hr2 hr3 hr4
                  (refine held_one 28 (by kernel_rfl) ?_; simp only [List.getElem?_toArray, List.getElem?_cons_succ, List.getElem?_cons_zero]; intro K hK; go_simp)
                  clear hHeld
                  have HC := Lib.hid (solveSteady_any 4 mo (some ⟨w.heap.size + 1 + 1 + 1, 0, none⟩) (some ⟨bA, 0, none⟩) (some ⟨bE, 0, none⟩) (some ⟨bF, 0, none⟩) (some ⟨w.heap.size, 0, none⟩) 4 4 4 4 11 twoL _ (msK ni nk nj) [1, 1, 1, 1] [4, 3, 2, 1] nL (by show 4 ≤ _; decide) y2 y2.heap.size (Nat.le_refl _) ((HTW.out y2 HB.out)) (msK_quads KA.out HNI.out HNK.out HNJ.out) (ints_blk (xs := [1, 1, 1, 1]) KE.out (by decide) (by simp [In64])) (ints_blk (xs := [4, 3, 2, 1]) KF.out (by decide) (by simp [In64])) (HNL.out y2 HB.out))
                  refine HC.out.mono ?_
                  rintro e y108 ⟨rfl, hb⟩
                  (go_wp2_with fail; refine hK.out _ _ ?_ (fun hHeld => ?_); (focus (exact HST.out _ (through HB.out (Nat.le_refl _) hb))); clear hK K; (try simp only [List.setIfInBounds_toArray, List.set_cons_zero, List.set_cons_succ]))
                  have KA := Lib.hid (KA.out.below hb KA.out.lt)
                  have KE := Lib.hid (KE.out.below hb KE.out.lt)
                  have KF := Lib.hid (KF.out.below hb KF.out.lt)
                  have HB := Lib.hid (through HB.out (Nat.le_refl _) hb)
                  clear hb HC
                  clear KE KF
                  (refine held_take 29 (by kernel_rfl) (by kernel_rfl) (by kernel_rfl) (by assumption) ?_; simp only [List.getElem?_toArray, List.getElem?_cons_succ, List.getElem?_cons_zero]; refine ⟨fun _ _ _ _ h => h, ?_, Or.inl ⟨by kernel_rfl, ?_⟩, ?_⟩; rotate_left; (focus (intro wS hSw; (try dsimp only at hSw); go_simp; try with_reducible rfl)); (try simp only [Act.put, List.setIfInBounds_toArray, List.set_cons_zero, List.set_cons_succ]))
                  (refine held_take 30 (by kernel_rfl) (by kernel_rfl) (by kernel_rfl) (by assumption) ?_; simp only [List.getElem?_toArray, List.getElem?_cons_succ, List.getElem?_cons_zero]; refine ⟨fun _ _ _ _ h => h, ?_, Or.inl ⟨by kernel_rfl, ?_⟩, ?_⟩; rotate_left; (focus (intro wS hSw; (try dsimp only at hSw); go_simp; try with_reducible rfl)); (try simp only [Act.put, List.setIfInBounds_toArray, List.set_cons_zero, List.set_cons_succ]))
                  (refine held_take 31 (by kernel_rfl) (by kernel_rfl) (by kernel_rfl) (by assumption) ?_; simp only [List.getElem?_toArray, List.getElem?_cons_succ, List.getElem?_cons_zero]; refine ⟨fun _ _ _ _ h => h, ?_, Or.inl ⟨by kernel_rfl, ?_⟩, ?_⟩; rotate_left; (focus (intro wS hSw; (try dsimp only at hSw); go_simp; try with_reducible rfl)); (try simp only [Act.put, List.setIfInBounds_toArray, List.set_cons_zero, List.set_cons_succ]))
                  (refine held_take 32 (by kernel_rfl) (by kernel_rfl) (by kernel_rfl) (by assumption) ?_; simp only [List.getElem?_toArray, List.getElem?_cons_succ, List.getElem?_cons_zero]; refine ⟨fun _ _ _ _ h => h, ?_, Or.inl ⟨by kernel_rfl, ?_⟩, ?_⟩; rotate_left; (focus (intro wS hSw; (try dsimp only at hSw); go_simp; try with_reducible rfl)); (try simp only [Act.put, List.setIfInBounds_toArray, List.set_cons_zero, List.set_cons_succ]))
                  (refine held_take 33 (by kernel_rfl) (by kernel_rfl) (by kernel_rfl) (by assumption) ?_; simp only [List.getElem?_toArray, List.getElem?_cons_succ, List.getElem?_cons_zero]; refine ⟨fun _ _ _ _ h => h, ?_, Or.inl ⟨by kernel_rfl, ?_⟩, ?_⟩; rotate_left; (focus (intro wS hSw; (try dsimp only at hSw); go_simp; try with_reducible rfl)); (try simp only [Act.put, List.setIfInBounds_toArray, List.set_cons_zero, List.set_cons_succ]))
                  (refine held_take 34 (by kernel_rfl) (by kernel_rfl) (by kernel_rfl) (by assumption) ?_; simp only [List.getElem?_toArray, List.getElem?_cons_succ, List.getElem?_cons_zero]; refine ⟨fun _ _ _ _ h => h, ?_, Or.inl ⟨by kernel_rfl, ?_⟩, ?_⟩; rotate_left; (focus (intro wS hSw; (try dsimp only at hSw); go_simp; try with_reducible rfl)); (try simp only [Act.put, List.setIfInBounds_toArray, List.set_cons_zero, List.set_cons_succ]))
                  (refine held_take 35 (by kernel_rfl) (by kernel_rfl) (by kernel_rfl) (by assumption) ?_; simp only [List.getElem?_toArray, List.getElem?_cons_succ, List.getElem?_cons_zero]; refine ⟨fun _ _ _ _ h => h, ?_, Or.inl ⟨by kernel_rfl, ?_⟩, ?_⟩; rotate_left; (focus (intro wS hSw; (try dsimp only at hSw); go_simp; try with_reducible rfl)); (try simp only [Act.put, List.setIfInBounds_toArray, List.set_cons_zero, List.set_cons_succ]))
                  (refine held_take 36 (by kernel_rfl) (by kernel_rfl) (by kernel_rfl) (by assumption) ?_; simp only [List.getElem?_toArray, List.getElem?_cons_succ, List.getElem?_cons_zero]; refine ⟨fun _ _ _ _ h => h, ?_, Or.inl ⟨by kernel_rfl, ?_⟩, ?_⟩; rotate_left; (focus (intro wS hSw; (try dsimp only at hSw); go_simp; try with_reducible rfl)); (try simp only [Act.put, List.setIfInBounds_toArray, List.set_cons_zero, List.set_cons_succ]))
                  (refine held_take 37 (by kernel_rfl) (by kernel_rfl) (by kernel_rfl) (by assumption) ?_; simp only [List.getElem?_toArray, List.getElem?_cons_succ, List.getElem?_cons_zero]; refine ⟨fun _ _ _ _ h => h, ?_, Or.inl ⟨by kernel_rfl, ?_⟩, ?_⟩; rotate_left; (focus (intro wS hSw; (try dsimp only at hSw); go_simp; try with_reducible rfl)); (try simp only [Act.put, List.setIfInBounds_toArray, List.set_cons_zero, List.set_cons_succ]))
                  (refine held_take 38 (by kernel_rfl) (by kernel_rfl) (by kernel_rfl) (by assumption) ?_; simp only [List.getElem?_toArray, List.getElem?_cons_succ, List.getElem?_cons_zero]; refine ⟨fun _ _ _ _ h => h, ?_, Or.inl ⟨by kernel_rfl, ?_⟩, ?_⟩; rotate_left; (focus (intro wS hSw; (try dsimp only at hSw); go_simp; try with_reducible rfl)); (try simp only [Act.put, List.setIfInBounds_toArray, List.set_cons_zero, List.set_cons_succ]))
                  (refine held_take 39 (by kernel_rfl) (by kernel_rfl) (by kernel_rfl) (by assumption) ?_; simp only [List.getElem?_toArray, List.getElem?_cons_succ, List.getElem?_cons_zero]; refine ⟨fun _ _ _ _ h => h, ?_, Or.inl ⟨by kernel_rfl, ?_⟩, ?_⟩; rotate_left; (focus (intro wS hSw; (try dsimp only at hSw); go_simp; try with_reducible rfl)); (try simp only [Act.put, List.setIfInBounds_toArray, List.set_cons_zero, List.set_cons_succ]))
                  (refine held_take 40 (by kernel_rfl) (by kernel_rfl) (by kernel_rfl) (by assumption) ?_; simp only [List.getElem?_toArray, List.getElem?_cons_succ, List.getElem?_cons_zero]; refine ⟨fun _ _ _ _ h => h, ?_, Or.inl ⟨by kernel_rfl, ?_⟩, ?_⟩; rotate_left; (focus (intro wS hSw; (try dsimp only at hSw); go_simp; try with_reducible rfl)); (try simp only [Act.put, List.setIfInBounds_toArray, List.set_cons_zero, List.set_cons_succ]))
                  (refine held_take 41 (by kernel_rfl) (by kernel_rfl) (by kernel_rfl) (by assumption) ?_; simp only [List.getElem?_toArray, List.getElem?_cons_succ, List.getElem?_cons_zero]; refine ⟨fun _ _ _ _ h => h, ?_, Or.inl ⟨by kernel_rfl, ?_⟩, ?_⟩; rotate_left; (focus (intro wS hSw; (try dsimp only at hSw); go_simp; try with_reducible rfl)); (try simp only [Act.put, List.setIfInBounds_toArray, List.set_cons_zero, List.set_cons_succ]))
                  (refine held_take 42 (by kernel_rfl) (by kernel_rfl) (by kernel_rfl) (by assumption) ?_; simp only [List.getElem?_toArray, List.getElem?_cons_succ, List.getElem?_cons_zero]; refine ⟨fun _ _ _ _ h => h, ?_, Or.inl ⟨by kernel_rfl, ?_⟩, ?_⟩; rotate_left; (focus (intro wS hSw; (try dsimp only at hSw); go_simp; try with_reducible rfl)); (try simp only [Act.put, List.setIfInBounds_toArray, List.set_cons_zero, List.set_cons_succ]))
                  (refine held_take 43 (by kernel_rfl) (by kernel_rfl) (by kernel_rfl) (by assumption) ?_; simp only [List.getElem?_toArray, List.getElem?_cons_succ, List.getElem?_cons_zero]; refine ⟨fun _ _ _ _ h => h, ?_, Or.inl ⟨by kernel_rfl, ?_⟩, ?_⟩; rotate_left; (focus (intro wS hSw; (try dsimp only at hSw); go_simp; try with_reducible rfl)); (try simp only [Act.put, List.setIfInBounds_toArray, List.set_cons_zero, List.set_cons_succ]))
                  (refine held_take 44 (by kernel_rfl) (by kernel_rfl) (by kernel_rfl) (by assumption) ?_; simp only [List.getElem?_toArray, List.getElem?_cons_succ, List.getElem?_cons_zero]; refine ⟨fun _ _ _ _ h => h, ?_, Or.inl ⟨by kernel_rfl, ?_⟩, ?_⟩; rotate_left; (focus (intro wS hSw; (try dsimp only at hSw); go_simp; try with_reducible rfl)); (try simp only [Act.put, List.setIfInBounds_toArray, List.set_cons_zero, List.set_cons_succ]))
                  (refine held_take 45 (by kernel_rfl) (by kernel_rfl) (by kernel_rfl) (by assumption) ?_; simp only [List.getElem?_toArray, List.getElem?_cons_succ, List.getElem?_cons_zero]; refine ⟨fun _ _ _ _ h => h, ?_, Or.inl ⟨by kernel_rfl, ?_⟩, ?_⟩; rotate_left; (focus (intro wS hSw; (try dsimp only at hSw); go_simp; try with_reducible rfl)); (try simp only [Act.put, List.setIfInBounds_toArray, List.set_cons_zero, List.set_cons_succ]))
                  (refine held_take 46 (by kernel_rfl) (by kernel_rfl) (by kernel_rfl) (by assumption) ?_; simp only [List.getElem?_toArray, List.getElem?_cons_succ, List.getElem?_cons_zero]; refine ⟨fun _ _ _ _ h => h, ?_, Or.inl ⟨by kernel_rfl, ?_⟩, ?_⟩; rotate_left; (focus (intro wS hSw; (try dsimp only at hSw); go_simp; try with_reducible rfl)); (try simp only [Act.put, List.setIfInBounds_toArray, List.set_cons_zero, List.set_cons_succ]))
                  (refine held_one 47 (by kernel_rfl) ?_; simp only [List.getElem?_toArray, List.getElem?_cons_succ, List.getElem?_cons_zero]; intro K hK; go_simp)
                  clear hHeld
                  have HC := Lib.hid (solveEnough_any (1 + ni % 1048576) nk ni mo y108)
                  refine HC.out.mono ?_
                  rintro e y109 ⟨rfl, hb⟩
                  (go_wp2_with fail; refine hK.out _ _ ?_ (fun hHeld => ?_); (focus (exact HST.out _ (through HB.out (Nat.le_refl _) hb))); clear hK K; (try simp only [List.setIfInBounds_toArray, List.set_cons_zero, List.set_cons_succ]))
                  have KA := Lib.hid (KA.out.below hb KA.out.lt)
                  have HB := Lib.hid (through HB.out (Nat.le_refl _) hb)
                  clear hb HC
                  (refine held_take 48 (by kernel_rfl) (by kernel_rfl) (by kernel_rfl) (by assumption) ?_; simp only [List.getElem?_toArray, List.getElem?_cons_succ, List.getElem?_cons_zero]; refine ⟨fun _ _ _ _ h => h, ?_, Or.inl ⟨by kernel_rfl, ?_⟩, ?_⟩; rotate_left; (focus (intro wS hSw; (try dsimp only at hSw); go_simp; try with_reducible rfl)); (try simp only [Act.put, List.setIfInBounds_toArray, List.set_cons_zero, List.set_cons_succ]))
                  (refine held_take 49 (by kernel_rfl) (by kernel_rfl) (by kernel_rfl) (by assumption) ?_; simp only [List.getElem?_toArray, List.getElem?_cons_succ, List.getElem?_cons_zero]; refine ⟨fun _ _ _ _ h => h, ?_, Or.inl ⟨by kernel_rfl, ?_⟩, ?_⟩; rotate_left; (focus (intro wS hSw; (try dsimp only at hSw); go_simp; try with_reducible rfl)); (try simp only [Act.put, List.setIfInBounds_toArray, List.set_cons_zero, List.set_cons_succ]))
                  (refine held_take 50 (by kernel_rfl) (by kernel_rfl) (by kernel_rfl) (by assumption) ?_; simp only [List.getElem?_toArray, List.getElem?_cons_succ, List.getElem?_cons_zero]; refine ⟨fun _ _ _ _ h => h, ?_, Or.inl ⟨by kernel_rfl, ?_⟩, ?_⟩; rotate_left; (focus (intro wS hSw; (try dsimp only at hSw); go_simp; try with_reducible rfl)); (try simp only [Act.put, List.setIfInBounds_toArray, List.set_cons_zero, List.set_cons_succ]))
                  (refine held_take 51 (by kernel_rfl) (by kernel_rfl) (by kernel_rfl) (by assumption) ?_; simp only [List.getElem?_toArray, List.getElem?_cons_succ, List.getElem?_cons_zero]; refine ⟨fun _ _ _ _ h => h, ?_, Or.inl ⟨by kernel_rfl, ?_⟩, ?_⟩; rotate_left; (focus (intro wS hSw; (try dsimp only at hSw); go_simp; try with_reducible rfl)); (try simp only [Act.put, List.setIfInBounds_toArray, List.set_cons_zero, List.set_cons_succ]))
                  (refine held_take 52 (by kernel_rfl) (by kernel_rfl) (by kernel_rfl) (by assumption) ?_; simp only [List.getElem?_toArray, List.getElem?_cons_succ, List.getElem?_cons_zero]; refine ⟨fun _ _ _ _ h => h, ?_, Or.inl ⟨by kernel_rfl, ?_⟩, ?_⟩; rotate_left; (focus (intro wS hSw; (try dsimp only at hSw); go_simp; try with_reducible rfl)); (try simp only [Act.put, List.setIfInBounds_toArray, List.set_cons_zero, List.set_cons_succ]))
                  (refine held_take 54 (by kernel_rfl) (by kernel_rfl) (by kernel_rfl) (by assumption) ?_; simp only [List.getElem?_toArray, List.getElem?_cons_succ, List.getElem?_cons_zero]; refine ⟨fun _ _ _ _ h => h, ?_, Or.inl ⟨by kernel_rfl, ?_⟩, ?_⟩; rotate_left; (focus (intro wS hSw; (try dsimp only at hSw); go_simp; try with_reducible rfl)); (try simp only [Act.put, List.setIfInBounds_toArray, List.set_cons_zero, List.set_cons_succ]))
                  (refine held_take 55 (by kernel_rfl) (by kernel_rfl) (by kernel_rfl) (by assumption) ?_; simp only [List.getElem?_toArray, List.getElem?_cons_succ, List.getElem?_cons_zero]; refine ⟨fun _ _ _ _ h => h, ?_, Or.inl ⟨by kernel_rfl, ?_⟩, ?_⟩; rotate_left; (focus (intro wS hSw; (try dsimp only at hSw); go_simp; try with_reducible rfl)); (try simp only [Act.put, List.setIfInBounds_toArray, List.set_cons_zero, List.set_cons_succ]))
                  (refine held_take 56 (by kernel_rfl) (by kernel_rfl) (by kernel_rfl) (by assumption) ?_; simp only [List.getElem?_toArray, List.getElem?_cons_succ, List.getElem?_cons_zero]; refine ⟨fun _ _ _ _ h => h, ?_, Or.inl ⟨by kernel_rfl, ?_⟩, ?_⟩; rotate_left; (focus (intro wS hSw; (try dsimp only at hSw); go_simp; try with_reducible rfl)); (try simp only [Act.put, List.setIfInBounds_toArray, List.set_cons_zero, List.set_cons_succ]))
                  (refine held_take 57 (by kernel_rfl) (by kernel_rfl) (by kernel_rfl) (by assumption) ?_; simp only [List.getElem?_toArray, List.getElem?_cons_succ, List.getElem?_cons_zero]; refine ⟨fun _ _ _ _ h => h, ?_, Or.inl ⟨by kernel_rfl, ?_⟩, ?_⟩; rotate_left; (focus (intro wS hSw; (try dsimp only at hSw); go_simp; try with_reducible rfl)); (try simp only [Act.put, List.setIfInBounds_toArray, List.set_cons_zero, List.set_cons_succ]))
                  (refine held_take 58 (by kernel_rfl) (by kernel_rfl) (by kernel_rfl) (by assumption) ?_; simp only [List.getElem?_toArray, List.getElem?_cons_succ, List.getElem?_cons_zero]; refine ⟨fun _ _ _ _ h => h, ?_, Or.inl ⟨by kernel_rfl, ?_⟩, ?_⟩; rotate_left; (focus (intro wS hSw; (try dsimp only at hSw); go_simp; try with_reducible rfl)); (try simp only [Act.put, List.setIfInBounds_toArray, List.set_cons_zero, List.set_cons_succ]))
                  (refine held_take 59 (by kernel_rfl) (by kernel_rfl) (by kernel_rfl) (by assumption) ?_; simp only [List.getElem?_toArray, List.getElem?_cons_succ, List.getElem?_cons_zero]; refine ⟨fun _ _ _ _ h => h, ?_, Or.inl ⟨by kernel_rfl, ?_⟩, ?_⟩; rotate_left; (focus (intro wS hSw; (try dsimp only at hSw); go_simp; try with_reducible rfl)); (try simp only [Act.put, List.setIfInBounds_toArray, List.set_cons_zero, List.set_cons_succ]))
                  (refine held_take 60 (by kernel_rfl) (by kernel_rfl) (by kernel_rfl) (by assumption) ?_; simp only [List.getElem?_toArray, List.getElem?_cons_succ, List.getElem?_cons_zero]; refine ⟨fun _ _ _ _ h => h, ?_, Or.inl ⟨by kernel_rfl, ?_⟩, ?_⟩; rotate_left; (focus (intro wS hSw; (try dsimp only at hSw); go_simp; try with_reducible rfl)); (try simp only [Act.put, List.setIfInBounds_toArray, List.set_cons_zero, List.set_cons_succ]))
                  (refine held_take 61 (by kernel_rfl) (by kernel_rfl) (by kernel_rfl) (by assumption) ?_; simp only [List.getElem?_toArray, List.getElem?_cons_succ, List.getElem?_cons_zero]; refine ⟨fun _ _ _ _ h => h, ?_, Or.inl ⟨by kernel_rfl, ?_⟩, ?_⟩; rotate_left; (focus (intro wS hSw; (try dsimp only at hSw); go_simp; try with_reducible rfl)); (try simp only [Act.put, List.setIfInBounds_toArray, List.set_cons_zero, List.set_cons_succ]))
                  (refine held_take 62 (by kernel_rfl) (by kernel_rfl) (by kernel_rfl) (by assumption) ?_; simp only [List.getElem?_toArray, List.getElem?_cons_succ, List.getElem?_cons_zero]; refine ⟨fun _ _ _ _ h => h, ?_, Or.inl ⟨by kernel_rfl, ?_⟩, ?_⟩; rotate_left; (focus (intro wS hSw; (try dsimp only at hSw); go_simp; try with_reducible rfl)); (try simp only [Act.put, List.setIfInBounds_toArray, List.set_cons_zero, List.set_cons_succ]))
                  obtain ⟨q1, hq1⟩ : ∃ z, ((i : Int) % 2 == 0) = z := ⟨_, rfl⟩
                  obtain ⟨q2, hq2⟩ : ∃ z, ((k : Int) % 2 == 0) = z := ⟨_, rfl⟩
                  obtain ⟨q3, hq3⟩ : ∃ z, ((i : Int) % 3 == 0) = z := ⟨_, rfl⟩
                  (try rw [hq1])
                  (try rw [hq2])
                  (try rw [hq3])
                  clear hq1 hq2 hq3
                  have HH0 := Lib.hid hHeld
                  clear hHeld
                  apply held_join2 (#[true, true, true, true, true, true, true, true, true, true, true, true, true, true, true, true, true, true, true, true, true, true, true, true, true, true, true, true, true, true, true, true, true, true, true, true, true, true, true, true, true, true, true, true, true, true, true, true, true, true, true, true, true, true, true, true, true, true, true, true, true, true, true, true, false, false, false]) (fun bG bH (Y : World) => Below X.heap.size X Y ∧ Blk Y bA 55 (msC ni nk nj) ∧ Blk Y bG 3 #[.int .i64 3, .int .i64 2, .int .i64 1, .int .i64 5] ∧ Blk Y bH 4 (blCells [q1, q2, q3]))
                  case main =>
                    intro J
                    have hHeld := HH0.out
                    refine held_two 53 63 (by kernel_rfl) ?_ ?_
                    · (simp only [List.getElem?_toArray, List.getElem?_cons_succ, List.getElem?_cons_zero]; intro K hK; go_simp)
                      clear hHeld
                      have hb : Below y109.heap.size y109 (y109.alloc (.cells #[.int .i64 3, .int .i64 2, .int .i64 1, .int .i64 5] 3)) := (Below.refl _ _).alloc (Nat.le_refl _) _
                      have KN := Lib.hid (Blk.new y109 3 #[.int .i64 3, .int .i64 2, .int .i64 1, .int .i64 5])
                      (go_wp2_with fail; refine hK.out _ _ ?_ (fun hHeld => ?_); (focus (exact HST.out _ (through HB.out (Nat.le_refl _) hb))); clear hK K; (try simp only [List.setIfInBounds_toArray, List.set_cons_zero, List.set_cons_succ]))
                      obtain ⟨bG, hbk⟩ : ∃ z, y109.heap.size = z := ⟨_, rfl⟩
                      obtain ⟨y110, hY⟩ : ∃ Y, y109.alloc (.cells #[.int .i64 3, .int .i64 2, .int .i64 1, .int .i64 5] 3) = Y := ⟨_, rfl⟩
                      have hY2 := hY
                      skip
                      rw [hY] at hb KN
                      rw [hbk] at KN
                      (try rw [hY2] at hHeld)
                      (try rw [hY2])
                      (try rw [hY])
                      (try rw [hbk])
                      have KG := KN
                      have KA := Lib.hid (KA.out.below hb KA.out.lt)
                      have HB := Lib.hid (through HB.out (Nat.le_refl _) hb)
                      clear hb hY hY2 hbk KN
                      (refine held_one 63 (by kernel_rfl) ?_; simp only [List.getElem?_toArray, List.getElem?_cons_succ, List.getElem?_cons_zero]; intro K hK; go_simp)
                      clear hHeld
                      have hb : Below y110.heap.size y110 (y110.alloc (.cells (blCells [q1, q2, q3]) 4)) := (Below.refl _ _).alloc (Nat.le_refl _) _
                      have KN := Lib.hid (Blk.new y110 4 (blCells [q1, q2, q3]))
                      (go_wp2_with fail; refine hK.out _ _ ?_ (fun hHeld => ?_); (focus (exact HST.out _ (through HB.out (Nat.le_refl _) hb))); clear hK K; (try simp only [List.setIfInBounds_toArray, List.set_cons_zero, List.set_cons_succ]))
                      obtain ⟨bH, hbk⟩ : ∃ z, y110.heap.size = z := ⟨_, rfl⟩
                      obtain ⟨y111, hY⟩ : ∃ Y, y110.alloc (.cells (blCells [q1, q2, q3]) 4) = Y := ⟨_, rfl⟩
                      have hY2 := hY
                      simp only [blCells, List.map_cons, List.map_nil] at hY2
                      rw [hY] at hb KN
                      rw [hbk] at KN
                      (try rw [hY2] at hHeld)
                      (try rw [hY2])
                      (try rw [hY])
                      (try rw [hbk])
                      have KH := KN
                      have KA := Lib.hid (KA.out.below hb KA.out.lt)
                      have KG := Lib.hid (KG.out.below hb KG.out.lt)
                      have HB := Lib.hid (through HB.out (Nat.le_refl _) hb)
                      clear hb hY hY2 hbk KN
                      refine held_listed (listed' := #[true, true, true, true, true, true, true, true, true, true, true, true, true, true, true, true, true, true, true, true, true, true, true, true, true, true, true, true, true, true, true, true, true, true, true, true, true, true, true, true, true, true, true, true, true, true, true, true, true, true, true, true, true, true, true, true, true, true, true, true, true, true, true, true, false, false, false]) (by kernel_rfl) ?_
                      exact J bG bH y111 ⟨HB.out, KA.out, KG.out, KH.out⟩ hHeld
                    · (simp only [List.getElem?_toArray, List.getElem?_cons_succ, List.getElem?_cons_zero]; intro K hK; go_simp)
                      clear hHeld
                      have hb : Below y109.heap.size y109 (y109.alloc (.cells (blCells [q1, q2, q3]) 4)) := (Below.refl _ _).alloc (Nat.le_refl _) _
                      have KN := Lib.hid (Blk.new y109 4 (blCells [q1, q2, q3]))
                      (go_wp2_with fail; refine hK.out _ _ ?_ (fun hHeld => ?_); (focus (exact HST.out _ (through HB.out (Nat.le_refl _) hb))); clear hK K; (try simp only [List.setIfInBounds_toArray, List.set_cons_zero, List.set_cons_succ]))
                      obtain ⟨bH, hbk⟩ : ∃ z, y109.heap.size = z := ⟨_, rfl⟩
                      obtain ⟨y112, hY⟩ : ∃ Y, y109.alloc (.cells (blCells [q1, q2, q3]) 4) = Y := ⟨_, rfl⟩
                      have hY2 := hY
                      simp only [blCells, List.map_cons, List.map_nil] at hY2
                      rw [hY] at hb KN
                      rw [hbk] at KN
                      (try rw [hY2] at hHeld)
                      (try rw [hY2])
                      (try rw [hY])
                      (try rw [hbk])
                      have KH := KN
                      have KA := Lib.hid (KA.out.below hb KA.out.lt)
                      have HB := Lib.hid (through HB.out (Nat.le_refl _) hb)
                      clear hb hY hY2 hbk KN
                      (refine held_one 53 (by kernel_rfl) ?_; simp only [List.getElem?_toArray, List.getElem?_cons_succ, List.getElem?_cons_zero]; intro K hK; go_simp)
                      clear hHeld
                      have hb : Below y112.heap.size y112 (y112.alloc (.cells #[.int .i64 3, .int .i64 2, .int .i64 1, .int .i64 5] 3)) := (Below.refl _ _).alloc (Nat.le_refl _) _
                      have KN := Lib.hid (Blk.new y112 3 #[.int .i64 3, .int .i64 2, .int .i64 1, .int .i64 5])
                      (go_wp2_with fail; refine hK.out _ _ ?_ (fun hHeld => ?_); (focus (exact HST.out _ (through HB.out (Nat.le_refl _) hb))); clear hK K; (try simp only [List.setIfInBounds_toArray, List.set_cons_zero, List.set_cons_succ]))
                      obtain ⟨bG, hbk⟩ : ∃ z, y112.heap.size = z := ⟨_, rfl⟩
                      obtain ⟨y113, hY⟩ : ∃ Y, y112.alloc (.cells #[.int .i64 3, .int .i64 2, .int .i64 1, .int .i64 5] 3) = Y := ⟨_, rfl⟩
                      have hY2 := hY
                      skip
                      rw [hY] at hb KN
                      rw [hbk] at KN
                      (try rw [hY2] at hHeld)
                      (try rw [hY2])
                      (try rw [hY])
                      (try rw [hbk])
                      have KG := KN
                      have KA := Lib.hid (KA.out.below hb KA.out.lt)
                      have KH := Lib.hid (KH.out.below hb KH.out.lt)
                      have HB := Lib.hid (through HB.out (Nat.le_refl _) hb)
                      clear hb hY hY2 hbk KN
                      refine held_listed (listed' := #[true, true, true, true, true, true, true, true, true, true, true, true, true, true, true, true, true, true, true, true, true, true, true, true, true, true, true, true, true, true, true, true, true, true, true, true, true, true, true, true, true, true, true, true, true, true, true, true, true, true, true, true, true, true, true, true, true, true, true, true, true, true, true, true, false, false, false]) (by kernel_rfl) ?_
                      exact J bG bH y113 ⟨HB.out, KA.out, KG.out, KH.out⟩ hHeld
                  case rest =>
                    clear HB KA
                    clear HH0
                    intro bG bH y3 hR hHeld
                    obtain ⟨hr1, hr2, hr3, hr4⟩ := hR
                    have HB := Lib.hid hr1
                    have KA := Lib.hid hr2
                    have KG := Lib.hid hr3
                    have KH := Lib.hid hr4
                    clear hr1 hr2 hr3 hr4
                    (refine held_one 64 (by kernel_rfl) ?_; simp only [List.getElem?_toArray, List.getElem?_cons_succ, List.getElem?_cons_zero]; intro K hK; go_simp)
                    clear hHeld
                    have HC := Lib.hid (solveKeeps_any 4 (some ⟨w.heap.size + 1 + 1 + 1, 0, none⟩) (some ⟨bA, 0, none⟩) (some ⟨bG, 0, none⟩) (some ⟨bH, 0, none⟩) 4 4 4 3 twoL _ (msK ni nk nj) [3, 2, 1, 5] [q1, q2, q3] (by show 4 ≤ _; decide) y3 y3.heap.size (Nat.le_refl _) ((HTW.out y3 HB.out)) (msK_quads KA.out HNI.out HNK.out HNJ.out) (ints_blk (xs := [3, 2, 1, 5]) KG.out (by decide) (by simp [In64])) (bools_blk KH.out (by simp)))
                    refine HC.out.mono ?_
                    rintro e y114 ⟨rfl, hb⟩
                    (go_wp2_with fail; refine hK.out _ _ ?_ (fun hHeld => ?_); (focus (exact HST.out _ (through HB.out (Nat.le_refl _) hb))); clear hK K; (try simp only [List.setIfInBounds_toArray, List.set_cons_zero, List.set_cons_succ]))
                    have KA := Lib.hid (KA.out.below hb KA.out.lt)
                    have KG := Lib.hid (KG.out.below hb KG.out.lt)
                    have KH := Lib.hid (KH.out.below hb KH.out.lt)
                    have HB := Lib.hid (through HB.out (Nat.le_refl _) hb)
                    clear hb HC
                    clear KG KH
                    (refine held_take 65 (by kernel_rfl) (by kernel_rfl) (by kernel_rfl) (by assumption) ?_; simp only [List.getElem?_toArray, List.getElem?_cons_succ, List.getElem?_cons_zero]; refine ⟨fun _ _ _ _ h => h, ?_, Or.inl ⟨by kernel_rfl, ?_⟩, ?_⟩; rotate_left; (focus (intro wS hSw; (try dsimp only at hSw); go_simp; try with_reducible rfl)); (try simp only [Act.put, List.setIfInBounds_toArray, List.set_cons_zero, List.set_cons_succ]))
                    (refine held_take 66 (by kernel_rfl) (by kernel_rfl) (by kernel_rfl) (by assumption) ?_; simp only [List.getElem?_toArray, List.getElem?_cons_succ, List.getElem?_cons_zero]; refine ⟨fun _ _ _ _ h => h, ?_, Or.inl ⟨by kernel_rfl, ?_⟩, ?_⟩; rotate_left; (focus (intro wS hSw; (try dsimp only at hSw); go_simp; try with_reducible rfl)); (try simp only [Act.put, List.setIfInBounds_toArray, List.set_cons_zero, List.set_cons_succ]))
                    (refine wpAnyH_done (by kernel_rfl) ?_ _)
                    clear hHeld KA
                    go_wp2_with fail
                    go_roundw
                    case rel => exact ⟨mo + 3, by omega, by omega, by go_num, HB.out⟩
                    case measure => simp [intOf]; omega
            · go_wp2_with fail
              go_roundw
              case rel => exact ⟨k + 1, by omega, by go_num, HB0.out⟩
              case measure => simp [intOf]; omega
        · obtain rfl : k = 11 := by omega
          go_wp2_with fail
          go_roundw
          case rel => exact ⟨i + 1, by omega, by go_num, HB1.out⟩
          case measure => simp [intOf]; omega
    · obtain rfl : i = 11 := by omega
      go_wp2_with fail
      refine (works_any _).mono ?_
      rintro e w9 ⟨rfl, hb9⟩
      have HB9 := Lib.hid (through (HBW.out.trans (HB1.out.mono HBW.out.size)) (Nat.le_refl _) hb9)
      clear hb9
      go_wp2_with fail
      go_returns
      exact ⟨rfl, HB9.out⟩
end Go.Proofs.Ytcechimilefihaa.So
