/- A task's number, from any memory. -/
import Derived.Test.YtjinpmengjfmpaaGp2
namespace Go.Proofs.Ytjinpmengjfmpaa.Gp
open Go.ChangeShapes Go.WideShapes Go.ChangeAt Go.RowKit Go.Shelf M
attribute [local go_sem] Oper.semAt_some

/-- a task's number; -1: it is none -/
def idxP (L : List (Int × Int)) (s : Int × Int) : Int := match L.findIdx? (fun y => decide (y = s)) with | some k => (k : Int) | none => -1
theorem idxP_none {L : List (Int × Int)} {s : Int × Int} (h : ∀ y ∈ L, y ≠ s) : idxP L s = -1 := by
  unfold idxP
  have : L.findIdx? (fun y => decide (y = s)) = none := by
    rw [List.findIdx?_eq_none_iff]; intro y hy; simpa using h y hy
  rw [this]
theorem idxP_at {p r : List (Int × Int)} {s : Int × Int} (h : ∀ y ∈ p, y ≠ s) : idxP (p ++ s :: r) s = p.length := by
  unfold idxP
  have : (p ++ s :: r).findIdx? (fun y => decide (y = s)) = some p.length := by
    rw [List.findIdx?_append]
    have e : p.findIdx? (fun y => decide (y = s)) = none := by rw [List.findIdx?_eq_none_iff]; intro y hy; simpa using h y hy
    rw [e]
    simp [List.findIdx?_cons]
  rw [this]

set_option maxRecDepth 100000 in
set_option maxHeartbeats 4000000 in
theorem index_any (A : Option Addr) (c : Nat) (par : List Int) (s : Int × Int) (w : World) (hN : (spotsN par).length ≤ 1000000) (hI : IsInts w w.heap.size ⟨A, c, par⟩) :
    Calls Try.prog 20 #[.slice A par.length c, .agg #[.int .i64 s.1, .int .i64 s.2]] w fun e w' => e = .returned (.int .i64 (idxP (spotsP par) s)) ∧ Below w.heap.size w w' := by
  refine (callsIn_wide (n := 6)).1 ?_
  refine callsIn_of_wp_marks Try.func20 rfl trivial ?_ rfl
  simp only [Try.ntmps20, List.size_toArray, List.length_cons, List.length_nil, Nat.reduceAdd, Nat.reduceSub, Array.replicate_succ, Array.replicate_zero, List.push_toArray, List.append_toArray, List.nil_append, List.cons_append]
  gi_wp2
  refine ⟨trivial, (callsIn_wide.2 (spots_any _ ⟨_, _, _, rfl⟩ _)).mono ?_⟩
  rintro e w' ⟨rfl, rfl⟩
  gi_wp2
  obtain ⟨s1, s2⟩ := s
  have bS := ((Blk.new w 24 #[.int .i64 s1, .int .i64 s2]).alloc (.cells #[.int .i64 0] 3)).alloc (.cells #[.slice A par.length c] 22)
  have bR := (Boxed.new (w.alloc (.cells #[.int .i64 s1, .int .i64 s2] 24)) 3 (.int .i64 0)).alloc (.cells #[.slice A par.length c] 22)
  have bP := Boxed.new ((w.alloc (.cells #[.int .i64 s1, .int .i64 s2] 24)).alloc (.cells #[.int .i64 0] 3)) 22 (.slice A par.length c)
  simp only [World.size_alloc] at bP bR
  obtain ⟨W0, hW0⟩ : ∃ W0, (((w.alloc (.cells #[.int .i64 s1, .int .i64 s2] 24)).alloc (.cells #[.int .i64 0] 3)).alloc (.cells #[.slice A par.length c] 22)) = W0 := ⟨_, rfl⟩
  have hB0 : Below w.heap.size w W0 := hW0 ▸ ((((Below.refl _ w).alloc (Nat.le_refl _) _).alloc (by simp) _).alloc (by simp; omega) _)
  have hsz : W0.heap.size = w.heap.size + 3 := by rw [← hW0]; simp
  rw [hW0] at bS bR bP
  simp only
  rw [hW0]
  clear hW0
  refine wpIn_rangeFunc_ownH rfl (by omega) (gf := 79) (lb := #[.pointer (some ⟨w.heap.size + 1 + 1, 0, none⟩)]) rfl trivial (enters_of Try.func79 (by kernel_rfl) rfl)
    (spots_stops (6 - 1) (by omega) (w.heap.size + 1 + 1) w.heap.size A c par hN W0 (by omega) (by omega) bP.cell (hI.below hB0)) belowK_t (belowK_b (by omega)) (Below.refl _ _) (fun _ => rfl)
    (fun pre W => (((∀ y ∈ prs pre, y ≠ (s1, s2)) ∧ Blk W w.heap.size 24 #[.int .i64 s1, .int .i64 s2]) ∧ Boxed W (w.heap.size + 1) 3 (.int .i64 0)) ∧ Below w.heap.size w W)
    (fun k pre W => (∃ p x, (k = .ret ∧ pre = p ++ [x] ∧ (∀ y ∈ prs p, y ≠ (s1, s2)) ∧ ((x.2.1 : Int), (x.2.2 : Int)) = (s1, s2)) ∧ Boxed W (w.heap.size + 1) 3 (.int .i64 (x.1 : Int))) ∧ Below w.heap.size w W)
    (OwnFrom.and (OwnFrom.and (OwnFrom.and (ownFrom_pure _ _) (Own.from (blk_own _ _ _) _)) (Own.from (boxed_own _ _ _) _)) (ownFrom_below (Nat.le_refl _) (by omega)))
    (fun k => OwnFrom.and (fun pre X Y row hs hg hr => by obtain ⟨p, x, h1, h2⟩ := hs; exact ⟨p, x, h1, boxed_own _ 3 (fun (_ : Unit) => .int .i64 (x.1 : Int)) () X Y row h2 hg (fun r e => (hr r e).2)⟩) (ownFrom_below (Nat.le_refl _) (by omega)))
    ⟨⟨⟨by simp [prs], bS⟩, bR⟩, hB0⟩
    (fun x a' W => ∃ Bx, w.heap.size < Bx ∧ Blk W Bx 24 #[.int .i64 (x.2.1 : Int), .int .i64 (x.2.2 : Int)] ∧ a' = { tmps := #[.slice A par.length c, .agg #[.int .i64 s1, .int .i64 s2], undef, .pointer (some ⟨w.heap.size, 0, none⟩), .pointer (some ⟨w.heap.size + 1, 0, none⟩), .int .i64 (x.1 : Int), .pointer (some ⟨Bx, 0, none⟩), .slice A par.length c, .func (.func 79) #[] #[.pointer (some ⟨w.heap.size + 1 + 1, 0, none⟩)], .int .i64 (x.1 : Int), .agg #[.int .i64 (x.2.1 : Int), .int .i64 (x.2.2 : Int)], undef, undef, undef, undef], defers := [] })
    (fun x a' _ X Y row hs hg hr => by obtain ⟨Bx, h1, h2, h3⟩ := hs; exact ⟨Bx, h1, blk_own Bx 24 (fun (_ : Unit) => #[.int .i64 (x.2.1 : Int), .int .i64 (x.2.2 : Int)]) () X Y row h2 hg (fun r e => (hr r e).2), h3⟩)
    ?assign ?body ?done ?stop
  case assign =>
    rintro l pre x W K ⟨⟨⟨hne, hS⟩, hR⟩, hB⟩ hK
    gi_wp2
    exact hK _ _ ((KeepsOthers.alloc _ _).from _) ((Below.refl _ W).alloc hB.size _) ⟨⟨⟨hne, hS.alloc _⟩, hR.alloc _⟩, hB.alloc hB.size _⟩ ⟨W.heap.size, hS.lt, Blk.new W _ _, rfl⟩
  case body =>
    rintro l pre x a' W - - ⟨⟨⟨hne, hS⟩, hR⟩, hB⟩ ⟨Bx, hBx, hX, rfl⟩ hlt
    have s0 := hS.cell 0
    have s1' := hS.cell 1
    have x0 := hX.cell 0
    have x1 := hX.cell 1
    have r0 := hR.cell
    have f0 := hR.frozen
    simp at s0 s1' x0 x1
    have HB := Lib.hid hB
    have HR := Lib.hid hR
    have HS := Lib.hid hS
    have HNE := Lib.hid hne
    clear hlt hN hI bS bR bP hB0 hne hS hR hB hX
    by_cases h1 : (x.2.1 : Int) = s1
    · have t1 : ((x.2.1 : Int) == s1) = true := by simpa using h1
      by_cases h2 : (x.2.2 : Int) = s2
      · have t2 : ((x.2.2 : Int) == s2) = true := by simpa using h2
        have HE := Lib.hid (show ((x.2.1 : Int), (x.2.2 : Int)) = (s1, s2) by rw [h1, h2])
        clear h1 h2
        gi_wp2
        exact ⟨(KeepsOthers.setCell _ _ _).from _, ⟨pre, x, ⟨rfl, rfl, HNE.out, HE.out⟩, HR.out.set _⟩, HB.out.setCell (p := ⟨w.heap.size + 1, 0, none⟩) (by simp) _⟩
      · have t2 : ((x.2.2 : Int) == s2) = false := by simpa using h2
        have HE := Lib.hid (show ((x.2.1 : Int), (x.2.2 : Int)) ≠ (s1, s2) from fun e => h2 (by injection e))
        clear h1 h2
        gi_wp2
        exact ⟨KeepsFrom.refl _ _, Below.refl _ _, ⟨⟨by rw [prs_snoc]; intro y hy; rcases List.mem_append.1 hy with hy | hy; exact HNE.out y hy; simp at hy; subst hy; exact HE.out, HS.out⟩, HR.out⟩, HB.out⟩
    · have t1 : ((x.2.1 : Int) == s1) = false := by simpa using h1
      have HE := Lib.hid (show ((x.2.1 : Int), (x.2.2 : Int)) ≠ (s1, s2) from fun e => h1 (by injection e))
      clear h1
      gi_wp2
      exact ⟨KeepsFrom.refl _ _, Below.refl _ _, ⟨⟨by rw [prs_snoc]; intro y hy; rcases List.mem_append.1 hy with hy | hy; exact HNE.out y hy; simp at hy; subst hy; exact HE.out, HS.out⟩, HR.out⟩, HB.out⟩
  case done =>
    rintro D ys W hD rfl ⟨⟨⟨hne, hS⟩, hR⟩, hB⟩ hK
    have r0 := hR.cell
    have f0 := hR.frozen
    gi_wp2
    have hK' := (KeepsOthers.setCell W ⟨w.heap.size + 1, 0, none⟩ (.int .i64 (-1))).same D _ hK rfl
    refine ⟨by simp, .inl ⟨_, _, rfl, run_takeDeferred hK', ?_⟩⟩
    have hc5 := ((hR.set (.int .i64 (-1))).kept (grownBy_putObj' _ D (.deferred none)) (by intro e; injection e with e; omega)).cell
    refine ⟨.int .i64 (-1), ?_, by rw [show idxP (spotsP par) (s1, s2) = -1 from idxP_none hne], (hB.setCell (p := ⟨w.heap.size + 1, 0, none⟩) (by simp) _).trans (belowK_b (w := w) (Nat.le_refl _) _ D _ _ (by omega) hK' rfl rfl)⟩
    simp [results, Try.f20, go_sem, hc5]
  case stop =>
    rintro D k pre W hD hpre ⟨⟨p, x, ⟨rfl, rfl, hne, he⟩, hR⟩, hB⟩ hK
    gi_wp2
    refine ⟨by simp, .inl ⟨_, _, rfl, run_takeDeferred hK, ?_⟩⟩
    have hc5 := (hR.kept (grownBy_putObj' _ D (.deferred none)) (by intro e; injection e with e; omega)).cell
    obtain ⟨r, hr⟩ := hpre
    have hp : p.length < (spotsN par).length := by rw [← hr]; simp
    have hx : x.1 = p.length := by
      have h1 := upto_num (par := par) par.length p.length hp
      have h2 : (spotsN par)[p.length]? = some x := by rw [← hr]; simp
      have h3 : (spotsN par)[p.length] = x := by rw [List.getElem?_eq_getElem hp] at h2; injection h2
      exact (congrArg Prod.fst h3).symm.trans h1
    have hi : idxP (spotsP par) (s1, s2) = (x.1 : Int) := by
      unfold spotsP
      rw [← hr, ← he, hx]
      have e : prs (p ++ [x] ++ r) = prs p ++ ((x.2.1 : Int), (x.2.2 : Int)) :: prs r := by simp [prs]
      rw [e, idxP_at (by rw [he]; exact hne), prs_len]
    refine ⟨.int .i64 (x.1 : Int), ?_, by rw [hi], hB.trans (belowK_b (w := w) (Nat.le_refl _) W D _ _ (by omega) hK rfl rfl)⟩
    simp [results, Try.f20, go_sem, hc5]
end Go.Proofs.Ytjinpmengjfmpaa.Gp
