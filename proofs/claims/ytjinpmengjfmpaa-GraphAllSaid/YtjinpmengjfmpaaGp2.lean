/- All tasks, from any memory. -/
import Derived.Test.YtjinpmengjfmpaaGp1
import Derived.WideLaws
import Derived.RangeFuncBound
import Derived.Maps.AppendAt
namespace Go.Proofs.Ytjinpmengjfmpaa.Gp
open Go.ChangeShapes Go.WideShapes Go.ChangeAt Go.RowKit Go.Shelf M
attribute [local go_sem] Oper.semAt_some

theorem spots_any (v : Value) (hv : ∃ A n c, v = .slice A n c) (w : World) :
    Calls Try.prog 55 #[v] w
      fun e w' => e = .returned (.func (.func 79) #[] #[.pointer (some ⟨w.heap.size, 0, none⟩)]) ∧ w' = w.alloc (.cells #[v] 22) := by
  obtain ⟨A, n, c, rfl⟩ := hv
  go_enter Try.func55, Try.ntmps55
  go_wp2_with fail
  go_returns
  exact ⟨by simp, rfl⟩

theorem spots_stops (n : Nat) (hn : 1 ≤ n) (Bp n₀ : Nat) (A : Option Addr) (c : Nat) (par : List Int) (hN : (spotsN par).length ≤ 1000000) (w : World) (hBp : Bp < w.heap.size) (hn₀ : n₀ ≤ w.heap.size)
    (hc : w.cell? ⟨Bp, 0, none⟩ = some (.slice A par.length c)) (hI : IsInts w n₀ ⟨A, c, par⟩) :
    SeqStopsK Fence.wide n Try.prog 79 #[.pointer (some ⟨Bp, 0, none⟩)] (fun x : Tri => #[Value.int .i64 (x.1 : Int), .agg #[.int .i64 (x.2.1 : Int), .int .i64 (x.2.2 : Int)]])
      (Below n₀) (fun ys => ys = spotsN par) (fun pre => pre <+: spotsN par) (spotsN par).length w :=
  fun l J Jx W hW _ _ hY h0 => spots1_in n hn l Bp n₀ A c par hN J Jx (fun pre x W h1 h2 _ => hY pre x W h1 h2) W ((hW.cell (p := ⟨Bp, 0, none⟩) hBp).trans hc) (hI.below (hW.mono hn₀)) h0

/-- a task of the job -/
abbrev TriS (par : List Int) := { x : Tri // x ∈ spotsN par }
def vals {par : List Int} (l : List (TriS par)) : List Tri := l.map Subtype.val
theorem spots_stopsS (n : Nat) (hn : 1 ≤ n) (Bp n₀ : Nat) (A : Option Addr) (c : Nat) (par : List Int) (hN : (spotsN par).length ≤ 1000000) (w : World) (hBp : Bp < w.heap.size) (hn₀ : n₀ ≤ w.heap.size)
    (hc : w.cell? ⟨Bp, 0, none⟩ = some (.slice A par.length c)) (hI : IsInts w n₀ ⟨A, c, par⟩) :
    SeqStopsK Fence.wide n Try.prog 79 #[.pointer (some ⟨Bp, 0, none⟩)] (fun x : TriS par => #[Value.int .i64 (x.1.1 : Int), .agg #[.int .i64 (x.1.2.1 : Int), .int .i64 (x.1.2.2 : Int)]])
      (Below n₀) (fun ys => vals ys = spotsN par) (fun pre => vals pre <+: spotsN par) (spotsN par).length w :=
  fun l J Jx W hW _ _ hY h0 =>
    (spots1_in n hn l Bp n₀ A c par hN (fun pre W => ∃ p : List (TriS par), vals p = pre ∧ J p W) (fun pre W => ∃ p : List (TriS par), vals p = pre ∧ Jx p W)
      (fun pre x W ⟨p, hp, hJ⟩ h2 hx => YieldAt.mono (hY p ⟨x, hx⟩ W hJ (by rw [← hp] at h2; simpa [vals] using h2)) fun e W' h => by
        rcases h with ⟨h1, h2, h3⟩ | ⟨h1, h2⟩
        · exact .inl ⟨h1, ⟨_, by simp [vals, ← hp], h2⟩, h3⟩
        · exact .inr ⟨h1, ⟨_, by simp [vals, ← hp], h2⟩⟩)
      W ((hW.cell (p := ⟨Bp, 0, none⟩) hBp).trans hc) (hI.below (hW.mono hn₀)) ⟨[], rfl, h0⟩).mono fun e W' ⟨h1, h2⟩ => ⟨h1, by
        rcases h2 with ⟨ys, rfl, p, hp, hJ⟩ | ⟨pre, hpre, p, hp, hJ⟩
        · exact .inl ⟨p, hp, hJ⟩
        · exact .inr ⟨p, (show vals p <+: spotsN par by rw [hp]; exact hpre), hJ⟩⟩

theorem blk_own {β : Type} (B : Nat) (t : TypeId) (f : β → Array Value) : Own (fun s W => Blk W B t (f s)) := fun s X Y row hs hg hrow =>
  hs.grown hg (fun e' => by obtain ⟨o, ho, hc⟩ := hrow B e'.symm; rw [show X.heap[B]? = _ from hs] at ho; cases ho; cases hc)
theorem spotT : IsPT 24 27 := ⟨Try.underlying27, by kernel_rfl⟩

set_option maxRecDepth 100000 in
set_option maxHeartbeats 4000000 in
theorem tasks_any (A : Option Addr) (c : Nat) (par : List Int) (w : World) (hN : (spotsN par).length ≤ 1000000) (hI : IsInts w w.heap.size ⟨A, c, par⟩) :
    Calls Try.prog 17 #[.slice A par.length c] w (RetPairs 24 w (spotsP par)) := by
  refine (callsIn_wide (n := 6)).1 ?_
  refine callsIn_of_wp_marks Try.func17 rfl trivial ?_ rfl
  simp only [Try.ntmps17, List.size_toArray, List.length_cons, List.length_nil, Nat.reduceAdd, Nat.reduceSub, Array.replicate_succ, Array.replicate_zero, List.push_toArray, List.append_toArray, List.nil_append, List.cons_append]
  gi_wp2
  refine ⟨trivial, (callsIn_wide.2 (spots_any _ ⟨_, _, _, rfl⟩ _)).mono ?_⟩
  rintro e w' ⟨rfl, rfl⟩
  gi_wp2
  have bV := (Boxed.new w 27 (.slice none 0 0)).alloc (.cells #[.slice A par.length c] 22)
  have bP := Boxed.new (w.alloc (.cells #[.slice none 0 0] 27)) 22 (.slice A par.length c)
  simp only [World.size_alloc] at bP
  obtain ⟨W0, hW0⟩ : ∃ W0, ((w.alloc (.cells #[.slice none 0 0] 27)).alloc (.cells #[.slice A par.length c] 22)) = W0 := ⟨_, rfl⟩
  have hB0 : Below w.heap.size w W0 := hW0 ▸ (((Below.refl _ w).alloc (Nat.le_refl _) _).alloc (by simp) _)
  have hsz : W0.heap.size = w.heap.size + 2 := by rw [← hW0]; simp
  rw [hW0] at bV bP ⊢
  clear hW0
  refine wpIn_rangeFunc_ownH rfl (by omega) (gf := 79) (lb := #[.pointer (some ⟨w.heap.size + 1, 0, none⟩)]) rfl trivial (enters_of Try.func79 (by kernel_rfl) rfl)
    (spots_stops (6 - 1) (by omega) (w.heap.size + 1) w.heap.size A c par hN W0 (by omega) (by omega) bP.cell (hI.below hB0)) belowK_t (belowK_b (by omega)) (Below.refl _ _) (fun _ => rfl)
    (fun pre W => (∃ v, Boxed W w.heap.size 27 v ∧ W.ownsRow w.heap.size 24 2 v pre.length (pairCells (prs pre)) ∧ True) ∧ Below w.heap.size w W)
    (fun _ _ _ => False)
    (OwnFrom.and (Own.from (holdsRow_own w.heap.size w.heap.size 27 24 2 (fun pre => pre.length) (fun pre => pairCells (prs pre)) (fun _ _ => True)) _) (ownFrom_below (Nat.le_refl _) (by omega)))
    (fun _ _ _ _ _ hs _ _ => hs)
    ⟨⟨_, bV, World.ownsRow_nil _ _ _ _, trivial⟩, hB0⟩
    (fun x a' W => ∃ Bx, w.heap.size < Bx ∧ Blk W Bx 24 #[.int .i64 (x.2.1 : Int), .int .i64 (x.2.2 : Int)] ∧ a' = { tmps := #[.slice A par.length c, undef, .slice none 0 0, .pointer (some ⟨w.heap.size, 0, none⟩), undef, .pointer (some ⟨Bx, 0, none⟩), .slice A par.length c, .func (.func 79) #[] #[.pointer (some ⟨w.heap.size + 1, 0, none⟩)], .int .i64 (x.1 : Int), .agg #[.int .i64 (x.2.1 : Int), .int .i64 (x.2.2 : Int)], undef, undef, undef, undef, undef], defers := [] })
    (fun x a' _ X Y row hs hg hr => by obtain ⟨Bx, h1, h2, h3⟩ := hs; exact ⟨Bx, h1, blk_own Bx 24 (fun (_ : Unit) => #[.int .i64 (x.2.1 : Int), .int .i64 (x.2.2 : Int)]) () X Y row h2 hg (fun r e => (hr r e).2), h3⟩)
    ?assign ?body ?done ?stop
  case assign =>
    rintro l pre x W K ⟨⟨v, hv, hrow, -⟩, hB⟩ hK
    gi_wp2
    exact hK _ _ ((KeepsOthers.alloc _ _).from _) ((Below.refl _ W).alloc hB.size _) ⟨⟨v, hv.alloc _, hrow.alloc _, trivial⟩, hB.alloc hB.size _⟩ ⟨W.heap.size, hv.lt, Blk.new W _ _, rfl⟩
  case body =>
    rintro l pre x a' W - - ⟨⟨v, hv, hrow, -⟩, hB⟩ ⟨Bx, hBx, hX, rfl⟩ hlt
    have cV := hv.cell
    have x0 := hX.cell 0
    have x1 := hX.cell 1
    simp at x0 x1
    have HB := Lib.hid hB
    have HV := Lib.hid hv
    have HR := Lib.hid hrow
    obtain ⟨i0, hi, hz0, hz1, hz2⟩ := info_parts spotT.2
    have HI := Lib.hid hi
    have HZ0 := Lib.hid hz0
    have HZ1 := Lib.hid hz1
    have HZ2 := Lib.hid hz2
    have HPL : Hid (pre.length ≤ 1000000) := Lib.hid (by omega)
    have HNQ : Hid (∀ cs, Blk (W.alloc (.cells cs 24)) W.heap.size 24 cs) := Lib.hid (fun cs => Blk.new W 24 cs)
    clear hi hz0 hz1 hz2 hB hv hrow hX hlt hN hI bV bP hB0
    gi_wp2_with (gi_at_builtin; refine wpListIn_append_own _ rfl _ _ 27 rfl w.heap.size 24 i0 _ 2 16 spotT.1 HI.out HZ0.out HZ1.out HZ2.out rfl (by decide) _ _ _ rfl (HR.out.alloc _) ⟨W.heap.size, 0, none⟩ 1 1 [.int .i64 (x.2.1 : Int), .int .i64 (x.2.2 : Int)] rfl rfl (news_pair (u := ((x.2.1 : Int), (x.2.2 : Int))) ((HNQ.out _).cell 0) ((HNQ.out _).cell 1)) (news_one (u := ((x.2.1 : Int), (x.2.2 : Int)))) (by have := HPL.out; unfold maxLen; omega) (by have := HPL.out; omega) (by have := HB.out.size; simp; omega) ?_; intro v' w1 hown' hgrow _; obtain ⟨g', cap', rfl⟩ := ownsRow_succ hown'; obtain ⟨hv1, hv2, hr2, hk2, hb2⟩ := HV.out.appended (by decide) HR.out HB.out.size (Nat.le_refl _) hown' hgrow; have hc1 := hv1.cell; have hf1 := hv1.frozen; have HG := Lib.hid hgrow)
    refine ⟨hk2.from _, hb2, ⟨_, hv2, ?_, trivial⟩, HB.out.trans hb2⟩
    rw [prs_snoc, pairCells_snoc, List.length_append]; exact hr2
  case done =>
    rintro D ys W hD rfl ⟨⟨v, hv, hrow, -⟩, hB⟩ hK
    have hc := hv.cell
    gi_wp2
    refine ⟨by simp, .inl ⟨_, _, rfl, run_takeDeferred hK, ?_⟩⟩
    refine ⟨_, results_tmp rfl _ _ _, ret_pairs ⟨?_, ?_⟩ (hB.trans (belowK_b (w := w) (Nat.le_refl _) W D _ _ (by rw [hsz] at hD; omega) hK rfl rfl))⟩
    · rw [spotsP_len]; exact ownsRow_putObj hrow _ hK rfl
    · intro y hy
      obtain ⟨z, hz, rfl⟩ := List.mem_map.1 hy
      have h1 := mem_spots hz
      have h2 := ints_in64 hI z.2.1
      have h3 := ints_len9 hI
      unfold In64 at h2
      unfold In2 In64
      simp only
      omega
  case stop =>
    rintro D c pre W _ _ h _
    exact h.elim
end Go.Proofs.Ytjinpmengjfmpaa.Gp
