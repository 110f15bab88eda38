/- The feeds of the chapter's closed statement, as a call lays them. -/
import Derived.Test.YtaodbjgcidkpkaaFdEY

namespace Go.Proofs.Ytaodbjgcidkpkaa.Fd
open Go.RowKit M Sp

def mkR (i : Nat) : Rc := (((i % 7 : Nat) : Int), (i : Int))
def manyR : List Rc := (List.range 200).map mkR
theorem manyR_len : manyR.length = 200 := by simp [manyR]
def fullF : List Fp := [⟨0, [manyR, []]⟩]
def moreF : List Fp := [⟨0, [manyR, [(99, 0)]]⟩]
def pL : List (List Rc) := [[(1, 0)]]
def qL : List (List Rc) := [[(2, 0), (-9223372036854775808, 0)]]
theorem chk_full : chkF oneF fullF = 0 := by decide +kernel
theorem chk_more : chkF oneF moreF = 3 := by decide +kernel
theorem cnt_full : cntF fullF = 200 := by decide +kernel
theorem cnt_more : cntF moreF = 201 := by decide +kernel
theorem feeds_two {w : World} {g B : Nat} {T : TypeId} {f1 f2 : Fp} {A1 A2 : Option Addr} {c1 c2 : Nat} (h : Blk w g T #[.int .i64 f1.op, .slice A1 f1.parts.length c1, .int .i64 f2.op, .slice A2 f2.parts.length c2]) (o1 : In64 f1.op) (o2 : In64 f2.op) (l1 : IsLists w B A1 c1 f1.parts) (l2 : IsLists w B A2 c2 f2.parts) (hB : B ≤ g + 1) : IsFeeds w (g + 1) (some ⟨g, 0, none⟩) 2 [f1, f2] := by
  refine ⟨fun i => if i = 0 then (A1, c1) else (A2, c2), h.lies fun i hi j hj => ?_, Nat.le_refl _, by unfold maxLen; omega, by unfold LB; simp, fun i hi => ?_⟩
  · have hi' : i < 2 := hi
    rcases (show i = 0 ∨ i = 1 by omega) with rfl | rfl <;> rcases (show j = 0 ∨ j = 1 by omega) with rfl | rfl <;> rfl
  · have hi' : i < 2 := hi
    rcases (show i = 0 ∨ i = 1 by omega) with rfl | rfl
    · exact ⟨o1, l1.more hB⟩
    · exact ⟨o2, l2.more hB⟩
theorem lists_nil (w : World) (B : Nat) : IsLists w B none 0 [] := ⟨fun _ => (none, 0), Lies.zero _ _, Nat.le_refl _, Nat.zero_le _, by unfold LB; simp, fun i hi => by cases hi⟩
theorem rec_one {w : World} {g : Nat} {T : TypeId} {a : Int} (h : Blk w g T #[.int .i64 a, .int .i64 0]) (ha : In64 a) : IsRecs w (g + 1) (some ⟨g, 0, none⟩) 1 [(a, 0)] :=
  recs_blk (xs := [(a, 0)]) h (fun i hi j hj => by
    have hi' : i < 1 := hi
    obtain rfl : i = 0 := by omega
    rcases (show j = 0 ∨ j = 1 by omega) with rfl | rfl <;> rfl) (by simp) (fun x hx => by
    obtain rfl : x = (a, 0) := by simpa using hx
    exact ⟨ha, by unfold In64; simp only; omega⟩)
theorem mem6 {A0 : Option Addr} {c0 B : Nat} {W W1 : World} {n : Nat} (hn : W.heap.size = n) (hW : ((W.alloc (.cells #[.slice A0 200 c0, .slice none 0 0] 49)).alloc (.cells #[.int .i64 0, .slice (some ⟨n, 0, none⟩) 2 2] 47)) = W1) (hr : IsRecs W B A0 c0 manyR) (hB : B ≤ n) : Below n W W1 ∧ W1.heap.size = n + 2 ∧ IsFeeds W1 (n + 2) (some ⟨n + 1, 0, none⟩) 1 fullF := by
  have h := (((Bs.nil W n).alloc (by omega) #[.slice A0 200 c0, .slice none 0 0] 49 (g := n) (by simp [hn])).alloc (by omega) #[.int .i64 0, .slice (some ⟨n, 0, none⟩) 2 2] 47 (g := n + 1) (by simp [hn]))
  rw [hW] at h
  refine ⟨h.1, by rw [← hW]; simp [hn], ?_⟩
  have k1 := h.g0
  have k0 := h.tail.g0
  simp only at k0 k1
  rw [show (Value.slice A0 200 c0) = .slice A0 manyR.length c0 by rw [manyR_len]] at k0
  have l := lists_two (r1 := manyR) (r2 := []) k0 (hr.below (h.1.mono hB)) (recs_nil W1 B) (by omega)
  exact feeds_one (f := ⟨0, [manyR, []]⟩) k1 (by unfold In64; simp) l (by omega)
theorem mem7 {A0 : Option Addr} {c0 B : Nat} {W W1 : World} {n : Nat} (hn : W.heap.size = n) (hW : (((W.alloc (.cells #[.int .i64 99, .int .i64 0] 57)).alloc (.cells #[.slice A0 200 c0, .slice (some ⟨n, 0, none⟩) 1 1] 49)).alloc (.cells #[.int .i64 0, .slice (some ⟨n + 1, 0, none⟩) 2 2] 47)) = W1) (hr : IsRecs W B A0 c0 manyR) (hB : B ≤ n) : Below n W W1 ∧ W1.heap.size = n + 3 ∧ IsFeeds W1 (n + 3) (some ⟨n + 1 + 1, 0, none⟩) 1 moreF := by
  have h := ((((Bs.nil W n).alloc (by omega) #[.int .i64 99, .int .i64 0] 57 (g := n) (by simp [hn])).alloc (by omega) #[.slice A0 200 c0, .slice (some ⟨n, 0, none⟩) 1 1] 49 (g := n + 1) (by simp [hn])).alloc (by omega) #[.int .i64 0, .slice (some ⟨n + 1, 0, none⟩) 2 2] 47 (g := n + 1 + 1) (by simp [hn]))
  rw [hW] at h
  refine ⟨h.1, by rw [← hW]; simp [hn], ?_⟩
  have k2 := h.g0
  have k1 := h.tail.g0
  have k0 := h.tail.tail.g0
  simp only at k0 k1 k2
  rw [show (Value.slice A0 200 c0) = .slice A0 manyR.length c0 by rw [manyR_len]] at k1
  have r1 := rec_one k0 (by unfold In64; omega)
  have l := lists_two (r1 := manyR) (r2 := [(99, 0)]) k1 ((hr.below (h.1.mono hB)).more (show B ≤ n + 1 by omega)) r1 (by omega)
  exact feeds_one (f := ⟨0, [manyR, [(99, 0)]]⟩) k2 (by unfold In64; simp) l (by omega)
def dblF : List OpP := [⟨1, [], 0, 0, 0, 1, 1, 1⟩, ⟨1, [], 0, 0, 0, 1, 1, 1⟩, ⟨7, [0, 1], 0, 0, 0, 0, 0, 1⟩, ⟨8, [2], 0, 0, 0, 0, 0, 1⟩]
def dblP (n : Nat) (i : Nat) : Option Addr × Nat := if i = 2 then (some ⟨n, 0, none⟩, 2) else if i = 3 then (some ⟨n + 1, 0, none⟩, 1) else (none, 0)
theorem mem8  {W W1 : World} {n : Nat} (hn : W.heap.size = n) (hW : ((((W.alloc (.cells #[.int .i64 0, .int .i64 1] 3)).alloc (.cells #[.int .i64 2] 3)).alloc (.cells #[.int .i64 1, .slice none 0 0, .int .i64 0, .int .i64 0, .int .i64 0, .int .i64 1, .int .i64 1, .int .i64 1, .int .i64 1, .slice none 0 0, .int .i64 0, .int .i64 0, .int .i64 0, .int .i64 1, .int .i64 1, .int .i64 1, .int .i64 7, .slice (some ⟨n, 0, none⟩) 2 2, .int .i64 0, .int .i64 0, .int .i64 0, .int .i64 0, .int .i64 0, .int .i64 1, .int .i64 8, .slice (some ⟨n + 1, 0, none⟩) 1 1, .int .i64 0, .int .i64 0, .int .i64 0, .int .i64 0, .int .i64 0, .int .i64 1] 40)).alloc (.cells #[.int .i64 4, .slice (some ⟨n + 1 + 1, 0, none⟩) 4 4] 24)) = W1) : Below n W W1 ∧ W1.heap.size = n + 4 ∧ IsOps W1 W1.heap.size (some ⟨n + 1 + 1, 0, none⟩) dblF (dblP n) ∧ Blk W1 (n + 1 + 1 + 1) 24 #[.int .i64 4, .slice (some ⟨n + 1 + 1, 0, none⟩) 4 4] := by
  have h := (((((Bs.nil W n).alloc (by omega) #[.int .i64 0, .int .i64 1] 3 (g := n) (by simp [hn])).alloc (by omega) #[.int .i64 2] 3 (g := n + 1) (by simp [hn])).alloc (by omega) #[.int .i64 1, .slice none 0 0, .int .i64 0, .int .i64 0, .int .i64 0, .int .i64 1, .int .i64 1, .int .i64 1, .int .i64 1, .slice none 0 0, .int .i64 0, .int .i64 0, .int .i64 0, .int .i64 1, .int .i64 1, .int .i64 1, .int .i64 7, .slice (some ⟨n, 0, none⟩) 2 2, .int .i64 0, .int .i64 0, .int .i64 0, .int .i64 0, .int .i64 0, .int .i64 1, .int .i64 8, .slice (some ⟨n + 1, 0, none⟩) 1 1, .int .i64 0, .int .i64 0, .int .i64 0, .int .i64 0, .int .i64 0, .int .i64 1] 40 (g := n + 1 + 1) (by simp [hn])).alloc (by omega) #[.int .i64 4, .slice (some ⟨n + 1 + 1, 0, none⟩) 4 4] 24 (g := n + 1 + 1 + 1) (by simp [hn]))
  rw [hW] at h
  refine ⟨h.1, by rw [← hW]; simp [hn], ?_⟩
  have k3 := h.g0
  have k2 := h.tail.g0
  have k1 := h.tail.tail.g0
  have k0 := h.tail.tail.tail.g0
  simp only at k0 k1 k2 k3
  refine ⟨ops_blk k2 (fun i hi j hj => ?_) (fun i hi => ?_), k3⟩
  · have hi' : i < 4 := hi
    rcases (show i = 0 ∨ i = 1 ∨ i = 2 ∨ i = 3 by omega) with rfl | rfl | rfl | rfl <;> rcases (show j = 0 ∨ j = 1 ∨ j = 2 ∨ j = 3 ∨ j = 4 ∨ j = 5 ∨ j = 6 ∨ j = 7 by omega) with rfl | rfl | rfl | rfl | rfl | rfl | rfl | rfl <;> rfl
  · have hi' : i < 4 := hi
    rcases (show i = 0 ∨ i = 1 ∨ i = 2 ∨ i = 3 by omega) with rfl | rfl | rfl | rfl
    · exact ⟨by unfold OpIn In64; decide, ints_nil _ _ (Nat.zero_le _)⟩
    · exact ⟨by unfold OpIn In64; decide, ints_nil _ _ (Nat.zero_le _)⟩
    · exact ⟨by unfold OpIn In64; decide, ints_blk (xs := [0, 1]) k0 (by decide) (by simp [In64])⟩
    · exact ⟨by unfold OpIn In64; decide, ints_blk (xs := [2]) k1 (by decide) (by simp [In64])⟩
theorem mem9  {W W1 : World} {n : Nat} (hn : W.heap.size = n) (hW : ((W.alloc (.cells #[.int .i64 1, .int .i64 0] 57)).alloc (.cells #[.slice (some ⟨n, 0, none⟩) 1 1] 49)) = W1) : Below n W W1 ∧ W1.heap.size = n + 2 ∧ IsLists W1 (n + 2) (some ⟨n + 1, 0, none⟩) 1 pL := by
  have h := (((Bs.nil W n).alloc (by omega) #[.int .i64 1, .int .i64 0] 57 (g := n) (by simp [hn])).alloc (by omega) #[.slice (some ⟨n, 0, none⟩) 1 1] 49 (g := n + 1) (by simp [hn]))
  rw [hW] at h
  refine ⟨h.1, by rw [← hW]; simp [hn], ?_⟩
  have k1 := h.g0
  have k0 := h.tail.g0
  simp only at k0 k1
  have r0 := rec_one k0 (by unfold In64; omega)
  exact lists_one (r1 := [(1, 0)]) k1 r0 (by omega)
theorem mem10  {W W1 : World} {n : Nat} (hn : W.heap.size = n) (hW : ((W.alloc (.cells #[.int .i64 2, .int .i64 0, .int .i64 (-9223372036854775808), .int .i64 0] 57)).alloc (.cells #[.slice (some ⟨n, 0, none⟩) 2 2] 49)) = W1) : Below n W W1 ∧ W1.heap.size = n + 2 ∧ IsLists W1 (n + 2) (some ⟨n + 1, 0, none⟩) 1 qL := by
  have h := (((Bs.nil W n).alloc (by omega) #[.int .i64 2, .int .i64 0, .int .i64 (-9223372036854775808), .int .i64 0] 57 (g := n) (by simp [hn])).alloc (by omega) #[.slice (some ⟨n, 0, none⟩) 2 2] 49 (g := n + 1) (by simp [hn]))
  rw [hW] at h
  refine ⟨h.1, by rw [← hW]; simp [hn], ?_⟩
  have k1 := h.g0
  have k0 := h.tail.g0
  simp only at k0 k1
  have r0 := recs_blk (xs := [(2, 0), (-9223372036854775808, 0)]) k0 (fun i hi j hj => by
    have hi' : i < 2 := hi
    rcases (show i = 0 ∨ i = 1 by omega) with rfl | rfl <;> rcases (show j = 0 ∨ j = 1 by omega) with rfl | rfl <;> rfl) (by simp) (fun x hx => by
    rcases List.mem_cons.1 hx with rfl | hx
    · exact ⟨by unfold In64; simp, by unfold In64; simp⟩
    · obtain rfl : x = (-9223372036854775808, 0) := by simpa using hx
      exact ⟨by unfold In64; simp, by unfold In64; simp⟩)
  exact lists_one (r1 := [(2, 0), (-9223372036854775808, 0)]) k1 r0 (by omega)
theorem mem11 {bp bq f0 f1 : Nat} {W W1 : World} {n : Nat} (hn : W.heap.size = n) (hW : ((((((((W.alloc (.cells #[.int .i64 0, .slice (some ⟨bp, 0, none⟩) 1 1, .int .i64 1, .slice (some ⟨bq, 0, none⟩) 1 1] 47)).alloc (.cells #[.int .i64 1, .slice (some ⟨bp, 0, none⟩) 1 1, .int .i64 0, .slice (some ⟨bq, 0, none⟩) 1 1] 47)).alloc (.cells #[.int .i64 0, .slice (some ⟨bp, 0, none⟩) 1 1, .int .i64 1, .slice (some ⟨bp, 0, none⟩) 1 1] 47)).alloc (.cells #[.int .i64 0, .slice (some ⟨bp, 0, none⟩) 1 1] 47)).alloc (.cells #[.int .i64 0, .slice (some ⟨bp, 0, none⟩) 1 1, .int .i64 0, .slice (some ⟨bq, 0, none⟩) 1 1] 47)).alloc (.cells #[.int .i64 (-1), .slice none 0 0, .int .i64 99, .slice none 0 0] 47)).alloc (.cells #[.int .i64 0, .slice none 0 0, .int .i64 1, .slice none 0 0] 47)).alloc (.cells #[.slice (some ⟨f0, 0, none⟩) 1 1, .slice (some ⟨f1, 0, none⟩) 1 1, .slice (some ⟨n, 0, none⟩) 2 2, .slice (some ⟨n + 1, 0, none⟩) 2 2, .slice (some ⟨n + 1 + 1, 0, none⟩) 2 2, .slice (some ⟨n + 1 + 1 + 1, 0, none⟩) 1 1, .slice (some ⟨n + 1 + 1 + 1 + 1, 0, none⟩) 2 2, .slice (some ⟨n + 1 + 1 + 1 + 1 + 1, 0, none⟩) 2 2, .slice (some ⟨n + 1 + 1 + 1 + 1 + 1 + 1, 0, none⟩) 2 2] 42)) = W1) (hp : IsLists W n (some ⟨bp, 0, none⟩) 1 pL) (hq : IsLists W n (some ⟨bq, 0, none⟩) 1 qL) (h0 : IsFeeds W n (some ⟨f0, 0, none⟩) 1 fullF) (h1 : IsFeeds W n (some ⟨f1, 0, none⟩) 1 moreF) : Below n W W1 ∧ W1.heap.size = n + 8 ∧ ∀ i, i < 9 → ∃ A c fs, W1.cell? ⟨n + 1 + 1 + 1 + 1 + 1 + 1 + 1, i, none⟩ = some (.slice A (List.length fs) c) ∧ IsFeeds W1 W1.heap.size A c fs := by
  have h := (((((((((Bs.nil W n).alloc (by omega) #[.int .i64 0, .slice (some ⟨bp, 0, none⟩) 1 1, .int .i64 1, .slice (some ⟨bq, 0, none⟩) 1 1] 47 (g := n) (by simp [hn])).alloc (by omega) #[.int .i64 1, .slice (some ⟨bp, 0, none⟩) 1 1, .int .i64 0, .slice (some ⟨bq, 0, none⟩) 1 1] 47 (g := n + 1) (by simp [hn])).alloc (by omega) #[.int .i64 0, .slice (some ⟨bp, 0, none⟩) 1 1, .int .i64 1, .slice (some ⟨bp, 0, none⟩) 1 1] 47 (g := n + 1 + 1) (by simp [hn])).alloc (by omega) #[.int .i64 0, .slice (some ⟨bp, 0, none⟩) 1 1] 47 (g := n + 1 + 1 + 1) (by simp [hn])).alloc (by omega) #[.int .i64 0, .slice (some ⟨bp, 0, none⟩) 1 1, .int .i64 0, .slice (some ⟨bq, 0, none⟩) 1 1] 47 (g := n + 1 + 1 + 1 + 1) (by simp [hn])).alloc (by omega) #[.int .i64 (-1), .slice none 0 0, .int .i64 99, .slice none 0 0] 47 (g := n + 1 + 1 + 1 + 1 + 1) (by simp [hn])).alloc (by omega) #[.int .i64 0, .slice none 0 0, .int .i64 1, .slice none 0 0] 47 (g := n + 1 + 1 + 1 + 1 + 1 + 1) (by simp [hn])).alloc (by omega) #[.slice (some ⟨f0, 0, none⟩) 1 1, .slice (some ⟨f1, 0, none⟩) 1 1, .slice (some ⟨n, 0, none⟩) 2 2, .slice (some ⟨n + 1, 0, none⟩) 2 2, .slice (some ⟨n + 1 + 1, 0, none⟩) 2 2, .slice (some ⟨n + 1 + 1 + 1, 0, none⟩) 1 1, .slice (some ⟨n + 1 + 1 + 1 + 1, 0, none⟩) 2 2, .slice (some ⟨n + 1 + 1 + 1 + 1 + 1, 0, none⟩) 2 2, .slice (some ⟨n + 1 + 1 + 1 + 1 + 1 + 1, 0, none⟩) 2 2] 42 (g := n + 1 + 1 + 1 + 1 + 1 + 1 + 1) (by simp [hn]))
  rw [hW] at h
  refine ⟨h.1, by rw [← hW]; simp [hn], ?_⟩
  have k7 := h.g0
  have k6 := h.tail.g0
  have k5 := h.tail.tail.g0
  have k4 := h.tail.tail.tail.g0
  have k3 := h.tail.tail.tail.tail.g0
  have k2 := h.tail.tail.tail.tail.tail.g0
  have k1 := h.tail.tail.tail.tail.tail.tail.g0
  have k0 := h.tail.tail.tail.tail.tail.tail.tail.g0
  simp only at k0 k1 k2 k3 k4 k5 k6 k7
  have hs : W1.heap.size = n + 8 := by rw [← hW]; simp [hn]
  have p1 := hp.below h.1
  have q1 := hq.below h.1
  have g0 := (h0.below h.1).more (show n ≤ W1.heap.size by omega)
  have g1 := (h1.below h.1).more (show n ≤ W1.heap.size by omega)
  have f2 := (feeds_two (f1 := ⟨0, pL⟩) (f2 := ⟨1, qL⟩) k0 (by unfold In64; simp) (by unfold In64; simp) p1 q1 (by omega)).more (show n + 1 ≤ W1.heap.size by omega)
  have f3 := (feeds_two (f1 := ⟨1, pL⟩) (f2 := ⟨0, qL⟩) k1 (by unfold In64; simp) (by unfold In64; simp) p1 q1 (by omega)).more (show n + 1 + 1 ≤ W1.heap.size by omega)
  have f4 := (feeds_two (f1 := ⟨0, pL⟩) (f2 := ⟨1, pL⟩) k2 (by unfold In64; simp) (by unfold In64; simp) p1 p1 (by omega)).more (show n + 1 + 1 + 1 ≤ W1.heap.size by omega)
  have f5 := (feeds_one (f := ⟨0, pL⟩) k3 (by unfold In64; simp) p1 (by omega)).more (show n + 1 + 1 + 1 + 1 ≤ W1.heap.size by omega)
  have f6 := (feeds_two (f1 := ⟨0, pL⟩) (f2 := ⟨0, qL⟩) k4 (by unfold In64; simp) (by unfold In64; simp) p1 q1 (by omega)).more (show n + 1 + 1 + 1 + 1 + 1 ≤ W1.heap.size by omega)
  have f7 := (feeds_two (f1 := ⟨-1, []⟩) (f2 := ⟨99, []⟩) k5 (by unfold In64; simp) (by unfold In64; simp) (lists_nil W1 n) (lists_nil W1 n) (by omega)).more (show n + 1 + 1 + 1 + 1 + 1 + 1 ≤ W1.heap.size by omega)
  have f8 := (feeds_two (f1 := ⟨0, []⟩) (f2 := ⟨1, []⟩) k6 (by unfold In64; simp) (by unfold In64; simp) (lists_nil W1 n) (lists_nil W1 n) (by omega)).more (show n + 1 + 1 + 1 + 1 + 1 + 1 + 1 ≤ W1.heap.size by omega)
  intro i hi
  rcases (show i = 0 ∨ i = 1 ∨ i = 2 ∨ i = 3 ∨ i = 4 ∨ i = 5 ∨ i = 6 ∨ i = 7 ∨ i = 8 by omega) with rfl | rfl | rfl | rfl | rfl | rfl | rfl | rfl | rfl
  · exact ⟨_, _, fullF, (k7.cell 0).trans rfl, g0⟩
  · exact ⟨_, _, moreF, (k7.cell 1).trans rfl, g1⟩
  · exact ⟨_, _, [⟨0, pL⟩, ⟨1, qL⟩], (k7.cell 2).trans rfl, f2⟩
  · exact ⟨_, _, [⟨1, pL⟩, ⟨0, qL⟩], (k7.cell 3).trans rfl, f3⟩
  · exact ⟨_, _, [⟨0, pL⟩, ⟨1, pL⟩], (k7.cell 4).trans rfl, f4⟩
  · exact ⟨_, _, [⟨0, pL⟩], (k7.cell 5).trans rfl, f5⟩
  · exact ⟨_, _, [⟨0, pL⟩, ⟨0, qL⟩], (k7.cell 6).trans rfl, f6⟩
  · exact ⟨_, _, [⟨-1, []⟩, ⟨99, []⟩], (k7.cell 7).trans rfl, f7⟩
  · exact ⟨_, _, [⟨0, []⟩, ⟨1, []⟩], (k7.cell 8).trans rfl, f8⟩
end Go.Proofs.Ytaodbjgcidkpkaa.Fd
