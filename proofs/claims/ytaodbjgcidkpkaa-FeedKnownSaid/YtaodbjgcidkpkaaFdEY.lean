/- Feeds that a call lays itself; the chapter's. -/
import Derived.Test.YtaodbjgcidkpkaaFdCY
import Derived.Test.YtaodbjgcidkpkaaFdNY
import Derived.Test.YtaodbjgcidkpkaaZa

namespace Go.Proofs.Ytaodbjgcidkpkaa.Fd
open Go.RowKit M Sp

section
variable {w : World} {g B B1 B2 : Nat} {T : TypeId} {cs : Array Value}
theorem recs_blk {xs : List Rc} (h : Blk w g T cs) (hc : ∀ i, i < xs.length → ∀ j, j < 2 → cs[i * 2 + j]? = some (cellP (xs.getD i (0, 0)) j)) (hl : xs.length ≤ 1000000) (hin : ∀ x ∈ xs, In2 x) : IsRecs w (g + 1) (some ⟨g, 0, none⟩) xs.length xs :=
  ⟨⟨h.lies hc, Nat.le_refl _, by unfold maxLen; omega, hin⟩, by unfold LB; omega⟩
theorem lists_blk {ls : List (List Rc)} (q : Nat → Option Addr × Nat) (h : Blk w g T cs) (hB : B ≤ g + 1) (hc : ∀ i, i < ls.length → cs[i]? = some (.slice (q i).1 (ls.getD i []).length (q i).2)) (hl : ls.length ≤ 1000000)
    (hin : ∀ i, i < ls.length → IsRecs w B (q i).1 (q i).2 (ls.getD i [])) : IsLists w (g + 1) (some ⟨g, 0, none⟩) ls.length ls :=
  ⟨q, h.lies (size := 1) (fun i hi j hj => by obtain rfl : j = 0 := (by omega); simpa using hc i hi), Nat.le_refl _, by unfold maxLen; omega, by unfold LB; omega, fun i hi => (hin i hi).more hB⟩
theorem lists_two {r1 r2 : List Rc} {A1 A2 : Option Addr} {c1 c2 : Nat} (h : Blk w g T #[.slice A1 r1.length c1, .slice A2 r2.length c2]) (h1 : IsRecs w B A1 c1 r1) (h2 : IsRecs w B A2 c2 r2) (hB : B ≤ g + 1) : IsLists w (g + 1) (some ⟨g, 0, none⟩) 2 [r1, r2] := by
  refine lists_blk (ls := [r1, r2]) (fun i => if i = 0 then (A1, c1) else (A2, c2)) h hB (fun i hi => ?_) (by simp) (fun i hi => ?_)
  · have hi' : i < 2 := hi
    rcases (show i = 0 ∨ i = 1 by omega) with rfl | rfl <;> rfl
  · have hi' : i < 2 := hi
    rcases (show i = 0 ∨ i = 1 by omega) with rfl | rfl
    · exact h1
    · exact h2
theorem lists_one {r1 : List Rc} {A1 : Option Addr} {c1 : Nat} (h : Blk w g T #[.slice A1 r1.length c1]) (h1 : IsRecs w B A1 c1 r1) (hB : B ≤ g + 1) : IsLists w (g + 1) (some ⟨g, 0, none⟩) 1 [r1] := by
  refine lists_blk (ls := [r1]) (fun i => (A1, c1)) h hB (fun i hi => ?_) (by simp) (fun i hi => ?_)
  · have hi' : i < 1 := hi
    obtain rfl : i = 0 := by omega
    rfl
  · have hi' : i < 1 := hi
    obtain rfl : i = 0 := by omega
    exact h1
theorem recs_nil (w : World) (B : Nat) : IsRecs w B none 0 [] := ⟨⟨Lies.zero _ _, Nat.le_refl _, Nat.zero_le _, fun x hx => by cases hx⟩, by unfold LB; simp⟩
theorem feeds_nil (w : World) (B : Nat) : IsFeeds w B none 0 [] := ⟨fun _ => (none, 0), Lies.zero _ _, Nat.le_refl _, Nat.zero_le _, by unfold LB; simp, fun i hi => by cases hi⟩
end
theorem in2 {a b : Int} (ha : -1000 ≤ a ∧ a ≤ 1000) (hb : -1000 ≤ b ∧ b ≤ 1000) : In2 (a, b) := by
  constructor <;> (unfold In64; simp only; omega)

def aF : List Fp := [⟨0, [[(1, 5), (1, 6)], [(2, 5)]]⟩]
def bF : List Fp := [⟨0, [[(1, 5)], [(1, 6)]]⟩]
def zF : List Fp := [⟨0, [[]]⟩]
theorem chk_a : chkF oneF aF = 0 := by decide +kernel
theorem chk_b : chkF oneF bF = 10 := by decide +kernel
theorem chk_n : chkF oneF [] = 8 := by decide +kernel
theorem chk_z : chkF oneF zF = 3 := by decide +kernel
theorem keys_a : keysF aF = [1, 2] := by decide +kernel
theorem cnt_a : cntF aF = 3 := by decide +kernel
theorem cnt_b : cntF bF = 2 := by decide +kernel
theorem cnt_z : cntF zF = 0 := by decide +kernel

theorem mem_a {w W : World} {n : Nat} (hn : w.heap.size = n) (hW : (((w.alloc (.cells #[.int .i64 1, .int .i64 5, .int .i64 1, .int .i64 6] 57)).alloc (.cells #[.int .i64 2, .int .i64 5] 57)).alloc (.cells #[.slice (some ⟨n, 0, none⟩) 2 2, .slice (some ⟨n + 1, 0, none⟩) 1 1] 49)).alloc
    (.cells #[.int .i64 0, .slice (some ⟨n + 1 + 1, 0, none⟩) 2 2] 47) = W) : Below n w W ∧ W.heap.size = n + 4 ∧ IsFeeds W (n + 4) (some ⟨n + 1 + 1 + 1, 0, none⟩) 1 aF := by
  have h := (((((Bs.nil w n).alloc (by omega) #[.int .i64 1, .int .i64 5, .int .i64 1, .int .i64 6] 57 hn).alloc (by omega) #[.int .i64 2, .int .i64 5] 57 (g := n + 1) (by simp [hn])).alloc (by omega) #[.slice (some ⟨n, 0, none⟩) 2 2, .slice (some ⟨n + 1, 0, none⟩) 1 1] 49 (g := n + 1 + 1) (by simp [hn])).alloc (by omega) #[.int .i64 0, .slice (some ⟨n + 1 + 1, 0, none⟩) 2 2] 47 (g := n + 1 + 1 + 1) (by simp [hn]))
  rw [hW] at h
  refine ⟨h.1, by rw [← hW]; simp [hn], ?_⟩
  have k3 := h.g0
  have k2 := h.tail.g0
  have k1 := h.tail.tail.g0
  have k0 := h.tail.tail.tail.g0
  simp only at k0 k1 k2 k3
  have r0 := recs_blk (xs := [(1, 5), (1, 6)]) k0 (fun i hi j hj => by
    have hi' : i < 2 := hi
    rcases (show i = 0 ∨ i = 1 by omega) with rfl | rfl <;> rcases (show j = 0 ∨ j = 1 by omega) with rfl | rfl <;> rfl) (by simp) (fun x hx => by
    rcases List.mem_cons.1 hx with rfl | hx
    · exact in2 (by omega) (by omega)
    · obtain rfl : x = (1, 6) := by simpa using hx
      exact in2 (by omega) (by omega))
  have r1 := recs_blk (xs := [(2, 5)]) k1 (fun i hi j hj => by
    have hi' : i < 1 := hi
    obtain rfl : i = 0 := by omega
    rcases (show j = 0 ∨ j = 1 by omega) with rfl | rfl <;> rfl) (by simp) (fun x hx => by
    obtain rfl : x = (2, 5) := by simpa using hx
    exact in2 (by omega) (by omega))
  have l := lists_two (r1 := [(1, 5), (1, 6)]) (r2 := [(2, 5)]) k2 (r0.more (by omega)) r1 (by omega)
  exact feeds_one (f := ⟨0, [[(1, 5), (1, 6)], [(2, 5)]]⟩) k3 (by unfold In64; simp) l (by omega)
theorem mem_b {w W : World} {n : Nat} (hn : w.heap.size = n) (hW : (((w.alloc (.cells #[.int .i64 1, .int .i64 5] 57)).alloc (.cells #[.int .i64 1, .int .i64 6] 57)).alloc (.cells #[.slice (some ⟨n, 0, none⟩) 1 1, .slice (some ⟨n + 1, 0, none⟩) 1 1] 49)).alloc
    (.cells #[.int .i64 0, .slice (some ⟨n + 1 + 1, 0, none⟩) 2 2] 47) = W) : Below n w W ∧ W.heap.size = n + 4 ∧ IsFeeds W (n + 4) (some ⟨n + 1 + 1 + 1, 0, none⟩) 1 bF := by
  have h := (((((Bs.nil w n).alloc (by omega) #[.int .i64 1, .int .i64 5] 57 hn).alloc (by omega) #[.int .i64 1, .int .i64 6] 57 (g := n + 1) (by simp [hn])).alloc (by omega) #[.slice (some ⟨n, 0, none⟩) 1 1, .slice (some ⟨n + 1, 0, none⟩) 1 1] 49 (g := n + 1 + 1) (by simp [hn])).alloc (by omega) #[.int .i64 0, .slice (some ⟨n + 1 + 1, 0, none⟩) 2 2] 47 (g := n + 1 + 1 + 1) (by simp [hn]))
  rw [hW] at h
  refine ⟨h.1, by rw [← hW]; simp [hn], ?_⟩
  have k3 := h.g0
  have k2 := h.tail.g0
  have k1 := h.tail.tail.g0
  have k0 := h.tail.tail.tail.g0
  simp only at k0 k1 k2 k3
  have r0 := recs_blk (xs := [(1, 5)]) k0 (fun i hi j hj => by
    have hi' : i < 1 := hi
    obtain rfl : i = 0 := by omega
    rcases (show j = 0 ∨ j = 1 by omega) with rfl | rfl <;> rfl) (by simp) (fun x hx => by
    obtain rfl : x = (1, 5) := by simpa using hx
    exact in2 (by omega) (by omega))
  have r1 := recs_blk (xs := [(1, 6)]) k1 (fun i hi j hj => by
    have hi' : i < 1 := hi
    obtain rfl : i = 0 := by omega
    rcases (show j = 0 ∨ j = 1 by omega) with rfl | rfl <;> rfl) (by simp) (fun x hx => by
    obtain rfl : x = (1, 6) := by simpa using hx
    exact in2 (by omega) (by omega))
  have l := lists_two (r1 := [(1, 5)]) (r2 := [(1, 6)]) k2 (r0.more (by omega)) r1 (by omega)
  exact feeds_one (f := ⟨0, [[(1, 5)], [(1, 6)]]⟩) k3 (by unfold In64; simp) l (by omega)
end Go.Proofs.Ytaodbjgcidkpkaa.Fd
