/- What each statement of this law asks of the chapter's feeds: the calls. -/
import Derived.Test.YtaodbjgcidkpkaaFdWY
import Derived.Test.YtaodbjgcidkpkaaFdEY
import Derived.Test.YtaodbjgcidkpkaaZi
import Derived.Test.YtaodbjgcidkpkaaZa

namespace Go.Proofs.Ytaodbjgcidkpkaa.Fd
open Go.ChangeShapes Go.WideShapes Go.ChangeAt Go.RowKit M Sp

theorem chk_call {Y : World} {g q : Nat} {A : Option Addr} {c k : Nat} {fs : List Fp} {v : Int} (ho : IsOps Y Y.heap.size (some ⟨g, 0, none⟩) oneF (twoP q)) (hf : IsFeeds Y Y.heap.size A c fs) (hk : fs.length = k) (hn : k ≤ 1000) (hm : cntF fs ≤ 1000000) (hv : chkF oneF fs = v) :
    Calls Try.prog 38 #[.agg #[.int .i64 4, .slice (some ⟨g, 0, none⟩) 2 2], .slice A k c] Y fun e w' => e = .returned (.int .i64 v) ∧ Below Y.heap.size Y w' := by
  have := fcheck_any 4 (some ⟨g, 0, none⟩) A 2 c oneF (twoP q) fs Y Y.heap.size (Nat.le_refl _) ho (by decide) hf (by omega) hm
  rw [hv, hk] at this
  exact this
theorem keys_a_call {Y : World} {A : Option Addr} {c : Nat} (hf : IsFeeds Y Y.heap.size A c aF) :
    Calls Try.prog 34 #[.slice A 1 c] Y fun e w' => ∃ A1 c1, e = .returned (.slice A1 2 c1) ∧ IsInts w' w'.heap.size ⟨A1, c1, [1, 2]⟩ ∧ Below Y.heap.size Y w' := by
  have := keys_any A c aF Y Y.heap.size (Nat.le_refl _) hf (by rw [cnt_a]; omega)
  rw [keys_a] at this
  refine this.mono ?_
  rintro e w' ⟨A1, c1, he, ho, hb⟩
  exact ⟨A1, c1, he, ho.ints, hb⟩
theorem same_a_call {Y : World} {A1 : Option Addr} {c1 g : Nat} (h : IsInts Y Y.heap.size ⟨A1, c1, [1, 2]⟩) (k : Blk Y g 3 #[.int .i64 1, .int .i64 2]) :
    Calls Try.prog 16 #[.slice A1 2 c1, .slice (some ⟨g, 0, none⟩) 2 2] Y fun e w' => e = .returned (.bool true) ∧ Below Y.heap.size Y w' := by
  have := sameInts_any A1 (some ⟨g, 0, none⟩) c1 2 [1, 2] [1, 2] _ _ Y h (ints_blk (xs := [1, 2]) k (by decide) (by simp [In64]))
  rw [sameB_yes rfl] at this
  exact this
theorem cnt_a_call {Y : World} {A : Option Addr} {c : Nat} (hf : IsFeeds Y Y.heap.size A c aF) :
    Calls Try.prog 36 #[.slice A 1 c] Y fun e w' => e = .returned (.int .i64 3) ∧ Below Y.heap.size Y w' := by
  have := cnt_any A c aF Y Y.heap.size (Nat.le_refl _) hf (by rw [cnt_a]; omega)
  rw [cnt_a] at this
  exact this
theorem infoL : (Try.prog.info? 49).map (fun i => (i.zero, i.size, i.bytes)) = some (some (.slice none 0 0), 1, 24) := by kernel_rfl
theorem make_l (w : World) : (Instr.makeSlice 45 (.int .i64 1) (.int .i64 1)).run Try.prog w = .ok (.slice (some ⟨w.heap.size, 0, none⟩) 1 1) (w.alloc (.cells #[.slice none 0 0] 49)) := by
  obtain ⟨i0, hi, hz0, hz1, hz2⟩ := info_parts infoL
  have := run_make (P := Try.prog) w 45 49 i0 _ Try.underlying45 hi hz0 .i64 .i64 ((1 : Nat) : Int) ((1 : Nat) : Int) (by omega) (Int.le_refl _) (by rw [hz2]; omega) (by omega)
  have hm : madeCells #[Value.slice none 0 0] 1 = #[.slice none 0 0] := Array.toList_inj.1 (by rw [toList_madeCells_one]; rfl)
  rw [show (Value.int .i64 1) = .int .i64 ((1 : Nat) : Int) from rfl, this, hz1]
  simp only [Int.toNat_natCast, Value.cells, Nat.mul_one]
  rw [hm]
theorem mem_z {w2 : World} {g2 : Nat} {g1 : Nat} (h1 : Blk w2 g1 49 #[.slice none 0 0]) (h2 : Blk w2 g2 47 #[.int .i64 0, .slice (some ⟨g1, 0, none⟩) 1 1]) (hlt : g1 ≤ g2) : IsFeeds w2 w2.heap.size (some ⟨g2, 0, none⟩) 1 zF := by
  have l := lists_one (r1 := []) (A1 := none) (c1 := 0) h1 (recs_nil w2 0) (by omega)
  exact (feeds_one (f := ⟨0, [[]]⟩) h2 (by unfold In64; simp) l (by omega)).more h2.lt
end Go.Proofs.Ytaodbjgcidkpkaa.Fd
