/- The document's word on what is wrong with feeds. -/
import Derived.Test.YtaodbjgcidkpkaaFdH2Y
import Derived.Test.YtaodbjgcidkpkaaFdWY
import Derived.Test.YtaodbjgcidkpkaaFdQY
import Derived.BigQuiet

namespace Go.Proofs.Ytaodbjgcidkpkaa.Fd
open Go.ChangeShapes Go.WideShapes Go.ChangeAt Go.RowKit M Sp

/-- a list of lists of records that stand elsewhere -/
def Refs (w : World) (B : Nat) (v : Value) (ls : List (List Rc)) (q : Nat → Sl) : Prop := w.ownsRow B 49 1 v ls.length (lisC ls q)
section
variable {w w' : World} {B B' : Nat} {v : Value} {ls : List (List Rc)} {q : Nat → Sl}
theorem Refs.nil (w : World) (B : Nat) (q : Nat → Sl) : Refs w B (.slice none 0 0) [] q := World.ownsRow_nil _ _ _ _
theorem Refs.below (h : Refs w B v ls q) (hb : Below w.heap.size w w') : Refs w' B v ls q := World.ownsRow.kept h (below_grown hb) (ne_none _)
theorem Refs.form (h : Refs w B v ls q) : ∃ A c, v = .slice A ls.length c := by
  rcases h.2 with ⟨hv, hn⟩ | ⟨g, cap, cur, hv, -⟩
  · exact ⟨none, 0, by rw [hv, hn]⟩
  · exact ⟨_, cap, hv⟩
theorem Refs.lt (h : Refs w B v ls q) : ∀ g, v.ownBlock = some g → B ≤ g ∧ g < w.heap.size := World.ownsRow.lt h
theorem Refs.at_ {A : Option Addr} {n c : Nat} (h : Refs w B (.slice A n c) ls q) {i : Nat} (hi : i < ls.length) : ∃ g, A = some ⟨g, 0, none⟩ ∧ B ≤ g ∧ g < w.heap.size ∧ w.cell? ⟨g, i, none⟩ = some (.slice (q i).1 (ls.getD i []).length (q i).2) := by
  obtain ⟨g, cap, hv, _, hlt⟩ := World.ownsRow.form h (by omega)
  injection hv with e1 e2 e3
  subst e1
  have h1 := World.ownsRow.cells h (g := g) rfl i _ (lisC_get hi)
  rw [Go.WideShapes.add_plain] at h1
  exact ⟨g, rfl, (h.lt g rfl).1, hlt, by simpa using h1⟩
end
theorem app_ref {o : Oper} {a : Act} {w : World} {v : Value} {ls : List (List Rc)} {q : Nat → Sl} {ops : Array Oper} {rest : List Oper} {Q : Exit → Act → World → Prop} (hgd : o.guard = none) (s x : Operand)
    (ho : o.op = .call { callee := .builtin .append, args := #[s, x], argTypes := #[45, 45] }) (B : Nat) {r : List Rc} {z : Sl} (hown : Refs w B v ls q) (hs : a.eval s = v)
    (hx : a.eval x = .slice (some ⟨w.heap.size, 0, none⟩) 1 1) (hlen : ls.length < 1000000000) (hB : B ≤ w.heap.size)
    (h : ∀ v' w2, Refs w2 B v' (ls ++ [r]) (upQ q ls.length z) → Below B w w2 → wpList Try.prog ops Q rest (a.put o.dst v') w2) : wpList Try.prog ops Q (o :: rest) a (w.alloc (.cells #[.slice z.1 r.length z.2] 49)) := by
  obtain ⟨i0, hi, hz0, hz1, hz2⟩ := info_parts infoLs
  have hb := Blk.new w 49 #[.slice z.1 r.length z.2]
  refine wpList_append_own _ hgd s x 45 ho B 49 i0 _ 1 24 Try.underlying45 hi hz0 hz1 hz2 rfl (by decide) v ls.length _ hs (World.ownsRow.alloc hown _) ⟨w.heap.size, 0, none⟩ 1 1 [.slice z.1 r.length z.2] hx rfl ?_ ?_ (by unfold maxLen; omega) (by omega) (by simp; omega) ?_
  · intro j u hj
    match j, hj with
    | 0, hj => simp at hj; subst hj; exact hb.cell 0
    | j + 1, hj => simp at hj
  · intro u hu
    have : u = .slice z.1 r.length z.2 := by simpa using hu
    subst this; rfl
  · intro v' w' h1 h2 _
    refine h v' w' ?_ (((Below.refl _ _).alloc hB _).grown h2 (by simp; omega) (fun g hg => (hown.lt g hg).1))
    show w'.ownsRow B 49 1 v' (ls ++ [r]).length (lisC (ls ++ [r]) (upQ q ls.length z))
    rw [List.length_append, lisC_snoc]; exact h1

theorem NoSh.symm {a b : List Rc} (h : NoSh a b) : NoSh b a := fun x hx hy => h x hy hx
/-- all partitions -/
def partsA (fs : List Fp) : List (List Rc) := fs.flatMap (·.parts)
theorem partsA_len (fs : List Fp) : (partsA fs).length = prtF fs := by
  unfold partsA prtF
  induction fs with
  | nil => rfl
  | cons f fs ih => rw [List.flatMap_cons, List.length_append, ih, List.map_cons, List.sum_cons]
theorem partsA_take {fs : List Fp} {k : Nat} {f : Fp} (hk : k < fs.length) (hf : fs.getD k default = f) : partsA (fs.take (k + 1)) = partsA (fs.take k) ++ f.parts := by
  unfold partsA; rw [take_snocG hk hf]; simp
theorem shared {fs : List Fp} {i m : Nat} (hm : m < i) (hi : i < (partsA fs).length) (h : ¬ NoSh ((partsA fs).getD i []) ((partsA fs).getD m [])) : keysE fs = 10 := by
  refine if_neg fun ha => h ?_
  have := List.pairwise_iff_getElem.1 ha m i (by unfold partsA at hi; omega) (by unfold partsA at hi; omega) hm
  rw [getD_el hi, getD_el (show m < (partsA fs).length by omega)]
  exact this.symm
theorem unshared {fs : List Fp} (h : ∀ m i, m < i → i < (partsA fs).length → NoSh ((partsA fs).getD i []) ((partsA fs).getD m [])) : keysE fs = 0 := by
  refine if_pos (List.pairwise_iff_getElem.2 fun m i hm hi hlt => ?_)
  have h1 := h m i hlt hi
  rw [getD_el (show i < (partsA fs).length from hi), getD_el (show m < (partsA fs).length from hm)] at h1
  exact h1.symm
theorem map_of_get {fs : List Fp} {ks : List Int} (hl : fs.length = ks.length) (h : ∀ j, j < fs.length → (fs.getD j default).op = ks.getD j 0) : fs.map (·.op) = ks := by
  apply List.ext_getElem (by simpa using hl)
  intro i h1 h2
  have hi : i < fs.length := by simpa using h1
  have := h i hi
  rw [getD_el hi, getD_el h2] at this
  simpa using this

set_option maxRecDepth 100000 in
set_option maxHeartbeats 8000000 in
theorem rchk_any (g : Int) (A Af : Option Addr) (c cf : Nat) (l : List OpP) (p : Nat → Option Addr × Nat) (fs : List Fp) (w : World) (B : Nat) (hB : B ≤ w.heap.size) (h : IsOps w B A l p) (hl : l.length ≤ 1000000) (hf : IsFeeds w B Af cf fs) (hn : fs.length ≤ 1000) (hp : prtF fs ≤ 1000000) (hm : cntF fs ≤ 1000000) :
    Calls Try.prog 39 #[.agg #[.int .i64 g, .slice A l.length c], .slice Af fs.length cf] w fun e w' => e = .returned (.int .i64 (chkF l fs)) ∧ Below w.heap.size w w' := by
  have HM := Lib.hid hm
  have HPN := Lib.hid hp
  obtain ⟨X, hX⟩ : ∃ X, w.alloc (.cells #[.int .i64 g, .slice A l.length c] 24) = X := ⟨_, rfl⟩
  have hbX : Below w.heap.size w X := hX ▸ (Below.refl _ w).alloc (Nat.le_refl _) _
  have hsX : w.heap.size + 1 = X.heap.size := by rw [← hX]; simp
  have KS := Lib.hid (show Blk X w.heap.size 24 #[.int .i64 g, .slice A l.length c] by rw [← hX]; exact Blk.new _ _ _)
  have HO := Lib.hid (show IsOps X B A l p by rw [← hX]; exact h.alloc hB _)
  have HF := Lib.hid (hf.below (hbX.mono hB))
  have HE := Lib.hid (show ∀ w', Below X.heap.size X w' → Below w.heap.size w w' from fun w' hb => through hbX (Nat.le_refl _) (hb.mono (by omega)))
  have hbX0 : B ≤ X.heap.size := by omega
  have HRS := Lib.hid (refSources_any g A c l p X B hbX0 HO.out hl)
  clear h hf hbX hm hp
  go_enter Try.func39, Try.ntmps39
  go_upto_region 1 with (fail)
  (try rw [hX])
  have hsz : w.heap.size < X.heap.size := by omega
  clear hX hsX
  have ks0 := KS.out.cell 0
  have ks1 := KS.out.cell 1
  go_wp2_with fail
  refine HRS.out.mono ?_
  rintro e w2 ⟨A2, c2, rfl, hown, hb2⟩
  have HW := Lib.hid hown
  have HB := Lib.hid hb2
  clear hown hb2 HRS ks0 ks1
  by_cases hlen : fs.length = (kindF l 1).length
  · have t0 : ((fs.length : Int) != ((kindF l 1).length : Int)) = false := by rw [hlen]; simp
    have HLEN := Lib.hid hlen
    have hkl : (kindF l 1).length ≤ 1000 := by omega
    clear hlen
    go_wp2_with fail
    go_loopw [6] (fun u wr => ∃ k : Nat, k ≤ fs.length ∧ u = .int .i64 k ∧ (∀ j, j < k → (fs.getD j default).op = (kindF l 1).getD j 0) ∧ Below w2.heap.size w2 wr) (fun u _ => fs.length - (Go.RowKit.intOf u).toNat)
    case atStart => exact ⟨0, by omega, rfl, fun j hj => absurd hj (by omega), Below.refl _ _⟩
    case round =>
      obtain ⟨k, hk, rfl, hall, hbl⟩ := hrel
      have HBL := Lib.hid hbl
      have HALL := Lib.hid hall
      clear hall hbl
      by_cases hlt : k < fs.length
      · obtain ⟨b, o, f, A', c', rfl, hb, HV, hop, c0, c1, hli⟩ := feeds_at HF.out hlt
        obtain ⟨b3, o3, y, rfl, hb3, HY, -, d0⟩ := Sp.ints_at HW.out.ints (k := k) (by rw [← HLEN.out]; exact hlt)
        have hXw : X.heap.size ≤ w2.heap.size := HB.out.size
        have e0 := (through HB.out (Nat.le_refl _) HBL.out |>.cell (p := ⟨b, o + k * 2, none⟩) (by show b < _; omega)).trans c0
        have e3 := (HBL.out.cell (p := ⟨b3, o3 + k, none⟩) hb3).trans d0
        have hkn : (k : Int) < (fs.length : Int) := by omega
        have hkm : (k : Int) < ((kindF l 1).length : Int) := by have := HLEN.out; omega
        clear c0 c1 hli hop d0
        by_cases he : f.op = y
        · have ht : (f.op != y) = false := by simp [he]
          have HEY := Lib.hid he
          clear he
          go_upto_region 7 with (fail)
          go_quiet (fail)
          go_wp2_with fail
          go_roundw
          case rel => exact ⟨k + 1, by omega, by go_num, fun j hj => by
            rcases (show j < k ∨ j = k by omega) with h1 | rfl
            · exact HALL.out j h1
            · rw [HV.out, HY.out, HEY.out], below_drewN HBL.out _⟩
          case measure => simp [Go.RowKit.intOf]; omega
        · have ht : (f.op != y) = true := by simp [he]
          have HI := Lib.hid (chkF_input (l := l) (fs := fs) fun hc => he (by
            rw [← HV.out, ← HY.out, ← hc, getD_el hlt, getD_el (by simpa using hlt)]; simp))
          clear he
          go_upto_region 7 with (fail)
          go_quiet (fail)
          go_wp2_with fail
          go_returns
          exact ⟨Sp.ret_int HI.out.symm, HE.out _ (through HB.out (Nat.le_refl _) (below_drewN HBL.out _))⟩
      · obtain rfl : k = fs.length := by omega
        have HEQ := Lib.hid (map_of_get HLEN.out HALL.out)
        have HB := Lib.hid (through HB.out (Nat.le_refl _) HBL.out)
        clear HALL HLEN HW HBL t0 hkl
        go_wp2_with fail
        go_loopw [7, 8] (fun v u wr => ∃ (k : Nat) (q : Nat → Sl), k ≤ fs.length ∧ u = .int .i64 k ∧ Refs wr X.heap.size v (partsA (fs.take k)) q ∧ (∀ i, i < (partsA (fs.take k)).length → IsRecs X B (q i).1 (q i).2 ((partsA (fs.take k)).getD i [])) ∧ (∀ j, j < k → manyB l (fs.getD j default) = true) ∧ Below X.heap.size X wr) (fun _ u _ => fs.length - (Go.RowKit.intOf u).toNat)
        case atStart => exact ⟨0, fun _ => (none, 0), by omega, rfl, Refs.nil _ _ _, fun i hi => by simp [partsA] at hi, fun j hj => absurd hj (by omega), HB.out⟩
        case round =>
          clear HB
          obtain ⟨k, q, hk, rfl, hown, hrs, hall, hbl⟩ := hrel
          have HB := Lib.hid hbl
          have HALL := Lib.hid hall
          have HOW := Lib.hid hown
          have HRS := Lib.hid hrs
          clear hall hbl hown hrs
          by_cases hlt : k < fs.length
          · obtain ⟨b, o, f, A', c', rfl, hb, HV, hop, c0, c1, hli⟩ := feeds_at HF.out hlt
            obtain ⟨n, hfn, hnl, -⟩ := kind_mem.1 (show f.op ∈ kindF l 1 by rw [← HEQ.out]; exact List.mem_map.2 ⟨f, HV.out ▸ feeds_mem hlt, rfl⟩)
            obtain ⟨b2, o2, rfl, hb2, -, -, -, -, -, d5, -⟩ := HO.out.at_ hnl
            have hll := hli.len
            unfold LB at hll
            have HMB := Lib.hid (manyB_iff (l := l) hfn)
            have HCF := Lib.hid (Nat.le_trans (cntF_mem (fs := fs) (f := f) (HV.out ▸ feeds_mem hlt)) HM.out)
            have HLI := Lib.hid hli
            have HOP := Lib.hid hop
            have hb0 : b < X.heap.size := by omega
            have hb20 : b2 < X.heap.size := by omega
            have HFN := Lib.hid hfn
            have HPT := Lib.hid (partsA_take hlt HV.out)
            have HPL := Lib.hid (show (partsA (fs.take k)).length + f.parts.length ≤ 1000000 by
              have h1 := prtF_take hlt HV.out
              have h2 := prtF_le fs (k + 1)
              have h3 := HPN.out
              rw [partsA_len]; omega)
            have s1 : X.cell? ⟨w.heap.size, 1, none⟩ = some (.slice (some ⟨b2, o2, none⟩) l.length c) := KS.out.cell 1
            rw [hfn] at c0
            have hkn : (k : Int) < (fs.length : Int) := by omega
            have hn0 : (n : Int) < (l.length : Int) := by omega
            clear hli hop hfn
            generalize (opOf l n).parts = P at *
            have HST : Hid (∀ Z, Below X.heap.size X Z → (fun Z => Z.cell? ⟨b, o + k * 2, none⟩ = some (.int .i64 (n : Int)) ∧ Z.cell? ⟨b, o + k * 2 + 1, none⟩ = some (.slice A' f.parts.length c') ∧ Z.cell? ⟨w.heap.size, 1, none⟩ = some (.slice (some ⟨b2, o2, none⟩) l.length c) ∧ Z.cell? ⟨b2, o2 + n * 8 + 5, none⟩ = some (.int .i64 P)) Z) := fun Z hZ => by
              have h0 : ∀ {g o : Nat} {v : Value}, g < X.heap.size → X.cell? ⟨g, o, none⟩ = some v → Z.cell? ⟨g, o, none⟩ = some v := fun hg hv => (hZ.cell hg).trans hv
              exact ⟨h0 hb0 c0, h0 hb0 c1, h0 hsz s1, h0 hb20 d5⟩
            clear c0 c1 s1 d5
            go_upto_region 13 with (fail)
            by_cases hp : (f.parts.length : Int) = P
            · refine wp_region_held_drew (S := (fun Z => Z.cell? ⟨b, o + k * 2, none⟩ = some (.int .i64 (n : Int)) ∧ Z.cell? ⟨b, o + k * 2 + 1, none⟩ = some (.slice A' f.parts.length c') ∧ Z.cell? ⟨w.heap.size, 1, none⟩ = some (.slice (some ⟨b2, o2, none⟩) l.length c) ∧ Z.cell? ⟨b2, o2 + n * 8 + 5, none⟩ = some (.int .i64 P))) (by kernel_rfl) (HST.out _ HB.out.drew) (fun hHeld => ?_)
              have HOW := Lib.hid (show Refs wr.drew X.heap.size u7 (partsA (fs.take k)) q from HOW.out)
              have HB := Lib.hid HB.out.drew
              obtain ⟨y0, hy0⟩ : ∃ Z, wr.drew = Z := ⟨_, rfl⟩
              rw [hy0] at HB HOW hHeld ⊢
              clear hy0
              have hz : decide ((f.parts.length : Int) = P) = true := decide_eq_true hp
              (refine held_take 0 (by kernel_rfl) (by kernel_rfl) (by kernel_rfl) (by assumption) ?_; simp only [List.getElem?_toArray, List.getElem?_cons_zero]; refine ⟨fun _ _ _ _ h => h, ?_, Or.inl ⟨by kernel_rfl, ?_⟩, ?_⟩; rotate_left; (focus (intro wS hSw; (try dsimp only at hSw); go_simp; try with_reducible rfl)); (try simp only [Act.put, List.setIfInBounds_toArray, List.set_cons_zero, List.set_cons_succ]))
              (refine held_take 1 (by kernel_rfl) (by kernel_rfl) (by kernel_rfl) (by assumption) ?_; simp only [List.getElem?_toArray, List.getElem?_cons_succ, List.getElem?_cons_zero]; refine ⟨fun _ _ _ _ h => h, ?_, Or.inl ⟨by kernel_rfl, ?_⟩, ?_⟩; rotate_left; (focus (intro wS hSw; (try dsimp only at hSw); go_simp; try with_reducible rfl)); (try simp only [Act.put, List.setIfInBounds_toArray, List.set_cons_zero, List.set_cons_succ]))
              (refine held_take 2 (by kernel_rfl) (by kernel_rfl) (by kernel_rfl) (by assumption) ?_; simp only [List.getElem?_toArray, List.getElem?_cons_succ, List.getElem?_cons_zero]; refine ⟨fun _ _ _ _ h => h, ?_, Or.inl ⟨by kernel_rfl, ?_⟩, ?_⟩; rotate_left; (focus (intro wS hSw; (try dsimp only at hSw); go_simp; try with_reducible rfl)); (try simp only [Act.put, List.setIfInBounds_toArray, List.set_cons_zero, List.set_cons_succ]))
              (refine held_take 3 (by kernel_rfl) (by kernel_rfl) (by kernel_rfl) (by assumption) ?_; simp only [List.getElem?_toArray, List.getElem?_cons_succ, List.getElem?_cons_zero]; refine ⟨fun _ _ _ _ h => h, ?_, Or.inl ⟨by kernel_rfl, ?_⟩, ?_⟩; rotate_left; (focus (intro wS hSw; (try dsimp only at hSw); go_simp; try with_reducible rfl)); (try simp only [Act.put, List.setIfInBounds_toArray, List.set_cons_zero, List.set_cons_succ]))
              (refine held_take 4 (by kernel_rfl) (by kernel_rfl) (by kernel_rfl) (by assumption) ?_; simp only [List.getElem?_toArray, List.getElem?_cons_succ, List.getElem?_cons_zero]; refine ⟨fun _ _ _ _ h => h, ?_, Or.inl ⟨by kernel_rfl, ?_⟩, ?_⟩; rotate_left; (focus (intro wS hSw; (try dsimp only at hSw); go_simp; try with_reducible rfl)); (try simp only [Act.put, List.setIfInBounds_toArray, List.set_cons_zero, List.set_cons_succ]))
              (refine held_take 5 (by kernel_rfl) (by kernel_rfl) (by kernel_rfl) (by assumption) ?_; simp only [List.getElem?_toArray, List.getElem?_cons_succ, List.getElem?_cons_zero]; refine ⟨fun _ _ _ _ h => h, ?_, Or.inl ⟨by kernel_rfl, ?_⟩, ?_⟩; rotate_left; (focus (intro wS hSw; (try dsimp only at hSw); go_simp; try with_reducible rfl)); (try simp only [Act.put, List.setIfInBounds_toArray, List.set_cons_zero, List.set_cons_succ]))
              (refine held_take 6 (by kernel_rfl) (by kernel_rfl) (by kernel_rfl) (by assumption) ?_; simp only [List.getElem?_toArray, List.getElem?_cons_succ, List.getElem?_cons_zero]; refine ⟨fun _ _ _ _ h => h, ?_, Or.inl ⟨by kernel_rfl, ?_⟩, ?_⟩; rotate_left; (focus (intro wS hSw; (try dsimp only at hSw); go_simp; try with_reducible rfl)); (try simp only [Act.put, List.setIfInBounds_toArray, List.set_cons_zero, List.set_cons_succ]))
              (refine held_take 7 (by kernel_rfl) (by kernel_rfl) (by kernel_rfl) (by assumption) ?_; simp only [List.getElem?_toArray, List.getElem?_cons_succ, List.getElem?_cons_zero]; refine ⟨fun _ _ _ _ h => h, ?_, Or.inl ⟨by kernel_rfl, ?_⟩, ?_⟩; rotate_left; (focus (intro wS hSw; (try dsimp only at hSw); go_simp; try with_reducible rfl)); (try simp only [Act.put, List.setIfInBounds_toArray, List.set_cons_zero, List.set_cons_succ]))
              (refine held_take 8 (by kernel_rfl) (by kernel_rfl) (by kernel_rfl) (by assumption) ?_; simp only [List.getElem?_toArray, List.getElem?_cons_succ, List.getElem?_cons_zero]; refine ⟨fun _ _ _ _ h => h, ?_, Or.inl ⟨by kernel_rfl, ?_⟩, ?_⟩; rotate_left; (focus (intro wS hSw; (try dsimp only at hSw); go_simp; try with_reducible rfl)); (try simp only [Act.put, List.setIfInBounds_toArray, List.set_cons_zero, List.set_cons_succ]))
              (refine held_take 9 (by kernel_rfl) (by kernel_rfl) (by kernel_rfl) (by assumption) ?_; simp only [List.getElem?_toArray, List.getElem?_cons_succ, List.getElem?_cons_zero]; refine ⟨fun _ _ _ _ h => h, ?_, Or.inl ⟨by kernel_rfl, ?_⟩, ?_⟩; rotate_left; (focus (intro wS hSw; (try dsimp only at hSw); go_simp; try with_reducible rfl)); (try simp only [Act.put, List.setIfInBounds_toArray, List.set_cons_zero, List.set_cons_succ]))
              (refine held_take 10 (by kernel_rfl) (by kernel_rfl) (by kernel_rfl) (by assumption) ?_; simp only [List.getElem?_toArray, List.getElem?_cons_succ, List.getElem?_cons_zero]; refine ⟨fun _ _ _ _ h => h, ?_, Or.inl ⟨by kernel_rfl, ?_⟩, ?_⟩; rotate_left; (focus (intro wS hSw; (try dsimp only at hSw); go_simp; try with_reducible rfl)); (try simp only [Act.put, List.setIfInBounds_toArray, List.set_cons_zero, List.set_cons_succ]))
              (refine held_take 11 (by kernel_rfl) (by kernel_rfl) (by kernel_rfl) (by assumption) ?_; simp only [List.getElem?_toArray, List.getElem?_cons_succ, List.getElem?_cons_zero]; refine ⟨fun _ _ _ _ h => h, ?_, Or.inl ⟨by kernel_rfl, ?_⟩, ?_⟩; rotate_left; (focus (intro wS hSw; (try dsimp only at hSw); go_simp; try with_reducible rfl)); (try simp only [Act.put, List.setIfInBounds_toArray, List.set_cons_zero, List.set_cons_succ]))
              (refine held_take 12 (by kernel_rfl) (by kernel_rfl) (by kernel_rfl) (by assumption) ?_; simp only [List.getElem?_toArray, List.getElem?_cons_succ, List.getElem?_cons_zero]; refine ⟨fun _ _ _ _ h => h, ?_, Or.inl ⟨by kernel_rfl, ?_⟩, ?_⟩; rotate_left; (focus (intro wS hSw; (try dsimp only at hSw); go_simp; try with_reducible rfl)); (try simp only [Act.put, List.setIfInBounds_toArray, List.set_cons_zero, List.set_cons_succ]))
              (refine held_take 13 (by kernel_rfl) (by kernel_rfl) (by kernel_rfl) (by assumption) ?_; simp only [List.getElem?_toArray, List.getElem?_cons_succ, List.getElem?_cons_zero]; refine ⟨fun _ _ _ _ h => h, ?_, Or.inl ⟨by kernel_rfl, ?_⟩, ?_⟩; rotate_left; (focus (intro wS hSw; (try dsimp only at hSw); go_simp; try with_reducible rfl)); (try simp only [Act.put, List.setIfInBounds_toArray, List.set_cons_zero, List.set_cons_succ]))
              (refine held_take 14 (by kernel_rfl) (by kernel_rfl) (by kernel_rfl) (by assumption) ?_; simp only [List.getElem?_toArray, List.getElem?_cons_succ, List.getElem?_cons_zero]; refine ⟨fun _ _ _ _ h => h, ?_, Or.inl ⟨by kernel_rfl, ?_⟩, ?_⟩; rotate_left; (focus (intro wS hSw; (try dsimp only at hSw); go_simp; try with_reducible rfl)); (try simp only [Act.put, List.setIfInBounds_toArray, List.set_cons_zero, List.set_cons_succ]))
              (refine held_take 15 (by kernel_rfl) (by kernel_rfl) (by kernel_rfl) (by assumption) ?_; simp only [List.getElem?_toArray, List.getElem?_cons_succ, List.getElem?_cons_zero]; refine ⟨fun _ _ _ _ h => h, ?_, Or.inl ⟨by kernel_rfl, ?_⟩, ?_⟩; rotate_left; (focus (intro wS hSw; (try dsimp only at hSw); go_simp; try with_reducible rfl)); (try simp only [Act.put, List.setIfInBounds_toArray, List.set_cons_zero, List.set_cons_succ]))
              (refine held_take 16 (by kernel_rfl) (by kernel_rfl) (by kernel_rfl) (by assumption) ?_; simp only [List.getElem?_toArray, List.getElem?_cons_succ, List.getElem?_cons_zero]; refine ⟨fun _ _ _ _ h => h, ?_, Or.inl ⟨by kernel_rfl, ?_⟩, ?_⟩; rotate_left; (focus (intro wS hSw; (try dsimp only at hSw); go_simp; try with_reducible rfl)); (try simp only [Act.put, List.setIfInBounds_toArray, List.set_cons_zero, List.set_cons_succ]))
              (refine held_take 17 (by kernel_rfl) (by kernel_rfl) (by kernel_rfl) (by assumption) ?_; simp only [List.getElem?_toArray, List.getElem?_cons_succ, List.getElem?_cons_zero]; refine ⟨fun _ _ _ _ h => h, ?_, Or.inl ⟨by kernel_rfl, ?_⟩, ?_⟩; rotate_left; (focus (intro wS hSw; (try dsimp only at hSw); go_simp; try with_reducible rfl)); (try simp only [Act.put, List.setIfInBounds_toArray, List.set_cons_zero, List.set_cons_succ]))
              (refine held_take 18 (by kernel_rfl) (by kernel_rfl) (by kernel_rfl) (by assumption) ?_; simp only [List.getElem?_toArray, List.getElem?_cons_succ, List.getElem?_cons_zero]; refine ⟨fun _ _ _ _ h => h, ?_, Or.inl ⟨by kernel_rfl, ?_⟩, ?_⟩; rotate_left; (focus (intro wS hSw; (try dsimp only at hSw); go_simp; try with_reducible rfl)); (try simp only [Act.put, List.setIfInBounds_toArray, List.set_cons_zero, List.set_cons_succ]))
              (refine held_take 19 (by kernel_rfl) (by kernel_rfl) (by kernel_rfl) (by assumption) ?_; simp only [List.getElem?_toArray, List.getElem?_cons_succ, List.getElem?_cons_zero]; refine ⟨fun _ _ _ _ h => h, ?_, Or.inl ⟨by kernel_rfl, ?_⟩, ?_⟩; rotate_left; (focus (intro wS hSw; (try dsimp only at hSw); go_simp; try with_reducible rfl)); (try simp only [Act.put, List.setIfInBounds_toArray, List.set_cons_zero, List.set_cons_succ]))
              (refine held_take 20 (by kernel_rfl) (by kernel_rfl) (by kernel_rfl) (by assumption) ?_; simp only [List.getElem?_toArray, List.getElem?_cons_succ, List.getElem?_cons_zero]; refine ⟨fun _ _ _ _ h => h, ?_, Or.inl ⟨by kernel_rfl, ?_⟩, ?_⟩; rotate_left; (focus (intro wS hSw; (try dsimp only at hSw); go_simp; try with_reducible rfl)); (try simp only [Act.put, List.setIfInBounds_toArray, List.set_cons_zero, List.set_cons_succ]))
              (refine held_take 21 (by kernel_rfl) (by kernel_rfl) (by kernel_rfl) (by assumption) ?_; simp only [List.getElem?_toArray, List.getElem?_cons_succ, List.getElem?_cons_zero]; refine ⟨fun _ _ _ _ h => h, ?_, Or.inl ⟨by kernel_rfl, ?_⟩, ?_⟩; rotate_left; (focus (intro wS hSw; (try dsimp only at hSw); go_simp; try with_reducible rfl)); (try simp only [Act.put, List.setIfInBounds_toArray, List.set_cons_zero, List.set_cons_succ]))
              (refine held_one 22 (by kernel_rfl) ?_; simp only [List.getElem?_toArray, List.getElem?_cons_succ, List.getElem?_cons_zero]; intro K hK; go_simp)
              clear hHeld
              have hb : Below y0.heap.size y0 (y0.alloc (.cells #[.int .i64 (n : Int), .slice A' f.parts.length c'] 47)) := (Below.refl _ _).alloc (Nat.le_refl _) _
              have KN := Lib.hid (Blk.new y0 47 #[.int .i64 (n : Int), .slice A' f.parts.length c'])
              (go_wp2_with fail; refine hK.out _ _ ?_ (fun hHeld => ?_); (focus (exact HST.out _ (through HB.out (Nat.le_refl _) hb))); clear hK K; (try simp only [Act.put, List.setIfInBounds_toArray, List.set_cons_zero, List.set_cons_succ]))
              obtain ⟨bA, hbk⟩ : ∃ z, y0.heap.size = z := ⟨_, rfl⟩
              obtain ⟨y1, hY⟩ : ∃ Z, y0.alloc (.cells #[.int .i64 (n : Int), .slice A' f.parts.length c'] 47) = Z := ⟨_, rfl⟩
              rw [hY] at hb KN
              rw [hbk] at KN
              (try rw [hY] at hHeld)
              (try rw [hY])
              (try rw [hbk])
              have HBE := Lib.hid (through HB.out (Nat.le_refl _) hb)
              have HOW := Lib.hid (HOW.out.below hb)
              have hBA : B ≤ bA := by have h1 := HB.out.size; omega
              have HONE := Lib.hid (feeds_one (f := f) (B := B) (show Blk y1 bA 47 #[.int .i64 f.op, .slice A' f.parts.length c'] by rw [HFN.out]; exact KN.out) HOP.out (HLI.out.below (HBE.out.mono hbX0)) (by omega))
              have HCNT := Lib.hid (rcnt_any (some ⟨bA, 0, none⟩) 1 [f] y1 (bA + 1) HONE.out (by have := HCF.out; rw [cntF_one]; omega))
              rw [cntF_one] at HCNT
              clear hb hY hbk
              (refine held_one 23 (by kernel_rfl) ?_; simp only [List.getElem?_toArray, List.getElem?_cons_succ, List.getElem?_cons_zero]; intro K hK; go_simp)
              clear hHeld
              refine HCNT.out.mono ?_
              rintro e y2 ⟨rfl, hb⟩
              (go_wp2_with fail; refine hK.out _ _ ?_ (fun hHeld => ?_); (focus (exact HST.out _ (through HBE.out (Nat.le_refl _) hb))); clear hK K; (try simp only [Act.put, List.setIfInBounds_toArray, List.set_cons_zero, List.set_cons_succ]))
              have HBF := Lib.hid (through HBE.out (Nat.le_refl _) hb)
              have HOW := Lib.hid (HOW.out.below hb)
              clear hb
              by_cases hq : cntL f.parts ≤ 200
              · have hq1 : (cntL f.parts : Int) ≤ 200 := by omega
                have HY := Lib.hid (show manyB l f = true by rw [HMB.out, hz, decide_eq_true hq]; rfl)
                (refine held_take 24 (by kernel_rfl) (by kernel_rfl) (by kernel_rfl) (by assumption) ?_; simp only [List.getElem?_toArray, List.getElem?_cons_succ, List.getElem?_cons_zero]; refine ⟨fun _ _ _ _ h => h, ?_, Or.inl ⟨by kernel_rfl, ?_⟩, ?_⟩; rotate_left; (focus (intro wS hSw; (try dsimp only at hSw); go_simp; try with_reducible rfl)); (try simp only [Act.put, List.setIfInBounds_toArray, List.set_cons_zero, List.set_cons_succ]))
                (refine held_take 25 (by kernel_rfl) (by kernel_rfl) (by kernel_rfl) (by assumption) ?_; simp only [List.getElem?_toArray, List.getElem?_cons_succ, List.getElem?_cons_zero]; refine ⟨fun _ _ _ _ h => h, ?_, Or.inl ⟨by kernel_rfl, ?_⟩, ?_⟩; rotate_left; (focus (intro wS hSw; (try dsimp only at hSw); go_simp; try with_reducible rfl)); (try simp only [Act.put, List.setIfInBounds_toArray, List.set_cons_zero, List.set_cons_succ]))
                (refine wpAnyH_done (by kernel_rfl) ?_ _)
                clear hHeld HB HBE HONE HCNT
                go_upto_region 15 with (fail)
                have HB := HBF
                clear HBF
                go_wp2_with fail
                go_loopw [7, 9] (fun v u wr => ∃ (j : Nat) (q : Nat → Sl), j ≤ f.parts.length ∧ u = .int .i64 j ∧ Refs wr X.heap.size v (partsA (fs.take k) ++ f.parts.take j) q ∧ (∀ i, i < (partsA (fs.take k) ++ f.parts.take j).length → IsRecs X B (q i).1 (q i).2 ((partsA (fs.take k) ++ f.parts.take j).getD i [])) ∧ Below X.heap.size X wr) (fun _ u _ => f.parts.length - (Go.RowKit.intOf u).toNat)
                case atStart => exact ⟨0, q, by omega, rfl, by rw [List.take_zero, List.append_nil]; exact HOW.out, by rw [List.take_zero, List.append_nil]; exact HRS.out, HB.out⟩
                case round =>
                  clear HOW HRS HB
                  obtain ⟨j, q, hj, rfl, hown, hrs, hbl⟩ := hrel
                  have HB := Lib.hid hbl
                  have HOW := Lib.hid hown
                  have HRS := Lib.hid hrs
                  clear hbl hown hrs
                  obtain ⟨e0, e1, -, -⟩ := HST.out _ HB.out
                  by_cases hltj : j < f.parts.length
                  · obtain ⟨b4, o4, r, A4, c4, rfl, hb4, HV4, d0, hrr⟩ := lists_at HLI.out hltj
                    have e4 := (HB.out.cell (p := ⟨b4, o4 + j, none⟩) (by show b4 < _; omega)).trans d0
                    have HRR := Lib.hid hrr
                    have HTS := Lib.hid (show partsA (fs.take k) ++ f.parts.take (j + 1) = (partsA (fs.take k) ++ f.parts.take j) ++ [r] by rw [take_snocG hltj HV4.out, List.append_assoc])
                    have HL := Lib.hid (show (partsA (fs.take k) ++ f.parts.take j).length < 1000000000 by have := HPL.out; rw [List.length_append, List.length_take]; omega)
                    have HZ := Lib.hid HB.out.size
                    generalize partsA (fs.take k) ++ f.parts.take j = L0 at *
                    clear d0 hrr
                    go_wp2_with (at_builtin; refine app_ref (r := r) (z := (A4, c4)) rfl _ _ rfl X.heap.size HOW.out rfl rfl HL.out HZ.out ?_)
                    intro v' w3 hown2 hbl2
                    have HO2 := Lib.hid hown2
                    have HB2 := Lib.hid (HB.out.trans hbl2)
                    clear hown2 hbl2
                    go_wp2_with fail
                    go_roundw
                    case rel => exact ⟨j + 1, upQ q L0.length (A4, c4), by omega, by go_num, by rw [HTS.out]; exact HO2.out, by
                      rw [HTS.out]
                      intro i hi
                      rw [List.length_append] at hi
                      simp at hi
                      by_cases hi2 : i < L0.length
                      · rw [getD_lt hi2, upQ_ne _ _ (by omega)]; exact HRS.out i hi2
                      · obtain rfl : i = L0.length := by omega
                        rw [getD_last, upQ_same]; exact HRR.out, HB2.out⟩
                    case measure => simp [Go.RowKit.intOf]; omega
                  · obtain rfl : j = f.parts.length := by omega
                    rw [List.take_length] at HOW HRS
                    go_wp2_with fail
                    go_roundw
                    case rel => exact ⟨k + 1, q, by omega, by go_num, by rw [HPT.out]; exact HOW.out, by rw [HPT.out]; exact HRS.out, fun j hj => by
                      rcases (show j < k ∨ j = k by omega) with h1 | rfl
                      · exact HALL.out j h1
                      · rw [HV.out]; exact HY.out, HB.out⟩
                    case measure => simp [Go.RowKit.intOf]; omega
              · have hq1 : ¬ (cntL f.parts : Int) ≤ 200 := by omega
                have HY := Lib.hid (show manyB l f = false by rw [HMB.out, hz, decide_eq_false hq]; rfl)
                have HI := Lib.hid (chkF_many HEQ.out hlt HV.out HY.out)
                (refine held_take 24 (by kernel_rfl) (by kernel_rfl) (by kernel_rfl) (by assumption) ?_; simp only [List.getElem?_toArray, List.getElem?_cons_succ, List.getElem?_cons_zero]; refine ⟨fun _ _ _ _ h => h, ?_, Or.inl ⟨by kernel_rfl, ?_⟩, ?_⟩; rotate_left; (focus (intro wS hSw; (try dsimp only at hSw); go_simp; try with_reducible rfl)); (try simp only [Act.put, List.setIfInBounds_toArray, List.set_cons_zero, List.set_cons_succ]))
                (refine held_take 25 (by kernel_rfl) (by kernel_rfl) (by kernel_rfl) (by assumption) ?_; simp only [List.getElem?_toArray, List.getElem?_cons_succ, List.getElem?_cons_zero]; refine ⟨fun _ _ _ _ h => h, ?_, Or.inl ⟨by kernel_rfl, ?_⟩, ?_⟩; rotate_left; (focus (intro wS hSw; (try dsimp only at hSw); go_simp; try with_reducible rfl)); (try simp only [Act.put, List.setIfInBounds_toArray, List.set_cons_zero, List.set_cons_succ]))
                (refine wpAnyH_done (by kernel_rfl) ?_ _)
                clear hHeld
                go_wp2_with fail
                go_returns
                exact ⟨Sp.ret_int HI.out.symm, HE.out _ HBF.out⟩
            · refine wp_region_held_drew (S := (fun Z => Z.cell? ⟨b, o + k * 2, none⟩ = some (.int .i64 (n : Int)) ∧ Z.cell? ⟨b, o + k * 2 + 1, none⟩ = some (.slice A' f.parts.length c') ∧ Z.cell? ⟨w.heap.size, 1, none⟩ = some (.slice (some ⟨b2, o2, none⟩) l.length c) ∧ Z.cell? ⟨b2, o2 + n * 8 + 5, none⟩ = some (.int .i64 P))) (by kernel_rfl) (HST.out _ HB.out.drew) (fun hHeld => ?_)
              have HB := Lib.hid HB.out.drew
              obtain ⟨y0, hy0⟩ : ∃ Z, wr.drew = Z := ⟨_, rfl⟩
              rw [hy0] at HB hHeld ⊢
              clear hy0
              have hz : decide ((f.parts.length : Int) = P) = false := decide_eq_false hp
              have hz2 : ((f.parts.length : Int) != P) = true := by simpa using hp
              have HY := Lib.hid (show manyB l f = false by rw [HMB.out, hz]; rfl)
              have HI := Lib.hid (chkF_many HEQ.out hlt HV.out HY.out)
              (refine held_take 0 (by kernel_rfl) (by kernel_rfl) (by kernel_rfl) (by assumption) ?_; simp only [List.getElem?_toArray, List.getElem?_cons_zero]; refine ⟨fun _ _ _ _ h => h, ?_, Or.inl ⟨by kernel_rfl, ?_⟩, ?_⟩; rotate_left; (focus (intro wS hSw; (try dsimp only at hSw); go_simp; try with_reducible rfl)); (try simp only [Act.put, List.setIfInBounds_toArray, List.set_cons_zero, List.set_cons_succ]))
              (refine held_take 1 (by kernel_rfl) (by kernel_rfl) (by kernel_rfl) (by assumption) ?_; simp only [List.getElem?_toArray, List.getElem?_cons_succ, List.getElem?_cons_zero]; refine ⟨fun _ _ _ _ h => h, ?_, Or.inl ⟨by kernel_rfl, ?_⟩, ?_⟩; rotate_left; (focus (intro wS hSw; (try dsimp only at hSw); go_simp; try with_reducible rfl)); (try simp only [Act.put, List.setIfInBounds_toArray, List.set_cons_zero, List.set_cons_succ]))
              (refine held_take 2 (by kernel_rfl) (by kernel_rfl) (by kernel_rfl) (by assumption) ?_; simp only [List.getElem?_toArray, List.getElem?_cons_succ, List.getElem?_cons_zero]; refine ⟨fun _ _ _ _ h => h, ?_, Or.inl ⟨by kernel_rfl, ?_⟩, ?_⟩; rotate_left; (focus (intro wS hSw; (try dsimp only at hSw); go_simp; try with_reducible rfl)); (try simp only [Act.put, List.setIfInBounds_toArray, List.set_cons_zero, List.set_cons_succ]))
              (refine held_take 3 (by kernel_rfl) (by kernel_rfl) (by kernel_rfl) (by assumption) ?_; simp only [List.getElem?_toArray, List.getElem?_cons_succ, List.getElem?_cons_zero]; refine ⟨fun _ _ _ _ h => h, ?_, Or.inl ⟨by kernel_rfl, ?_⟩, ?_⟩; rotate_left; (focus (intro wS hSw; (try dsimp only at hSw); go_simp; try with_reducible rfl)); (try simp only [Act.put, List.setIfInBounds_toArray, List.set_cons_zero, List.set_cons_succ]))
              (refine held_take 4 (by kernel_rfl) (by kernel_rfl) (by kernel_rfl) (by assumption) ?_; simp only [List.getElem?_toArray, List.getElem?_cons_succ, List.getElem?_cons_zero]; refine ⟨fun _ _ _ _ h => h, ?_, Or.inl ⟨by kernel_rfl, ?_⟩, ?_⟩; rotate_left; (focus (intro wS hSw; (try dsimp only at hSw); go_simp; try with_reducible rfl)); (try simp only [Act.put, List.setIfInBounds_toArray, List.set_cons_zero, List.set_cons_succ]))
              (refine held_take 5 (by kernel_rfl) (by kernel_rfl) (by kernel_rfl) (by assumption) ?_; simp only [List.getElem?_toArray, List.getElem?_cons_succ, List.getElem?_cons_zero]; refine ⟨fun _ _ _ _ h => h, ?_, Or.inl ⟨by kernel_rfl, ?_⟩, ?_⟩; rotate_left; (focus (intro wS hSw; (try dsimp only at hSw); go_simp; try with_reducible rfl)); (try simp only [Act.put, List.setIfInBounds_toArray, List.set_cons_zero, List.set_cons_succ]))
              (refine held_take 6 (by kernel_rfl) (by kernel_rfl) (by kernel_rfl) (by assumption) ?_; simp only [List.getElem?_toArray, List.getElem?_cons_succ, List.getElem?_cons_zero]; refine ⟨fun _ _ _ _ h => h, ?_, Or.inl ⟨by kernel_rfl, ?_⟩, ?_⟩; rotate_left; (focus (intro wS hSw; (try dsimp only at hSw); go_simp; try with_reducible rfl)); (try simp only [Act.put, List.setIfInBounds_toArray, List.set_cons_zero, List.set_cons_succ]))
              (refine held_take 7 (by kernel_rfl) (by kernel_rfl) (by kernel_rfl) (by assumption) ?_; simp only [List.getElem?_toArray, List.getElem?_cons_succ, List.getElem?_cons_zero]; refine ⟨fun _ _ _ _ h => h, ?_, Or.inl ⟨by kernel_rfl, ?_⟩, ?_⟩; rotate_left; (focus (intro wS hSw; (try dsimp only at hSw); go_simp; try with_reducible rfl)); (try simp only [Act.put, List.setIfInBounds_toArray, List.set_cons_zero, List.set_cons_succ]))
              (refine held_take 8 (by kernel_rfl) (by kernel_rfl) (by kernel_rfl) (by assumption) ?_; simp only [List.getElem?_toArray, List.getElem?_cons_succ, List.getElem?_cons_zero]; refine ⟨fun _ _ _ _ h => h, ?_, Or.inl ⟨by kernel_rfl, ?_⟩, ?_⟩; rotate_left; (focus (intro wS hSw; (try dsimp only at hSw); go_simp; try with_reducible rfl)); (try simp only [Act.put, List.setIfInBounds_toArray, List.set_cons_zero, List.set_cons_succ]))
              (refine held_take 9 (by kernel_rfl) (by kernel_rfl) (by kernel_rfl) (by assumption) ?_; simp only [List.getElem?_toArray, List.getElem?_cons_succ, List.getElem?_cons_zero]; refine ⟨fun _ _ _ _ h => h, ?_, Or.inl ⟨by kernel_rfl, ?_⟩, ?_⟩; rotate_left; (focus (intro wS hSw; (try dsimp only at hSw); go_simp; try with_reducible rfl)); (try simp only [Act.put, List.setIfInBounds_toArray, List.set_cons_zero, List.set_cons_succ]))
              (refine held_take 10 (by kernel_rfl) (by kernel_rfl) (by kernel_rfl) (by assumption) ?_; simp only [List.getElem?_toArray, List.getElem?_cons_succ, List.getElem?_cons_zero]; refine ⟨fun _ _ _ _ h => h, ?_, Or.inl ⟨by kernel_rfl, ?_⟩, ?_⟩; rotate_left; (focus (intro wS hSw; (try dsimp only at hSw); go_simp; try with_reducible rfl)); (try simp only [Act.put, List.setIfInBounds_toArray, List.set_cons_zero, List.set_cons_succ]))
              (refine held_take 11 (by kernel_rfl) (by kernel_rfl) (by kernel_rfl) (by assumption) ?_; simp only [List.getElem?_toArray, List.getElem?_cons_succ, List.getElem?_cons_zero]; refine ⟨fun _ _ _ _ h => h, ?_, Or.inl ⟨by kernel_rfl, ?_⟩, ?_⟩; rotate_left; (focus (intro wS hSw; (try dsimp only at hSw); go_simp; try with_reducible rfl)); (try simp only [Act.put, List.setIfInBounds_toArray, List.set_cons_zero, List.set_cons_succ]))
              (refine held_take 12 (by kernel_rfl) (by kernel_rfl) (by kernel_rfl) (by assumption) ?_; simp only [List.getElem?_toArray, List.getElem?_cons_succ, List.getElem?_cons_zero]; refine ⟨fun _ _ _ _ h => h, ?_, Or.inl ⟨by kernel_rfl, ?_⟩, ?_⟩; rotate_left; (focus (intro wS hSw; (try dsimp only at hSw); go_simp; try with_reducible rfl)); (try simp only [Act.put, List.setIfInBounds_toArray, List.set_cons_zero, List.set_cons_succ]))
              (refine held_take 13 (by kernel_rfl) (by kernel_rfl) (by kernel_rfl) (by assumption) ?_; simp only [List.getElem?_toArray, List.getElem?_cons_succ, List.getElem?_cons_zero]; refine ⟨fun _ _ _ _ h => h, ?_, Or.inl ⟨by kernel_rfl, ?_⟩, ?_⟩; rotate_left; (focus (intro wS hSw; (try dsimp only at hSw); go_simp; try with_reducible rfl)); (try simp only [Act.put, List.setIfInBounds_toArray, List.set_cons_zero, List.set_cons_succ]))
              (refine held_take 14 (by kernel_rfl) (by kernel_rfl) (by kernel_rfl) (by assumption) ?_; simp only [List.getElem?_toArray, List.getElem?_cons_succ, List.getElem?_cons_zero]; refine ⟨fun _ _ _ _ h => h, ?_, Or.inl ⟨by kernel_rfl, ?_⟩, ?_⟩; rotate_left; (focus (intro wS hSw; (try dsimp only at hSw); go_simp; try with_reducible rfl)); (try simp only [Act.put, List.setIfInBounds_toArray, List.set_cons_zero, List.set_cons_succ]))
              (refine held_take 15 (by kernel_rfl) (by kernel_rfl) (by kernel_rfl) (by assumption) ?_; simp only [List.getElem?_toArray, List.getElem?_cons_succ, List.getElem?_cons_zero]; refine ⟨fun _ _ _ _ h => h, ?_, Or.inl ⟨by kernel_rfl, ?_⟩, ?_⟩; rotate_left; (focus (intro wS hSw; (try dsimp only at hSw); go_simp; try with_reducible rfl)); (try simp only [Act.put, List.setIfInBounds_toArray, List.set_cons_zero, List.set_cons_succ]))
              (refine held_take 16 (by kernel_rfl) (by kernel_rfl) (by kernel_rfl) (by assumption) ?_; simp only [List.getElem?_toArray, List.getElem?_cons_succ, List.getElem?_cons_zero]; refine ⟨fun _ _ _ _ h => h, ?_, Or.inl ⟨by kernel_rfl, ?_⟩, ?_⟩; rotate_left; (focus (intro wS hSw; (try dsimp only at hSw); go_simp; try with_reducible rfl)); (try simp only [Act.put, List.setIfInBounds_toArray, List.set_cons_zero, List.set_cons_succ]))
              (refine held_take 17 (by kernel_rfl) (by kernel_rfl) (by kernel_rfl) (by assumption) ?_; simp only [List.getElem?_toArray, List.getElem?_cons_succ, List.getElem?_cons_zero]; refine ⟨fun _ _ _ _ h => h, ?_, Or.inl ⟨by kernel_rfl, ?_⟩, ?_⟩; rotate_left; (focus (intro wS hSw; (try dsimp only at hSw); go_simp; try with_reducible rfl)); (try simp only [Act.put, List.setIfInBounds_toArray, List.set_cons_zero, List.set_cons_succ]))
              (refine held_take 18 (by kernel_rfl) (by kernel_rfl) (by kernel_rfl) (by assumption) ?_; simp only [List.getElem?_toArray, List.getElem?_cons_succ, List.getElem?_cons_zero]; refine ⟨fun _ _ _ _ h => h, undef, Or.inr ⟨by kernel_rfl, rfl⟩, ?_⟩; (try simp only [Act.put, List.setIfInBounds_toArray, List.set_cons_zero, List.set_cons_succ]))
              (refine held_take 19 (by kernel_rfl) (by kernel_rfl) (by kernel_rfl) (by assumption) ?_; simp only [List.getElem?_toArray, List.getElem?_cons_succ, List.getElem?_cons_zero]; refine ⟨fun _ _ _ _ h => h, undef, Or.inr ⟨by kernel_rfl, rfl⟩, ?_⟩; (try simp only [Act.put, List.setIfInBounds_toArray, List.set_cons_zero, List.set_cons_succ]))
              (refine held_take 20 (by kernel_rfl) (by kernel_rfl) (by kernel_rfl) (by assumption) ?_; simp only [List.getElem?_toArray, List.getElem?_cons_succ, List.getElem?_cons_zero]; refine ⟨fun _ _ _ _ h => h, undef, Or.inr ⟨by kernel_rfl, rfl⟩, ?_⟩; (try simp only [Act.put, List.setIfInBounds_toArray, List.set_cons_zero, List.set_cons_succ]))
              (refine held_take 21 (by kernel_rfl) (by kernel_rfl) (by kernel_rfl) (by assumption) ?_; simp only [List.getElem?_toArray, List.getElem?_cons_succ, List.getElem?_cons_zero]; refine ⟨fun _ _ _ _ h => h, undef, Or.inr ⟨by kernel_rfl, rfl⟩, ?_⟩; (try simp only [Act.put, List.setIfInBounds_toArray, List.set_cons_zero, List.set_cons_succ]))
              (refine held_take 22 (by kernel_rfl) (by kernel_rfl) (by kernel_rfl) (by assumption) ?_; simp only [List.getElem?_toArray, List.getElem?_cons_succ, List.getElem?_cons_zero]; refine ⟨fun _ _ _ _ h => h, undef, Or.inr ⟨by kernel_rfl, rfl⟩, ?_⟩; (try simp only [Act.put, List.setIfInBounds_toArray, List.set_cons_zero, List.set_cons_succ]))
              (refine held_take 23 (by kernel_rfl) (by kernel_rfl) (by kernel_rfl) (by assumption) ?_; simp only [List.getElem?_toArray, List.getElem?_cons_succ, List.getElem?_cons_zero]; refine ⟨fun _ _ _ _ h => h, undef, Or.inr ⟨by kernel_rfl, rfl⟩, ?_⟩; (try simp only [Act.put, List.setIfInBounds_toArray, List.set_cons_zero, List.set_cons_succ]))
              (refine held_take 24 (by kernel_rfl) (by kernel_rfl) (by kernel_rfl) (by assumption) ?_; simp only [List.getElem?_toArray, List.getElem?_cons_succ, List.getElem?_cons_zero]; refine ⟨fun _ _ _ _ h => h, undef, Or.inr ⟨by kernel_rfl, rfl⟩, ?_⟩; (try simp only [Act.put, List.setIfInBounds_toArray, List.set_cons_zero, List.set_cons_succ]))
              (refine held_take 25 (by kernel_rfl) (by kernel_rfl) (by kernel_rfl) (by assumption) ?_; simp only [List.getElem?_toArray, List.getElem?_cons_succ, List.getElem?_cons_zero]; refine ⟨fun _ _ _ _ h => h, ?_, Or.inl ⟨by kernel_rfl, ?_⟩, ?_⟩; rotate_left; (focus (intro wS hSw; (try dsimp only at hSw); go_simp; try with_reducible rfl)); (try simp only [Act.put, List.setIfInBounds_toArray, List.set_cons_zero, List.set_cons_succ]))
              (refine wpAnyH_done (by kernel_rfl) ?_ _)
              clear hHeld
              go_wp2_with fail
              go_returns
              exact ⟨Sp.ret_int HI.out.symm, HE.out _ HB.out⟩
          · obtain rfl : k = fs.length := by omega
            have HALL2 := Lib.hid (chkF_keys HEQ.out HALL.out)
            rw [List.take_length] at HOW HRS
            have HPL := Lib.hid (show (partsA fs).length ≤ 1000000 by rw [partsA_len]; exact HPN.out)
            obtain ⟨A9, c9, rfl⟩ := HOW.out.form
            have HSH := Lib.hid (fun (i m : Nat) (hm : m < i) (hi : i < (partsA fs).length) h => shared (fs := fs) hm hi h)
            have HUS := Lib.hid (fun h => unshared (fs := fs) h)
            generalize partsA fs = L at *
            clear HALL HEQ HO HF
            have hplen := HPL.out
            obtain ⟨W4, hW4⟩ : ∃ W, W = wr := ⟨_, rfl⟩
            subst hW4
            go_wp2_with fail
            go_loopw [10] (fun u w5 => ∃ i : Nat, i ≤ L.length ∧ u = .int .i64 i ∧ (∀ a b, a < b → b < i → NoSh (L.getD b []) (L.getD a [])) ∧ Below W4.heap.size W4 w5) (fun u _ => L.length - (Go.RowKit.intOf u).toNat)
            case atStart => exact ⟨0, by omega, rfl, fun a b _ hb => absurd hb (by omega), Below.refl _ _⟩
            case round =>
              obtain ⟨i, hi, rfl, hno, hbl⟩ := hrel
              have HB5 := Lib.hid hbl
              have HNO := Lib.hid hno
              clear hno hbl
              by_cases hlt : i < L.length
              · go_wp2_with fail
                go_loopw [11] (fun u w6 => ∃ m : Nat, m ≤ i ∧ u = .int .i64 m ∧ (∀ a, a < m → NoSh (L.getD i []) (L.getD a [])) ∧ Below W4.heap.size W4 w6) (fun u _ => i - (Go.RowKit.intOf u).toNat)
                case atStart => exact ⟨0, by omega, rfl, fun a ha => absurd ha (by omega), HB5.out⟩
                case round =>
                  clear HB5
                  obtain ⟨m, hm, rfl, hno, hbl⟩ := hrel
                  have HB5 := Lib.hid hbl
                  have HN2 := Lib.hid hno
                  clear hno hbl
                  by_cases hltm : m < i
                  · obtain ⟨g9, rfl, hg0, hg1, k0⟩ := HOW.out.at_ hlt
                    obtain ⟨g8, hg8, -, -, k1⟩ := HOW.out.at_ (i := m) (by omega)
                    simp only [Option.some.injEq, Addr.mk.injEq, and_true] at hg8
                    subst hg8
                    have HR1 := Lib.hid (HRS.out i hlt)
                    have HR2 := Lib.hid (HRS.out m (by omega))
                    have HS1 := Lib.hid (HSH.out i m hltm hlt)
                    have HNX := Lib.hid (fun (h : NoSh (L.getD i []) (L.getD m [])) => show ∀ a, a < m + 1 → NoSh (L.getD i []) (L.getD a []) from fun a ha => by
                      rcases (show a < m ∨ a = m by omega) with h1 | rfl
                      · exact HN2.out a h1
                      · exact h)
                    generalize L.getD i [] = R1 at *
                    generalize L.getD m [] = R2 at *
                    generalize q i = q1 at *
                    generalize q m = q2 at *
                    have hil : (i : Int) < (L.length : Int) := by omega
                    have hml : (m : Int) < (L.length : Int) := by omega
                    have hmi : (m : Int) < (i : Int) := by omega
                    have HS := Lib.hid (show ∀ Z, Below W4.heap.size W4 Z → Z.cell? ⟨g9, i, none⟩ = some (.slice q1.1 R1.length q1.2) ∧ Z.cell? ⟨g9, m, none⟩ = some (.slice q2.1 R2.length q2.2) from fun Z hZ => ⟨(hZ.cell (p := ⟨g9, i, none⟩) hg1).trans k0, (hZ.cell (p := ⟨g9, m, none⟩) hg1).trans k1⟩)
                    clear k0 k1
                    go_upto_region 25 with (fail)
                    refine wp_region_held_drew (S := (fun (Z : World) => Z.cell? ⟨g9, i, none⟩ = some (.slice q1.1 R1.length q1.2) ∧ Z.cell? ⟨g9, m, none⟩ = some (.slice q2.1 R2.length q2.2))) (by kernel_rfl) (HS.out _ HB5.out.drew) (fun hHeld => ?_)
                    have HB5 := Lib.hid HB5.out.drew
                    obtain ⟨y0, hy0⟩ : ∃ Z, wr.drew = Z := ⟨_, rfl⟩
                    rw [hy0] at HB5 hHeld ⊢
                    clear hy0
                    (refine held_take 0 (by kernel_rfl) (by kernel_rfl) (by kernel_rfl) (by assumption) ?_; simp only [List.getElem?_toArray, List.getElem?_cons_zero]; refine ⟨fun _ _ _ _ h => h, ?_, Or.inl ⟨by kernel_rfl, ?_⟩, ?_⟩; rotate_left; (focus (intro wS hSw; (try dsimp only at hSw); go_simp; try with_reducible rfl)); (try simp only [Act.put, List.setIfInBounds_toArray, List.set_cons_zero, List.set_cons_succ]))
                    (refine held_take 1 (by kernel_rfl) (by kernel_rfl) (by kernel_rfl) (by assumption) ?_; simp only [List.getElem?_toArray, List.getElem?_cons_succ, List.getElem?_cons_zero]; refine ⟨fun _ _ _ _ h => h, ?_, Or.inl ⟨by kernel_rfl, ?_⟩, ?_⟩; rotate_left; (focus (intro wS hSw; (try dsimp only at hSw); go_simp; try with_reducible rfl)); (try simp only [Act.put, List.setIfInBounds_toArray, List.set_cons_zero, List.set_cons_succ]))
                    (refine held_take 2 (by kernel_rfl) (by kernel_rfl) (by kernel_rfl) (by assumption) ?_; simp only [List.getElem?_toArray, List.getElem?_cons_succ, List.getElem?_cons_zero]; refine ⟨fun _ _ _ _ h => h, ?_, Or.inl ⟨by kernel_rfl, ?_⟩, ?_⟩; rotate_left; (focus (intro wS hSw; (try dsimp only at hSw); go_simp; try with_reducible rfl)); (try simp only [Act.put, List.setIfInBounds_toArray, List.set_cons_zero, List.set_cons_succ]))
                    (refine held_take 3 (by kernel_rfl) (by kernel_rfl) (by kernel_rfl) (by assumption) ?_; simp only [List.getElem?_toArray, List.getElem?_cons_succ, List.getElem?_cons_zero]; refine ⟨fun _ _ _ _ h => h, ?_, Or.inl ⟨by kernel_rfl, ?_⟩, ?_⟩; rotate_left; (focus (intro wS hSw; (try dsimp only at hSw); go_simp; try with_reducible rfl)); (try simp only [Act.put, List.setIfInBounds_toArray, List.set_cons_zero, List.set_cons_succ]))
                    (refine held_take 4 (by kernel_rfl) (by kernel_rfl) (by kernel_rfl) (by assumption) ?_; simp only [List.getElem?_toArray, List.getElem?_cons_succ, List.getElem?_cons_zero]; refine ⟨fun _ _ _ _ h => h, ?_, Or.inl ⟨by kernel_rfl, ?_⟩, ?_⟩; rotate_left; (focus (intro wS hSw; (try dsimp only at hSw); go_simp; try with_reducible rfl)); (try simp only [Act.put, List.setIfInBounds_toArray, List.set_cons_zero, List.set_cons_succ]))
                    (refine held_take 5 (by kernel_rfl) (by kernel_rfl) (by kernel_rfl) (by assumption) ?_; simp only [List.getElem?_toArray, List.getElem?_cons_succ, List.getElem?_cons_zero]; refine ⟨fun _ _ _ _ h => h, ?_, Or.inl ⟨by kernel_rfl, ?_⟩, ?_⟩; rotate_left; (focus (intro wS hSw; (try dsimp only at hSw); go_simp; try with_reducible rfl)); (try simp only [Act.put, List.setIfInBounds_toArray, List.set_cons_zero, List.set_cons_succ]))
                    (refine held_take 6 (by kernel_rfl) (by kernel_rfl) (by kernel_rfl) (by assumption) ?_; simp only [List.getElem?_toArray, List.getElem?_cons_succ, List.getElem?_cons_zero]; refine ⟨fun _ _ _ _ h => h, ?_, Or.inl ⟨by kernel_rfl, ?_⟩, ?_⟩; rotate_left; (focus (intro wS hSw; (try dsimp only at hSw); go_simp; try with_reducible rfl)); (try simp only [Act.put, List.setIfInBounds_toArray, List.set_cons_zero, List.set_cons_succ]))
                    (refine held_take 7 (by kernel_rfl) (by kernel_rfl) (by kernel_rfl) (by assumption) ?_; simp only [List.getElem?_toArray, List.getElem?_cons_succ, List.getElem?_cons_zero]; refine ⟨fun _ _ _ _ h => h, ?_, Or.inl ⟨by kernel_rfl, ?_⟩, ?_⟩; rotate_left; (focus (intro wS hSw; (try dsimp only at hSw); go_simp; try with_reducible rfl)); (try simp only [Act.put, List.setIfInBounds_toArray, List.set_cons_zero, List.set_cons_succ]))
                    have HC := Lib.hid (twice_any q1.1 q2.1 q1.2 q2.2 R1 R2 y0 B (Nat.le_trans hbX0 (Nat.le_trans HB.out.size HB5.out.size)) (HR1.out.below (through (HB.out.mono hbX0) hbX0 HB5.out)) (HR2.out.below (through (HB.out.mono hbX0) hbX0 HB5.out)))
                    (refine held_one 8 (by kernel_rfl) ?_; simp only [List.getElem?_toArray, List.getElem?_cons_succ, List.getElem?_cons_zero]; intro K hK; go_simp)
                    clear hHeld
                    refine HC.out.mono ?_
                    rintro e y1 ⟨rfl, hb⟩
                    (go_wp2_with fail; refine hK.out _ _ ?_ (fun hHeld => ?_); (focus (exact HS.out _ (through HB5.out (Nat.le_refl _) hb))); clear hK K; (try simp only [Act.put, List.setIfInBounds_toArray, List.set_cons_zero, List.set_cons_succ]))
                    have HB6 := Lib.hid (through HB5.out (Nat.le_refl _) hb)
                    clear hb HC HB5
                    by_cases hsh : NoSh R1 R2
                    · rw [decide_eq_true hsh]
                      have HX := Lib.hid (HNX.out hsh)
                      (refine wpAnyH_done (by kernel_rfl) ?_ _)
                      clear hHeld hsh
                      go_wp2_with fail
                      go_roundw
                      case rel => exact ⟨m + 1, by omega, by go_num, HX.out, HB6.out⟩
                      case measure => simp [Go.RowKit.intOf]; omega
                    · rw [decide_eq_false hsh]
                      have HI := Lib.hid (HALL2.out.trans (HS1.out hsh))
                      (refine wpAnyH_done (by kernel_rfl) ?_ _)
                      clear hHeld hsh
                      go_wp2_with fail
                      go_returns
                      exact ⟨Sp.ret_int HI.out.symm, HE.out _ (through HB.out (Nat.le_refl _) HB6.out)⟩
                  · obtain rfl : m = i := by omega
                    go_wp2_with fail
                    go_roundw
                    case rel => exact ⟨m + 1, by omega, by go_num, fun a b hab hb => by
                      rcases (show b < m ∨ b = m by omega) with h1 | rfl
                      · exact HNO.out a b hab h1
                      · exact HN2.out a hab, HB5.out⟩
                    case measure => simp [Go.RowKit.intOf]; omega
              · obtain rfl : i = L.length := by omega
                have HI := Lib.hid (HALL2.out.trans (HUS.out fun a b hab hb => HNO.out a b hab hb))
                go_wp2_with fail
                go_returns
                exact ⟨Sp.ret_int HI.out.symm, HE.out _ (through HB.out (Nat.le_refl _) HB5.out)⟩
  · have t0 : ((fs.length : Int) != ((kindF l 1).length : Int)) = true := by simp; omega
    have HI := Lib.hid (chkF_input (l := l) (fs := fs) fun hc => hlen (by rw [← hc]; simp))
    clear hlen
    go_wp2_with fail
    go_returns
    exact ⟨Sp.ret_int HI.out.symm, HE.out _ HB.out⟩
end Go.Proofs.Ytaodbjgcidkpkaa.Fd
