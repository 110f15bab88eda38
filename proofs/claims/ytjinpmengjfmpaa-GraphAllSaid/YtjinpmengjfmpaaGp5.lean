/- All edges, from any memory. -/
import Derived.Test.YtjinpmengjfmpaaGpE
import Derived.Test.YtjinpmengjfmpaaGp3
import Derived.Test.YtjinpmengjfmpaaGp4
import Derived.Test.YtjinpmengjfmpaaSp13
import Derived.Test.YtjinpmengjfmpaaRound
import Derived.WalkLawsBesides
namespace Go.Proofs.Ytjinpmengjfmpaa.Gp
open Go.ChangeShapes Go.WideShapes Go.ChangeAt Go.RowKit Go.Shelf M Sp
attribute [local go_sem] Oper.semAt_some

theorem idx_of {par : List Int} {m t : Nat} (hm : m < par.length) (ht : t < (par.getD m 0).toNat) : idxP (spotsP par) ((m : Int), (t : Int)) = ((upto par m).length + t : Nat) := by
  obtain ⟨r, hr⟩ := spots_split hm ht
  unfold spotsP
  rw [hr]
  have e : prs (uptoT par m t ++ ((upto par m).length + t, m, t) :: r) = prs (uptoT par m t) ++ ((m : Int), (t : Int)) :: prs r := by simp [prs]
  rw [e, idxP_at, prs_len, uptoT_len]
  intro y hy he
  obtain ⟨x, hx, rfl⟩ := List.mem_map.1 hy
  injection he with e1 e2
  have := mem_uptoT hx
  omega
theorem edgeT : IsPT 49 40 := ⟨Try.underlying40, by kernel_rfl⟩

def edgesOf (l : List OpP) (par : List Int) (pre : List (TriS par)) : List (Int × Int) := pre.flatMap fun x => edgesAt l par x.1
theorem edgesOf_snoc (l : List OpP) (par : List Int) (pre : List (TriS par)) (x : TriS par) : edgesOf l par (pre ++ [x]) = edgesOf l par pre ++ edgesAt l par x.1 := by simp [edgesOf]
theorem edgesOf_all (l : List OpP) (par : List Int) (ys : List (TriS par)) (h : vals ys = spotsN par) : edgesOf l par ys = edgesP l par := by
  unfold edgesP
  rw [← h]
  unfold edgesOf vals
  rw [List.flatMap_map]

theorem num_lt {par : List Int} {x : Tri} (h : x ∈ spotsN par) : x.1 < (spotsN par).length := by
  obtain ⟨k, hk, e⟩ := List.getElem_of_mem h
  have := upto_num (par := par) par.length k hk
  have h2 : (spotsN par)[k].1 = k := this
  rw [e] at h2; omega
theorem edgesOf_len {l : List OpP} {par : List Int} (h8 : ∀ x ∈ par, x ≤ 8) (hin : ∀ i, i < par.length → (insOf l i).length ≤ 12) : ∀ pre : List (TriS par), (edgesOf l par pre).length ≤ 96 * pre.length
  | [] => by simp [edgesOf]
  | x :: pre => by
    have ih := edgesOf_len h8 hin pre
    have h1 := hin x.1.2.1 (mem_spots x.2).1
    have h2 := edgesK_len (par := par) (n := x.1.1) (ins := insOf l x.1.2.1) h8 (insOf l x.1.2.1).length
    have e : edgesOf l par (x :: pre) = edgesAt l par x.1 ++ edgesOf l par pre := by simp [edgesOf]
    rw [e, List.length_append, List.length_cons]
    unfold edgesAt
    omega
/-- the boxes of the call that collects edges -/
structure EB (N : Nat) (w : World) (g : Int) (A : Option Addr) (ll c : Nat) (P : Option Addr) (pl cp : Nat) (xs : List (Int × Int)) (W : World) : Prop where
  v : ∃ v, Boxed W (N + 1 + 1) 40 v ∧ W.ownsRow N 49 2 v xs.length (pairCells xs) ∧ ∀ x ∈ xs, In2 x
  s : Blk W N 35 #[.int .i64 g, .slice A ll c]
  p : Boxed W (N + 1) 22 (.slice P pl cp)
  b : Below N w W
section
variable {N : Nat} {w : World} {g : Int} {A : Option Addr} {ll c : Nat} {P : Option Addr} {pl cp : Nat} {xs : List (Int × Int)} {W W' : World}
theorem row_on {w w' : World} {B : Nat} {e : TypeId} {size k : Nat} {v : Value} {xs : List Value} (h : w.ownsRow B e size v k xs) (hb : Below w.heap.size w w') : w'.ownsRow B e size v k xs := by
  refine h.kept (row := none) ⟨hb.os, hb.tape, hb.output, hb.size, fun k hk _ => hb.block k hk⟩ ?_
  cases hv : v.ownBlock with
  | none => exact .inl rfl
  | some g => right; simp
theorem EB.on (h : EB N w g A ll c P pl cp xs W) (hN : N ≤ w.heap.size) (hb : Below W.heap.size W W') : EB N w g A ll c P pl cp xs W' := by
  obtain ⟨⟨v, h1, h2, h3⟩, h4, h5, h6⟩ := h
  exact ⟨⟨v, (hb.block _ h1.lt).trans h1, row_on h2 hb, h3⟩, h4.below hb h4.lt, (hb.block _ h5.lt).trans h5, h6.trans (hb.mono (Nat.le_trans hN h6.size))⟩
theorem EB.own {β : Type} {B : Nat} (hN : N ≤ w.heap.size) (hB : N ≤ B) (f : β → List (Int × Int)) : OwnFrom B (fun s W => EB N w g A ll c P pl cp (f s) W) := fun s X Y row h hg hr =>
  have hr' := fun r e => (hr r e).2
  ⟨holdsRow_own N (N + 1 + 1) 40 49 2 (fun s => (f s).length) (fun s => pairCells (f s)) (fun s _ => ∀ x ∈ f s, In2 x) s X Y row h.v hg hr',
    blk_own N 35 (fun (_ : Unit) => #[.int .i64 g, .slice A ll c]) () X Y row h.s hg hr', boxed_own (N + 1) 22 (fun (_ : Unit) => .slice P pl cp) () X Y row h.p hg hr',
    ownFrom_below hN hB s X Y row h.b hg hr⟩
/-- one more -/
theorem EB.app (h : EB N w g A ll c P pl cp xs W) (hN : N ≤ w.heap.size) {v v' : Value} {u : Int × Int} {tmp : Obj} {w1 : World} (hv : Boxed W (N + 1 + 1) 40 v) (hrow : W.ownsRow N 49 2 v xs.length (pairCells xs))
    (hown' : OwnP 49 w1 N v' (xs ++ [u])) (hg : (W.alloc tmp).grownBy w1 v.ownBlock) :
    EB N w g A ll c P pl cp (xs ++ [u]) (w1.setCell ⟨N + 1 + 1, 0, none⟩ v') ∧ KeepsOthers W (w1.setCell ⟨N + 1 + 1, 0, none⟩ v') ∧ Below N W (w1.setCell ⟨N + 1 + 1, 0, none⟩ v') ∧ w1.cell? ⟨N + 1 + 1, 0, none⟩ = some v ∧ w1.frozen? ⟨N + 1 + 1, 0, none⟩ = false ∧ w1.cell? ⟨N + 1, 0, none⟩ = some (.slice P pl cp) ∧ (w1.setCell ⟨N + 1 + 1, 0, none⟩ v').cell? ⟨N + 1, 0, none⟩ = some (.slice P pl cp) := by
  have hp1 : Boxed w1 (N + 1) 22 (.slice P pl cp) := (h.p.alloc tmp).kept hg (h.p.not_row (by decide) hrow)
  obtain ⟨hv1, hv2, hr2, hk2, hb2⟩ := hv.appended (by decide) hrow (Nat.le_trans hN h.b.size) (by omega : N ≤ N + 1 + 1) hown'.1 hg
  refine ⟨⟨⟨v', hv2, hr2, hown'.2⟩, ?_, ?_, h.b.trans hb2⟩, hk2, hb2, hv1.cell, hv1.frozen, hp1.cell, (hp1.other (by omega) v').cell⟩
  · refine ((h.s.alloc tmp).grown hg ?_).far (p := ⟨N + 1 + 1, 0, none⟩) (by show N ≠ N + 1 + 1; omega) v'
    intro e
    rcases hrow.2 with ⟨rfl, -⟩ | ⟨g', cap, cur, rfl, -, hh, -⟩
    · cases e
    · have : N = g' := by injection e
      subst this
      have h1 := h.s
      unfold Blk at h1
      rw [hh] at h1
      injection h1 with h1
      injection h1 with _ h1
      exact absurd h1 (by decide)
  · exact hp1.other (by omega) v'
end
theorem edgesI_in {par : List Int} {n : Nat} {i : Int} {t : Nat} (hn : n ≤ 1000000) (hu : (upto par i.toNat).length ≤ 1000000) (ht : t ≤ 1000000) : ∀ x ∈ edgesI par n i t, In2 x := by
  intro x hx
  obtain ⟨s, hs, rfl⟩ := List.mem_map.1 hx
  have := List.mem_range.1 hs
  refine ⟨?_, ?_⟩ <;> (unfold In64; simp only; omega)

set_option maxRecDepth 100000 in
set_option maxHeartbeats 8000000 in
theorem edges_any (g : Int) (A P : Option Addr) (c cp : Nat) (l : List OpP) (q : Nat → Option Addr × Nat) (par : List Int) (hl : l.length ≤ 12) (hp : par.length = l.length) (h8 : ∀ x ∈ par, x ≤ 8)
    (hin : ∀ i, i < l.length → (insOf l i).length ≤ 12 ∧ ∀ x ∈ insOf l i, ∃ j : Nat, x = j ∧ j < l.length) (w : World) (hO : IsOps w w.heap.size A l q) (hI : IsInts w w.heap.size ⟨P, cp, par⟩) :
    Calls Try.prog 26 #[.agg #[.int .i64 g, .slice A l.length c], .slice P par.length cp] w (RetPairs 49 w (edgesP l par)) := by
  have hN : (spotsN par).length ≤ 1000000 := by
    have : Few par := ⟨by omega, h8⟩
    have := this.len; omega
  have HP := Lib.hid hp
  have H8 := Lib.hid h8
  have HIN := Lib.hid hin
  clear hp h8 hin
  refine (callsIn_wide (n := 6)).1 ?_
  refine callsIn_of_wp_marks Try.func26 rfl trivial ?_ rfl
  simp only [Try.ntmps26, List.size_toArray, List.length_cons, List.length_nil, Nat.reduceAdd, Nat.reduceSub, Array.replicate_succ, Array.replicate_zero, List.push_toArray, List.append_toArray, List.nil_append, List.cons_append]
  gi_wp2
  refine ⟨trivial, (callsIn_wide.2 (spots_any _ ⟨_, _, _, rfl⟩ _)).mono ?_⟩
  rintro e w' ⟨rfl, rfl⟩
  gi_wp2
  have bS := (((Blk.new w 35 #[.int .i64 g, .slice A l.length c]).alloc (.cells #[.slice P par.length cp] 22)).alloc (.cells #[.slice none 0 0] 40)).alloc (.cells #[.slice P par.length cp] 22)
  have bQ := ((Boxed.new (w.alloc (.cells #[.int .i64 g, .slice A l.length c] 35)) 22 (.slice P par.length cp)).alloc (.cells #[.slice none 0 0] 40)).alloc (.cells #[.slice P par.length cp] 22)
  have bV := (Boxed.new ((w.alloc (.cells #[.int .i64 g, .slice A l.length c] 35)).alloc (.cells #[.slice P par.length cp] 22)) 40 (.slice none 0 0)).alloc (.cells #[.slice P par.length cp] 22)
  have bP := Boxed.new (((w.alloc (.cells #[.int .i64 g, .slice A l.length c] 35)).alloc (.cells #[.slice P par.length cp] 22)).alloc (.cells #[.slice none 0 0] 40)) 22 (.slice P par.length cp)
  simp only [World.size_alloc] at bP bQ bV
  obtain ⟨W0, hW0⟩ : ∃ W0, ((((w.alloc (.cells #[.int .i64 g, .slice A l.length c] 35)).alloc (.cells #[.slice P par.length cp] 22)).alloc (.cells #[.slice none 0 0] 40)).alloc (.cells #[.slice P par.length cp] 22)) = W0 := ⟨_, rfl⟩
  have hB0 : Below w.heap.size w W0 := hW0 ▸ (((((Below.refl _ w).alloc (Nat.le_refl _) _).alloc (by simp) _).alloc (by simp; omega) _).alloc (by simp; omega) _)
  have hsz : W0.heap.size = w.heap.size + 4 := by rw [← hW0]; simp
  rw [hW0] at bS bQ bV bP ⊢
  clear hW0
  refine wpIn_rangeFunc_ownH rfl (by omega) (gf := 79) (lb := #[.pointer (some ⟨w.heap.size + 1 + 1 + 1, 0, none⟩)]) rfl trivial (enters_of Try.func79 (by kernel_rfl) rfl)
    (spots_stopsS (6 - 1) (by omega) (w.heap.size + 1 + 1 + 1) w.heap.size P cp par hN W0 (by omega) (by omega) bP.cell (hI.below hB0)) belowK_t (belowK_b (by omega)) (Below.refl _ _) (fun _ => rfl)
    (fun pre W => EB w.heap.size w g A l.length c P par.length cp (edgesOf l par pre) W)
    (fun _ _ _ => False)
    (EB.own (Nat.le_refl _) (by omega) _)
    (fun _ _ _ _ _ hs _ _ => hs)
    ⟨⟨_, bV, World.ownsRow_nil _ _ _ _, fun x hx => by simp [edgesOf] at hx⟩, bS, bQ, hB0⟩
    (fun x a' W => ∃ Bx, w.heap.size < Bx ∧ Blk W Bx 24 #[.int .i64 (x.1.2.1 : Int), .int .i64 (x.1.2.2 : Int)] ∧ a' = { tmps := #[.agg #[.int .i64 g, .slice A l.length c], .slice P par.length cp, .pointer (some ⟨w.heap.size, 0, none⟩), .pointer (some ⟨w.heap.size + 1, 0, none⟩), .slice none 0 0, .pointer (some ⟨w.heap.size + 1 + 1, 0, none⟩), .int .i64 (x.1.1 : Int), .pointer (some ⟨Bx, 0, none⟩), undef, undef, undef, .slice P par.length cp, .func (.func 79) #[] #[.pointer (some ⟨w.heap.size + 1 + 1 + 1, 0, none⟩)], .int .i64 (x.1.1 : Int), .agg #[.int .i64 (x.1.2.1 : Int), .int .i64 (x.1.2.2 : Int)], undef, undef, undef, undef, undef, undef, undef, undef, undef, undef, undef, undef, undef, undef, undef, undef, undef, undef, undef, undef, undef, undef, undef, undef, undef, undef, undef, undef, undef, undef, undef, undef, undef], defers := [] })
    (fun x a' _ X Y row hs hg hr => by obtain ⟨Bx, h1, h2, h3⟩ := hs; exact ⟨Bx, h1, blk_own Bx 24 (fun (_ : Unit) => #[.int .i64 (x.1.2.1 : Int), .int .i64 (x.1.2.2 : Int)]) () X Y row h2 hg (fun r e => (hr r e).2), h3⟩)
    ?assign ?body ?done ?stop
  case assign =>
    rintro k pre x W K hE hK
    gi_wp2
    exact hK _ _ ((KeepsOthers.alloc _ _).from _) ((Below.refl _ W).alloc hE.b.size _) (hE.on (Nat.le_refl _) ((Below.refl _ W).alloc (Nat.le_refl _) _)) ⟨W.heap.size, hE.s.lt, Blk.new W _ _, rfl⟩
  case body =>
    rintro lp pre x a' W - - hE ⟨Bx, hBx, hX, rfl⟩ hlt
    obtain ⟨⟨n, op, tk⟩, hx⟩ := x
    have hmx := mem_spots hx
    simp only at hX hmx
    obtain ⟨hop1, -⟩ := hmx
    have hop : op < l.length := by have := HP.out; omega
    obtain ⟨ba, oa, rfl, hba, -, c1, -, -, -, -, -, -, -, hins⟩ := (hO.below hE.b).at_ hop
    have hq := HIN.out op hop
    have HES := Lib.hid (edgesOf_snoc l par pre ⟨(n, op, tk), hx⟩)
    have HEA := Lib.hid (show edgesAt l par (n, op, tk) = edgesK par n (insOf l op) (insOf l op).length from rfl)
    obtain ⟨ins, hi0⟩ : ∃ ins, insOf l op = ins := ⟨_, rfl⟩
    rw [hi0] at c1 hins hq HEA
    obtain ⟨hq12, hqm⟩ := hq
    obtain ⟨qa, hqa⟩ : ∃ qa, q op = qa := ⟨_, rfl⟩
    obtain ⟨qa, qc⟩ := qa
    rw [hqa] at c1 hins
    simp only at c1 hins
    have s1 := hE.s.cell 1
    have x0 := hX.cell 0
    simp at s1 x0
    have HINS := Lib.hid hins
    have HQM := Lib.hid hqm
    have HE := Lib.hid hE
    have HX := Lib.hid hx
    have hi9 := ints_len9 hins
    have hl9 : l.length ≤ 9223372036854775807 := by omega
    have HO := Lib.hid hO
    have HI := Lib.hid hI
    have HN := Lib.hid hN
    have HEL := Lib.hid (show (edgesOf l par pre).length ≤ 1000000 from by have := edgesOf_len (l := l) H8.out (fun i hi => (HIN.out i (by have := HP.out; omega)).1) pre; have h96 := (show Few par from ⟨by have := HP.out; omega, H8.out⟩).len; omega)
    have HNN := Lib.hid (show n ≤ 1000000 from by have := num_lt hx; simp only at this; omega)
    obtain ⟨E0, hE0⟩ : ∃ E0, edgesOf l par pre = E0 := ⟨_, rfl⟩
    rw [hE0] at HE HES HEL
    clear hqm hins hE hi0 hqa hX hlt bS bQ bV bP hB0 hop1 hO hI hN hE0 hBx
    gi_wp2
    gi_loopw [23] (fun qq wr => ∃ k : Nat, k ≤ ins.length ∧ qq = .int .i64 k ∧ EB w.heap.size w g (some ⟨ba, oa, none⟩) l.length c P par.length cp (E0 ++ edgesK par n ins k) wr ∧ KeepsFrom W0.heap.size W wr ∧ Below w.heap.size W wr) (fun qq _ => ins.length - (intOf qq).toNat)
    case atStart => exact ⟨0, by omega, rfl, by rw [edgesK_zero, List.append_nil]; exact HE.out, KeepsFrom.refl _ _, Below.refl _ _⟩
    case round =>
      obtain ⟨k, hk, rfl, hEk, hkf, hbk⟩ := hrel
      obtain ⟨wo, rfl⟩ : ∃ wo : World, wo = wr := ⟨_, rfl⟩
      have HEK := Lib.hid hEk
      have HKF := Lib.hid hkf
      have HBK := Lib.hid hbk
      clear hkf hbk
      by_cases hlk : k < ins.length
      · have t1 : decide (k < ins.length) = true := decide_eq_true hlk
        obtain ⟨b3, o3, rfl⟩ := ints_addr HINS.out (by omega)
        have hcell := ints_get (HINS.out.below HBK.out) hlk
        obtain ⟨v, hv⟩ : ∃ v, ins.getD k 0 = v := ⟨_, rfl⟩
        rw [hv] at hcell
        obtain ⟨m, hvm, hml⟩ := HQM.out v (by rw [← hv]; exact getD_mem hlk)
        subst hvm
        have hmp : m < par.length := by have := HP.out; omega
        obtain ⟨b4, o4, rfl⟩ := ints_addr HI.out (by omega)
        have hIw := HI.out.below hEk.b
        have hcp := ints_get hIw hmp
        have hp64 := ints_in64 hIw m
        have hp8 : par.getD m 0 ≤ 8 := by
          rw [List.getD_eq_getElem?_getD, List.getElem?_eq_getElem hmp]; exact H8.out _ (List.getElem_mem hmp)
        obtain ⟨p, hpm⟩ : ∃ p, par.getD m 0 = p := ⟨_, rfl⟩
        rw [hpm] at hcp hp64 hp8
        unfold In64 at hp64
        obtain ⟨hp0, -⟩ := hp64
        have pc := hEk.p.cell
        have HV := Lib.hid hv
        have HPM := Lib.hid hpm
        have hpl9 : par.length ≤ 9223372036854775807 := by have := HP.out; omega
        clear hEk hv hpm hIw
        have hmo : m < 1000000 := by omega
        have HNM := Lib.hid (show (upto par m).length ≤ 1000000 from Nat.le_trans (upto_le (by omega)) HN.out)
        have HSN := Lib.hid (edgesK_snoc (par := par) (n := n) hlk HV.out)
        rw [show ((m : Int)).toNat = m by omega, HPM.out] at HSN
        by_cases hpp : 0 < p
        · obtain ⟨T, rfl⟩ : ∃ T : Nat, p = (T : Int) := ⟨p.toNat, by omega⟩
          have tp : decide (0 < (T : Int)) = true := decide_eq_true hpp
          have hT8 : T ≤ 8 := by omega
          clear hp0 hp8
          gi_wp2
          gi_loopw [32] (fun qq wr => ∃ t : Nat, t ≤ T ∧ qq = .int .i64 t ∧ EB w.heap.size w g (some ⟨ba, oa, none⟩) l.length c (some ⟨b4, o4, none⟩) par.length cp (E0 ++ edgesK par n ins k ++ edgesI par n (m : Int) t) wr ∧ KeepsFrom W0.heap.size W wr ∧ Below w.heap.size W wr) (fun qq _ => T - (intOf qq).toNat)
          case atStart => exact ⟨0, by omega, rfl, by rw [edgesI_zero, List.append_nil]; exact HEK.out, HKF.out, HBK.out⟩
          case round =>
            obtain ⟨t, ht, rfl, hEt, hkf, hbk⟩ := hrel
            have HKF2 := Lib.hid hkf
            have HBK2 := Lib.hid hbk
            have HET := Lib.hid hEt
            clear hkf hbk hEt
            by_cases htT : t < T
            · have t2 : decide (t < T) = true := decide_eq_true htT
              obtain ⟨r, hr⟩ : ∃ r : Int, (((upto par m).length + t : Nat) : Int) = r := ⟨_, rfl⟩
              have HRR := Lib.hid hr
              have hr0 : 0 ≤ r := by omega
              have hr1 : r ≤ 1000010 := by have := HNM.out; omega
              clear hr
              have HIX : Hid (∀ Y, Below wr.heap.size wr Y → Calls Try.prog 20 #[.slice (some ⟨b4, o4, none⟩) par.length cp, .agg #[.int .i64 (m : Int), .int .i64 (t : Int)]] Y fun e w' => e = .returned (.int .i64 r) ∧ Below Y.heap.size Y w') := Lib.hid (fun Y hY => by
                have h1 := (HET.out.on (Nat.le_refl _) hY).b
                have h2 := index_any (some ⟨b4, o4, none⟩) cp par ((m : Int), (t : Int)) Y HN.out ((HI.out.below h1).more h1.size)
                rw [idx_of hmp (by rw [HPM.out]; omega), HRR.out] at h2
                exact h2)
              obtain ⟨XS, hXS⟩ : ∃ XS, E0 ++ edgesK par n ins k ++ edgesI par n (m : Int) t = XS := ⟨_, rfl⟩
              have HLN := Lib.hid (show XS.length < 1000000000 from by rw [← hXS]; have := HEL.out; have := edgesK_len (par := par) (n := n) (ins := ins) H8.out k; rw [List.length_append, List.length_append, edgesI_len]; omega)
              rw [hXS] at HET
              have HXS := Lib.hid hXS
              clear hXS
              obtain ⟨v, hvb, hvr, hvi⟩ := HET.out.v
              have HVB := Lib.hid hvb
              have HVR := Lib.hid hvr
              have HVI := Lib.hid hvi
              have HNX := Lib.hid (show n ≤ 1000000 from HNN.out)
              have HST : Hid (∀ Y, Below wr.heap.size wr Y → Y.cell? ⟨w.heap.size + 1 + 1, 0, none⟩ = some v ∧ Y.cell? ⟨w.heap.size + 1, 0, none⟩ = some (.slice (some ⟨b4, o4, none⟩) par.length cp)) := Lib.hid (fun Y hY =>
                ⟨(show Boxed Y _ _ _ from (hY.block _ HVB.out.lt).trans HVB.out).cell, (HET.out.on (Nat.le_refl _) hY).p.cell⟩)
              clear hvb hvr hvi pc hcp hcell c1 s1 x0
              gi_wp2
              refine round_region (S := fun w' => w'.cell? ⟨w.heap.size + 1, 0, none⟩ = some (.slice (some ⟨b4, o4, none⟩) par.length cp)) (by kernel_rfl) (fun ⟨_, _, h⟩ => h) (noDefer_of (by kernel_rfl)) (HST.out _ (Below.refl _ _).drew).2 (fun hHeld => ?_)
              (refine held_take 1 (by kernel_rfl) (by kernel_rfl) (by kernel_rfl) (by assumption) ?_; simp only [List.getElem?_toArray, List.getElem?_cons_succ, List.getElem?_cons_zero]; refine ⟨fun _ _ _ _ h => h, ?_, Or.inl ⟨by kernel_rfl, ?_⟩, ?_⟩; rotate_left; (focus (intro wS hSw; (try dsimp only at hSw); go_simp; try with_reducible rfl)); (try simp only [Act.put, List.setIfInBounds_toArray, List.set_cons_zero, List.set_cons_succ]))
              (refine held_take 2 (by kernel_rfl) (by kernel_rfl) (by kernel_rfl) (by assumption) ?_; simp only [List.getElem?_toArray, List.getElem?_cons_succ, List.getElem?_cons_zero]; refine ⟨fun _ _ _ _ h => h, ?_, Or.inl ⟨by kernel_rfl, ?_⟩, ?_⟩; rotate_left; (focus (intro wS hSw; (try dsimp only at hSw); go_simp; try with_reducible rfl)); (try simp only [Act.put, List.setIfInBounds_toArray, List.set_cons_zero, List.set_cons_succ]))
              (refine held_take 3 (by kernel_rfl) (by kernel_rfl) (by kernel_rfl) (by assumption) ?_; simp only [List.getElem?_toArray, List.getElem?_cons_succ, List.getElem?_cons_zero]; refine ⟨fun _ _ _ _ h => h, ?_, Or.inl ⟨by kernel_rfl, ?_⟩, ?_⟩; rotate_left; (focus (intro wS hSw; (try dsimp only at hSw); go_simp; try with_reducible rfl)); (try simp only [Act.put, List.setIfInBounds_toArray, List.set_cons_zero, List.set_cons_succ]))
              (refine held_take 4 (by kernel_rfl) (by kernel_rfl) (by kernel_rfl) (by assumption) ?_; simp only [List.getElem?_toArray, List.getElem?_cons_succ, List.getElem?_cons_zero]; refine ⟨fun _ _ _ _ h => h, ?_, Or.inl ⟨by kernel_rfl, ?_⟩, ?_⟩; rotate_left; (focus (intro wS hSw; (try dsimp only at hSw); go_simp; try with_reducible rfl)); (try simp only [Act.put, List.setIfInBounds_toArray, List.set_cons_zero, List.set_cons_succ]))
              (refine held_take 6 (by kernel_rfl) (by kernel_rfl) (by kernel_rfl) (by assumption) ?_; simp only [List.getElem?_toArray, List.getElem?_cons_succ, List.getElem?_cons_zero]; refine ⟨fun _ _ _ _ h => h, ?_, Or.inl ⟨by kernel_rfl, ?_⟩, ?_⟩; rotate_left; (focus (intro wS hSw; (try dsimp only at hSw); go_simp; try with_reducible rfl)); (try simp only [Act.put, List.setIfInBounds_toArray, List.set_cons_zero, List.set_cons_succ]))
              refine held_two 0 5 (by kernel_rfl) ?_ ?_
              · have hc0 := (HST.out _ (Below.refl _ _).drew).1
                (simp only [List.getElem?_toArray, List.getElem?_cons_succ, List.getElem?_cons_zero]; intro K hK; go_simp)
                clear hHeld
                (go_wp2_with fail; refine hK.out _ _ ?_ (fun hHeld => ?_); (focus (exact (HST.out _ (Below.refl _ _).drew).2)); clear hK K; (try simp only [Act.put, List.setIfInBounds_toArray, List.set_cons_zero, List.set_cons_succ]))
                clear hc0
                (refine held_one 5 (by kernel_rfl) ?_; simp only [List.getElem?_toArray, List.getElem?_cons_succ, List.getElem?_cons_zero]; intro K hK; go_simp)
                refine (HIX.out _ (Below.refl _ _).drew).mono ?_
                rintro e X ⟨rfl, hbX⟩
                have hbX2 : Below wr.heap.size wr X := (Below.refl _ _).drew.trans hbX
                clear hHeld
                (go_wp2_with fail; refine hK.out _ _ ?_ (fun hHeld => ?_); (focus (exact (HST.out _ hbX2).2)); clear hK K; (try simp only [Act.put, List.setIfInBounds_toArray, List.set_cons_zero, List.set_cons_succ]))
                (refine held_take 7 (by kernel_rfl) (by kernel_rfl) (by kernel_rfl) (by assumption) ?_; simp only [List.getElem?_toArray, List.getElem?_cons_succ, List.getElem?_cons_zero]; refine ⟨fun _ _ _ _ h => h, ?_, Or.inl ⟨by kernel_rfl, ?_⟩, ?_⟩; rotate_left; (focus (intro wS hSw; (try dsimp only at hSw); go_simp; try with_reducible rfl)); (try simp only [Act.put, List.setIfInBounds_toArray, List.set_cons_zero, List.set_cons_succ]))
                have hnb : Below wr.heap.size wr (X.alloc (.cells #[.int .i64 r, .int .i64 (n : Int)] 49)) := through hbX2 (Nat.le_refl _) ((Below.refl _ _).alloc (Nat.le_refl _) _)
                (refine held_one 8 (by kernel_rfl) ?_; simp only [List.getElem?_toArray, List.getElem?_cons_succ, List.getElem?_cons_zero]; intro K hK; go_simp)
                clear hHeld
                (go_wp2_with fail; refine hK.out _ _ ?_ (fun hHeld => ?_); (focus (exact (HST.out _ hnb).2)); clear hK K; (try simp only [Act.put, List.setIfInBounds_toArray, List.set_cons_zero, List.set_cons_succ]))
                have hVX : Boxed X (w.heap.size + 1 + 1) 40 v := (hbX2.block _ HVB.out.lt).trans HVB.out
                have hRX := row_on HVR.out hbX2
                have hEX := HET.out.on (Nat.le_refl _) hbX2
                have HNB := Lib.hid (Blk.new X 49 #[.int .i64 r, .int .i64 (n : Int)])
                have HU2 := Lib.hid (show In2 (r, (n : Int)) by
                  have := HNM.out; have := HNX.out
                  refine ⟨?_, ?_⟩ <;> (unfold In64; simp only; omega))
                (refine held_one 9 (by kernel_rfl) ?_; simp only [List.getElem?_toArray, List.getElem?_cons_succ, List.getElem?_cons_zero]; intro K hK)
                rw [if_pos (by kernel_rfl)]
                refine wp_pair edgeT (.tmp 35) (.tmp 43) rfl w.heap.size (v := v) (by rfl) (OwnP.alloc ⟨hRX, HVI.out⟩ _) HU2.out ⟨X.heap.size, 0, none⟩ (by rfl) (HNB.out.cell 0) (HNB.out.cell 1) HLN.out (by have := hEX.b.size; simp; omega) ?_
                intro A5 c5 w5 ho5 hg5
                obtain ⟨hA1, hA2, hA3, hA4, hA5, hA6, hA7⟩ := hEX.app (Nat.le_refl _) hVX hRX ho5 hg5
                have HA1 := Lib.hid hA1
                have HA2 := Lib.hid hA2
                have HA3 := Lib.hid hA3
                have HA7 := Lib.hid hA7
                clear hHeld hVX hRX hEX hA1 hA2 hA3 hA7 ho5 hg5
                (go_wp2_with fail; refine hK.out _ _ ?_ (fun hHeld => ?_); (focus (exact hA6)); clear hK K; (try simp only [Act.put, List.setIfInBounds_toArray, List.set_cons_zero, List.set_cons_succ]))
                (refine held_one 10 (by kernel_rfl) ?_; simp only [List.getElem?_toArray, List.getElem?_cons_succ, List.getElem?_cons_zero]; intro K hK; go_simp)
                clear hHeld
                (go_wp2_with fail; refine hK.out _ _ ?_ (fun hHeld => ?_); (focus (exact HA7.out)); clear hK K; (try simp only [Act.put, List.setIfInBounds_toArray, List.set_cons_zero, List.set_cons_succ]))
                (refine wpAnyH_done (by kernel_rfl) ?_ _)
                clear hHeld hA4 hA5 hA6
                have HKX := Lib.hid (show KeepsFrom W0.heap.size wr X from KeepsFrom.of_grownBy (row := none) ⟨hbX2.os, hbX2.tape, hbX2.output, hbX2.size, fun k hk _ => hbX2.block k hk⟩ (by simp))
                have HBX := Lib.hid (show Below w.heap.size wr X from hbX2.mono HET.out.b.size)
                clear hbX2 hbX hnb
                gi_wp2
                go_roundw
                case rel => exact ⟨t + 1, by omega, by go_num, by rw [edgesI_snoc, ← List.append_assoc, HXS.out, show (((upto par (m : Int).toNat).length + t : Nat) : Int) = r from HRR.out]; exact HA1.out, HKF2.out.trans (HKX.out.trans (HA2.out.from _)), HBK2.out.trans (HBX.out.trans HA3.out)⟩
                case measure => simp [intOf]; omega
              · (simp only [List.getElem?_toArray, List.getElem?_cons_succ, List.getElem?_cons_zero]; intro K hK; go_simp)
                refine (HIX.out _ (Below.refl _ _).drew).mono ?_
                rintro e X ⟨rfl, hbX⟩
                have hbX2 : Below wr.heap.size wr X := (Below.refl _ _).drew.trans hbX
                clear hHeld
                (go_wp2_with fail; refine hK.out _ _ ?_ (fun hHeld => ?_); (focus (exact (HST.out _ hbX2).2)); clear hK K; (try simp only [Act.put, List.setIfInBounds_toArray, List.set_cons_zero, List.set_cons_succ]))
                (refine held_take 7 (by kernel_rfl) (by kernel_rfl) (by kernel_rfl) (by assumption) ?_; simp only [List.getElem?_toArray, List.getElem?_cons_succ, List.getElem?_cons_zero]; refine ⟨fun _ _ _ _ h => h, ?_, Or.inl ⟨by kernel_rfl, ?_⟩, ?_⟩; rotate_left; (focus (intro wS hSw; (try dsimp only at hSw); go_simp; try with_reducible rfl)); (try simp only [Act.put, List.setIfInBounds_toArray, List.set_cons_zero, List.set_cons_succ]))
                have hc0 := (HST.out _ hbX2).1
                refine held_two 0 8 (by kernel_rfl) ?_ ?_
                · (simp only [List.getElem?_toArray, List.getElem?_cons_succ, List.getElem?_cons_zero]; intro K hK; go_simp)
                  clear hHeld
                  (go_wp2_with fail; refine hK.out _ _ ?_ (fun hHeld => ?_); (focus (exact (HST.out _ hbX2).2)); clear hK K; (try simp only [Act.put, List.setIfInBounds_toArray, List.set_cons_zero, List.set_cons_succ]))
                  clear hc0
                  have hnb : Below wr.heap.size wr (X.alloc (.cells #[.int .i64 r, .int .i64 (n : Int)] 49)) := through hbX2 (Nat.le_refl _) ((Below.refl _ _).alloc (Nat.le_refl _) _)
                  (refine held_one 8 (by kernel_rfl) ?_; simp only [List.getElem?_toArray, List.getElem?_cons_succ, List.getElem?_cons_zero]; intro K hK; go_simp)
                  clear hHeld
                  (go_wp2_with fail; refine hK.out _ _ ?_ (fun hHeld => ?_); (focus (exact (HST.out _ hnb).2)); clear hK K; (try simp only [Act.put, List.setIfInBounds_toArray, List.set_cons_zero, List.set_cons_succ]))
                  have hVX : Boxed X (w.heap.size + 1 + 1) 40 v := (hbX2.block _ HVB.out.lt).trans HVB.out
                  have hRX := row_on HVR.out hbX2
                  have hEX := HET.out.on (Nat.le_refl _) hbX2
                  have HNB := Lib.hid (Blk.new X 49 #[.int .i64 r, .int .i64 (n : Int)])
                  have HU2 := Lib.hid (show In2 (r, (n : Int)) by
                    have := HNM.out; have := HNX.out
                    refine ⟨?_, ?_⟩ <;> (unfold In64; simp only; omega))
                  (refine held_one 9 (by kernel_rfl) ?_; simp only [List.getElem?_toArray, List.getElem?_cons_succ, List.getElem?_cons_zero]; intro K hK)
                  rw [if_pos (by kernel_rfl)]
                  refine wp_pair edgeT (.tmp 35) (.tmp 43) rfl w.heap.size (v := v) (by rfl) (OwnP.alloc ⟨hRX, HVI.out⟩ _) HU2.out ⟨X.heap.size, 0, none⟩ (by rfl) (HNB.out.cell 0) (HNB.out.cell 1) HLN.out (by have := hEX.b.size; simp; omega) ?_
                  intro A5 c5 w5 ho5 hg5
                  obtain ⟨hA1, hA2, hA3, hA4, hA5, hA6, hA7⟩ := hEX.app (Nat.le_refl _) hVX hRX ho5 hg5
                  have HA1 := Lib.hid hA1
                  have HA2 := Lib.hid hA2
                  have HA3 := Lib.hid hA3
                  have HA7 := Lib.hid hA7
                  clear hHeld hVX hRX hEX hA1 hA2 hA3 hA7 ho5 hg5
                  (go_wp2_with fail; refine hK.out _ _ ?_ (fun hHeld => ?_); (focus (exact hA6)); clear hK K; (try simp only [Act.put, List.setIfInBounds_toArray, List.set_cons_zero, List.set_cons_succ]))
                  (refine held_one 10 (by kernel_rfl) ?_; simp only [List.getElem?_toArray, List.getElem?_cons_succ, List.getElem?_cons_zero]; intro K hK; go_simp)
                  clear hHeld
                  (go_wp2_with fail; refine hK.out _ _ ?_ (fun hHeld => ?_); (focus (exact HA7.out)); clear hK K; (try simp only [Act.put, List.setIfInBounds_toArray, List.set_cons_zero, List.set_cons_succ]))
                  (refine wpAnyH_done (by kernel_rfl) ?_ _)
                  clear hHeld hA4 hA5 hA6
                  have HKX := Lib.hid (show KeepsFrom W0.heap.size wr X from KeepsFrom.of_grownBy (row := none) ⟨hbX2.os, hbX2.tape, hbX2.output, hbX2.size, fun k hk _ => hbX2.block k hk⟩ (by simp))
                  have HBX := Lib.hid (show Below w.heap.size wr X from hbX2.mono HET.out.b.size)
                  clear hbX2 hbX hnb
                  gi_wp2
                  go_roundw
                  case rel => exact ⟨t + 1, by omega, by go_num, by rw [edgesI_snoc, ← List.append_assoc, HXS.out, show (((upto par (m : Int).toNat).length + t : Nat) : Int) = r from HRR.out]; exact HA1.out, HKF2.out.trans (HKX.out.trans (HA2.out.from _)), HBK2.out.trans (HBX.out.trans HA3.out)⟩
                  case measure => simp [intOf]; omega
                · have hnb : Below wr.heap.size wr (X.alloc (.cells #[.int .i64 r, .int .i64 (n : Int)] 49)) := through hbX2 (Nat.le_refl _) ((Below.refl _ _).alloc (Nat.le_refl _) _)
                  (simp only [List.getElem?_toArray, List.getElem?_cons_succ, List.getElem?_cons_zero]; intro K hK; go_simp)
                  clear hHeld
                  (go_wp2_with fail; refine hK.out _ _ ?_ (fun hHeld => ?_); (focus (exact (HST.out _ hnb).2)); clear hK K; (try simp only [Act.put, List.setIfInBounds_toArray, List.set_cons_zero, List.set_cons_succ]))
                  clear hc0
                  have hc0 := (HST.out _ hnb).1
                  (refine held_one 0 (by kernel_rfl) ?_; simp only [List.getElem?_toArray, List.getElem?_cons_succ, List.getElem?_cons_zero]; intro K hK; go_simp)
                  clear hHeld
                  (go_wp2_with fail; refine hK.out _ _ ?_ (fun hHeld => ?_); (focus (exact (HST.out _ hnb).2)); clear hK K; (try simp only [Act.put, List.setIfInBounds_toArray, List.set_cons_zero, List.set_cons_succ]))
                  clear hc0
                  have hVX : Boxed X (w.heap.size + 1 + 1) 40 v := (hbX2.block _ HVB.out.lt).trans HVB.out
                  have hRX := row_on HVR.out hbX2
                  have hEX := HET.out.on (Nat.le_refl _) hbX2
                  have HNB := Lib.hid (Blk.new X 49 #[.int .i64 r, .int .i64 (n : Int)])
                  have HU2 := Lib.hid (show In2 (r, (n : Int)) by
                    have := HNM.out; have := HNX.out
                    refine ⟨?_, ?_⟩ <;> (unfold In64; simp only; omega))
                  (refine held_one 9 (by kernel_rfl) ?_; simp only [List.getElem?_toArray, List.getElem?_cons_succ, List.getElem?_cons_zero]; intro K hK)
                  rw [if_pos (by kernel_rfl)]
                  refine wp_pair edgeT (.tmp 35) (.tmp 43) rfl w.heap.size (v := v) (by rfl) (OwnP.alloc ⟨hRX, HVI.out⟩ _) HU2.out ⟨X.heap.size, 0, none⟩ (by rfl) (HNB.out.cell 0) (HNB.out.cell 1) HLN.out (by have := hEX.b.size; simp; omega) ?_
                  intro A5 c5 w5 ho5 hg5
                  obtain ⟨hA1, hA2, hA3, hA4, hA5, hA6, hA7⟩ := hEX.app (Nat.le_refl _) hVX hRX ho5 hg5
                  have HA1 := Lib.hid hA1
                  have HA2 := Lib.hid hA2
                  have HA3 := Lib.hid hA3
                  have HA7 := Lib.hid hA7
                  clear hHeld hVX hRX hEX hA1 hA2 hA3 hA7 ho5 hg5
                  (go_wp2_with fail; refine hK.out _ _ ?_ (fun hHeld => ?_); (focus (exact hA6)); clear hK K; (try simp only [Act.put, List.setIfInBounds_toArray, List.set_cons_zero, List.set_cons_succ]))
                  (refine held_one 10 (by kernel_rfl) ?_; simp only [List.getElem?_toArray, List.getElem?_cons_succ, List.getElem?_cons_zero]; intro K hK; go_simp)
                  clear hHeld
                  (go_wp2_with fail; refine hK.out _ _ ?_ (fun hHeld => ?_); (focus (exact HA7.out)); clear hK K; (try simp only [Act.put, List.setIfInBounds_toArray, List.set_cons_zero, List.set_cons_succ]))
                  (refine wpAnyH_done (by kernel_rfl) ?_ _)
                  clear hHeld hA4 hA5 hA6
                  have HKX := Lib.hid (show KeepsFrom W0.heap.size wr X from KeepsFrom.of_grownBy (row := none) ⟨hbX2.os, hbX2.tape, hbX2.output, hbX2.size, fun k hk _ => hbX2.block k hk⟩ (by simp))
                  have HBX := Lib.hid (show Below w.heap.size wr X from hbX2.mono HET.out.b.size)
                  clear hbX2 hbX hnb
                  gi_wp2
                  go_roundw
                  case rel => exact ⟨t + 1, by omega, by go_num, by rw [edgesI_snoc, ← List.append_assoc, HXS.out, show (((upto par (m : Int).toNat).length + t : Nat) : Int) = r from HRR.out]; exact HA1.out, HKF2.out.trans (HKX.out.trans (HA2.out.from _)), HBK2.out.trans (HBX.out.trans HA3.out)⟩
                  case measure => simp [intOf]; omega
            · obtain rfl : T = t := by omega
              gi_wp2
              go_roundw
              case rel => exact ⟨k + 1, by omega, by go_num, by rw [HSN.out, ← List.append_assoc]; exact HET.out, HKF2.out, HBK2.out⟩
              case measure => simp [intOf]; omega
        · have tp : decide (0 < p) = false := decide_eq_false hpp
          have hz : p.toNat = 0 := by omega
          rw [hz, edgesI_zero, List.append_nil] at HSN
          clear hz
          gi_wp2
          gi_loopw [32] (fun qq wr => qq = .int .i64 0 ∧ EB w.heap.size w g (some ⟨ba, oa, none⟩) l.length c (some ⟨b4, o4, none⟩) par.length cp (E0 ++ edgesK par n ins k) wr ∧ KeepsFrom W0.heap.size W wr ∧ Below w.heap.size W wr) (fun qq _ => 0)
          case atStart => exact ⟨rfl, HEK.out, HKF.out, HBK.out⟩
          case round =>
            obtain ⟨rfl, hEt, hkf, hbk⟩ := hrel
            have HKF2 := Lib.hid hkf
            have HBK2 := Lib.hid hbk
            have HET := Lib.hid hEt
            clear hkf hbk hEt
            gi_wp2
            go_roundw
            case rel => exact ⟨k + 1, by omega, by go_num, by rw [HSN.out]; exact HET.out, HKF2.out, HBK2.out⟩
            case measure => simp [intOf]; omega
      · obtain rfl : k = ins.length := by omega
        gi_wp2
        refine ⟨HKF.out, HBK.out, ?_⟩
        show EB _ _ _ _ _ _ _ _ _ (edgesOf l par (pre ++ [⟨(n, op, tk), hx⟩])) _
        rw [HES.out, HEA.out]
        exact HEK.out
  case done =>
    rintro D ys W hD hys hE hK
    obtain ⟨v, hv, hrow, hin2⟩ := hE.v
    have hc := hv.cell
    gi_wp2
    refine ⟨by simp, .inl ⟨_, _, rfl, run_takeDeferred hK, ?_⟩⟩
    rw [edgesOf_all l par ys hys] at hrow hin2
    refine ⟨_, results_tmp rfl _ _ _, ret_pairs ⟨ownsRow_putObj hrow _ hK rfl, ?_⟩ (hE.b.trans (belowK_b (w := w) (Nat.le_refl _) W D _ _ (by rw [hsz] at hD; omega) hK rfl rfl))⟩
    exact hin2
  case stop =>
    rintro D k pre W _ _ h _
    exact h.elim
end Go.Proofs.Ytjinpmengjfmpaa.Gp
