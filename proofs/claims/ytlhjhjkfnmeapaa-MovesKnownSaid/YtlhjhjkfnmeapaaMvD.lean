/- Moves done one by one on a list of owners. -/
import Derived.Test.YtlhjhjkfnmeapaaMv9
import Derived.Test.YtlhjhjkfnmeapaaMvF
namespace Go.Proofs.Ytlhjhjkfnmeapaa.Mv
open Go.ChangeShapes Go.WideShapes Go.ChangeAt Go.RowKit M

/-! ### the plain law: what the owners are behind some moves -/
section
variable {old par : Int} {G : Nat}
def hits (m : Q4) (g : Nat) : Bool := decide (m.2.2.1 ≤ (g : Int)) && decide ((g : Int) < m.2.2.2)
theorem hits_iff {m : Q4} {g : Nat} : hits m g = true ↔ m.2.2.1 ≤ (g : Int) ∧ (g : Int) < m.2.2.2 := by unfold hits; simp
def stAt (old par : Int) (G : Nat) (P : List Q4) (g : Nat) : Int := if P.any (fun m => hits m g) then (ow old par G g).2 else (ow old par G g).1
def st (old par : Int) (G : Nat) (P : List Q4) : List Int := (List.range G).map (stAt old par G P)
theorem st_len (P : List Q4) : (st old par G P).length = G := by simp [st]
theorem st_get {P : List Q4} {k : Nat} (hk : k < G) : (st old par G P).getD k 0 = stAt old par G P k := by
  unfold st; rw [List.getD_eq_getElem?_getD]; simp [hk]
theorem st_ext {P P' : List Q4} (h : ∀ g, g < G → P.any (fun m => hits m g) = P'.any (fun m => hits m g)) : st old par G P = st old par G P' := by
  unfold st
  apply List.map_congr_left
  intro g hg
  unfold stAt
  rw [h g (List.mem_range.1 hg)]
theorem any_snoc (P : List Q4) (m : Q4) (g : Nat) : (P ++ [m]).any (fun m => hits m g) = (P.any (fun m => hits m g) || hits m g) := by simp
theorem st_start {P : List Q4} {a b lo : Int} : st old par G (P ++ [(a, b, lo, lo)]) = st old par G P := by
  apply st_ext
  intro g _
  rw [any_snoc]
  have : hits (a, b, lo, lo) g = false := by
    cases hc : hits (a, b, lo, lo) g with
    | false => rfl
    | true => have := hits_iff.1 hc; simp only at this; omega
  rw [this, Bool.or_false]
theorem st_old {P : List Q4} {m : Q4} (hm : Mover old par G m) (ha : ∀ m' ∈ P, Apart m' m) {k : Nat} (h1 : m.2.2.1 ≤ (k : Int)) (h2 : (k : Int) < m.2.2.2) :
    (st old par G (P ++ [(m.1, m.2.1, m.2.2.1, (k : Int))])).getD k 0 = m.1 := by
  have hk : k < G := by have := hm.le; omega
  rw [st_get hk]
  unfold stAt
  rw [if_neg, hm.ow k h1 h2]
  rw [any_snoc]
  intro hc
  rcases Bool.or_eq_true _ _ ▸ hc with hc | hc
  · obtain ⟨m', hm', hh⟩ := List.any_eq_true.1 hc
    have e := hits_iff.1 hh
    rcases ha m' hm' with h | h <;> omega
  · have := hits_iff.1 hc; simp only at this; omega
theorem st_set {P : List Q4} {m : Q4} (hm : Mover old par G m) {k : Nat} (h1 : m.2.2.1 ≤ (k : Int)) (h2 : (k : Int) < m.2.2.2) :
    (st old par G (P ++ [(m.1, m.2.1, m.2.2.1, (k : Int))])).set k m.2.1 = st old par G (P ++ [(m.1, m.2.1, m.2.2.1, ((k + 1 : Nat) : Int))]) := by
  have hk : k < G := by have := hm.le; omega
  apply List.ext_getElem?
  intro i
  rw [List.getElem?_set]
  by_cases hi : i < G
  · by_cases e : k = i
    · subst e
      rw [if_pos rfl, if_pos (by rw [st_len]; exact hk)]
      unfold st
      rw [List.getElem?_map, List.getElem?_range hk]
      show some _ = some (stAt _ _ _ _ _)
      unfold stAt
      rw [if_pos, hm.ow k h1 h2]
      rw [any_snoc]
      have : hits (m.1, m.2.1, m.2.2.1, ((k + 1 : Nat) : Int)) k = true := hits_iff.2 ⟨h1, by simp only; omega⟩
      rw [this, Bool.or_true]
    · rw [if_neg e]
      unfold st
      rw [List.getElem?_map, List.getElem?_map, List.getElem?_range hi]
      show some (stAt _ _ _ _ _) = some (stAt _ _ _ _ _)
      congr 1
      unfold stAt
      rw [any_snoc, any_snoc]
      have : hits (m.1, m.2.1, m.2.2.1, (k : Int)) i = hits (m.1, m.2.1, m.2.2.1, ((k + 1 : Nat) : Int)) i := by
        rw [Bool.eq_iff_iff, hits_iff, hits_iff]; simp only; omega
      rw [this]
  · rw [if_neg (by omega), List.getElem?_eq_none (by rw [st_len]; omega), List.getElem?_eq_none (by rw [st_len]; omega)]
theorem st_in (P : List Q4) : ∀ x ∈ st old par G P, In64 x := by
  intro x hx
  obtain ⟨g, -, rfl⟩ := List.mem_map.1 hx
  have o1 := Gr.ownerG_bd (g : Int) old (G : Int)
  have o2 := Gr.ownerG_bd (g : Int) par (G : Int)
  unfold stAt ow In64
  split <;> simp only <;> omega
end

theorem getD_mem' {xs : List Int} {k : Nat} (hk : k < xs.length) : xs.getD k 0 ∈ xs := by
  rw [List.getD_eq_getElem?_getD, List.getElem?_eq_getElem hk]; exact List.getElem_mem hk
theorem ints_at {w : World} {B : Nat} {A : Option Addr} {c : Nat} {xs : List Int} (h : IsInts w B ⟨A, c, xs⟩) {k : Nat} (hk : k < xs.length) :
    ∃ b o v, A = some ⟨b, o, none⟩ ∧ b < B ∧ Hid (xs.getD k 0 = v) ∧ In64 v ∧ w.cell? ⟨b, o + k, none⟩ = some (.int .i64 v) := by
  obtain ⟨b, o, e, hb, hc⟩ := h.1.at1 hk
  exact ⟨b, o, _, e, hb, Lib.hid rfl, h.2.2.2 _ (getD_mem' hk), hc⟩
theorem own_int_set {w : World} {B b n c : Nat} {xs : List Int} (h : OwnI w B (.slice (some ⟨b, 0, none⟩) n c) xs) {k : Nat} (_hk : k < xs.length) (u : Int) (hu : In64 u) :
    w.frozen? ⟨b, k, none⟩ = false ∧ OwnI (w.setCell ⟨b, k, none⟩ (.int .i64 u)) B (.slice (some ⟨b, 0, none⟩) n c) (xs.set k u) := by
  have hn : n = xs.length := by
    rcases h.1.2 with ⟨hv, -⟩ | ⟨g, cap, cur, hv, -⟩
    · cases hv
    · injection hv with e1 e2 e3
  subst hn
  refine ⟨h.1.frozenAt _, ?_, fun x hx => ?_⟩
  · have h1 := World.ownsRow.stored h.1 k (.int .i64 u)
    rw [List.length_set, List.map_set]; exact h1.1
  · rcases List.mem_or_eq_of_mem_set hx with h3 | h3
    · exact h.2 x h3
    · rw [h3]; exact hu
theorem own_int_get {w : World} {B b n c : Nat} {xs : List Int} (h : OwnI w B (.slice (some ⟨b, 0, none⟩) n c) xs) {k : Nat} (hk : k < xs.length) : w.cell? ⟨b, k, none⟩ = some (.int .i64 (xs.getD k 0)) := by
  obtain ⟨b', o', v, e, -, HV, -, hc⟩ := ints_at h.ints hk
  simp only [Option.some.injEq, Addr.mk.injEq, and_true] at e
  obtain ⟨rfl, rfl⟩ := e
  rw [HV.out]; simpa using hc
/-- numbers and moves are in two blocks -/
theorem own_apart {w : World} {B B2 : Nat} {b n c n2 c2 : Nat} {A2 : Option Addr} {xs : List Int} {T : List Q4} (h : OwnI w B (.slice (some ⟨b, 0, none⟩) n c) xs) (k : OwnQ 34 w B2 (.slice A2 n2 c2) T) :
    (Value.slice A2 n2 c2).ownBlock ≠ some b := by
  intro hb
  rcases h.1.2 with ⟨hv, -⟩ | ⟨g, cap, cur, hv, -, hh, -⟩
  · cases hv
  · rcases k.1.2 with ⟨hv2, -⟩ | ⟨g2, cap2, cur2, hv2, -, hh2, -⟩
    · rw [hv2] at hb; cases hb
    · rw [hv2] at hb
      injection hv with e1
      injection e1 with e1
      injection e1 with e1
      have e2 : g2 = b := by
        have : some g2 = some b := hb
        injection this
      subst e1
      subst e2
      rw [hh] at hh2
      injection hh2 with hh2
      injection hh2 with _ e3
      exact absurd e3 (by decide)

set_option maxRecDepth 100000 in
set_option maxHeartbeats 4000000 in
theorem done_any (old par : Int) (G : Nat) (hG : G ≤ 64) (T : List Q4) (hT : ∀ m ∈ T, Mover old par G m) (hP : T.Pairwise Apart) (b c c2 : Nat) (A2 : Option Addr) (B B2 : Nat) (w : World)
    (h : OwnI w B (.slice (some ⟨b, 0, none⟩) G c) (st old par G [])) (k : OwnQ 34 w B2 (.slice A2 T.length c2) T) :
    Calls Try.prog 20 #[.slice (some ⟨b, 0, none⟩) G c, .slice A2 T.length c2] w
      fun e w' => e = .returned (.bool true) ∧ OwnI w' B (.slice (some ⟨b, 0, none⟩) G c) (st old par G T) ∧ w.grownBy w' (some b) := by
  have hlen := k.quads.len
  have HAP := Lib.hid (own_apart h k)
  have HT := Lib.hid hT
  have HP := Lib.hid hP
  have HK := Lib.hid k
  have H := Lib.hid h
  clear hT hP k h
  obtain ⟨n, hn⟩ : ∃ n, T.length = n := ⟨_, rfl⟩
  rw [hn] at hlen HAP HK ⊢
  have HN := Lib.hid hn
  clear hn
  go_enter Try.func20, Try.ntmps20
  go_wp2_with fail
  go_loopw [5] (fun q wr => ∃ i : Nat, i ≤ n ∧ q = .int .i64 i ∧ OwnI wr B (.slice (some ⟨b, 0, none⟩) G c) (st old par G (T.take i)) ∧ w.grownBy wr (some b)) (fun q _ => n - (intOf q).toNat)
  case atStart => exact ⟨0, by omega, rfl, H.out, World.grownBy.refl _ _⟩
  case round =>
    obtain ⟨i, hi, rfl, hown, hg⟩ := hrel
    obtain ⟨wo, rfl⟩ : ∃ wo : World, wo = wr := ⟨_, rfl⟩
    have HO := Lib.hid hown
    have HG := Lib.hid hg
    clear hown hg
    by_cases hlt : i < n
    · have hiT : i < T.length := by have := HN.out; omega
      have HQ := Lib.hid ((HK.out.grown HG.out (Or.inr HAP.out)).quads)
      obtain ⟨b2, ao, m, rfl, hb2, HV, -, c0, c1, c2', c3⟩ := quads_at HQ.out hiT
      have hmem : m ∈ T := HV.out ▸ quads_mem hiT
      have hmv := HT.out m hmem
      have HTK := Lib.hid (quads_take hiT HV.out)
      have HAPT : Hid (∀ m' ∈ T.take i, Apart m' m) := Lib.hid (fun m' hm' => by
        have hp := HP.out
        obtain ⟨j, hj, e⟩ := List.getElem_of_mem hm'
        rw [List.length_take] at hj
        have hp2 := (List.pairwise_iff_getElem.1 hp) j i (by omega) hiT (by omega)
        rw [List.getElem_take] at e
        rw [e] at hp2
        have : T[i] = m := by rw [← HV.out, List.getD_eq_getElem?_getD, List.getElem?_eq_getElem hiT]; rfl
        rw [this] at hp2; exact hp2)
      obtain ⟨l0, l1, l2, l3⟩ := hmv
      have HMV := Lib.hid (HT.out m hmem)
      obtain ⟨x0, x1, x2, x3⟩ := m
      simp only at l0 l1 l2 l3 c0 c1 c2' c3
      have t1 : decide (x2 < 0) = false := decide_eq_false (by omega)
      have t2 : decide (x3 ≤ x2) = false := decide_eq_false (by omega)
      have t3 : decide ((G : Int) < x3) = false := decide_eq_false (by omega)
      have t4 : (x0 == x1) = false := by simpa using l3
      obtain ⟨lo, rfl⟩ : ∃ lo : Nat, x2 = (lo : Int) := ⟨x2.toNat, by omega⟩
      obtain ⟨hi', rfl⟩ : ∃ hi : Nat, x3 = (hi : Int) := ⟨x3.toNat, by omega⟩
      have b1 : lo < hi' := by omega
      have b2' : hi' ≤ G := by omega
      clear l0 l1 l2 l3 hmem hb2
      have u1 : decide ((lo : Int) < 0) = false := decide_eq_false (by omega)
      have u2 : decide ((hi' : Int) ≤ (lo : Int)) = false := decide_eq_false (by omega)
      have u2' : decide (hi' ≤ lo) = false := decide_eq_false (by omega)
      have u3 : decide ((G : Int) < (hi' : Int)) = false := decide_eq_false (by omega)
      have u3' : decide (G < hi') = false := decide_eq_false (by omega)
      go_wp2_with fail
      go_quiet (fail)
      go_wp2_with fail
      clear t1 t2 t3 t4 u1 u2 u2' u3 u3' c0 c1 c2' c3
      go_loopw [6] (fun q wr => ∃ h : Nat, lo ≤ h ∧ h ≤ hi' ∧ q = .int .i64 h ∧ OwnI wr B (.slice (some ⟨b, 0, none⟩) G c) (st old par G (T.take i ++ [(x0, x1, (lo : Int), (h : Int))])) ∧ w.grownBy wr (some b)) (fun q _ => hi' - (intOf q).toNat)
      case atStart => exact ⟨lo, by omega, by omega, rfl, by rw [st_start]; exact HO.out.drewN _, only_drewN HG.out _⟩
      case round =>
        obtain ⟨h, hh1, hh2, rfl, hown, hg⟩ := hrel
        have hk2 := HK.out.grown hg (Or.inr HAP.out)
        obtain ⟨y, HY, -, d0, d1, d2, d3⟩ := quads_get hk2.quads hiT
        obtain rfl : y = (x0, x1, (lo : Int), (hi' : Int)) := HY.out.symm.trans HV.out
        simp only at d0 d1 d2 d3
        by_cases hlh : h < hi'
        · have hcell := own_int_get hown (k := h) (by rw [st_len]; omega)
          rw [st_old HMV.out HAPT.out (by simp only; omega) (by simp only; omega)] at hcell
          have hset := own_int_set hown (k := h) (by rw [st_len]; omega) x1 (by have := HK.out.2 (x0, x1, (lo : Int), (hi' : Int)) (HV.out ▸ quads_mem hiT); exact this.2.1)
          rw [st_set HMV.out (by simp only; omega) (by simp only; omega)] at hset
          simp only at hcell hset
          obtain ⟨hf, hset⟩ := hset
          have HS2 := Lib.hid hset
          have HG2 := Lib.hid hg
          have t1 : decide (h < hi') = true := decide_eq_true hlh
          have t2 : (x0 != x0) = false := by simp
          clear hset hg hown hk2
          go_wp2_with fail
          go_quiet (fail)
          go_wp2_with fail
          go_roundw
          case rel => exact ⟨h + 1, by omega, by omega, by go_num, HS2.out.drewN _, only_drewN (only_setCell HG2.out (p := ⟨b, h, none⟩) (.inl rfl) _) _⟩
          case measure => simp [intOf]; omega
        · obtain rfl : h = hi' := by omega
          have HO2 := Lib.hid hown
          have HG2 := Lib.hid hg
          clear hk2 hown hg
          go_wp2_with fail
          go_roundw
          case rel => exact ⟨i + 1, by omega, by go_num, by rw [HTK.out]; exact HO2.out, HG2.out⟩
          case measure => simp [intOf]; omega
    · obtain rfl : i = n := by omega
      go_wp2_with fail
      go_returns
      have e := HO.out
      rw [List.take_of_length_le (by have := HN.out; omega)] at e
      exact ⟨by first | rfl | simp, e, HG.out⟩
end Go.Proofs.Ytlhjhjkfnmeapaa.Mv
