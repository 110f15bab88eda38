/- The law: each group is brought, and brought back. -/
import Derived.Test.YtlhjhjkfnmeapaaMvD
import Derived.Test.YtlhjhjkfnmeapaaPick
import Derived.Deep.RegionLaw
namespace Go.Proofs.Ytlhjhjkfnmeapaa.Mv
open Go.ChangeShapes Go.WideShapes Go.ChangeAt Go.RowKit M

section
variable {T ST : TypeId} {o : Oper} {a : Act} {w : World} {B B2 : Nat} {v : Value} {xs ys : List Q4}
theorem quads_news {b ao c : Nat} (h : IsQuads w B2 (some ⟨b, ao, none⟩) c ys) : ∀ j u, (quadCells ys)[j]? = some u → w.cell? ((⟨b, ao, none⟩ : Addr).add j) = some u := by
  intro j u hj
  have hlt : j < (quadCells ys).length := (List.getElem?_eq_some_iff.1 hj).1
  rw [quadCells_len] at hlt
  have e : j / 4 * 4 + j % 4 = j := by omega
  have hi : j / 4 < ys.length := by omega
  have h1 := quadCells_get (xs := ys) hi (Nat.mod_lt j (show 0 < 4 by omega))
  rw [e, hj] at h1
  rw [Go.WideShapes.add_plain]
  obtain ⟨b', o', e', -, hc⟩ := h.1.at_ hi
  simp only [Option.some.injEq, Addr.mk.injEq, and_true] at e'
  obtain ⟨rfl, rfl⟩ := e'
  have h2 := hc (j % 4) (Nat.mod_lt j (by omega))
  rw [show ao + j / 4 * 4 + j % 4 = ao + j by omega] at h2
  rw [h2, h1]
theorem quads_one (ys : List Q4) : ∀ u ∈ quadCells ys, u.oneCell' = true := by
  intro u hu
  obtain ⟨y, -, hy⟩ := List.mem_flatMap.1 hu
  exact news_one4 (u := y) u hy
theorem step_quads (hT : IsQT T ST) {ops : Array Oper} {K : Act → World → Prop} {Q : Exit → Act → World → Prop} {E : Prop} (hgd : o.guard = none) (s x : Operand)
    (ho : o.op = .call { callee := .builtin .append, args := #[s, x], argTypes := #[ST, ST] }) (B : Nat) (hs : a.eval s = v) (hown : OwnQ T w B v xs)
    {A : Option Addr} {n c : Nat} (hx : a.eval x = .slice A n c) (hn : ys.length = n) {B2 : Nat} (hsrc : IsQuads w B2 A c ys) (hlen : xs.length + ys.length < 1000000000) (hA : (A = none ∧ n = 0 ∧ c = 0) ∨ ∃ b o, A = some ⟨b, o, none⟩) (hB : B ≤ w.heap.size)
    (h : ∀ v' w', OwnQ T w' B v' (xs ++ ys) → w.grownBy w' v.ownBlock → K (a.put o.dst v') w') :
    if Region.wanted o (yielded ops a.tmps) = true then Oper.wp Try.prog o a w K Q else E := by
  have hw : Region.wanted o (yielded ops a.tmps) = true := by simp [Region.wanted, hgd]
  rw [if_pos hw]
  subst hn
  obtain ⟨i0, hi, hz0, hz1, hz2⟩ := info_parts hT.2
  rcases hA with ⟨rfl, h1, h2⟩ | ⟨b, ao, rfl⟩
  · have : ys = [] := List.eq_nil_of_length_eq_zero h1
    subst this
    subst h2
    have hr := run_append_owned_none (P := Try.prog) (w := w) B ST o.type T i0 4 hT.1 hi v xs.length _ hown.1
    unfold Oper.wp execOp
    simp only [List.length_nil] at hx
    simp only [ho, resolve, invoke, builtin, Sem.run_bind, Sem.run_pure, Result.andThen_ok, List.map_toArray, List.map_cons, List.map_nil, hs, hx, hr]
    exact h v w (by rw [List.append_nil]; exact hown) (World.grownBy.refl _ _)
  · obtain ⟨v', w', hr, h2, h3, -, -⟩ := run_append_own_at (P := Try.prog) (w := w) B ST o.type T i0 _ 4 32 hT.1 hi hz0 hz1 hz2 rfl (by decide) v xs.length _ hown.1 ⟨b, ao, none⟩ ys.length c (quadCells ys) (quadCells_len ys) (quads_news hsrc) (quads_one ys) (by unfold maxLen; omega) (by omega) hB
    unfold Oper.wp execOp
    simp only [ho, resolve, invoke, builtin, Sem.run_bind, Sem.run_pure, Result.andThen_ok, List.map_toArray, List.map_cons, List.map_nil, hs, hx, hr]
    refine h v' w' ⟨?_, fun y hy => ?_⟩ h3
    · rw [List.length_append]
      have : quadCells (xs ++ ys) = quadCells xs ++ quadCells ys := by simp [quadCells]
      rw [this]; exact h2
    · rcases List.mem_append.1 hy with hy | hy
      · exact hown.2 y hy
      · exact hsrc.2.2.2 y hy
end
theorem sub_form {A : Option Addr} {n c f : Nat} (h : (A = none ∧ n = 0 ∧ c = 0) ∨ ∃ b o, A = some ⟨b, o, none⟩) :
    ((if c = f then A else Option.map (fun x : Addr => x.add (f * 4)) A) = none ∧ n - f = 0 ∧ c - f = 0) ∨ ∃ b o, (if c = f then A else Option.map (fun x : Addr => x.add (f * 4)) A) = some ⟨b, o, none⟩ := by
  rcases h with ⟨rfl, h1, h2⟩ | ⟨b, o, rfl⟩
  · left; refine ⟨by split <;> rfl, by omega, by omega⟩
  · right
    split
    · exact ⟨b, o, rfl⟩
    · exact ⟨b, o + f * 4, by rw [Option.map_some, Go.WideShapes.add_plain]⟩
theorem head_form {A : Option Addr} {n c f : Nat} (h : (A = none ∧ n = 0 ∧ c = 0) ∨ ∃ b o, A = some ⟨b, o, none⟩) (hf : f ≤ n) : (A = none ∧ f = 0 ∧ c = 0) ∨ ∃ b o, A = some ⟨b, o, none⟩ := by
  rcases h with ⟨rfl, h1, h2⟩ | h
  · left; exact ⟨rfl, by omega, h2⟩
  · exact .inr h
theorem quads_drop {w : World} {B : Nat} {A : Option Addr} {c f : Nat} {T : List Q4} (h : IsQuads w B A c T) (hf : f ≤ T.length) :
    IsQuads w B (if c = f then A else Option.map (fun x : Addr => x.add (f * 4)) A) (c - f) (T.drop f) := by
  refine ⟨fun hn => ?_, by rw [List.length_drop]; have := h.2.1; omega, by have := h.2.2.1; omega, fun x hx => h.2.2.2 x (List.mem_of_mem_drop hx)⟩
  rw [List.length_drop] at hn
  obtain ⟨b, o, e, hb, hc⟩ := h.1 (by omega)
  subst e
  have hcf : ¬ c = f := by have := h.2.1; omega
  rw [if_neg hcf, Option.map_some, Go.WideShapes.add_plain]
  refine ⟨b, o + f * 4, rfl, hb, fun i hi j hj => ?_⟩
  rw [List.length_drop] at hi
  have := hc (f + i) (by omega) j hj
  rw [show o + f * 4 + i * 4 + j = o + (f + i) * 4 + j by omega, this]
  congr 1
  show cellQ (T.getD (f + i) z4) j = cellQ ((T.drop f).getD i z4) j
  rw [List.getD_eq_getElem?_getD, List.getD_eq_getElem?_getD, List.getElem?_drop]
theorem quads_head {w : World} {B : Nat} {A : Option Addr} {c f : Nat} {T : List Q4} (h : IsQuads w B A c T) (hf : f ≤ T.length) : IsQuads w B A c (T.take f) := by
  have hl : (T.take f).length = f := by rw [List.length_take]; omega
  refine ⟨?_, by rw [hl]; have := h.2.1; omega, h.2.2.1, fun x hx => h.2.2.2 x (List.mem_of_mem_take hx)⟩
  rw [hl]
  refine (h.1.less hf).congr fun i hi j _ => ?_
  congr 1
  rw [List.getD_eq_getElem?_getD, List.getD_eq_getElem?_getD, List.getElem?_take_of_lt hi]
theorem own_empty {T : TypeId} {w : World} {B : Nat} (hB : B ≤ w.heap.size) : OwnQ T (w.alloc (.cells #[] T)).drew B (.slice (some ⟨w.heap.size, 0, none⟩) 0 0) [] :=
  ⟨⟨rfl, .inr ⟨w.heap.size, 0, #[], rfl, hB, (Blk.new w T #[]).drew, Nat.le_refl _, Nat.zero_le _, rfl, rfl⟩⟩, fun x hx => absurd hx (by simp)⟩
theorem st_full {o p : Int} {G : Nat} {T : List Q4} (hc : ∀ g, g < G → (ow o p G g).1 ≠ (ow o p G g).2 → ∃ m ∈ T, m.2.2.1 ≤ (g : Int) ∧ (g : Int) < m.2.2.2) {k : Nat} (hk : k < G) : stAt o p G T k = Gr.ownerG (k : Int) p (G : Int) := by
  unfold stAt
  split
  · rfl
  · rename_i hn
    by_cases he : (ow o p G k).1 = (ow o p G k).2
    · exact he
    · obtain ⟨m, hm, h1, h2⟩ := hc k hk he
      exact absurd (List.any_eq_true.2 ⟨m, hm, hits_iff.2 ⟨h1, h2⟩⟩) hn
theorem st_swap {o p : Int} {G : Nat} {T : List Q4} (hc : ∀ g, g < G → (ow o p G g).1 ≠ (ow o p G g).2 → ∃ m ∈ T, m.2.2.1 ≤ (g : Int) ∧ (g : Int) < m.2.2.2) : st o p G T = st p o G [] := by
  unfold st
  apply List.map_congr_left
  intro g hg
  rw [st_full hc (List.mem_range.1 hg)]
  unfold stAt ow
  simp
/-- the owners of the first groups -/
def own0 (o _p : Int) (G k : Nat) : List Int := (List.range k).map fun g : Nat => Gr.ownerG (g : Int) o (G : Int)
theorem own0_snoc (o p : Int) (G k : Nat) : own0 o p G (k + 1) = own0 o p G k ++ [Gr.ownerG (k : Int) o (G : Int)] := by simp [own0, List.range_succ]
theorem own0_st (o p : Int) (G : Nat) : own0 o p G G = st o p G [] := by
  unfold own0 st
  apply List.map_congr_left
  intro g _
  unfold stAt ow
  simp

set_option maxRecDepth 100000 in
set_option maxHeartbeats 4000000 in
theorem movesBring_any (old par groups first : Int) (w : World) (i1 : In64 old) (i2 : In64 par) (i3 : In64 groups) (i4 : In64 first) :
    Calls Try.prog 4 #[.int .i64 old, .int .i64 par, .int .i64 groups, .int .i64 first] w fun e w' => e = .returned (.bool true) ∧ Below w.heap.size w w' := by
  obtain ⟨q, hq⟩ : ∃ q, pickF groups 64 = q := ⟨_, rfl⟩
  have hqb := pickF_bd (k := groups) (n := 64) (by omega)
  rw [hq] at hqb
  obtain ⟨hq0, hq1⟩ := hqb
  have P1 := Lib.hid (hq ▸ pick_any groups 64 w (by unfold In64; omega) i3)
  clear hq
  go_enter Try.func4, Try.ntmps4
  go_wp2_with fail
  refine P1.out.mono ?_
  rintro e w1 ⟨rfl, rfl⟩
  go_upto_region 2 with (fail)
  obtain ⟨G, hG⟩ : ∃ G : Nat, 1 + q = (G : Int) := ⟨(1 + q).toNat, by omega⟩
  have g0 : 1 ≤ G := by omega
  have g1 : G ≤ 64 := by omega
  rw [hG]
  clear hG hq0 hq1 P1
  obtain ⟨o', ho'⟩ : ∃ q, pickF old (G : Int) = q := ⟨_, rfl⟩
  obtain ⟨p', hp'⟩ : ∃ q, pickF par (G : Int) = q := ⟨_, rfl⟩
  have hob := pickF_bd (k := old) (n := (G : Int)) (by omega)
  have hpb := pickF_bd (k := par) (n := (G : Int)) (by omega)
  rw [ho'] at hob
  rw [hp'] at hpb
  obtain ⟨ho0, ho1⟩ := hob
  obtain ⟨hp0, hp1⟩ := hpb
  have P1 := Lib.hid (ho' ▸ pick_any old G w (by unfold In64; omega) i1)
  have P2 := Lib.hid (hp' ▸ pick_any par G w (by unfold In64; omega) i2)
  clear ho' hp'
  go_wp2_with fail
  refine P1.out.mono ?_
  rintro e w1 ⟨rfl, rfl⟩
  go_wp2_with fail
  refine P2.out.mono ?_
  rintro e w1 ⟨rfl, rfl⟩
  go_upto_region 4 with (fail)
  obtain ⟨o, ho⟩ : ∃ o, 1 + o' = o := ⟨_, rfl⟩
  obtain ⟨p, hp⟩ : ∃ o, 1 + p' = o := ⟨_, rfl⟩
  rw [ho, hp]
  have o0 : 1 ≤ o := by omega
  have o1 : o ≤ G := by omega
  have p0 : 1 ≤ p := by omega
  have p1 : p ≤ G := by omega
  clear ho hp ho0 ho1 hp0 hp1 P1 P2
  go_wp2_with fail
  go_loopw [9, 10] (fun v q wr => ∃ k : Nat, k ≤ G ∧ q = .int .i64 k ∧ OwnI wr w.heap.size v (own0 o p G k) ∧ Below w.heap.size w wr) (fun _ q _ => G - (intOf q).toNat)
  case atStart => exact ⟨0, by omega, rfl, OwnI.nil _ _, Below.refl _ _⟩
  case round =>
    obtain ⟨k, hk, rfl, hown, hb⟩ := hrel
    have HO := Lib.hid hown
    have HB := Lib.hid hb
    clear hown hb
    by_cases hlt : k < G
    · obtain ⟨a, ha⟩ : ∃ a, Gr.ownerG (k : Int) o (G : Int) = a := ⟨_, rfl⟩
      have HOW := Lib.hid (ha ▸ Gr.owner_any (k : Int) o (G : Int) wr)
      have ha64 : Hid (In64 a) := Lib.hid (by have := Gr.ownerG_bd (k : Int) o (G : Int); unfold In64; omega)
      have HS := Lib.hid (own0_snoc o p G k)
      have HA := Lib.hid ha
      have HL : Hid ((own0 o p G k).length = k) := Lib.hid (by simp [own0])
      clear ha
      go_wp2_with fail
      refine HOW.out.mono ?_
      rintro e w1 ⟨rfl, rfl⟩
      go_wp2_with (at_builtin; refine app_new rfl _ _ rfl w.heap.size HO.out rfl ha64.out rfl (by have := HL.out; omega) HB.out.size ?_; intro v2 w2 ho2 hb2; have HO2 := Lib.hid ho2; have HB2 := Lib.hid hb2; clear ho2 hb2)
      go_roundw
      case rel => exact ⟨k + 1, by omega, by go_num, by rw [HS.out, HA.out]; exact HO2.out, HB.out.trans HB2.out⟩
      case measure => simp [intOf]; omega
    · obtain rfl : G = k := by omega
      have e0 := HO.out
      rw [own0_st] at e0
      obtain ⟨A1, c1, rfl⟩ := e0.form
      have HO1 := Lib.hid e0
      clear e0 HO
      rw [st_len] at HO1 ⊢
      have PL := Lib.hid (fun Y => plan_fit o p G Y ⟨g0, g1⟩ ⟨o0, o1⟩ ⟨p0, p1⟩)
      have PL2 := Lib.hid (fun Y => plan_fit p o G Y ⟨g0, g1⟩ ⟨p0, p1⟩ ⟨o0, o1⟩)
      go_wp2_with fail
      refine (PL.out _).mono ?_
      rintro e w1 ⟨ys, hr, A, c, rfl, own, hb⟩
      have HR := Lib.hid hr
      have HQ := Lib.hid own
      have HO2 := Lib.hid (HO1.out.below hb)
      have HB2 := Lib.hid (through HB.out (Nat.le_refl _) hb)
      have HL64 : Hid ((movesOf o p G ys).length ≤ 64) := Lib.hid (by rw [plan_ref hr]; have := refL_len o p G G; omega)
      have hl9 : (movesOf o p G ys).length ≤ 64 := HL64.out
      obtain ⟨f, hf⟩ : ∃ f, pickF first ((movesOf o p G ys).length + 1 : Int) = f := ⟨_, rfl⟩
      have hfb := pickF_bd (k := first) (n := ((movesOf o p G ys).length + 1 : Int)) (by omega)
      rw [hf] at hfb
      obtain ⟨hf0, hf1⟩ := hfb
      have P3 := Lib.hid (fun Y => hf ▸ pick_any first ((movesOf o p G ys).length + 1 : Int) Y (by unfold In64; omega) i4)
      clear own hb hr hf PL HO1 HB
      obtain ⟨T, hTT⟩ : ∃ T, movesOf o p G ys = T := ⟨_, rfl⟩
      rw [hTT] at HQ HL64 hl9 hf1 P3 ⊢
      have HTT := Lib.hid hTT
      obtain ⟨n, hn⟩ : ∃ n, T.length = n := ⟨_, rfl⟩
      rw [hn] at HQ HL64 hl9 hf1 P3 ⊢
      have HN := Lib.hid hn
      have HCN : Hid (n ≤ c) := Lib.hid (by have := HQ.out.quads.2.1; omega)
      obtain ⟨f, rfl⟩ : ∃ g : Nat, f = (g : Int) := ⟨f.toNat, by omega⟩
      have hfn : f ≤ n := by omega
      have HE : Hid (OwnQ 34 (w1.alloc (.cells #[] 34)).drew w1.heap.size (.slice (some ⟨w1.heap.size, 0, none⟩) 0 0) []) := Lib.hid (own_empty (Nat.le_refl _))
      have HBE : Hid (w1.heap.size ≤ (w1.alloc (.cells #[] 34)).drew.heap.size) := Lib.hid (by show _ ≤ (w1.alloc _).heap.size; simp)
      have HLD : Hid ((T.drop f).length = n - f) := Lib.hid (by rw [List.length_drop, hn])
      have HLT : Hid ((T.take f).length = f) := Lib.hid (by rw [List.length_take, hn]; omega)
      have HL1 : Hid (([] : List Q4).length + (T.drop f).length < 1000000000) := Lib.hid (by rw [List.length_drop]; simp; omega)
      have HL2 : Hid ((([] : List Q4) ++ T.drop f).length + (T.take f).length < 1000000000) := Lib.hid (by rw [List.length_append, List.length_drop, List.length_take]; simp; omega)
      have HQD : Hid (∀ Y, Below w1.heap.size w1 Y → IsQuads Y w1.heap.size (if c = f then A else Option.map (fun x : Addr => x.add (f * 4)) A) (c - f) (T.drop f)) := Lib.hid (fun Y hY => (quads_drop HQ.out.quads (by omega)).below hY)
      have HQT : Hid (∀ Y, Below w1.heap.size w1 Y → IsQuads Y w1.heap.size A c (T.take f)) := Lib.hid (fun Y hY => (quads_head HQ.out.quads (by omega)).below hY)
      have HFM : Hid ((A = none ∧ n = 0 ∧ c = 0) ∨ ∃ b o, A = some ⟨b, o, none⟩) := Lib.hid (by
        rcases HQ.out.1.2 with ⟨hv, h0⟩ | ⟨g, cap, cur, hv, -⟩
        · injection hv with e1 e2 e3; exact .inl ⟨e1, e2, e3⟩
        · injection hv with e1 e2 e3; exact .inr ⟨g, 0, e1⟩)
      have HXB : Hid (∀ Y, (w1.alloc (.cells #[] 34)).drew.grownBy Y (some w1.heap.size) → Below w1.heap.size w1 Y ∧ w1.heap.size ≤ Y.heap.size) := Lib.hid (fun Y hY => by
        have h1 : Below w1.heap.size w1 (w1.alloc (.cells #[] 34)).drew := ((Below.refl _ _).alloc (Nat.le_refl _) _).drew
        have h2 := h1.grown hY h1.size (fun g hg => by injection hg with hg; omega)
        exact ⟨h2, h2.size⟩)
      have HXC : Hid (∀ (X Y : World) (v : Value), Below w1.heap.size w1 X → OwnQ 34 X w1.heap.size v ([] ++ T.drop f) → X.grownBy Y v.ownBlock → Below w1.heap.size w1 Y) := Lib.hid (fun X Y v h1 h2 h3 => h1.grown h3 h1.size (fun g hg => (h2.blk g hg).1))
      clear hTT hn hf0 hf1
      go_wp2_with fail
      refine (P3.out _).mono ?_
      rintro e w1 ⟨rfl, rfl⟩
      go_upto_region 11 with (fail)
      have hcn : n ≤ c := HCN.out
      have hfc : f ≤ c := by omega
      have hfc' : (f : Int) ≤ (c : Int) := by omega
      go_region_law (first
        | (refine step_quads quadT rfl _ _ rfl w1.heap.size rfl HE.out rfl HLD.out (HQD.out _ ((Below.refl _ _).alloc (Nat.le_refl _) _).drew) HL1.out (sub_form HFM.out) HBE.out ?_; intro v1 x1 ho1 hg1; have HO3 := Lib.hid ho1; have HG3 := Lib.hid (HXB.out _ hg1); clear ho1 hg1)
        | (refine step_quads quadT rfl _ _ rfl w1.heap.size rfl HO3.out rfl HLT.out (HQT.out _ HG3.out.1) HL2.out (head_form HFM.out hfn) HG3.out.2 ?_; intro v2 x2 ho2 hg2; have HO4 := Lib.hid ho2; have HG4 := Lib.hid (HXC.out _ _ _ HG3.out.1 HO3.out hg2); clear ho2 hg2))
      clear hcn hfc hfc'
      obtain ⟨A9, hA9⟩ : ∃ x, (if c = f then A else Option.map (fun x : Addr => x.add (f * 4)) A) = x := ⟨_, rfl⟩
      rw [hA9]
      clear hA9
      obtain ⟨A2, c2, rfl⟩ := HO4.out.form
      have hn2 : ([] ++ T.drop f ++ T.take f).length = n := by
        have e1 := HLD.out; have e2 := HLT.out
        rw [List.nil_append, List.length_append, e1, e2]; omega
      have HO5 := Lib.hid (HO2.out.below HG4.out)
      have HB5 := Lib.hid (through HB2.out (Nat.le_refl _) HG4.out)
      have hmem : ∀ m ∈ [] ++ T.drop f ++ T.take f, m ∈ T := fun m hm => by
        rw [List.nil_append, List.mem_append] at hm
        exact hm.elim List.mem_of_mem_drop List.mem_of_mem_take
      have hmov : ∀ m ∈ [] ++ T.drop f ++ T.take f, Mover o p G m := fun m hm => (moves_mem HR.out m (HTT.out ▸ hmem m hm)).1
      have hap : ([] ++ T.drop f ++ T.take f).Pairwise Apart := by
        have h1 : T.Pairwise Apart := HTT.out ▸ moves_apart HR.out
        rw [List.nil_append]
        have hp : (T.drop f ++ T.take f).Perm T := by
          have := (List.perm_append_comm (l₁ := T.drop f) (l₂ := T.take f))
          rwa [List.take_append_drop] at this
        exact (List.Perm.pairwise_iff (fun {a b} h => Or.symm h) hp).2 h1
      have hcov : ∀ g, g < G → (ow o p G g).1 ≠ (ow o p G g).2 → ∃ m ∈ [] ++ T.drop f ++ T.take f, m.2.2.1 ≤ (g : Int) ∧ (g : Int) < m.2.2.2 := fun g hg hne => by
        obtain ⟨m, hm, h1⟩ := moves_cover HR.out g hg hne
        rw [HTT.out] at hm
        refine ⟨m, ?_, h1⟩
        rw [List.nil_append, List.mem_append]
        have : m ∈ T.take f ++ T.drop f := by rw [List.take_append_drop]; exact hm
        rw [List.mem_append] at this
        exact this.symm
      have HMV := Lib.hid hmov
      have HAP := Lib.hid hap
      have HCV := Lib.hid hcov
      have HO4' := Lib.hid HO4.out
      clear hmov hap hcov hmem HO4 HO3 HG3
      obtain ⟨T2, hT2⟩ : ∃ T2, [] ++ T.drop f ++ T.take f = T2 := ⟨_, rfl⟩
      rw [hT2] at HMV HAP HCV HO4' hn2 ⊢
      rw [hn2] at HO4' ⊢
      have HN2 := Lib.hid hn2
      have hA1 : ∃ b, A1 = some ⟨b, 0, none⟩ := by
        rcases HO5.out.1.2 with ⟨hv, h0⟩ | ⟨g, cap, cur, hv, -⟩
        · rw [st_len] at h0; omega
        · injection hv with e1; exact ⟨g, e1⟩
      obtain ⟨b1, rfl⟩ := hA1
      clear hT2 hn2 HQ HE HBE HLD HLT HL1 HL2 HQD HQT HFM HXB HXC HCN HR HTT HN HO2 HG4
      have HD := Lib.hid (done_any o p G g1 T2 HMV.out HAP.out b1 c1 c2 A2 _ _ _ HO5.out (by rw [HN2.out]; exact HO4'.out))
      rw [HN2.out] at HD
      go_wp2_with fail
      refine HD.out.mono ?_
      rintro e w3 ⟨rfl, ho3, hg3⟩
      have HO6 := Lib.hid ho3
      have HB6 := Lib.hid (HB5.out.grown hg3 HB5.out.size (fun g hg => by injection hg with hg; subst hg; exact (HO5.out.blk _ rfl).1))
      clear ho3 hg3 HD HO5 HB5 HO4'
      go_wp2_with fail
      go_loopw [13] (fun q wr => ∃ k : Nat, k ≤ G ∧ q = .int .i64 k ∧ OwnI wr w.heap.size (.slice (some ⟨b1, 0, none⟩) G c1) (st o p G T2) ∧ Below w.heap.size w wr) (fun q _ => G - (intOf q).toNat)
      case atStart => exact ⟨0, by omega, rfl, HO6.out, HB6.out⟩
      case round =>
        obtain ⟨k, hk, rfl, hown, hb⟩ := hrel
        by_cases hlt : k < G
        · have hcell := own_int_get hown (k := k) (by rw [st_len]; exact hlt)
          rw [st_get hlt, st_full HCV.out hlt] at hcell
          obtain ⟨a, ha⟩ : ∃ a, Gr.ownerG (k : Int) p (G : Int) = a := ⟨_, rfl⟩
          rw [ha] at hcell
          have HOW : Hid (∀ Z, Calls Try.prog 19 #[.int .i64 (k : Int), .int .i64 p, .int .i64 (G : Int)] Z fun e w' => e = .returned (.int .i64 a) ∧ w' = Z) := Lib.hid (fun Z => (ha ▸ Gr.owner_any (k : Int) p (G : Int) Z).mono fun _ _ ⟨h1, h2⟩ => ⟨h1, h2.symm⟩)
          have HO7 := Lib.hid hown
          have HB7 := Lib.hid hb
          have t1 : (a != a) = false := by simp
          clear hown hb ha
          go_wp2_with fail
          go_quiet ((go_at_call 19; exact Calls.quiet_of_same (HOW.out _)))
          go_wp2_with fail
          go_roundw
          case rel => exact ⟨k + 1, by omega, by go_num, HO7.out.drewN _, below_drewN HB7.out _⟩
          case measure => simp [intOf]; omega
        · obtain rfl : G = k := by omega
          have HO7 := Lib.hid (st_swap HCV.out ▸ hown)
          have HB7 := Lib.hid hb
          clear hown hb HCV HMV HAP HO6 HB6
          go_wp2_with fail
          refine (PL2.out _).mono ?_
          rintro e w4 ⟨ys2, hr, A3, c3, rfl, own, hb⟩
          have HO8 := Lib.hid (HO7.out.below hb)
          have HB8 := Lib.hid (through HB7.out (Nat.le_refl _) hb)
          have HD := Lib.hid (done_any p o G g1 _ (fun m hm => (moves_mem hr m hm).1) (moves_apart hr) b1 c1 c3 A3 _ _ _ HO8.out own)
          have HCV := Lib.hid (moves_cover hr)
          clear hr own hb
          go_wp2_with fail
          refine HD.out.mono ?_
          rintro e w5 ⟨rfl, ho5, hg5⟩
          have HO9 := Lib.hid ho5
          have HB9 := Lib.hid (HB8.out.grown hg5 HB8.out.size (fun g hg => by injection hg with hg; subst hg; exact (HO8.out.blk _ rfl).1))
          clear ho5 hg5 HD HO8 HB8 HO7 HB7
          go_wp2_with fail
          go_loopw [14] (fun q wr => ∃ k : Nat, k ≤ G ∧ q = .int .i64 k ∧ OwnI wr w.heap.size (.slice (some ⟨b1, 0, none⟩) G c1) (st p o G (movesOf p o G ys2)) ∧ Below w.heap.size w wr) (fun q _ => G - (intOf q).toNat)
          case atStart => exact ⟨0, by omega, rfl, HO9.out, HB9.out⟩
          case round =>
            obtain ⟨k, hk, rfl, hown, hb⟩ := hrel
            by_cases hlt : k < G
            · have hcell := own_int_get hown (k := k) (by rw [st_len]; exact hlt)
              rw [st_get hlt, st_full HCV.out hlt] at hcell
              obtain ⟨a, ha⟩ : ∃ a, Gr.ownerG (k : Int) o (G : Int) = a := ⟨_, rfl⟩
              rw [ha] at hcell
              have HOW : Hid (∀ Z, Calls Try.prog 19 #[.int .i64 (k : Int), .int .i64 o, .int .i64 (G : Int)] Z fun e w' => e = .returned (.int .i64 a) ∧ w' = Z) := Lib.hid (fun Z => (ha ▸ Gr.owner_any (k : Int) o (G : Int) Z).mono fun _ _ ⟨h1, h2⟩ => ⟨h1, h2.symm⟩)
              have HO7 := Lib.hid hown
              have HB7 := Lib.hid hb
              have t1 : (a != a) = false := by simp
              clear hown hb ha
              go_wp2_with fail
              go_quiet ((go_at_call 19; exact Calls.quiet_of_same (HOW.out _)))
              go_wp2_with fail
              go_roundw
              case rel => exact ⟨k + 1, by omega, by go_num, HO7.out.drewN _, below_drewN HB7.out _⟩
              case measure => simp [intOf]; omega
            · obtain rfl : G = k := by omega
              have HB7 := Lib.hid hb
              clear hown hb
              go_wp2_with fail
              refine (known_any _).mono ?_
              rintro e w8 ⟨rfl, hb⟩
              have HB8 := Lib.hid (through HB7.out (Nat.le_refl _) hb)
              clear hb
              go_wp2_with fail
              go_returns
              exact ⟨by first | rfl | simp, HB8.out⟩
end Go.Proofs.Ytlhjhjkfnmeapaa.Mv
