/- The policy's Decide: what it answers, and what it notes. -/
import Derived.Test.YtaogkbhmmkdigaaPo
import Derived.StillTailTactics
namespace Go.Proofs.Ytaogkbhmmkdigaa.Po
open Go.ChangeShapes Go.WideShapes Go.ChangeAt Go.RowKit M

/-- a policy in memory: its numbers, and when it was decided last -/
def Pol (w : World) (pb : Nat) (c s : Int) (last : Option Int) : Prop :=
  ∃ L, Blk w pb 38 #[.int .i64 c, .int .u64 s, .pointer L] ∧
    match last with
    | none => L = none
    | some t => ∃ g, L = some ⟨g, 0, none⟩ ∧ Blk w g 3 #[.int .i64 t]

def okLast (c now : Int) : Option Int → Bool
  | none => true
  | some t => !decide (now - t < c)
/-- when it was decided last, behind a question -/
def noted (d : Bool) (now : Int) (last : Option Int) : Option Int := if d then some now else last
def decideB (c s : Int) (last : Option Int) (now no : Int) (idle : Bool) (cur ts : List Int) : Bool :=
  (no == 0) && idle && okLast c now last && anyB s cur ts

/-- the lexical walk behind a structure, so that nothing lays it open -/
structure StillS (P : Program) (ops : Array Oper) (w : World) (Q : Act → Prop) (rest : List Oper) (a : Act) : Prop where
  out : wpStill P ops w Q rest a
section
variable {P : Program} {ops : Array Oper} {w : World} {Q : Act → Prop} {a : Act} {o : Oper} {rest : List Oper}
theorem StillS.skip (hw : Region.wanted o (yielded ops a.tmps) = false) (h : StillS P ops w Q rest (a.put o.dst undef)) : StillS P ops w Q (o :: rest) a :=
  ⟨wpStill_step fun K hK => by rw [if_neg (by rw [hw]; exact Bool.false_ne_true)]; exact hK _ h.out⟩
theorem StillS.step (h : ∀ K : Act → Prop, (∀ a, StillS P ops w Q rest a → K a) → if Region.wanted o (yielded ops a.tmps) then o.still P a w K else K (a.put o.dst undef)) : StillS P ops w Q (o :: rest) a :=
  ⟨wpStill_step fun K hK => h K fun a ha => hK a ha.out⟩
theorem StillS.nil (h : Q a) : StillS P ops w Q [] a := ⟨wpStill_nil h⟩
end

theorem boxes (w : World) (c1 c2 c3 c4 : Array Value) (t1 t2 t3 t4 : TypeId) (W : World) (hW : (((w.alloc (.cells c1 t1)).alloc (.cells c2 t2)).alloc (.cells c3 t3)).alloc (.cells c4 t4) = W) :
    Blk W w.heap.size t1 c1 ∧ Blk W (w.heap.size + 1) t2 c2 ∧ Blk W (w.heap.size + 1 + 1) t3 c3 ∧ Blk W (w.heap.size + 1 + 1 + 1) t4 c4 ∧ Below w.heap.size w W ∧ W.heap.size = w.heap.size + 4 := by
  subst hW
  have e1 : (w.alloc (.cells c1 t1)).heap.size = w.heap.size + 1 := by simp
  have e2 : ((w.alloc (.cells c1 t1)).alloc (.cells c2 t2)).heap.size = w.heap.size + 1 + 1 := by simp
  have e3 : (((w.alloc (.cells c1 t1)).alloc (.cells c2 t2)).alloc (.cells c3 t3)).heap.size = w.heap.size + 1 + 1 + 1 := by simp
  have b2 := Blk.new (w.alloc (.cells c1 t1)) t2 c2
  have b3 := Blk.new ((w.alloc (.cells c1 t1)).alloc (.cells c2 t2)) t3 c3
  have b4 := Blk.new (((w.alloc (.cells c1 t1)).alloc (.cells c2 t2)).alloc (.cells c3 t3)) t4 c4
  rw [e1] at b2; rw [e2] at b3; rw [e3] at b4
  refine ⟨(((Blk.new w t1 c1).alloc _).alloc _).alloc _, (b2.alloc _).alloc _, b3.alloc _, b4, ?_, by simp⟩
  exact ((((Below.refl _ _).alloc (Nat.le_refl _) _).alloc (by simp) _).alloc (by simp; omega) _).alloc (by simp; omega) _

theorem after_call {w W w2 : World} {B ib : Nat} (_hB : w.heap.size = B) (hbel : Below B w W) (hg : W.grownBy w2 (some ib)) (hW : B ≤ W.heap.size) (hib : B ≤ ib) : Below B w w2 :=
  hbel.trans (below_of_only hg hW (fun g e => by cases e; exact hib))

theorem pol_same {w w2 : World} {pb B : Nat} {c s : Int} {L : Option Addr} (hB : w.heap.size = B) (hp : Blk w pb 38 #[.int .i64 c, .int .u64 s, .pointer L]) (hb : Below B w w2) : Blk w2 pb 38 #[.int .i64 c, .int .u64 s, .pointer L] :=
  hp.below hb (by rw [← hB]; exact hp.lt)

theorem pol_kept {w w2 : World} {pb : Nat} {c s : Int} {last : Option Int} (hP : Pol w pb c s last) (hb : Below w.heap.size w w2) : Pol w2 pb c s last := by
  obtain ⟨L, hp, hL⟩ := hP
  refine ⟨L, hp.below hb hp.lt, ?_⟩
  cases last with
  | none => exact hL
  | some t =>
    obtain ⟨g, e, hg⟩ := hL
    exact ⟨g, e, hg.below hb hg.lt⟩

theorem pol_set {w2 : World} {pb nb : Nat} {c s now : Int} {L : Option Addr} (hp : Blk w2 pb 38 #[.int .i64 c, .int .u64 s, .pointer L]) (hn : Blk w2 nb 3 #[.int .i64 now]) (hne : nb ≠ pb) :
    Pol (w2.setCell ⟨pb, 2, none⟩ (.pointer (some ⟨nb, 0, none⟩))) pb c s (some now) :=
  ⟨some ⟨nb, 0, none⟩, by simpa using hp.set_ 2 (.pointer (some ⟨nb, 0, none⟩)), nb, rfl, hn.far hne _⟩

set_option maxRecDepth 100000 in
set_option maxHeartbeats 1000000 in
theorem decide_none (c s now : Int) (cur ts : List Int) (A C : Option Addr) (cap capc pb : Nat) (w : World)
    (hlen : cur.length < 1000) (hcs : ∀ t ∈ cur, -9223372036854775808 ≤ t ∧ t ≤ 9223372036854775807) (hts : ∀ t ∈ ts, -9223372036854775808 ≤ t ∧ t ≤ 9223372036854775807)
    (hP : Pol w pb c s none) (hl : Lies w w.heap.size 1 A ts.length (fun i _ => .int .i64 (ts.getD i 0))) (hc : Lies w w.heap.size 1 C cur.length (fun i _ => .int .i64 (cur.getD i 0))) :
    Calls Try.prog 8 #[.pointer (some ⟨pb, 0, none⟩), .int .i64 now, .slice C cur.length capc, .slice A ts.length cap, .int .i64 0, .bool true] w fun e w' =>
      e = .returned (.bool (decideB c s none now 0 true cur ts)) ∧ w.grownBy w' (some pb) ∧ Pol w' pb c s (noted (decideB c s none now 0 true cur ts) now none) := by
  have HPOL := Lib.hid hP
  obtain ⟨L, hp, hL⟩ := hP
  have hL' : L = none := hL
  subst hL'
  clear hL
  obtain ⟨B, hB⟩ : ∃ B, w.heap.size = B := ⟨_, rfl⟩
  have hpb : pb < B := by rw [← hB]; exact hp.lt
  go_enter Try.func8, Try.ntmps8
  go_wp2
  obtain ⟨W, hW⟩ : ∃ W, (((w.alloc (.cells #[.pointer (some ⟨pb, 0, none⟩)] 24)).alloc (.cells #[.int .i64 now] 3)).alloc (.cells #[.slice A ts.length cap] 26)).alloc (.cells #[.int .i64 (-1)] 3) = W := ⟨_, rfl⟩
  rw [hW]
  obtain ⟨b1, b2, b3, b4, hbel, hsz⟩ := boxes w _ _ _ _ _ _ _ _ W hW
  clear hW
  rw [hB] at b1 b2 b3 b4 hbel hsz
  have k1 := b1.cell 0
  have hcp1 := (hp.below hbel hpb).cell 2
  simp at k1 hcp1
  refine wp_region_still_tail 31 (by kernel_rfl) (by kernel_rfl) (StillS.out ?_)
  simp only [List.take_succ_cons, List.take_zero, List.drop_succ_cons, List.drop_zero]
  refine StillS.step (fun K hK => ?_); go_simp; refine hK _ ?_; clear hK K
  refine StillS.step (fun K hK => ?_); go_simp; refine hK _ ?_; clear hK K
  refine StillS.step (fun K hK => ?_); go_simp; refine hK _ ?_; clear hK K
  refine StillS.step (fun K hK => ?_); go_simp; refine hK _ ?_; clear hK K
  refine StillS.step (fun K hK => ?_); go_simp; refine hK _ ?_; clear hK K
  refine StillS.step (fun K hK => ?_); go_simp; refine hK _ ?_; clear hK K
  refine StillS.step (fun K hK => ?_); go_simp; refine hK _ ?_; clear hK K
  refine StillS.step (fun K hK => ?_); go_simp; refine hK _ ?_; clear hK K
  refine StillS.step (fun K hK => ?_); go_simp; refine hK _ ?_; clear hK K
  refine StillS.step (fun K hK => ?_); go_simp; refine hK _ ?_; clear hK K
  refine StillS.step (fun K hK => ?_); go_simp; refine hK _ ?_; clear hK K
  refine StillS.step (fun K hK => ?_); go_simp; refine hK _ ?_; clear hK K
  refine StillS.step (fun K hK => ?_); go_simp; refine hK _ ?_; clear hK K
  refine StillS.skip (by kernel_rfl) ?_
  refine StillS.skip (by kernel_rfl) ?_
  refine StillS.skip (by kernel_rfl) ?_
  refine StillS.skip (by kernel_rfl) ?_
  refine StillS.skip (by kernel_rfl) ?_
  refine StillS.skip (by kernel_rfl) ?_
  refine StillS.skip (by kernel_rfl) ?_
  refine StillS.skip (by kernel_rfl) ?_
  refine StillS.skip (by kernel_rfl) ?_
  refine StillS.skip (by kernel_rfl) ?_
  refine StillS.skip (by kernel_rfl) ?_
  refine StillS.skip (by kernel_rfl) ?_
  refine StillS.skip (by kernel_rfl) ?_
  refine StillS.step (fun K hK => ?_); go_simp; refine hK _ ?_; clear hK K
  refine StillS.step (fun K hK => ?_); go_simp; refine hK _ ?_; clear hK K
  refine StillS.step (fun K hK => ?_); go_simp; refine hK _ ?_; clear hK K
  refine StillS.step (fun K hK => ?_); go_simp; refine hK _ ?_; clear hK K
  refine StillS.step (fun K hK => ?_); go_simp; refine hK _ ?_; clear hK K
  refine StillS.nil ?_
  clear k1 hcp1
  change wpList _ _ _ _ _ W.drew
  have HC := Lib.hid (contains_any s c cur ts A C cap capc (B + 1 + 1 + 1) (B + 1 + 1) B pb (.pointer none) W.drew hlen (by omega) (by omega) (by omega) hcs hts b4.drew b3.drew b1.drew (hp.below hbel (by omega)).drew ((hl.below (by rw [hB]; exact hbel)).more (by omega)).drew ((hc.below (by rw [hB]; exact hbel)).more (by omega)).drew)
  have HW : Hid (∀ w2, W.drew.grownBy w2 (some (B + 1 + 1 + 1)) → Below B w w2 ∧ Blk w2 B 24 #[.pointer (some ⟨pb, 0, none⟩)] ∧ Blk w2 (B + 1) 3 #[.int .i64 now] ∧ Blk w2 pb 38 #[.int .i64 c, .int .u64 s, .pointer none]) := fun w2 hg =>
    have hb := after_call hB hbel.drew hg (by show B ≤ W.heap.size; omega) (by omega)
    ⟨hb, b1.drew.grown hg (by intro e; injection e with e; omega), b2.drew.grown hg (by intro e; injection e with e; omega), pol_same hB hp hb⟩
  have HP := Lib.hid hp
  clear hlen hcs hts hl hc hp b1 b2 b3 b4 hbel hsz
  cases hany : anyB s cur ts with
  | true =>
    rw [hany] at HC
    have hdec : Hid (decideB c s none now 0 true cur ts = true) := by show _ = _; unfold decideB; rw [hany]; rfl
    clear hany
    go_wp2_with fail
    refine HC.out.mono ?_
    rintro e w2 ⟨rfl, hg⟩
    obtain ⟨f0, f1, f2, f3⟩ := HW.out w2 hg
    have k1 := f1.cell 0
    have k2 := f3.cell 2
    have k3 := f3.frozen 2
    simp at k1 k2
    have F0 := Lib.hid f0; have F2 := Lib.hid f2; have F3 := Lib.hid f3
    clear f0 f1 f2 f3 hg
    go_wp2
    go_returns
    refine ⟨by rw [hdec.out]; rfl, only_setCell (only_of_below (by rw [hB]; exact F0.out) _) (.inl rfl) _, ?_⟩
    rw [hdec.out]
    exact pol_set F3.out F2.out (by omega)
  | false =>
    rw [hany] at HC
    have hdec : Hid (decideB c s none now 0 true cur ts = false) := by show _ = _; unfold decideB; rw [hany, Bool.and_false]
    clear hany
    go_wp2_with fail
    refine HC.out.mono ?_
    rintro e w2 ⟨rfl, hg⟩
    obtain ⟨f0, f1, f2, f3⟩ := HW.out w2 hg
    have F0 := Lib.hid f0
    clear f0 f1 f2 f3 hg
    go_wp2
    go_returns
    refine ⟨by rw [hdec.out]; rfl, only_of_below (by rw [hB]; exact F0.out) _, ?_⟩
    rw [hdec.out]
    exact pol_kept HPOL.out (by rw [hB]; exact F0.out)

set_option maxRecDepth 100000 in
set_option maxHeartbeats 1000000 in
theorem decide_late (c s now t : Int) (cur ts : List Int) (A C : Option Addr) (cap capc pb : Nat) (w : World)
    (hlen : cur.length < 1000) (hcs : ∀ t ∈ cur, -9223372036854775808 ≤ t ∧ t ≤ 9223372036854775807) (hts : ∀ t ∈ ts, -9223372036854775808 ≤ t ∧ t ≤ 9223372036854775807)
    (hnow : 0 ≤ now ∧ now ≤ 9223372036854775807) (ht : 0 ≤ t ∧ t ≤ 9223372036854775807) (hlate : c ≤ now - t)
    (hP : Pol w pb c s (some t)) (hl : Lies w w.heap.size 1 A ts.length (fun i _ => .int .i64 (ts.getD i 0))) (hc : Lies w w.heap.size 1 C cur.length (fun i _ => .int .i64 (cur.getD i 0))) :
    Calls Try.prog 8 #[.pointer (some ⟨pb, 0, none⟩), .int .i64 now, .slice C cur.length capc, .slice A ts.length cap, .int .i64 0, .bool true] w fun e w' =>
      e = .returned (.bool (decideB c s (some t) now 0 true cur ts)) ∧ w.grownBy w' (some pb) ∧ Pol w' pb c s (noted (decideB c s (some t) now 0 true cur ts) now (some t)) := by
  have HPOL := Lib.hid hP
  obtain ⟨L, hp, g, rfl, hg⟩ := hP
  have HD := Lib.hid (show okLast c now (some t) = true by unfold okLast; simp; omega)
  obtain ⟨B, hB⟩ : ∃ B, w.heap.size = B := ⟨_, rfl⟩
  have hpb : pb < B := by rw [← hB]; exact hp.lt
  go_enter Try.func8, Try.ntmps8
  go_wp2
  obtain ⟨W, hW⟩ : ∃ W, (((w.alloc (.cells #[.pointer (some ⟨pb, 0, none⟩)] 24)).alloc (.cells #[.int .i64 now] 3)).alloc (.cells #[.slice A ts.length cap] 26)).alloc (.cells #[.int .i64 (-1)] 3) = W := ⟨_, rfl⟩
  rw [hW]
  obtain ⟨b1, b2, b3, b4, hbel, hsz⟩ := boxes w _ _ _ _ _ _ _ _ W hW
  clear hW
  rw [hB] at b1 b2 b3 b4 hbel hsz
  have k1 := b1.cell 0
  have k2 := b2.cell 0
  have hgB : g < B := by rw [← hB]; exact hg.lt
  have hcp1 := (hp.below hbel hpb).cell 2
  have hcp0 := (hp.below hbel hpb).cell 0
  have hcg := (hg.below hbel hgB).cell 0
  simp at k1 k2 hcp1 hcp0 hcg
  have hwr : IntKind.i64.wrap (now - t) = now - t := IntWalk.i64_in _ (by omega)
  refine wp_region_still_tail 31 (by kernel_rfl) (by kernel_rfl) (StillS.out ?_)
  simp only [List.take_succ_cons, List.take_zero, List.drop_succ_cons, List.drop_zero]
  refine StillS.step (fun K hK => ?_); go_simp; refine hK _ ?_; clear hK K
  refine StillS.step (fun K hK => ?_); go_simp; refine hK _ ?_; clear hK K
  refine StillS.step (fun K hK => ?_); go_simp; refine hK _ ?_; clear hK K
  refine StillS.step (fun K hK => ?_); go_simp; refine hK _ ?_; clear hK K
  refine StillS.step (fun K hK => ?_); go_simp; refine hK _ ?_; clear hK K
  refine StillS.step (fun K hK => ?_); go_simp; refine hK _ ?_; clear hK K
  refine StillS.step (fun K hK => ?_); go_simp; refine hK _ ?_; clear hK K
  refine StillS.step (fun K hK => ?_); go_simp; refine hK _ ?_; clear hK K
  refine StillS.step (fun K hK => ?_); go_simp; refine hK _ ?_; clear hK K
  refine StillS.step (fun K hK => ?_); go_simp; refine hK _ ?_; clear hK K
  refine StillS.step (fun K hK => ?_); go_simp; refine hK _ ?_; clear hK K
  refine StillS.step (fun K hK => ?_); go_simp; refine hK _ ?_; clear hK K
  refine StillS.step (fun K hK => ?_); go_simp; refine hK _ ?_; clear hK K
  refine StillS.step (fun K hK => ?_); go_simp; refine hK _ ?_; clear hK K
  refine StillS.step (fun K hK => ?_); go_simp; refine hK _ ?_; clear hK K
  refine StillS.step (fun K hK => ?_); go_simp; refine hK _ ?_; clear hK K
  refine StillS.step (fun K hK => ?_); go_simp; refine hK _ ?_; clear hK K
  refine StillS.step (fun K hK => ?_); go_simp; refine hK _ ?_; clear hK K
  refine StillS.step (fun K hK => ?_); go_simp; refine hK _ ?_; clear hK K
  refine StillS.step (fun K hK => ?_); go_simp; refine hK _ ?_; clear hK K
  refine StillS.step (fun K hK => ?_); go_simp; refine hK _ ?_; clear hK K
  refine StillS.step (fun K hK => ?_); go_simp; refine hK _ ?_; clear hK K
  refine StillS.step (fun K hK => ?_); go_simp; refine hK _ ?_; clear hK K
  refine StillS.step (fun K hK => ?_); go_simp; refine hK _ ?_; clear hK K
  refine StillS.step (fun K hK => ?_); go_simp; refine hK _ ?_; clear hK K
  refine StillS.step (fun K hK => ?_); go_simp; refine hK _ ?_; clear hK K
  refine StillS.step (fun K hK => ?_); go_simp; refine hK _ ?_; clear hK K
  refine StillS.step (fun K hK => ?_); go_simp; refine hK _ ?_; clear hK K
  refine StillS.step (fun K hK => ?_); go_simp; refine hK _ ?_; clear hK K
  refine StillS.step (fun K hK => ?_); go_simp; refine hK _ ?_; clear hK K
  refine StillS.step (fun K hK => ?_); go_simp; refine hK _ ?_; clear hK K
  refine StillS.nil ?_
  clear k1 k2 hcp1 hcp0 hcg hwr
  change wpList _ _ _ _ _ W.drew
  have HC := Lib.hid (contains_any s c cur ts A C cap capc (B + 1 + 1 + 1) (B + 1 + 1) B pb (.pointer (some ⟨g, 0, none⟩)) W.drew hlen (by omega) (by omega) (by omega) hcs hts b4.drew b3.drew b1.drew (hp.below hbel (by omega)).drew ((hl.below (by rw [hB]; exact hbel)).more (by omega)).drew ((hc.below (by rw [hB]; exact hbel)).more (by omega)).drew)
  have HW : Hid (∀ w2, W.drew.grownBy w2 (some (B + 1 + 1 + 1)) → Below B w w2 ∧ Blk w2 B 24 #[.pointer (some ⟨pb, 0, none⟩)] ∧ Blk w2 (B + 1) 3 #[.int .i64 now] ∧ Blk w2 pb 38 #[.int .i64 c, .int .u64 s, .pointer (some ⟨g, 0, none⟩)]) := fun w2 hg =>
    have hb := after_call hB hbel.drew hg (by show B ≤ W.heap.size; omega) (by omega)
    ⟨hb, b1.drew.grown hg (by intro e; injection e with e; omega), b2.drew.grown hg (by intro e; injection e with e; omega), pol_same hB hp hb⟩
  have HP := Lib.hid hp
  clear hlen hcs hts hl hc hp b1 b2 b3 b4 hbel hsz
  cases hany : anyB s cur ts with
  | true =>
    rw [hany] at HC
    have hdec : Hid (decideB c s (some t) now 0 true cur ts = true) := by show _ = _; unfold decideB; rw [hany, HD.out]; decide
    clear hany
    go_wp2_with fail
    refine HC.out.mono ?_
    rintro e w2 ⟨rfl, hg⟩
    obtain ⟨f0, f1, f2, f3⟩ := HW.out w2 hg
    have k1 := f1.cell 0
    have k2 := f3.cell 2
    have k3 := f3.frozen 2
    simp at k1 k2
    have F0 := Lib.hid f0; have F2 := Lib.hid f2; have F3 := Lib.hid f3
    clear f0 f1 f2 f3 hg
    go_wp2
    go_returns
    refine ⟨by rw [hdec.out]; rfl, only_setCell (only_of_below (by rw [hB]; exact F0.out) _) (.inl rfl) _, ?_⟩
    rw [hdec.out]
    exact pol_set F3.out F2.out (by omega)
  | false =>
    rw [hany] at HC
    have hdec : Hid (decideB c s (some t) now 0 true cur ts = false) := by show _ = _; unfold decideB; rw [hany, Bool.and_false]
    clear hany
    go_wp2_with fail
    refine HC.out.mono ?_
    rintro e w2 ⟨rfl, hg⟩
    obtain ⟨f0, f1, f2, f3⟩ := HW.out w2 hg
    have F0 := Lib.hid f0
    clear f0 f1 f2 f3 hg
    go_wp2
    go_returns
    refine ⟨by rw [hdec.out]; rfl, only_of_below (by rw [hB]; exact F0.out) _, ?_⟩
    rw [hdec.out]
    exact pol_kept HPOL.out (by rw [hB]; exact F0.out)

set_option maxRecDepth 100000 in
set_option maxHeartbeats 1000000 in
theorem decide_err (c s now no : Int) (idle : Bool) (last : Option Int) (n nc : Nat) (A C : Option Addr) (cap capc pb : Nat) (w : World) (hno : (no != 0) = true)
    (hP : Pol w pb c s last) :
    Calls Try.prog 8 #[.pointer (some ⟨pb, 0, none⟩), .int .i64 now, .slice C nc capc, .slice A n cap, .int .i64 no, .bool idle] w fun e w' =>
      e = .returned (.bool false) ∧ w.grownBy w' (some pb) ∧ Pol w' pb c s last := by
  have HPOL := Lib.hid hP
  obtain ⟨L, hp, hL⟩ := hP
  obtain ⟨B, hB⟩ : ∃ B, w.heap.size = B := ⟨_, rfl⟩
  have hpb : pb < B := by rw [← hB]; exact hp.lt
  clear hL
  go_enter Try.func8, Try.ntmps8
  go_wp2
  obtain ⟨W, hW⟩ : ∃ W, (((w.alloc (.cells #[.pointer (some ⟨pb, 0, none⟩)] 24)).alloc (.cells #[.int .i64 now] 3)).alloc (.cells #[.slice A n cap] 26)).alloc (.cells #[.int .i64 (-1)] 3) = W := ⟨_, rfl⟩
  rw [hW]
  obtain ⟨b1, b2, b3, b4, hbel, hsz⟩ := boxes w _ _ _ _ _ _ _ _ W hW
  clear hW
  rw [hB] at b1 b2 b3 b4 hbel hsz
  have HB := Lib.hid hbel
  clear hbel hsz b1 b2 b3 b4 hp
  go_quiet (fail)
  go_wp2
  go_returns
  exact ⟨rfl, only_of_below (by rw [hB]; exact below_drewN HB.out _) _, pol_kept HPOL.out (by rw [hB]; exact below_drewN HB.out _)⟩

set_option maxRecDepth 100000 in
set_option maxHeartbeats 1000000 in
theorem decide_busy (c s now : Int) (last : Option Int) (n nc : Nat) (A C : Option Addr) (cap capc pb : Nat) (w : World)
    (hP : Pol w pb c s last) :
    Calls Try.prog 8 #[.pointer (some ⟨pb, 0, none⟩), .int .i64 now, .slice C nc capc, .slice A n cap, .int .i64 0, .bool false] w fun e w' =>
      e = .returned (.bool false) ∧ w.grownBy w' (some pb) ∧ Pol w' pb c s last := by
  have HPOL := Lib.hid hP
  obtain ⟨L, hp, hL⟩ := hP
  obtain ⟨B, hB⟩ : ∃ B, w.heap.size = B := ⟨_, rfl⟩
  have hpb : pb < B := by rw [← hB]; exact hp.lt
  clear hL
  go_enter Try.func8, Try.ntmps8
  go_wp2
  obtain ⟨W, hW⟩ : ∃ W, (((w.alloc (.cells #[.pointer (some ⟨pb, 0, none⟩)] 24)).alloc (.cells #[.int .i64 now] 3)).alloc (.cells #[.slice A n cap] 26)).alloc (.cells #[.int .i64 (-1)] 3) = W := ⟨_, rfl⟩
  rw [hW]
  obtain ⟨b1, b2, b3, b4, hbel, hsz⟩ := boxes w _ _ _ _ _ _ _ _ W hW
  clear hW
  rw [hB] at b1 b2 b3 b4 hbel hsz
  have HB := Lib.hid hbel
  clear hbel hsz b1 b2 b3 b4 hp
  go_quiet (fail)
  go_wp2
  go_returns
  exact ⟨rfl, only_of_below (by rw [hB]; exact below_drewN HB.out _) _, pol_kept HPOL.out (by rw [hB]; exact below_drewN HB.out _)⟩

set_option maxRecDepth 100000 in
set_option maxHeartbeats 1000000 in
theorem decide_soon (c s now t : Int) (n nc : Nat) (A C : Option Addr) (cap capc pb : Nat) (w : World) (hnow : 0 ≤ now ∧ now ≤ 9223372036854775807) (ht : 0 ≤ t ∧ t ≤ 9223372036854775807) (hsoon : now - t < c)
    (hP : Pol w pb c s (some t)) :
    Calls Try.prog 8 #[.pointer (some ⟨pb, 0, none⟩), .int .i64 now, .slice C nc capc, .slice A n cap, .int .i64 0, .bool true] w fun e w' =>
      e = .returned (.bool false) ∧ w.grownBy w' (some pb) ∧ Pol w' pb c s (some t) := by
  have HPOL := Lib.hid hP
  obtain ⟨L, hp, hL⟩ := hP
  obtain ⟨B, hB⟩ : ∃ B, w.heap.size = B := ⟨_, rfl⟩
  have hpb : pb < B := by rw [← hB]; exact hp.lt
  obtain ⟨g, rfl, hg⟩ := hL
  have hgB : g < B := by rw [← hB]; exact hg.lt
  go_enter Try.func8, Try.ntmps8
  go_wp2
  obtain ⟨W, hW⟩ : ∃ W, (((w.alloc (.cells #[.pointer (some ⟨pb, 0, none⟩)] 24)).alloc (.cells #[.int .i64 now] 3)).alloc (.cells #[.slice A n cap] 26)).alloc (.cells #[.int .i64 (-1)] 3) = W := ⟨_, rfl⟩
  rw [hW]
  obtain ⟨b1, b2, b3, b4, hbel, hsz⟩ := boxes w _ _ _ _ _ _ _ _ W hW
  clear hW
  rw [hB] at b1 b2 b3 b4 hbel hsz
  have k1 := b1.cell 0
  have k2 := b2.cell 0
  have hcp1 := (hp.below hbel hpb).cell 2
  have hcp0 := (hp.below hbel hpb).cell 0
  have hcg := (hg.below hbel hgB).cell 0
  simp at k1 k2 hcp1 hcp0 hcg
  have hwr : IntKind.i64.wrap (now - t) = now - t := IntWalk.i64_in _ (by omega)
  have HB := Lib.hid hbel
  clear hbel hsz b1 b2 b3 b4 hp hg
  go_quiet (fail)
  go_wp2
  go_returns
  exact ⟨rfl, only_of_below (by rw [hB]; exact below_drewN HB.out _) _, pol_kept HPOL.out (by rw [hB]; exact below_drewN HB.out _)⟩

theorem decide_any (c s now no : Int) (idle : Bool) (last : Option Int) (cur ts : List Int) (A C : Option Addr) (cap capc pb : Nat) (w : World)
    (hlen : cur.length < 1000) (hcs : ∀ t ∈ cur, -9223372036854775808 ≤ t ∧ t ≤ 9223372036854775807) (hts : ∀ t ∈ ts, -9223372036854775808 ≤ t ∧ t ≤ 9223372036854775807)
    (hnow : 0 ≤ now ∧ now ≤ 9223372036854775807) (hlast : ∀ t, last = some t → 0 ≤ t ∧ t ≤ 9223372036854775807)
    (hP : Pol w pb c s last) (hl : Lies w w.heap.size 1 A ts.length (fun i _ => .int .i64 (ts.getD i 0))) (hc : Lies w w.heap.size 1 C cur.length (fun i _ => .int .i64 (cur.getD i 0))) :
    Calls Try.prog 8 #[.pointer (some ⟨pb, 0, none⟩), .int .i64 now, .slice C cur.length capc, .slice A ts.length cap, .int .i64 no, .bool idle] w fun e w' =>
      e = .returned (.bool (decideB c s last now no idle cur ts)) ∧ w.grownBy w' (some pb) ∧ Pol w' pb c s (noted (decideB c s last now no idle cur ts) now last) := by
  by_cases hno : no = 0
  · subst hno
    cases idle with
    | false =>
      have e : decideB c s last now 0 false cur ts = false := by unfold decideB; simp
      rw [e]
      exact decide_busy c s now last _ _ A C cap capc pb w hP
    | true =>
      cases last with
      | none => exact decide_none c s now cur ts A C cap capc pb w hlen hcs hts hP hl hc
      | some t =>
        have ht := hlast t rfl
        by_cases hl8 : c ≤ now - t
        · exact decide_late c s now t cur ts A C cap capc pb w hlen hcs hts hnow ht hl8 hP hl hc
        · have hx : now - t < c := by omega
          have e : decideB c s (some t) now 0 true cur ts = false := by unfold decideB okLast; simp [hx]
          rw [e]
          exact decide_soon c s now t _ _ A C cap capc pb w hnow ht (by omega) hP
  · have e : decideB c s last now no idle cur ts = false := by unfold decideB; simp [hno]
    rw [e]
    exact decide_err c s now no idle last _ _ A C cap capc pb w (by simpa using hno) hP
end Go.Proofs.Ytaogkbhmmkdigaa.Po
