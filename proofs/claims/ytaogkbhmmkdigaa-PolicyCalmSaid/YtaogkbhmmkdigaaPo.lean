/- What the policy's functions return, and what they leave in memory. -/
import Derived.Test.YtaogkbhmmkdigaaRows
import Derived.Test.YtaogkbhmmkdigaaMem
import Derived.WalkKit
import Derived.ProofKit
import Derived.OpenShut
import Derived.Outline
import Derived.Handy
import Derived.WalkLawsBesides
import Derived.WalkSpells
import Derived.RegionTactic
import Derived.Deep.QuietTactic
import Derived.BigQuiet
import Derived.Lib.Hide
namespace Go.Proofs.Ytaogkbhmmkdigaa.Po
open Go.ChangeShapes Go.WideShapes Go.ChangeAt Go.RowKit M

/-- how far two numbers are, as the program reckons it -/
def gap (n t : Int) : Int := (if n < t then t else n) - (if t < n then t else n)
/-- is an operator wrong by s? -/
def wrongB (s n : Int) (ts : List Int) (i : Nat) : Bool := decide (i < ts.length) && !(n == ts.getD i 0) && decide (s ≤ gap n (ts.getD i 0))

theorem u64_gap {a b : Int} (h1 : -9223372036854775808 ≤ a) (h2 : a ≤ b) (h3 : b ≤ 9223372036854775807) : IntKind.u64.wrap (IntKind.u64.wrap b - IntKind.u64.wrap a) = b - a := by
  simp only [IntKind.wrap_u64]; omega

theorem getD_mem {ts : List Int} {k : Nat} (h : k < ts.length) : ts.getD k 0 ∈ ts := by
  have : ts.getD k 0 = ts[k] := by simp [List.getD, h]
  rw [this]; exact List.getElem_mem h

theorem wrong_any (n i s c : Int) (ts : List Int) (A : Option Addr) (cap ib tb pq pb : Nat) (L : Value) (w : World) (k : Nat)
    (hk : i = k - 1) (hkm : k < 1000) (h1 : tb < ib) (h2 : pq < ib) (h3 : pb < ib) (hn : -9223372036854775808 ≤ n ∧ n ≤ 9223372036854775807) (hts : ∀ t ∈ ts, -9223372036854775808 ≤ t ∧ t ≤ 9223372036854775807)
    (hi : Blk w ib 3 #[.int .i64 i]) (ht : Blk w tb 26 #[.slice A ts.length cap]) (hq : Blk w pq 24 #[.pointer (some ⟨pb, 0, none⟩)])
    (hp : Blk w pb 38 #[.int .i64 c, .int .u64 s, L]) (hl : Lies w tb 1 A ts.length (fun i _ => .int .i64 (ts.getD i 0))) :
    Calls Try.prog 11 #[.int .i64 n, .pointer (some ⟨ib, 0, none⟩), .pointer (some ⟨tb, 0, none⟩), .pointer (some ⟨pq, 0, none⟩)] w fun e w' =>
      e = .returned (.bool (wrongB s n ts k)) ∧ w.grownBy w' (some ib) ∧ Blk w' ib 3 #[.int .i64 (i + 1)] := by
  have HK := Lib.hid hk
  have hk0 : -1 ≤ i := by omega
  have hk1 : i ≤ 1000 := by omega
  have hci := hi.cell 0
  have hfi := hi.frozen 0
  have hct := ht.cell 0
  have hcq := hq.cell 0
  have hcp := hp.cell 1
  simp at hci hct hcq hcp
  have oth : ∀ (b o : Nat), b < ib → (w.setCell ⟨ib, 0, none⟩ (.int .i64 (i + 1))).cell? ⟨b, o, none⟩ = w.cell? ⟨b, o, none⟩ := fun b o hb => World.cell?_setCell_other w ⟨ib, 0, none⟩ ⟨b, o, none⟩ _ (fun e => by cases e; omega)
  have hct1 := (oth tb 0 h1).trans hct
  have hcq1 := (oth pq 0 h2).trans hcq
  have hcp1 := (oth pb 1 h3).trans hcp
  have hres : w.grownBy (w.setCell ⟨ib, 0, none⟩ (.int .i64 (i + 1))) (some ib) ∧ Blk (w.setCell ⟨ib, 0, none⟩ (.int .i64 (i + 1))) ib 3 #[.int .i64 (i + 1)] := ⟨only_setCell (World.grownBy.refl w _) (.inl rfl) _, hi.set_ 0 _⟩
  have HR := Lib.hid hres
  clear hres
  by_cases hlt : k < ts.length
  · obtain ⟨b, o, rfl, hb, hc⟩ := hl.at1 hlt
    have hce : (w.setCell ⟨ib, 0, none⟩ (.int .i64 (i + 1))).cell? ⟨b, o + (i + 1).toNat, none⟩ = some (.int .i64 (ts.getD k 0)) := by
      rw [oth b _ (by omega), show (i + 1).toNat = k by omega]; exact hc
    have htb := hts (ts.getD k 0) (getD_mem hlt)
    have hi1 : i + 1 < (ts.length : Int) := by omega
    generalize htk : ts.getD k 0 = t at *
    have HT := Lib.hid htk
    clear htk hts hl hk oth hc
    by_cases hne : n = t
    · have hb : (n == t) = true := beq_iff_eq.2 hne
      have hw : wrongB s n ts k = false := by unfold wrongB; rw [HT.out, hb]; simp
      have HW := Lib.hid hw
      clear hne hw
      go_enter Try.func11, Try.ntmps11
      go_wp2
      go_returns
      exact ⟨by rw [HW.out]; rfl, HR.out⟩
    · have hb : (n == t) = false := beq_eq_false_iff_ne.2 hne
      rcases (show n < t ∨ t < n by omega) with hnt | hnt
      · have hnt2 : ¬ t < n := by omega
        have hw : wrongB s n ts k = decide (s ≤ IntKind.u64.wrap (IntKind.u64.wrap t - IntKind.u64.wrap n)) := by
          unfold wrongB gap; rw [u64_gap (by omega) (by omega) (by omega), HT.out, hb, decide_eq_true hlt, if_pos hnt, if_neg hnt2]; rfl
        have HW := Lib.hid hw
        clear hne hw hnt2
        go_enter Try.func11, Try.ntmps11
        go_wp2
        go_quiet (fail)
        go_wp2
        go_returns
        exact ⟨by rw [HW.out]; rfl, only_drewN HR.out.1 _, HR.out.2.drewN _⟩
      · have hnt2 : ¬ n < t := by omega
        have hw : wrongB s n ts k = decide (s ≤ IntKind.u64.wrap (IntKind.u64.wrap n - IntKind.u64.wrap t)) := by
          unfold wrongB gap; rw [u64_gap (by omega) (by omega) (by omega), HT.out, hb, decide_eq_true hlt, if_neg hnt2, if_pos hnt]; rfl
        have HW := Lib.hid hw
        clear hne hw hnt2
        go_enter Try.func11, Try.ntmps11
        go_wp2
        go_quiet (fail)
        go_wp2
        go_returns
        exact ⟨by rw [HW.out]; rfl, only_drewN HR.out.1 _, HR.out.2.drewN _⟩
  · have hi1 : (ts.length : Int) ≤ i + 1 := by omega
    have hw : wrongB s n ts k = false := by unfold wrongB; simp [hlt]
    have HW := Lib.hid hw
    clear hw hk hts hl oth
    go_enter Try.func11, Try.ntmps11
    go_wp2
    go_returns
    exact ⟨by rw [HW.out]; rfl, HR.out⟩

/-- is any of cur wrong? -/
def anyB (s : Int) (cur ts : List Int) : Bool := (List.range cur.length).any fun k => wrongB s (cur.getD k 0) ts k

theorem index_any (s c : Int) (cur ts : List Int) (A C : Option Addr) (cap capc ib tb pq pb : Nat) (L : Value) (w : World)
    (hlen : cur.length < 1000) (h1 : tb < ib) (h2 : pq < ib) (h3 : pb < ib)
    (hcs : ∀ t ∈ cur, -9223372036854775808 ≤ t ∧ t ≤ 9223372036854775807) (hts : ∀ t ∈ ts, -9223372036854775808 ≤ t ∧ t ≤ 9223372036854775807)
    (hi : Blk w ib 3 #[.int .i64 (-1)]) (ht : Blk w tb 26 #[.slice A ts.length cap]) (hq : Blk w pq 24 #[.pointer (some ⟨pb, 0, none⟩)])
    (hp : Blk w pb 38 #[.int .i64 c, .int .u64 s, L]) (hl : Lies w tb 1 A ts.length (fun i _ => .int .i64 (ts.getD i 0)))
    (hc : Lies w ib 1 C cur.length (fun i _ => .int .i64 (cur.getD i 0))) :
    Calls Try.prog 13 #[.slice C cur.length capc, .func (.func 11) #[] #[.pointer (some ⟨ib, 0, none⟩), .pointer (some ⟨tb, 0, none⟩), .pointer (some ⟨pq, 0, none⟩)]] w fun e w' =>
      (∃ n : Int, e = .returned (.int .i64 n) ∧ anyB s cur ts = decide (0 ≤ n)) ∧ w.grownBy w' (some ib) := by
  have HA := Lib.hid (show anyB s cur ts = (List.range cur.length).any fun k => wrongB s (cur.getD k 0) ts k from rfl)
  go_enter Try.func13, Try.ntmps13
  go_wp2
  go_loopw [8] (fun i wr => ∃ k : Nat, k ≤ cur.length ∧ i = .int .i64 k ∧ w.grownBy wr (some ib) ∧ Blk wr ib 3 #[.int .i64 (k - 1)] ∧ ∀ j, j < k → wrongB s (cur.getD j 0) ts j = false) (fun i _ => cur.length - (intOf i).toNat)
  case atStart => exact ⟨0, by omega, rfl, World.grownBy.refl w _, by simpa using hi, fun j hj => absurd hj (by omega)⟩
  case round =>
    obtain ⟨k, hk, rfl, hg, hik, hno⟩ := hrel
    have HG := Lib.hid hg
    have HN := Lib.hid hno
    clear hno
    by_cases hlt : k < cur.length
    · obtain ⟨b, o, rfl, hb, hcell⟩ := hc.at1 hlt
      have hcell1 : wr.cell? ⟨b, o + k, none⟩ = some (.int .i64 (cur.getD k 0)) := by
        rw [World.cell?_of_block (hg.block b (by have := hi.lt; omega) (by intro e; cases e; omega))]; exact hcell
      have hn := hcs _ (getD_mem hlt)
      have W1 : Lies wr tb 1 A ts.length (fun i _ => .int .i64 (ts.getD i 0)) := hl.keep fun p hp => World.cell?_of_block (hg.block _ (by have := ht.lt; omega) (by intro e; cases e; omega))
      have W2 : Blk wr tb 26 #[.slice A ts.length cap] := ht.grown hg (by intro e; cases e; omega)
      have W3 := hq.grown hg (by intro e; cases e; omega)
      have W4 := hp.grown hg (by intro e; cases e; omega)
      have HC := Lib.hid (wrong_any (cur.getD k 0) ((k : Int) - 1) s c ts A cap ib tb pq pb L wr k rfl (by omega) h1 h2 h3 hn hts hik W2 W3 W4 W1)
      have hk63 : (k : Int) < 1000 := by omega
      have hcl : (cur.length : Int) < 1000 := by omega
      clear hc hl ht hq hp hi hik hg hcs hts W1 W2 W3 W4 hcell
      have hg := HG.out
      have HG2 : ∀ w2, wr.grownBy w2 (some ib) → w.grownBy w2 (some ib) := fun w2 h2 => hg.trans h2
      have HG3 := Lib.hid HG2
      clear HG2 hg
      have hsp : ∀ b, wrongB s (cur.getD k 0) ts k = b → Hid (wrongB s (cur.getD k 0) ts k = b) := fun b h => h
      generalize hbv : wrongB s (cur.getD k 0) ts k = bv at HC
      have HB := hsp _ hbv
      clear hbv hsp
      have HNN : Hid (bv = false → ∀ j, j < k + 1 → wrongB s (cur.getD j 0) ts j = false) := fun hf j hj => by
        rcases (show j < k ∨ j = k by omega) with h | rfl
        · exact HN.out j h
        · rw [HB.out, hf]
      have HY : Hid (bv = true → anyB s cur ts = true) := fun hf => by
        rw [HA.out, List.any_eq_true]
        exact ⟨k, List.mem_range.2 hlt, by rw [HB.out, hf]⟩
      clear HN
      generalize cur.getD k 0 = n at *
      cases bv with
      | true =>
        go_wp2_with fail
        refine HC.out.mono ?_
        rintro e w2 ⟨rfl, hg1, hb1⟩
        have HH := Lib.hid (HG3.out _ hg1)
        clear hg1 hb1
        go_wp2
        go_returns
        exact ⟨⟨k, rfl, by rw [HY.out (by trivial)]; simp⟩, HH.out⟩
      | false =>
        go_wp2_with fail
        refine HC.out.mono ?_
        rintro e w2 ⟨rfl, hg1, hb1⟩
        have HH := Lib.hid (HG3.out _ hg1)
        have HI := Lib.hid hb1
        clear hg1 hb1
        go_wp2
        go_roundw
        case rel => exact ⟨k + 1, by omega, by go_num, HH.out, by have := HI.out; rw [show ((k : Int) - 1 + 1) = ((k + 1 : Nat) : Int) - 1 by omega] at this; exact this, HNN.out (by trivial)⟩
        case measure => simp [intOf]; omega
    · obtain rfl : k = cur.length := by omega
      have HY : Hid (anyB s cur ts = false) := by
        show anyB s cur ts = false
        rw [HA.out, List.any_eq_false]
        intro j hj
        rw [HN.out j (List.mem_range.1 hj)]; simp
      clear hc hl ht hq hp hi hik hg hcs hts HN
      go_wp2
      go_returns
      exact ⟨⟨-1, rfl, by rw [HY.out]; simp⟩, HG.out⟩

theorem contains_any (s c : Int) (cur ts : List Int) (A C : Option Addr) (cap capc ib tb pq pb : Nat) (L : Value) (w : World)
    (hlen : cur.length < 1000) (h1 : tb < ib) (h2 : pq < ib) (h3 : pb < ib)
    (hcs : ∀ t ∈ cur, -9223372036854775808 ≤ t ∧ t ≤ 9223372036854775807) (hts : ∀ t ∈ ts, -9223372036854775808 ≤ t ∧ t ≤ 9223372036854775807)
    (hi : Blk w ib 3 #[.int .i64 (-1)]) (ht : Blk w tb 26 #[.slice A ts.length cap]) (hq : Blk w pq 24 #[.pointer (some ⟨pb, 0, none⟩)])
    (hp : Blk w pb 38 #[.int .i64 c, .int .u64 s, L]) (hl : Lies w tb 1 A ts.length (fun i _ => .int .i64 (ts.getD i 0)))
    (hc : Lies w ib 1 C cur.length (fun i _ => .int .i64 (cur.getD i 0))) :
    Calls Try.prog 12 #[.slice C cur.length capc, .func (.func 11) #[] #[.pointer (some ⟨ib, 0, none⟩), .pointer (some ⟨tb, 0, none⟩), .pointer (some ⟨pq, 0, none⟩)]] w fun e w' =>
      e = .returned (.bool (anyB s cur ts)) ∧ w.grownBy w' (some ib) := by
  have HC := Lib.hid (index_any s c cur ts A C cap capc ib tb pq pb L w hlen h1 h2 h3 hcs hts hi ht hq hp hl hc)
  clear hlen h1 h2 h3 hcs hts hi ht hq hp hl hc
  go_enter Try.func12, Try.ntmps12
  go_wp2_with fail
  refine HC.out.mono ?_
  rintro e w2 ⟨⟨n, rfl, hn⟩, hg⟩
  have HN := Lib.hid hn
  have HG := Lib.hid hg
  clear hn hg
  go_wp2
  go_returns
  exact ⟨by rw [HN.out]; rfl, HG.out⟩
end Go.Proofs.Ytaogkbhmmkdigaa.Po
