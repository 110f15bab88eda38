/- The law of lowest terms, of any ints. -/
import Derived.Test.YtjemcnlljjdmiaaFrT
namespace Go.Proofs.Ytjemcnlljjdmiaa.Fr
open Go.RowKit
theorem lowest_any (n d k : Int) (w : World) (hn : I64 n) (hd : I64 d) (hk : I64 k) :
    Calls Try.prog 14 #[.int .i64 n, .int .i64 d, .int .i64 k] w fun r w' => r = .returned (.bool true) ∧ Below w.heap.size w w' := by
  by_cases h : n < 0 ∨ d < 1
  · exact lowest_no n d k w hn hd h
  · exact lowest_yes n d k w hn hd hk (by omega) (by omega)
end Go.Proofs.Ytjemcnlljjdmiaa.Fr
