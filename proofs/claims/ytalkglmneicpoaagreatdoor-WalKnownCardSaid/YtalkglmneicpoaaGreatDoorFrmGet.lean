/-
  Get: the frame with which bytes begin, and the error's number.
-/
import Derived.Test.YtalkglmneicpoaaGreatDoorFrmRead
namespace Go.Proofs.YtalkglmneicpoaaGreatDoor
set_option linter.unusedVariables false
set_option linter.unusedSimpArgs false
open Go.RowKit
theorem read_any (A : Option Addr) (n c B : Nat) (L : List UInt8) (p : Addr) (w : World) (hG : Glob p w) (hr : Reads w B 1 A n (L.map bval)) (hB : B ≤ w.heap.size) (hn : n ≤ c) (hc : c ≤ maxLen) :
    Calls Tryz.prog 50 #[.slice A n c] w (ReadPost p L w) := by
  by_cases h9 : n < 9
  · exact read_short A n c B L p w hG hr h9
  · exact read_long A n c B L p w hG hr hB hn hc h9
def GetPost (L : List UInt8) (w : World) (e : Ending) (w' : World) : Prop :=
  ∃ v, e = .returned (.tuple #[.agg #[ival (getF L).k, v], ival (getN L : Nat), ival (getE L : Nat)]) ∧ w'.ownsRow w.heap.size 5 1 v (getF L).b.length ((getF L).b.map bval) ∧ Below w.heap.size w w'
end Go.Proofs.YtalkglmneicpoaaGreatDoor
