/-
TableOk, Take and Learn in plain Lean. No program in sight. Conditions: none.
-/
import Derived.Test.YtipemgjgimpmbaaHLog1
import Derived.Test.YtipemgjgimpmbaaHLog2
import Derived.Test.YtipemgjgimpmbaaHOwn
import Derived.Test.YtipemgjgimpmbaaHRg
import Derived.Test.YtipemgjgimpmbaaHSmall
import Derived.IntWalk
namespace Go.Proofs.Ytipemgjgimpmbaa.H
open Go.RowKit
set_option linter.unusedVariables false
def rcOk (r : Recent) : Bool := inB r.Seq 0 1000000000 && inB r.Many 1 40 && inB r.Offset 0 1000000000
def nxOf (n : Int) : List Recent → Int
  | [] => n
  | r :: _ => r.Seq
def rcs (n : Int) : List Recent → Bool
  | [] => true
  | r :: rest => rcOk r && decide (r.Seq + r.Many = nxOf n rest) && rcs n rest
theorem rcs_cons (n : Int) (r : Recent) (l : List Recent) : rcs n (r :: l) = (rcOk r && decide (r.Seq + r.Many = nxOf n l) && rcs n l) := by rw [rcs]
def snA (s : Seen) : Bool := inB s.Producer 0 1000000000 && inB s.Turn 0 1000 && inB s.Next 0 1000000001 && decide ((s.Recent.length : Int) ≤ 5)
def tblB : List Seen → Int → Bool
  | [], _ => true
  | s :: r, p => snA s && decide (p < s.Producer) && rcs s.Next s.Recent && tblB r s.Producer
theorem tblB_cons (s : Seen) (l : List Seen) (p : Int) : tblB (s :: l) p = (snA s && decide (p < s.Producer) && rcs s.Next s.Recent && tblB l s.Producer) := by rw [tblB]
def tableOk (l : List Seen) : Bool := decide (l.length ≤ 100) && tblB l (-1)
end Go.Proofs.Ytipemgjgimpmbaa.H
