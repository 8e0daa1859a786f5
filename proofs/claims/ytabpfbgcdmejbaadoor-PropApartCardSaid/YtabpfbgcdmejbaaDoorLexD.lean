/- The book of layer 15: kinds, names, how long a token is, what may stand beside what. -/
import Derived.Deep.QuietTactic
import Derived.BigQuiet
import Derived.Test.YtabpfbgcdmejbaaDoorLexC
import Derived.Test.YtabpfbgcdmejbaaDoorLexE
namespace Go.Proofs.YtabpfbgcdmejbaaDoor
open Go.RowKit Go.Shelf

def kindB (l : List UInt8) : Int := if wordB l then 1 else if numB l then 2 else if signB l then 3 else 0


/-- How long what stands at a place is, that is to be a token. -/
def longN (l : List UInt8) : Nat := if rowN l = 0 ∧ 2 ≤ l.length ∧ signB (l.take 2) = true then 2 else max 1 (rowN l)

/-- May a token be? -/
def mayB (k : Int) (t : List UInt8) (p : Int) : Bool := (k != 0) && (k == kindB t) && decide (0 ≤ p)

/-- May one stand right behind another one? -/
def besideB (a b : List UInt8) : Bool :=
  if (a.head?.map isRow == some true) || (b.head?.map isRow == some true) then !((a.head?.map isRow == some true) && (b.head?.map isRow == some true)) else !signB (a ++ b.take 1)

theorem head_list (s : ByteArray) (h : 0 < s.size) : s.data.toList.head? = some (s[0]'h) := by
  rw [get_list s 0 h, List.head?_eq_getElem?, List.getElem?_eq_getElem]

end Go.Proofs.YtabpfbgcdmejbaaDoor
