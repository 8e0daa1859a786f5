/- The book of layer 15: words, numbers, signs, kinds; rows of letters and digits. -/
import Derived.LoopTactic
import Derived.Test.YtabpfbgcdmejbaaDoorLexA
namespace Go.Proofs.YtabpfbgcdmejbaaDoor
open Go.RowKit Go.Shelf

theorem get_list (s : ByteArray) (k : Nat) (h : k < s.size) : s[k]'h = s.data.toList[k]'(by simpa using h) := by simp; rfl
theorem size_list (s : ByteArray) : s.data.toList.length = s.size := by simp

def wordB (l : List UInt8) : Bool := decide (1 ≤ l.length) && decide (l.length ≤ 8) && (l.head?.map isLow == some true) && (l.drop 1).all isRow

def signB (l : List UInt8) : Bool := [[124], [124, 124], [38], [38, 38], [59], [43], [60], [62], [95], [91], [93], [40], [41], [44], [33], [123], [125]].contains l

/-- How many letters and digits stand from a place on. -/
def rowN (l : List UInt8) : Nat := (rowOf l).length

def nameB (l : List UInt8) : Bool := wordB l && l != [116, 114, 117, 101] && l != [102, 97, 108, 115, 101] && l != [111, 111]
end Go.Proofs.YtabpfbgcdmejbaaDoor
