/-
  NARROWER THAN 'FOR EVERY INPUT', by the rows' own cells (each row's printed sentence says how): WitnessSame: loops.
  DERIVED. THE GIVEN ROWS OF THIS SEAT. 6 by the template 'for every input the law returns true; each argument reads behind the call as it read before'; 0 by the template 'total and deterministic' (their statements: YtnpaoekblfflmaaTotals.lean).
  GIVEN WITH THE SEED: the statements are not yours to turn. If you find one false, say at which input.
  Laid BY PROGRAM, IN A SANDBOX (cutbox-rows.mjs): the forced cells as the released guide's own fill.sh prints them over the translation f7588c507e513bd1… (all of the seat's roots in one cut). By AI agents, Wed Nov 11 2026. No macro, syntax, notation, axiom, sorry.
-/
import Derived.Test.YtnpaoekblfflmaaChecked
import GoSem.Claim
import GoSem.ClaimJoined
import GoSem.ClaimMapViews
import Derived.JoinedTies
import Derived.KernelRfl
namespace Go.Proofs.Ytnpaoekblfflmaa
/- THE CELL 'sum', in the pinned program and in every row, IS THE sha256 OF THE DUMP (.gsa) THAT YtnpaoekblfflmaaProg.lean LOADS. Nothing in Lean hashes anything: it is a label: what it is worth is what the hold of that sum in a sandbox is worth. -/
noncomputable def Try.pinned : Pinned := { name := "ytnpaoekblfflmaa", sum := "f7588c507e513bd1851d0f532127c4a27c4fdcba6bfed803702ed55d352aa692", checked := Try.checked }
namespace Rows
def none {H : Type} : Left H := { results := [], args := [] }

/-- 'rallentandolaw28.WitnessSame': WHATEVER THE INPUT: true; the input reads as it did. -/
def witnessSameSpec : ChangeSpec := { name := "witnessSame", fn := fun _ => fun
  | [d1, d2] => { results := [.lit (.bool true)], args := [d1, d2] }
  | _ => none }
def witnessSameRow : OpenClaim := { program := "ytnpaoekblfflmaa", sum := "f7588c507e513bd1851d0f532127c4a27c4fdcba6bfed803702ed55d352aa692", func := "rallentando/rallentandolaw28.WitnessSame", spec := "witnessSame", unfollowed := true, recurses := true, loops := true, apart := false }
def WitnessSameSaid : Prop := witnessSameRow.holds Try.pinned (OpenSpec.ofChange witnessSameSpec)

/-- ITS FALSE NEIGHBOUR: 'it returns false'. Refute it at one input. -/
def witnessSameWrong : ChangeSpec := { name := "witnessSame", fn := fun _ => fun
  | [d1, d2] => { results := [.lit (.bool false)], args := [d1, d2] }
  | _ => none }
def WitnessSameWrongFalsely : Prop := witnessSameRow.holds Try.pinned (OpenSpec.ofChange witnessSameWrong)

/-- 'rallentandolaw22.SignalTurns': WHATEVER THE INPUT: true; the input reads as it did. -/
def signalTurnsSpec : ChangeSpec := { name := "signalTurns", fn := fun _ => fun
  | [d1, d2, d3] => { results := [.lit (.bool true)], args := [d1, d2, d3] }
  | _ => none }
def signalTurnsRow : OpenClaim := { program := "ytnpaoekblfflmaa", sum := "f7588c507e513bd1851d0f532127c4a27c4fdcba6bfed803702ed55d352aa692", func := "rallentando/rallentandolaw22.SignalTurns", spec := "signalTurns", unfollowed := true, recurses := true, apart := false }
def SignalTurnsSaid : Prop := signalTurnsRow.holds Try.pinned (OpenSpec.ofChange signalTurnsSpec)

/-- ITS FALSE NEIGHBOUR: 'it returns false'. Refute it at one input. -/
def signalTurnsWrong : ChangeSpec := { name := "signalTurns", fn := fun _ => fun
  | [d1, d2, d3] => { results := [.lit (.bool false)], args := [d1, d2, d3] }
  | _ => none }
def SignalTurnsWrongFalsely : Prop := signalTurnsRow.holds Try.pinned (OpenSpec.ofChange signalTurnsWrong)

/-- 'rallentandolaw22.SignalTells': WHATEVER THE INPUT: true; the input reads as it did. -/
def signalTellsSpec : ChangeSpec := { name := "signalTells", fn := fun _ => fun
  | [d1, d2, d3, d4] => { results := [.lit (.bool true)], args := [d1, d2, d3, d4] }
  | _ => none }
def signalTellsRow : OpenClaim := { program := "ytnpaoekblfflmaa", sum := "f7588c507e513bd1851d0f532127c4a27c4fdcba6bfed803702ed55d352aa692", func := "rallentando/rallentandolaw22.SignalTells", spec := "signalTells", unfollowed := true, recurses := true, apart := false }
def SignalTellsSaid : Prop := signalTellsRow.holds Try.pinned (OpenSpec.ofChange signalTellsSpec)

/-- ITS FALSE NEIGHBOUR: 'it returns false'. Refute it at one input. -/
def signalTellsWrong : ChangeSpec := { name := "signalTells", fn := fun _ => fun
  | [d1, d2, d3, d4] => { results := [.lit (.bool false)], args := [d1, d2, d3, d4] }
  | _ => none }
def SignalTellsWrongFalsely : Prop := signalTellsRow.holds Try.pinned (OpenSpec.ofChange signalTellsWrong)

/-- 'rallentandolaw22.SignalApart': WHATEVER THE INPUT: true; the input reads as it did. -/
def signalApartSpec : ChangeSpec := { name := "signalApart", fn := fun _ => fun
  | [d1, d2, d3, d4] => { results := [.lit (.bool true)], args := [d1, d2, d3, d4] }
  | _ => none }
def signalApartRow : OpenClaim := { program := "ytnpaoekblfflmaa", sum := "f7588c507e513bd1851d0f532127c4a27c4fdcba6bfed803702ed55d352aa692", func := "rallentando/rallentandolaw22.SignalApart", spec := "signalApart", unfollowed := true, recurses := true, apart := false }
def SignalApartSaid : Prop := signalApartRow.holds Try.pinned (OpenSpec.ofChange signalApartSpec)

/-- ITS FALSE NEIGHBOUR: 'it returns false'. Refute it at one input. -/
def signalApartWrong : ChangeSpec := { name := "signalApart", fn := fun _ => fun
  | [d1, d2, d3, d4] => { results := [.lit (.bool false)], args := [d1, d2, d3, d4] }
  | _ => none }
def SignalApartWrongFalsely : Prop := signalApartRow.holds Try.pinned (OpenSpec.ofChange signalApartWrong)

/-- 'rallentandolaw22.SignalNames': WHATEVER THE INPUT: true; the input reads as it did. -/
def signalNamesSpec : ChangeSpec := { name := "signalNames", fn := fun _ => fun
  | [] => { results := [.lit (.bool true)], args := [] }
  | _ => none }
def signalNamesRow : OpenClaim := { program := "ytnpaoekblfflmaa", sum := "f7588c507e513bd1851d0f532127c4a27c4fdcba6bfed803702ed55d352aa692", func := "rallentando/rallentandolaw22.SignalNames", spec := "signalNames", unfollowed := true, recurses := true, apart := false }
def SignalNamesSaid : Prop := signalNamesRow.holds Try.pinned (OpenSpec.ofChange signalNamesSpec)

/-- ITS FALSE NEIGHBOUR: 'it returns false'. Refute it at one input. -/
def signalNamesWrong : ChangeSpec := { name := "signalNames", fn := fun _ => fun
  | [] => { results := [.lit (.bool false)], args := [] }
  | _ => none }
def SignalNamesWrongFalsely : Prop := signalNamesRow.holds Try.pinned (OpenSpec.ofChange signalNamesWrong)

/-- 'rallentandolaw22.SignalSame': WHATEVER THE INPUT: true; the input reads as it did. -/
def signalSameSpec : ChangeSpec := { name := "signalSame", fn := fun _ => fun
  | [d1, d2, d3, d4] => { results := [.lit (.bool true)], args := [d1, d2, d3, d4] }
  | _ => none }
def signalSameRow : OpenClaim := { program := "ytnpaoekblfflmaa", sum := "f7588c507e513bd1851d0f532127c4a27c4fdcba6bfed803702ed55d352aa692", func := "rallentando/rallentandolaw22.SignalSame", spec := "signalSame", unfollowed := true, recurses := true, apart := false }
def SignalSameSaid : Prop := signalSameRow.holds Try.pinned (OpenSpec.ofChange signalSameSpec)

/-- ITS FALSE NEIGHBOUR: 'it returns false'. Refute it at one input. -/
def signalSameWrong : ChangeSpec := { name := "signalSame", fn := fun _ => fun
  | [d1, d2, d3, d4] => { results := [.lit (.bool false)], args := [d1, d2, d3, d4] }
  | _ => none }
def SignalSameWrongFalsely : Prop := signalSameRow.holds Try.pinned (OpenSpec.ofChange signalSameWrong)

/- THE SECOND FORM. 'bulk': how many values and letters a reading holds, each counted each time it is reached (what is shared counts as often as it is met; a slice's spare places count too). A statement '..UptoSaid' is the law's where the arguments, and the package variables that the reading takes, are together of bulk at most 1048576: NARROWER than '..Said'. Prove '..Said' where nothing that the law and all that it calls make is longer than what came in: it says more and counts as full. Else prove '..UptoSaid'. A law counts once. -/
mutual
def uptoBulk {H : Type} : DataW H → Nat
  | .lit (.string bytes) => bytes.length + 1
  | .lit _ => 1
  | .nil => 1
  | .ptr d => uptoBulk d + 1
  | .slice elems spare => uptoBulkAll elems + uptoBulkAll spare + 1
  | .agg parts => uptoBulkAll parts + 1
  | .iface _ d => uptoBulk d + 1
  | .map entries => uptoBulkEntries entries + 1
  | .held _ => 1
def uptoBulkAll {H : Type} : List (DataW H) → Nat
  | [] => 0
  | d :: r => uptoBulk d + uptoBulkAll r
def uptoBulkEntries {H : Type} : List (Lit × DataW H) → Nat
  | [] => 0
  | x :: r => uptoBulkEntry x + uptoBulkEntries r
def uptoBulkEntry {H : Type} : Lit × DataW H → Nat
  | (.string bytes, d) => bytes.length + uptoBulk d + 1
  | (_, d) => uptoBulk d + 1
 end
def uptoSmall : (H : Type) → List (DataW H) → Bool := fun _ ds => decide (uptoBulkAll ds ≤ 1048576)
def OpenSpec.upto (s : _root_.Go.ChangeSpec) : _root_.Go.OpenSpec := { _root_.Go.OpenSpec.ofChange s with cond := some uptoSmall }

/-- 'rallentandolaw28.WitnessSame', WHERE WHAT IT READS IS OF BULK AT MOST 1048576: true; the input reads as it did. -/
def witnessSameUptoRow : OpenClaim := { program := "ytnpaoekblfflmaa", sum := "f7588c507e513bd1851d0f532127c4a27c4fdcba6bfed803702ed55d352aa692", func := "rallentando/rallentandolaw28.WitnessSame", spec := "witnessSame", unfollowed := true, recurses := true, loops := true, apart := false, narrowed := true }
def WitnessSameUptoSaid : Prop := witnessSameUptoRow.holds Try.pinned (OpenSpec.upto witnessSameSpec)

/-- 'rallentandolaw22.SignalTurns', WHERE WHAT IT READS IS OF BULK AT MOST 1048576: true; the input reads as it did. -/
def signalTurnsUptoRow : OpenClaim := { program := "ytnpaoekblfflmaa", sum := "f7588c507e513bd1851d0f532127c4a27c4fdcba6bfed803702ed55d352aa692", func := "rallentando/rallentandolaw22.SignalTurns", spec := "signalTurns", unfollowed := true, recurses := true, apart := false, narrowed := true }
def SignalTurnsUptoSaid : Prop := signalTurnsUptoRow.holds Try.pinned (OpenSpec.upto signalTurnsSpec)

/-- 'rallentandolaw22.SignalTells', WHERE WHAT IT READS IS OF BULK AT MOST 1048576: true; the input reads as it did. -/
def signalTellsUptoRow : OpenClaim := { program := "ytnpaoekblfflmaa", sum := "f7588c507e513bd1851d0f532127c4a27c4fdcba6bfed803702ed55d352aa692", func := "rallentando/rallentandolaw22.SignalTells", spec := "signalTells", unfollowed := true, recurses := true, apart := false, narrowed := true }
def SignalTellsUptoSaid : Prop := signalTellsUptoRow.holds Try.pinned (OpenSpec.upto signalTellsSpec)

/-- 'rallentandolaw22.SignalApart', WHERE WHAT IT READS IS OF BULK AT MOST 1048576: true; the input reads as it did. -/
def signalApartUptoRow : OpenClaim := { program := "ytnpaoekblfflmaa", sum := "f7588c507e513bd1851d0f532127c4a27c4fdcba6bfed803702ed55d352aa692", func := "rallentando/rallentandolaw22.SignalApart", spec := "signalApart", unfollowed := true, recurses := true, apart := false, narrowed := true }
def SignalApartUptoSaid : Prop := signalApartUptoRow.holds Try.pinned (OpenSpec.upto signalApartSpec)

/-- 'rallentandolaw22.SignalNames', WHERE WHAT IT READS IS OF BULK AT MOST 1048576: true; the input reads as it did. -/
def signalNamesUptoRow : OpenClaim := { program := "ytnpaoekblfflmaa", sum := "f7588c507e513bd1851d0f532127c4a27c4fdcba6bfed803702ed55d352aa692", func := "rallentando/rallentandolaw22.SignalNames", spec := "signalNames", unfollowed := true, recurses := true, apart := false, narrowed := true }
def SignalNamesUptoSaid : Prop := signalNamesUptoRow.holds Try.pinned (OpenSpec.upto signalNamesSpec)

/-- 'rallentandolaw22.SignalSame', WHERE WHAT IT READS IS OF BULK AT MOST 1048576: true; the input reads as it did. -/
def signalSameUptoRow : OpenClaim := { program := "ytnpaoekblfflmaa", sum := "f7588c507e513bd1851d0f532127c4a27c4fdcba6bfed803702ed55d352aa692", func := "rallentando/rallentandolaw22.SignalSame", spec := "signalSame", unfollowed := true, recurses := true, apart := false, narrowed := true }
def SignalSameUptoSaid : Prop := signalSameUptoRow.holds Try.pinned (OpenSpec.upto signalSameSpec)

end Rows
end Go.Proofs.Ytnpaoekblfflmaa
