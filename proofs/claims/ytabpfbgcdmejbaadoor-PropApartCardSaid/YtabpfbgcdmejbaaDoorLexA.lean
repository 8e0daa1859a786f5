/- The small functions of layer 15, and of its book, on bytes and runes. -/
import Derived.Shelf.Abstract
import Derived.WalkKit
import Derived.WalkSpells
import Derived.WalkLawsBesides
import Derived.Lib.Hide
import Derived.Test.YtabpfbgcdmejbaaDoorRows
import Derived.Test.YtabpfbgcdmejbaaDoorCutA
namespace Go.Proofs.YtabpfbgcdmejbaaDoor
open Go.RowKit Go.Shelf

theorem ret_bool {a b : Bool} {w : World} (h : a = b) : (Ending.returned (.bool a) = .returned (.bool b) ∧ w = w) := ⟨by rw [h], rfl⟩
theorem ret_int {k : IntKind} {a b : Int} {w : World} (h : a = b) : (Ending.returned (.int k a) = .returned (.int k b) ∧ w = w) := ⟨by rw [h], rfl⟩

/-- What a rune is: 2 a small letter, 3 a digit, 1 a blank, 0 else. -/
def kindR (r : Int) : Int := if 97 ≤ r ∧ r ≤ 122 then 2 else if 48 ≤ r ∧ r ≤ 57 then 3 else if r = 32 ∨ r = 9 ∨ r = 10 ∨ r = 13 then 1 else 0

set_option maxRecDepth 100000 in
set_option maxHeartbeats 2000000 in
theorem kind_any (r : Int) (w : World) : Calls Tryd.prog 74 #[.int .i32 r] w fun e w' => e = .returned (.int .i64 (kindR r)) ∧ w' = w := by
  go_enter Tryd.func74, Tryd.ntmps74
  go_wp2
  all_goals go_ret
  all_goals (refine ret_int ?_; unfold kindR; try omega)
  all_goals (simp only [beq_iff_eq, beq_eq_false_iff_ne, ne_eq] at *; omega)

end Go.Proofs.YtabpfbgcdmejbaaDoor
