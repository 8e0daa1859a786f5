/- Layer 16 walked: intervals; strings sought in a row of names; names of a formula that are declared. -/
import Derived.Test.YtabpfbgcdmejbaaDoorTreeE
namespace Go.Proofs.YtabpfbgcdmejbaaDoor
open Go.RowKit

theorem ret_i {k : IntKind} {a b : Int} (h : a = b) : Ending.returned (.int k a) = .returned (.int k b) := by rw [h]

set_option maxRecDepth 100000 in
set_option maxHeartbeats 2000000 in
theorem below27_any (n : Int) (w : World) : Calls Tryd.prog 27 #[.int .i64 n] w fun e w' => e = .returned (.bool (belowC n)) ∧ w' = w := by
  go_enter Tryd.func27, Tryd.ntmps27
  go_wp2
  all_goals go_ret
  all_goals (refine ret_bool ?_; unfold belowC; rw [Bool.eq_iff_iff]; simp_all; try omega)

def Spn.val (i : Spn) : Value := .agg #[.int .i64 i.low, .bool i.ls, .int .i64 i.high, .bool i.hs, .bool i.op]
set_option maxRecDepth 100000 in
set_option maxHeartbeats 8000000 in
theorem interval9_any (i : Spn) (w : World) : Calls Tryd.prog 9 #[i.val] w fun e w' => e = .returned (.int .i64 (ivR i)) ∧ Below w.heap.size w w' := by
  obtain ⟨lo, ls, hi, hs, op⟩ := i
  unfold Spn.val
  dsimp only
  go_enter Tryd.func9, Tryd.ntmps9
  go_wp2_with (go_at_call 27; refine (below27_any _ _).mono ?_; rintro e w' ⟨rfl, rfl⟩)
  all_goals go_ret
  all_goals (refine ⟨?_, (Below.refl _ _).alloc (Nat.le_refl _) _⟩; refine ret_i ?_; unfold ivR; dsimp only; simp_all; try omega)
end Go.Proofs.YtabpfbgcdmejbaaDoor
