/- tree.Formula and tree.Check walked: whether a formula, and an expression, may be. -/
import Derived.StillTailTactics
import Derived.Deep.RegionHeld3
import Derived.Deep.RegionLaw
import Derived.Test.YtockinpjfhhkoaaGreatDoorMgN
namespace Go.Proofs.YtockinpjfhhkoaaGreatDoor
open Go.RowKit
attribute [local go_sem ↓] Go.wp_at_zero Go.wp_at_succ

theorem box_cells3 {W w1 : World} {x y z : Value} {t : TypeId} (hb : Below (W.alloc (.cells #[x, y, z] t)).heap.size (W.alloc (.cells #[x, y, z] t)) w1) :
    w1.cell? ⟨W.heap.size, 0, none⟩ = some x ∧ w1.cell? ⟨W.heap.size, 1, none⟩ = some y ∧ w1.cell? ⟨W.heap.size, 2, none⟩ = some z ∧ W.heap.size < w1.heap.size := by
  have h : w1.heap[W.heap.size]? = some (.cells #[x, y, z] t (0, 0)) := by rw [hb.block _ (by simp)]; exact Array.getElem?_push_size
  exact ⟨Lib.cell_of_heap h 0, Lib.cell_of_heap h 1, Lib.cell_of_heap h 2, (Array.getElem?_eq_some_iff.1 h).1⟩

end Go.Proofs.YtockinpjfhhkoaaGreatDoor
