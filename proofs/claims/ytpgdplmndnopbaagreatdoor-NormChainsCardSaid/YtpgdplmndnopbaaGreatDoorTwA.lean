/- A row of a call's own that grows by things with memory of their own. No program. -/
import Derived.Deep.AppendLies
import Derived.Test.YtpgdplmndnopbaaGreatDoorMgD
namespace Go.Proofs.YtpgdplmndnopbaaGreatDoor
open Go.RowKit
def twN (n : Nat) : Nat → Bool := fun b => decide (n ≤ b)
def tw3 (w : World) (g : Nat) (x y z : Value) : World := ((w.setCell ⟨g, 0, none⟩ x).setCell ⟨g, 1, none⟩ y).setCell ⟨g, 2, none⟩ z
theorem tw3_at {w : World} {g : Nat} {x' y' z' : Value} {t : TypeId} (h : w.heap[g]? = some (.cells #[x', y', z'] t (0, 0))) (x y z : Value) : (tw3 w g x y z).heap[g]? = some (.cells #[x, y, z] t (0, 0)) := by
 simp [tw3, World.setCell, Array.getElem?_modify, h]
theorem tw3_other (w : World) (g : Nat) (x y z : Value) (j : Nat) (hj : j ≠ g) : (tw3 w g x y z).heap[j]? = w.heap[j]? := by
 unfold tw3
 rw [Below.heap_setCell _ _ _ _ (by simpa using hj), Below.heap_setCell _ _ _ _ (by simpa using hj), Below.heap_setCell _ _ _ _ (by simpa using hj)]
theorem tw3_size (w : World) (g : Nat) (x y z : Value) : (tw3 w g x y z).heap.size = w.heap.size := by simp [tw3, World.setCell]
def tw8 (w : World) (g : Nat) (v0 v1 v2 v3 v4 v5 v6 v7 : Value) : World :=
 (((((((w.setCell ⟨g, 0, none⟩ v0).setCell ⟨g, 1, none⟩ v1).setCell ⟨g, 2, none⟩ v2).setCell ⟨g, 3, none⟩ v3).setCell ⟨g, 4, none⟩ v4).setCell ⟨g, 5, none⟩ v5).setCell ⟨g, 6, none⟩ v6).setCell ⟨g, 7, none⟩ v7
theorem tw8_at {w : World} {g : Nat} {u0 u1 u2 u3 u4 u5 u6 u7 : Value} {t : TypeId} (h : w.heap[g]? = some (.cells #[u0, u1, u2, u3, u4, u5, u6, u7] t (0, 0))) (v0 v1 v2 v3 v4 v5 v6 v7 : Value) :
 (tw8 w g v0 v1 v2 v3 v4 v5 v6 v7).heap[g]? = some (.cells #[v0, v1, v2, v3, v4, v5, v6, v7] t (0, 0)) := by
 simp [tw8, World.setCell, Array.getElem?_modify, h]
theorem twAt {w : World} {g : Nat} {cs : Array Value} {t : TypeId} {fz : Nat × Nat} (h : w.heap[g]? = some (.cells cs t fz)) (j : Nat) (v : Value) : (w.setCell ⟨g, j, none⟩ v).heap[g]? = some (.cells (cs.setIfInBounds j v) t fz) := by
 simp [World.setCell, Array.getElem?_modify, h]
theorem twOther (w : World) (g i : Nat) (v : Value) (j : Nat) (hj : j ≠ g) : (w.setCell ⟨g, i, none⟩ v).heap[j]? = w.heap[j]? := Below.heap_setCell _ _ _ _ (by simpa using hj)
set_option maxHeartbeats 2000000 in
theorem tw8_other (w : World) (g : Nat) (v0 v1 v2 v3 v4 v5 v6 v7 : Value) (j : Nat) (hj : j ≠ g) : (tw8 w g v0 v1 v2 v3 v4 v5 v6 v7).heap[j]? = w.heap[j]? := by
 unfold tw8
 rw [twOther _ g _ _ j hj, twOther _ g _ _ j hj, twOther _ g _ _ j hj, twOther _ g _ _ j hj, twOther _ g _ _ j hj, twOther _ g _ _ j hj, twOther _ g _ _ j hj, twOther _ g _ _ j hj]
theorem tw8_size (w : World) (g : Nat) (v0 v1 v2 v3 v4 v5 v6 v7 : Value) : (tw8 w g v0 v1 v2 v3 v4 v5 v6 v7).heap.size = w.heap.size := by simp [tw8, World.setCell]
def Stays {α : Type} (R : (Nat → Bool) → World → α → Value → Prop) : Prop := ∀ p q w w' x v, R p w x v → Goes p q w w' → R q w' x v
def SameFrom (base : Nat) (w w' : World) : Prop := w.heap.size ≤ w'.heap.size ∧ ∀ b, base ≤ b → b < w.heap.size → w'.heap[b]? = w.heap[b]?
theorem flatten_at {C : Nat} : ∀ (cs : List (List Value)) (_ : ∀ c ∈ cs, c.length = C) (i j : Nat) (h : i < cs.length) (_ : j < C), cs.flatten[i * C + j]? = cs[i][j]?
 | [], _, i, _, h, _ => absurd h (by simp)
 | c :: r, hc, 0, j, _, hj => by
  have := hc c (by simp)
  rw [List.flatten_cons, Nat.zero_mul, Nat.zero_add, List.getElem?_append_left (by omega)]
  rfl
 | c :: r, hc, i + 1, j, h, hj => by
  have h1 := hc c (by simp)
  rw [List.flatten_cons, List.getElem?_append_right (by rw [h1, Nat.succ_mul]; omega), h1, show (i + 1) * C + j - C = i * C + j by rw [Nat.succ_mul]; omega]
  rw [flatten_at r (fun d hd => hc d (by simp [hd])) i j (by simpa using h) hj]
  rfl
def FRp (n : Nat) (p : Nat → Bool) (w : World) (t : FT n) (v : Value) : Prop := FRep (cutP p w) w.heap.size n t v
theorem FRp.stays (n : Nat) : Stays (FRp n) := fun _ _ _ _ _ _ h hg => FRep.le hg.has hg.1 h
end Go.Proofs.YtpgdplmndnopbaaGreatDoor