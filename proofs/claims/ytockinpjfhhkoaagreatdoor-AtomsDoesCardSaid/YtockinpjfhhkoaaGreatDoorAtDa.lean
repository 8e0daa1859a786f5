/- A matrix under way, in memory; dbm.at walked. -/
import Derived.Deep.QuietTactic
import Derived.BigQuiet
import Derived.Test.YtockinpjfhhkoaaGreatDoorAtB
import Derived.Test.YtockinpjfhhkoaaGreatDoorMhA
namespace Go.Proofs.YtockinpjfhhkoaaGreatDoor
open Go.RowKit

/-- All but one block is as it was. -/
def Bt (pb : Nat) (w w' : World) : Prop := w'.os = w.os ∧ w'.tape = w.tape ∧ w'.output = w.output ∧ w.heap.size ≤ w'.heap.size ∧ ∀ k, k < w.heap.size → k ≠ pb → w'.heap[k]? = w.heap[k]?
theorem Bt.refl (pb : Nat) (w : World) : Bt pb w w := ⟨rfl, rfl, rfl, Nat.le_refl _, fun _ _ _ => rfl⟩
theorem Bt.trans {pb : Nat} {w w' w'' : World} (h : Bt pb w w') (k : Bt pb w' w'') : Bt pb w w'' :=
  ⟨k.1.trans h.1, k.2.1.trans h.2.1, k.2.2.1.trans h.2.2.1, Nat.le_trans h.2.2.2.1 k.2.2.2.1, fun i hi hp => (k.2.2.2.2 i (Nat.lt_of_lt_of_le hi h.2.2.2.1) hp).trans (h.2.2.2.2 i hi hp)⟩
theorem Bt.of_below {pb : Nat} {w w' : World} (h : Below w.heap.size w w') : Bt pb w w' := ⟨h.os, h.tape, h.output, h.size, fun k hk _ => h.block k hk⟩
theorem Bt.alloc {pb : Nat} {w w' : World} (h : Bt pb w w') (o : Obj) : Bt pb w (w'.alloc o) := h.trans (.of_below ((Below.refl _ _).alloc (Nat.le_refl _) _))
theorem Bt.drew {pb : Nat} {w w' : World} (h : Bt pb w w') : Bt pb w w'.drew := h
theorem Bt.at {pb : Nat} {w w' : World} (h : Bt pb w w') {k : Nat} {o : Obj} (hk : w.heap[k]? = some o) (hp : k ≠ pb) : w'.heap[k]? = some o :=
  (h.2.2.2.2 k (Array.getElem?_eq_some_iff.1 hk).1 hp).trans hk
theorem Bt.set {pb : Nat} {w w' : World} (h : Bt pb w w') (i : Nat) (v : Value) : Bt pb w (w'.setCell ⟨pb, i, none⟩ v) :=
  ⟨h.1, h.2.1, h.2.2.1, by simpa [World.setCell] using h.2.2.2.1, fun k hk hp => (setCell_other' _ _ _ _ _ hp).trans (h.2.2.2.2 k hk hp)⟩
/-- .. and a fresh one is laid anew, too. -/
theorem Bt.setNew {pb : Nat} {w w' : World} (h : Bt pb w w') {g : Nat} (hg : w.heap.size ≤ g) (i : Nat) (v : Value) : Bt pb w (w'.setCell ⟨g, i, none⟩ v) :=
  ⟨h.1, h.2.1, h.2.2.1, by simpa [World.setCell] using h.2.2.2.1, fun k hk hp => (setCell_other' _ _ _ _ _ (by omega)).trans (h.2.2.2.2 k hk hp)⟩
/-- Where the block is new, nothing is turned. -/
theorem Bt.below {pb : Nat} {w w' : World} (h : Bt pb w w') {n : Nat} (hn : n ≤ pb) (hw : n ≤ w.heap.size) : Below n w w' :=
  ⟨h.1, h.2.1, h.2.2.1, h.2.2.2.1, fun k hk => h.2.2.2.2 k (by omega) (by omega)⟩

/-- A matrix under way: its own block, and the row's. -/
def Mat (w : World) (mb g n c : Nat) (L : List Int) : Prop := w.heap[mb]? = some (.cells #[.int .i64 n, .slice (some ⟨g, 0, none⟩) L.length c] 175 (0, 0)) ∧ RowB w g L ∧ mb ≠ g

set_option maxRecDepth 100000 in
set_option maxHeartbeats 2000000 in
theorem at120_any {mb g n c i j : Nat} {L : List Int} {w : World} (h : Mat w mb g n c L) (hl : L.length = n * n) (hn : n ≤ 4) (hi : i < n) (hj : j < n) :
    Calls Tryz.prog 120 #[.pointer (some ⟨mb, 0, none⟩), .int .i64 i, .int .i64 j] w fun e w' => e = .returned (.pointer (some ⟨g, i * n + j, none⟩)) ∧ ∃ q, w' = w.drewN q := by
  have hlt := place_lt hi hj
  have hnn : n * n ≤ 16 := Nat.mul_le_mul hn hn
  obtain ⟨q, hq⟩ : ∃ q, i * n = q := ⟨_, rfl⟩
  obtain ⟨p, hp⟩ : ∃ p, q + j = p := ⟨_, rfl⟩
  have hw1 : IntKind.i64.wrap ((i : Int) * (n : Int)) = (q : Int) := by rw [← Int.natCast_mul, hq]; exact IntWalk.i64_in _ (by omega)
  have hw2 : IntKind.i64.wrap ((q : Int) + (j : Int)) = (p : Int) := by rw [← Int.natCast_add, hp]; exact IntWalk.i64_in _ (by omega)
  have hm0 := Lib.cell_of_heap h.1 0
  have hm1 := Lib.cell_of_heap h.1 1
  simp only [List.getElem?_toArray, List.getElem?_cons_zero, List.getElem?_cons_succ] at hm0 hm1
  have hml := (Array.getElem?_eq_some_iff.1 h.1).1
  have hk : (p : Int) < (L.length : Int) := by omega
  have hk0 : (0 : Int) ≤ (p : Int) := by omega
  rw [hq, hp]
  clear h hlt hnn hl hq hp
  go_enter Tryz.func120, Tryz.ntmps120
  go_wp2_with fail
  go_quiet (fail)
  go_wp2_with fail
  all_goals go_ret
  all_goals exact ⟨rfl, _, rfl⟩
end Go.Proofs.YtockinpjfhhkoaaGreatDoor
