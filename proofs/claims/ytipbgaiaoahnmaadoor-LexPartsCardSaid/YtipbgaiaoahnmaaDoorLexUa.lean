/- Grow of a builder that is fresh. -/
import Derived.Test.YtipbgaiaoahnmaaDoorLexU
namespace Go.Proofs
open Go.Shelf Go.RowKit

set_option maxHeartbeats 2000000 in
set_option maxRecDepth 1000000 in
theorem Tryd.Builder_Grow_k (b n : Nat) (w : World) (hbk : w.heap[b]? = some (.cells #[.pointer none, .slice none 0 0] 57 (0, 0))) (hn : n ≤ 281474976710656) :
    Calls Tryd.prog 26 #[.pointer (some ⟨b, 0, none⟩), .int .i64 n] w fun e w' => e = .returned (.tuple #[]) ∧ (Lib.BuilderAtF 57 5 b b (.pointer (some ⟨b, 0, none⟩)) [] w' ∧ Below b w w' ∧ Lib.OthersKept 5 (some b) w w') := by
  have hlt : b < w.heap.size := by
    rcases Nat.lt_or_ge b w.heap.size with h' | h'
    · exact h'
    · simp [Array.getElem?_eq_none h'] at hbk
  have hbk1 : (w.setCell ⟨b, 0, none⟩ (.pointer (some ⟨b, 0, none⟩))).heap[b]? = some (.cells #[.pointer (some ⟨b, 0, none⟩), .slice none 0 0] 57 (0, 0)) := by
    simp [World.setCell, Array.getElem?_modify, hbk]
  have c1 : (w.setCell ⟨b, 0, none⟩ (.pointer (some ⟨b, 0, none⟩))).drew.cell? ⟨b, 1, none⟩ = some (.slice none 0 0) := by rw [Lib.cell_of_heap (show (w.setCell ⟨b, 0, none⟩ (.pointer (some ⟨b, 0, none⟩))).drew.heap[b]? = _ from hbk1)]; rfl
  have hb1 : Below b w (w.setCell ⟨b, 0, none⟩ (.pointer (some ⟨b, 0, none⟩))) := (Below.refl b w).setCell (p := ⟨b, 0, none⟩) (Nat.le_refl _) _
  have ho1 : Lib.OthersKept 5 (some b) w (w.setCell ⟨b, 0, none⟩ (.pointer (some ⟨b, 0, none⟩))) := (Lib.OthersKept.refl _ _ w).setCell ⟨b, 0, none⟩ rfl _
  have hU : Lib.BuilderAt 57 5 b b (.pointer (some ⟨b, 0, none⟩)) [] (w.setCell ⟨b, 0, none⟩ (.pointer (some ⟨b, 0, none⟩))) := ⟨Nat.le_refl _, .slice none 0 0, hbk1, World.ownsRow_nil _ _ _ _, by simp [Value.ownBlock]⟩
  have HCC := Lib.hid (Tryd.copyCheck_fresh b w hbk)
  have HEND : Hid (Lib.BuilderAtF 57 5 b b (.pointer (some ⟨b, 0, none⟩)) [] (w.setCell ⟨b, 0, none⟩ (.pointer (some ⟨b, 0, none⟩))).drew ∧ Below b w (w.setCell ⟨b, 0, none⟩ (.pointer (some ⟨b, 0, none⟩))).drew ∧ Lib.OthersKept 5 (some b) w (w.setCell ⟨b, 0, none⟩ (.pointer (some ⟨b, 0, none⟩))).drew) :=
    ⟨Lib.BuilderAtF.of hU.drew, hb1.drew, ho1.drew⟩
  have HG : Hid (Calls Tryd.prog 44 #[.pointer (some ⟨b, 0, none⟩), .int .i64 n] (w.setCell ⟨b, 0, none⟩ (.pointer (some ⟨b, 0, none⟩))).drew fun e w' => e = .returned (.tuple #[]) ∧ (Lib.BuilderAtF 57 5 b b (.pointer (some ⟨b, 0, none⟩)) [] w' ∧ Below b w w' ∧ Lib.OthersKept 5 (some b) w w')) := by
    refine (Tryd.grow44 b n (w.setCell ⟨b, 0, none⟩ (.pointer (some ⟨b, 0, none⟩))).drew hbk1 hn).mono ?_
    rintro e w' ⟨rfl, cs, hcs, rfl⟩
    have hsz : b ≤ (w.setCell ⟨b, 0, none⟩ (.pointer (some ⟨b, 0, none⟩))).drew.heap.size := Nat.le_trans (Nat.le_of_lt hlt) hb1.size
    have h := Lib.grown_fresh (T := 57) (e := 5) (cs := cs) (Nat.le_refl b) (show (w.setCell ⟨b, 0, none⟩ (.pointer (some ⟨b, 0, none⟩))).drew.heap[b]? = _ from hbk1) hsz hcs (by decide)
    exact ⟨rfl, Lib.BuilderAtF.of h.1, hb1.drew.trans h.2, ((((ho1.drew.alloc _).setCell ⟨b, 1, none⟩ rfl _).drew).drew).drew⟩
  clear hb1 ho1 hU hlt hbk hbk1
  have mixed := Tryd.lays165.mixed
  go_enter Tryd.func26, Tryd.ntmps26
  go_wp2_with fail
  refine HCC.out.mono ?_
  rintro e w' ⟨rfl, rfl⟩
  go_wp2_with fail
  go_region_o
  all_goals go_wp2_with fail
  all_goals first
    | (refine HG.out.mono ?_; rintro e w' ⟨rfl, h1⟩; go_wp2_with fail; go_end0; exact ⟨rfl, h1⟩)
    | (go_end0; exact ⟨rfl, HEND.out⟩)
end Go.Proofs
