import Derived.Test.YtnpaoekblfflmaaWitE
import Derived.Deep.RegionHeld3
import Derived.Deep.DrawnRows
namespace Go.Proofs.Ytnpaoekblfflmaa
open Go.RowKit
attribute [local go_sem ↓] Go.wp_at_zero Go.wp_at_succ

theorem below_next {W0 W w1 : World} (h : Below W0.heap.size W0 W) (h' : Below W.heap.size W w1) : Below W0.heap.size W0 w1 := h.trans (h'.mono h.size)

theorem le_of_below {B : Nat} {W0 W : World} (h : B ≤ W0.heap.size) (h' : Below W0.heap.size W0 W) : B ≤ W.heap.size := Nat.le_trans h h'.size

set_option maxHeartbeats 2000000 in
theorem law_any (n : Nat) (t1 t2 : PT n) (v1 v2 : Value) (w : World) (B : Nat) (h1 : PRep w B n t1 v1) (h2 : PRep w B n t2 v2) (hB : B ≤ w.heap.size) :
    Calls Try.prog 3 #[v1, v2] w fun e w' => e = .returned (.bool true) ∧ Below w.heap.size w w' := by
  obtain ⟨k1, s1, x1, l1, e1, y1, m1, q1, rfl⟩ := h1.shape
  obtain ⟨k2, s2, x2, l2, e2, y2, m2, q2, rfl⟩ := h2.shape
  obtain ⟨W0, hW0⟩ : ∃ W0 : World, (w.alloc (.cells #[.int .u8 k1, .int .u8 s1, .slice x1 l1 e1, .slice y1 m1 q1] 25)).alloc (.cells #[.int .u8 k2, .int .u8 s2, .slice x2 l2 e2, .slice y2 m2 q2] 25) = W0 := ⟨_, rfl⟩
  have b0 : Below w.heap.size w W0 := by rw [← hW0]; exact below2 _ _ _
  have z0 : W0.heap.size = w.heap.size + 2 := by rw [← hW0]; simp
  have C : ∀ w1 : World, Below W0.heap.size W0 w1 → w1.cell? ⟨w.heap.size, 0, none⟩ = some (Value.int .u8 k1) ∧ w1.cell? ⟨w.heap.size, 1, none⟩ = some (Value.int .u8 s1) ∧ w1.cell? ⟨w.heap.size, 2, none⟩ = some (Value.slice x1 l1 e1) ∧ w1.cell? ⟨w.heap.size, 3, none⟩ = some (Value.slice y1 m1 q1) ∧ w1.cell? ⟨w.heap.size + 1, 0, none⟩ = some (Value.int .u8 k2) ∧ w1.cell? ⟨w.heap.size + 1, 1, none⟩ = some (Value.int .u8 s2) ∧ w1.cell? ⟨w.heap.size + 1, 2, none⟩ = some (Value.slice x2 l2 e2) ∧ w1.cell? ⟨w.heap.size + 1, 3, none⟩ = some (Value.slice y2 m2 q2) := by
    intro w1 h
    rw [← hW0] at h
    exact ⟨(cell2 h 0).1, (cell2 h 1).1, (cell2 h 2).1, (cell2 h 3).1, (cell2 h 0).2, (cell2 h 1).2, (cell2 h 2).2, (cell2 h 3).2⟩
  have P1 : ∀ w1 : World, Below W0.heap.size W0 w1 → PRep w1 B n t1 (.agg #[.int .u8 k1, .int .u8 s1, .slice x1 l1 e1, .slice y1 m1 q1]) := fun w1 h => PRep.below (b0.mono hB |>.trans (h.mono (by omega))) n h1
  have P2 : ∀ w1 : World, Below W0.heap.size W0 w1 → PRep w1 B n t2 (.agg #[.int .u8 k2, .int .u8 s2, .slice x2 l2 e2, .slice y2 m2 q2]) := fun w1 h => PRep.below (b0.mono hB |>.trans (h.mono (by omega))) n h2
  have hBz : B ≤ W0.heap.size := by omega
  have hwz : w.heap.size ≤ W0.heap.size := by omega
  have HC := Lib.hid C
  have HP1 := Lib.hid P1
  have HP2 := Lib.hid P2
  have HR := Lib.hid (sameT_refl n t1)
  clear h1 h2 z0 C P1 P2
  obtain ⟨c0, c1, c2, c3, d0, d1, d2, d3⟩ := HC.out W0 (Below.refl _ _)
  cases g1 : decide (roomT n t1 6000 < 0)
  · have G1 := Lib.hid g1
    clear g1
    cases g2 : decide (roomT n t2 6000 < 0)
    · have G2 := Lib.hid g2
      clear g2
      go_enter Try.func3, Try.ntmps3
      go_wp2_with fail
      refine (great_any n t1 _ _ B (HP1.out _ (Below.refl _ _)) hBz).mono ?_
      rintro e w1 ⟨rfl, hb1⟩
      rw [G1.out]
      clear hW0 c0 c1 c2 c3 d0 d1 d2 d3
      obtain ⟨c0, c1, c2, c3, d0, d1, d2, d3⟩ := HC.out w1 hb1
      go_wp2_with fail
      refine (great_any n t2 _ _ B (HP2.out _ hb1) (Nat.le_trans hBz hb1.size)).mono ?_
      rintro e w2 ⟨rfl, hb2⟩
      rw [G2.out]
      clear c0 c1 c2 c3 d0 d1 d2 d3
      have hb3 := hb1.trans (hb2.mono hb1.size)
      clear hb1 hb2
      obtain ⟨c0, c1, c2, c3, d0, d1, d2, d3⟩ := HC.out w2 hb3
      go_wp2_with fail
      go_region_held3 (fun w' => (w'.cell? ⟨w.heap.size, 0, none⟩ = some (Value.int .u8 k1) ∧ w'.cell? ⟨w.heap.size, 1, none⟩ = some (Value.int .u8 s1) ∧ w'.cell? ⟨w.heap.size, 2, none⟩ = some (Value.slice x1 l1 e1) ∧ w'.cell? ⟨w.heap.size, 3, none⟩ = some (Value.slice y1 m1 q1) ∧ w'.cell? ⟨w.heap.size + 1, 0, none⟩ = some (Value.int .u8 k2) ∧ w'.cell? ⟨w.heap.size + 1, 1, none⟩ = some (Value.int .u8 s2) ∧ w'.cell? ⟨w.heap.size + 1, 2, none⟩ = some (Value.slice x2 l2 e2) ∧ w'.cell? ⟨w.heap.size + 1, 3, none⟩ = some (Value.slice y2 m2 q2)) ∧ Below W0.heap.size W0 w') ((refine ⟨HC.out _ ?_, ?_⟩ <;> first | assumption | exact Below.drew (by assumption)))
        (first | (go_at_call 10; refine (many_any n t1 _ _ B ?_ ?_).mono ?_; exact HP1.out _ (by first | assumption | exact Below.drew (by assumption)); exact le_of_below hBz (by first | assumption | exact Below.drew (by assumption)); rintro e wz ⟨rfl, hbz⟩; have hq := below_next (by first | assumption | exact Below.drew (by assumption)) hbz; clear hbz) | (go_at_call 11; refine (refmany_any n t1 _ _ B ?_ ?_).mono ?_; exact HP1.out _ (by first | assumption | exact Below.drew (by assumption)); exact le_of_below hBz (by first | assumption | exact Below.drew (by assumption)); rintro e wz ⟨rfl, hbz⟩; have hq := below_next (by first | assumption | exact Below.drew (by assumption)) hbz; clear hbz) | (go_at_call 13; refine (refsame_any n t1 t2 _ _ _ B ?_ ?_ ?_).mono ?_; exact HP1.out _ (by first | assumption | exact Below.drew (by assumption)); exact HP2.out _ (by first | assumption | exact Below.drew (by assumption)); exact le_of_below hBz (by first | assumption | exact Below.drew (by assumption)); rintro e wz ⟨rfl, hbz⟩; have hq := below_next (by first | assumption | exact Below.drew (by assumption)) hbz; clear hbz) | (go_at_call 12; refine (same_any n t1 t2 _ _ _ B ?_ ?_ ?_).mono ?_; exact HP1.out _ (by first | assumption | exact Below.drew (by assumption)); exact HP2.out _ (by first | assumption | exact Below.drew (by assumption)); exact le_of_below hBz (by first | assumption | exact Below.drew (by assumption)); rintro e wz ⟨rfl, hbz⟩; have hq := below_next (by first | assumption | exact Below.drew (by assumption)) hbz; clear hbz) | (go_at_call 12; refine (same_any n t1 t1 _ _ _ B ?_ ?_ ?_).mono ?_; exact HP1.out _ (by first | assumption | exact Below.drew (by assumption)); exact HP1.out _ (by first | assumption | exact Below.drew (by assumption)); exact le_of_below hBz (by first | assumption | exact Below.drew (by assumption)); rintro e wz ⟨rfl, hbz⟩; have hq := below_next (by first | assumption | exact Below.drew (by assumption)) hbz; clear hbz))
      rename_i hq _
      go_wp2_with fail
      go_ret
      exact ⟨by rw [← HR.out]; rfl, b0.trans (hq.mono hwz)⟩
    · have G2 := Lib.hid g2
      clear g2
      go_enter Try.func3, Try.ntmps3
      go_wp2_with fail
      refine (great_any n t1 _ _ B (HP1.out _ (Below.refl _ _)) hBz).mono ?_
      rintro e w1 ⟨rfl, hb1⟩
      rw [G1.out]
      clear hW0 c0 c1 c2 c3 d0 d1 d2 d3
      obtain ⟨c0, c1, c2, c3, d0, d1, d2, d3⟩ := HC.out w1 hb1
      go_wp2_with fail
      refine (great_any n t2 _ _ B (HP2.out _ hb1) (Nat.le_trans hBz hb1.size)).mono ?_
      rintro e w2 ⟨rfl, hb2⟩
      rw [G2.out]
      clear c0 c1 c2 c3 d0 d1 d2 d3
      go_wp2_with fail
      go_ret
      exact ⟨rfl, b0.trans ((hb1.trans (hb2.mono hb1.size)).mono hwz)⟩
  · have G1 := Lib.hid g1
    clear g1
    go_enter Try.func3, Try.ntmps3
    go_wp2_with fail
    refine (great_any n t1 _ _ B (HP1.out _ (Below.refl _ _)) hBz).mono ?_
    rintro e w1 ⟨rfl, hb1⟩
    rw [G1.out]
    clear hW0 c0 c1 c2 c3 d0 d1 d2 d3
    go_wp2_with fail
    go_ret
    exact ⟨rfl, b0.trans (hb1.mono hwz)⟩
end Go.Proofs.Ytnpaoekblfflmaa
