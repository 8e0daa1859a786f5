/- The law TreeWider, walked. -/
import Derived.Test.YtabpfbgcdmejbaaDoorTreeQ
import Derived.Test.YtabpfbgcdmejbaaDoorTreeB
import Derived.Deep.Cut
namespace Go.Proofs.YtabpfbgcdmejbaaDoor
open Go.RowKit

set_option maxRecDepth 100000 in
set_option maxHeartbeats 8000000 in
theorem treeWider4 (i : Spn) (by_ : Int) (w : World) (hr : Rdy w) : Calls Tryd.prog 4 #[i.val, .int .i64 by_] w fun e w' => e = .returned (.bool true) ∧ Below w.heap.size w w' := by
  have HIV := Lib.hid interval9_any
  have HW := Lib.hid (wider_plain i by_)
  obtain ⟨lo, ls, hi, hs, op⟩ := i
  unfold Spn.val at HIV ⊢
  dsimp only at HIV HW ⊢
  have hb0 : Below w.heap.size w (w.alloc (.cells #[.int .i64 lo, .bool ls, .int .i64 hi, .bool hs, .bool op] 25)) := (Below.refl _ _).alloc (Nat.le_refl _) _
  have HAL := Lib.hid (alive10_any _ (hr.below hb0))
  have HB0 := Lib.hid hb0
  clear hr hb0
  go_enter Tryd.func4, Tryd.ntmps4
  go_wp2_with fail
  refine HAL.out.mono ?_
  rintro e w1 ⟨rfl, hb1⟩
  have hbl : w1.heap[w.heap.size]? = some (.cells #[.int .i64 lo, .bool ls, .int .i64 hi, .bool hs, .bool op] 25 (0, 0)) := by
    rw [hb1.block _ (by simp)]; exact Array.getElem?_push_size
  have HBL := Lib.hid hbl
  have HB1 := Lib.hid (HB0.out.trans (hb1.mono HB0.out.size))
  have x0 := Lib.cell_of_heap hbl 0
  have x1 := Lib.cell_of_heap hbl 1
  have x2 := Lib.cell_of_heap hbl 2
  have x3 := Lib.cell_of_heap hbl 3
  have x4 := Lib.cell_of_heap hbl 4
  simp only [List.getElem?_toArray, List.getElem?_cons_zero, List.getElem?_cons_succ] at x0 x1 x2 x3 x4
  clear hb1 hbl
  go_wp2_with fail
  refine (HIV.out ⟨lo, ls, hi, hs, op⟩ _).mono ?_
  rintro e w2 ⟨rfl, hb2⟩
  have hz2 : w.heap.size < w1.heap.size := (Array.getElem?_eq_some_iff.1 HBL.out).1
  have hbl2 : w2.heap[w.heap.size]? = some (.cells #[.int .i64 lo, .bool ls, .int .i64 hi, .bool hs, .bool op] 25 (0, 0)) := (hb2.block _ hz2).trans HBL.out
  have HB2 := Lib.hid (HB1.out.trans (hb2.mono HB1.out.size))
  have hz3 : w.heap.size < w2.heap.size := (Array.getElem?_eq_some_iff.1 hbl2).1
  clear x0 x1 x2 x3 x4 HBL hz2
  have x0 := Lib.cell_of_heap hbl2 0
  have x1 := Lib.cell_of_heap hbl2 1
  have x2 := Lib.cell_of_heap hbl2 2
  have x3 := Lib.cell_of_heap hbl2 3
  have x4 := Lib.cell_of_heap hbl2 4
  simp only [List.getElem?_toArray, List.getElem?_cons_zero, List.getElem?_cons_succ] at x0 x1 x2 x3 x4
  clear hb2 hbl2
  by_cases hgo : ivR ⟨lo, ls, hi, hs, op⟩ = 0 ∧ op = false ∧ 0 ≤ by_ ∧ by_ < 288230376151711744
  · obtain ⟨g1, rfl, g3, g4⟩ := hgo
    obtain ⟨k1, k2, k3⟩ := HW.out g1 rfl g3 g4
    have q1 : (ivR ⟨lo, ls, hi, hs, false⟩ != 0) = false := by simp [g1]
    have HA := Lib.hid (HIV.out ⟨lo, false, hi, false, false⟩)
    have HBB := Lib.hid (HIV.out ⟨lo, ls, wrap64 (hi + by_), hs, false⟩)
    have HC := Lib.hid (HIV.out ⟨lo, ls, 0, false, true⟩)
    dsimp only at HA HBB HC
    rw [k1] at HA
    rw [k3] at HC
    clear k1 k3 HW g1
    go_wp2_with fail
    refine (HA.out _).mono ?_
    rintro e w4 ⟨rfl, hb4⟩
    obtain ⟨d1, d2, d3, hbw, hsz⟩ := blocks3 hb4
    have HB4 := Lib.hid (HB2.out.trans (hbw.mono HB2.out.size))
    have D2 := Lib.hid d2
    have D3 := Lib.hid d3
    have y0 := Lib.cell_of_heap d2 0
    have y1 := Lib.cell_of_heap d2 1
    have y2 := Lib.cell_of_heap d2 2
    have y3 := Lib.cell_of_heap d2 3
    have y4 := Lib.cell_of_heap d2 4
    have z0 : w4.cell? ⟨w2.heap.size + 1 + 1, 0, none⟩ = _ := Lib.cell_of_heap d3 0
    have z1 : w4.cell? ⟨w2.heap.size + 1 + 1, 1, none⟩ = _ := Lib.cell_of_heap d3 1
    have z2 : w4.cell? ⟨w2.heap.size + 1 + 1, 2, none⟩ = _ := Lib.cell_of_heap d3 2
    have z3 : w4.cell? ⟨w2.heap.size + 1 + 1, 3, none⟩ = _ := Lib.cell_of_heap d3 3
    have z4 : w4.cell? ⟨w2.heap.size + 1 + 1, 4, none⟩ = _ := Lib.cell_of_heap d3 4
    simp only [List.getElem?_toArray, List.getElem?_cons_zero, List.getElem?_cons_succ] at y0 y1 y2 y3 y4 z0 z1 z2 z3 z4
    clear hb4 d1 d2 d3 hbw x0 x1 x2 x3 x4
    rcases k2 with k2 | k2
    · have K2 := Lib.hid k2
      clear HBB
      go_wp2_with fail
      refine (HC.out _).mono ?_
      rintro e w5 ⟨rfl, hb5⟩
      have HB5 := Lib.hid (HB4.out.trans (hb5.mono HB4.out.size))
      clear hb5
      go_wp2_with fail
      all_goals go_ret
      all_goals exact ⟨rfl, HB5.out⟩
    · rw [k2] at HBB
      by_cases hge : 288230376151711744 ≤ wrap64 (hi + by_)
      · clear HBB
        go_wp2_with fail
        refine (HC.out _).mono ?_
        rintro e w5 ⟨rfl, hb5⟩
        have HB5 := Lib.hid (HB4.out.trans (hb5.mono HB4.out.size))
        clear hb5
        go_wp2_with fail
        all_goals go_ret
        all_goals exact ⟨rfl, HB5.out⟩
      · go_wp2_with fail
        refine (HBB.out _).mono ?_
        rintro e w5 ⟨rfl, hb5⟩
        have hz4 : w2.heap.size + 1 + 1 < w4.heap.size := by omega
        have HB5 := Lib.hid (HB4.out.trans (hb5.mono HB4.out.size))
        have u0 := (hb5.cell (p := ⟨w2.heap.size + 1 + 1, 0, none⟩) hz4).trans z0
        have u1 := (hb5.cell (p := ⟨w2.heap.size + 1 + 1, 1, none⟩) hz4).trans z1
        have u2 := (hb5.cell (p := ⟨w2.heap.size + 1 + 1, 2, none⟩) hz4).trans z2
        have u3 := (hb5.cell (p := ⟨w2.heap.size + 1 + 1, 3, none⟩) hz4).trans z3
        have u4 := (hb5.cell (p := ⟨w2.heap.size + 1 + 1, 4, none⟩) hz4).trans z4
        clear hb5 z0 z1 z2 z3 z4 y0 y1 y2 y3 y4
        go_wp2_with fail
        refine (HC.out _).mono ?_
        rintro e w6 ⟨rfl, hb6⟩
        have HB6 := Lib.hid (HB5.out.trans (hb6.mono HB5.out.size))
        clear hb6
        go_wp2_with fail
        all_goals go_ret
        all_goals exact ⟨rfl, HB6.out⟩
  · go_wp2_with fail
    all_goals try (go_ret; exact ⟨rfl, HB2.out⟩)
    all_goals (exfalso; apply hgo; clear hgo; simp_all; try omega)
end Go.Proofs.YtabpfbgcdmejbaaDoor
