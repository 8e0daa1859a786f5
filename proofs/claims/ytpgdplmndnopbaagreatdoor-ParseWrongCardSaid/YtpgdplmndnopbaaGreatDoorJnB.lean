/- The examples of layer 17 walked. -/
import Derived.Test.YtpgdplmndnopbaaGreatDoorMgI
import Derived.Test.YtpgdplmndnopbaaGreatDoorPsX
import Derived.Test.YtpgdplmndnopbaaGreatDoorMgM
namespace Go.Proofs.YtpgdplmndnopbaaGreatDoor
open Go.RowKit

set_option maxRecDepth 100000 in
set_option maxHeartbeats 8000000 in
theorem alive23_any (w : World) (hr : Rdy w) : Calls Tryz.prog 23 #[] w fun e w' => e = .returned (.bool true) ∧ Below w.heap.size w w' := by
  have HR := Lib.hid hr
  clear hr
  go_enter Tryz.func23, Tryz.ntmps23
  go_wp2_with fail
  refine (names22_any w).mono ?_
  rintro e w1 ⟨⟨v1, rfl, hn1⟩, hb1⟩
  have HB1 := Lib.hid hb1
  have HN1 := Lib.hid hn1
  clear hn1 hb1
  go_wp2_with fail
  refine (parse21_any pqL v1 pq_small sA w1 (HR.out.below HB1.out) HN1.out).mono ?_
  rintro e w2 ⟨x, at_, cd, rfl, hp, hb2⟩
  obtain ⟨rfl, rfl, m, n, t, ht, hx⟩ := hp.at_ok pq_right sA_cut sA_all xA_check
  obtain ⟨a1, l1, c1, a2, l2, c2, rfl⟩ := hx.known (ht.trans (show toX 2 xA = .mk 1 _ _ noSpan from rfl))
  have HB2 := Lib.hid (HB1.out.trans (hb2.mono HB1.out.size))
  have HT := Lib.hid ht
  obtain ⟨w3, hw3⟩ : ∃ w3, w3 = w2.alloc (.cells #[.int .u8 1, .slice a1 l1 c1, .slice a2 l2 c2, .int .i64 noSpan.low, .bool noSpan.ls, .int .i64 noSpan.high, .bool noSpan.hs, .bool noSpan.op] 28) := ⟨_, rfl⟩
  have HB3 : Hid (Below w.heap.size w w3) := by rw [Hid, hw3]; exact HB2.out.alloc (by have := HB2.out.size; omega) _
  have HX3 : Hid (XRep w3 w3.heap.size m n t (.agg #[.int .u8 1, .slice a1 l1 c1, .slice a2 l2 c2, .int .i64 noSpan.low, .bool noSpan.ls, .int .i64 noSpan.high, .bool noSpan.hs, .bool noSpan.op])) := by
    rw [Hid, hw3]; exact hx.up ((Below.refl _ _).alloc (Nat.le_refl _) _) (by simp)
  have HK3 : Hid (w3.heap[w2.heap.size]? = some (.cells #[.int .u8 1, .slice a1 l1 c1, .slice a2 l2 c2, .int .i64 noSpan.low, .bool noSpan.ls, .int .i64 noSpan.high, .bool noSpan.hs, .bool noSpan.op] 28 (0, 0))) := by rw [Hid, hw3]; exact hp_top rfl
  have HW3 := Lib.hid hw3.symm
  clear hp hb2 hx ht hw3 HB1 HN1 HB2
  go_wp2_with fail
  rw [HW3.out]
  clear HW3
  refine (names22_any w3).mono ?_
  rintro e w4 ⟨⟨v4, rfl, hn4⟩, hb4⟩
  have HB4 := Lib.hid (HB3.out.trans (hb4.mono HB3.out.size))
  have HX4 := Lib.hid (HX3.out.up hb4 hb4.size)
  have HK4 : Hid (w4.heap[w2.heap.size]? = w3.heap[w2.heap.size]?) := hb4.block _ (Array.getElem?_eq_some_iff.1 HK3.out).1
  have HN4 := Lib.hid hn4
  clear hn4 hb4
  go_wp2_with fail
  refine (parse21_any pqL v4 pq_small sO w4 (HR.out.below HB4.out) HN4.out).mono ?_
  rintro e w5 ⟨y, at_, cd, rfl, hp, hb5⟩
  obtain ⟨rfl, rfl, m', n', u, hu, hy⟩ := hp.at_ok pq_right sO_cut sO_all xO_check
  obtain ⟨a3, l3, c3, a4, l4, c4, rfl⟩ := hy.known (hu.trans (show toX 2 xO = .mk 2 _ _ noSpan from rfl))
  have hk4 := HK4.out.trans HK3.out
  have hk5 := (hb5.block _ (Array.getElem?_eq_some_iff.1 hk4).1).trans hk4
  have HB5 := Lib.hid (HB4.out.trans (hb5.mono HB4.out.size))
  have HMANY : Hid (∀ W, Below w5.heap.size w5 W → Calls Tryz.prog 33 #[.agg #[.int .u8 1, .slice a1 l1 c1, .slice a2 l2 c2, .int .i64 noSpan.low, .bool noSpan.ls, .int .i64 noSpan.high, .bool noSpan.hs, .bool noSpan.op]] W fun e w' => e = .returned (.int .i64 3) ∧ Below W.heap.size W w') := by
    intro W hb
    have hbb := hb5.trans (hb.mono hb5.size)
    have := many14_any m n t _ W (HX4.out.up hbb hbb.size)
    rw [many_same HT.out, xA_many] at this
    exact this
  have e0 := Lib.cell_of_heap hk5 0
  have e1 := Lib.cell_of_heap hk5 1
  have e2 := Lib.cell_of_heap hk5 2
  have e3 := Lib.cell_of_heap hk5 3
  have e4 := Lib.cell_of_heap hk5 4
  have e5 := Lib.cell_of_heap hk5 5
  have e6 := Lib.cell_of_heap hk5 6
  have e7 := Lib.cell_of_heap hk5 7
  have hlt := (Array.getElem?_eq_some_iff.1 hk5).1
  simp only [List.getElem?_toArray, List.getElem?_cons_zero, List.getElem?_cons_succ] at e0 e1 e2 e3 e4 e5 e6 e7
  clear hp hb5 hy hu hk4 hk5
  go_wp2_with fail
  have hba := (Below.refl w5.heap.size w5).alloc (Nat.le_refl _) (.cells #[.int .u8 2, .slice a3 l3 c3, .slice a4 l4 c4, .int .i64 noSpan.low, .bool noSpan.ls, .int .i64 noSpan.high, .bool noSpan.hs, .bool noSpan.op] 28)
  refine (HMANY.out _ hba).mono ?_
  rintro e w6 ⟨rfl, hb6⟩
  have HB6 := Lib.hid ((HB5.out.trans (hba.mono HB5.out.size)).trans (hb6.mono (Nat.le_trans HB5.out.size hba.size)))
  clear hb6 hba
  go_wp2_with fail
  all_goals go_ret
  all_goals exact ⟨rfl, HB6.out⟩

set_option maxRecDepth 100000 in
set_option maxHeartbeats 8000000 in
theorem parseNames4_any (w : World) (hr : Rdy w) : Calls Tryz.prog 4 #[] w fun e w' => e = .returned (.bool true) ∧ Below w.heap.size w w' := by
  have HR := Lib.hid hr
  clear hr
  go_enter Tryz.func4, Tryz.ntmps4
  go_wp2_with fail
  refine (names22_any w).mono ?_
  rintro e w1 ⟨⟨v1, rfl, hn1⟩, hb1⟩
  have HB1 := Lib.hid hb1
  have HN1 := Lib.hid hn1
  clear hn1 hb1
  go_wp2_with fail
  refine (parse21_any pqL v1 pq_small sT w1 (HR.out.below HB1.out) HN1.out).mono ?_
  rintro e w2 ⟨x, at_, cd, rfl, hp, hb2⟩
  obtain ⟨rfl, rfl, rfl⟩ := hp.at_wrong pq_right sT_cut sT_all
  have HB2 := Lib.hid (HB1.out.trans (hb2.mono HB1.out.size))
  obtain ⟨w3, hw3⟩ : ∃ w3, w3 = w2.alloc (.cells #[.int .u8 0, .slice none 0 0, .slice none 0 0, .int .i64 0, .bool false, .int .i64 0, .bool false, .bool false] 28) := ⟨_, rfl⟩
  have HB3 : Hid (Below w.heap.size w w3) := by rw [Hid, hw3]; exact HB2.out.alloc (by have := HB2.out.size; omega) _
  have HW3 := Lib.hid hw3.symm
  clear hp hb2 hw3 HB1 HN1 HB2
  unfold noX
  go_wp2_with fail
  rw [HW3.out]
  clear HW3
  refine (names22_any w3).mono ?_
  rintro e w4 ⟨⟨v4, rfl, hn4⟩, hb4⟩
  have HB4 := Lib.hid (HB3.out.trans (hb4.mono HB3.out.size))
  have HN4 := Lib.hid hn4
  clear hn4 hb4
  go_wp2_with fail
  refine (parse21_any pqL v4 pq_small sR w4 (HR.out.below HB4.out) HN4.out).mono ?_
  rintro e w5 ⟨y, at_, cd, rfl, hp, hb5⟩
  obtain ⟨rfl, rfl, rfl⟩ := hp.at_check pq_right sR_cut sR_all xR_check (by decide)
  have HB5 := Lib.hid (HB4.out.trans (hb5.mono HB4.out.size))
  obtain ⟨w6, hw6⟩ : ∃ w6, w6 = w5.alloc (.cells #[.int .u8 0, .slice none 0 0, .slice none 0 0, .int .i64 0, .bool false, .int .i64 0, .bool false, .bool false] 28) := ⟨_, rfl⟩
  have HB6 : Hid (Below w.heap.size w w6) := by rw [Hid, hw6]; exact HB5.out.alloc (by have := HB5.out.size; omega) _
  have HW6 := Lib.hid hw6.symm
  clear hp hb5 hw6 HB3 HB4 HN4 HB5
  unfold noX
  go_wp2_with fail
  rw [HW6.out]
  clear HW6
  refine (alive23_any w6 (HR.out.below HB6.out)).mono ?_
  rintro e w7 ⟨rfl, hb7⟩
  have HB7 := Lib.hid (HB6.out.trans (hb7.mono HB6.out.size))
  clear hb7
  go_wp2_with fail
  all_goals go_ret
  all_goals exact ⟨rfl, HB7.out⟩
end Go.Proofs.YtpgdplmndnopbaaGreatDoor
