/- The examples of layer 19 walked. (Printed by gen_noa.py.) -/
import Derived.Test.YtpgdplmndnopbaaGreatDoorNmZ
namespace Go.Proofs.YtpgdplmndnopbaaGreatDoor
open Go.RowKit
def OfIs (s r : ByteArray) : Prop := (cutR s).2.2 = 0 ∧ ∃ (m n : Nat) (t : XT m n) (y : YX) (m1 n1 : Nat) (t1 : XT m1 n1), allR (cutR s).1 s.size = .ok (toX n t) ∧ checkR pqL n t = 0 ∧ toX n t = xY y ∧ Nm.Ok y ∧ toX n1 t1 = xY (Nm.norm y) ∧ checkR pqL n1 t1 = 0 ∧ textR pqL n1 t1 = r.data.toList ∧ tX n1 t1 ≤ 100000 ∧ nX n t ≤ 1000000
def xQ : XT 2 3 := (4, [], [(4, [], [aP, aQ], noSpan), (1, [fP], [], noSpan)], noSpan)
def yQ : YX := .bin 4 (.bin 4 (.at (toF 2 fP)) (.at (toF 2 fQ))) (.at (toF 2 fP))
def sQ : ByteArray := ⟨#[112, 59, 113, 59, 112]⟩
def xPP : XT 2 3 := (5, [], [(5, [], [aP], noSpan)], noSpan)
def yPP : YX := .pl (.pl (.at (toF 2 fP)))
def xP1 : XT 2 2 := (5, [], [aP], noSpan)
def sPP : ByteArray := ⟨#[112, 43, 43]⟩
def sP1 : ByteArray := ⟨#[112, 43]⟩
theorem xQ_y : toX 3 xQ = xY yQ := rfl
theorem yQ_ok : Nm.Ok yQ := ⟨.inr (.inr rfl), ⟨.inr (.inr rfl), trivial, trivial⟩, trivial⟩
theorem ofQ : OfIs sQ r1 := ⟨by kernel_rfl, 2, 3, xQ, yQ, 2, 3, xC, by kernel_rfl, by kernel_rfl, rfl, yQ_ok, by kernel_rfl, by kernel_rfl, by kernel_rfl, by decide +kernel, by decide +kernel⟩
theorem ofPP : OfIs sPP sP1 := ⟨by kernel_rfl, 2, 3, xPP, yPP, 2, 2, xP1, by kernel_rfl, by kernel_rfl, rfl, trivial, by kernel_rfl, by kernel_rfl, by kernel_rfl, by decide +kernel, by decide +kernel⟩
theorem NormIs.ok' {names : List ByteArray} {m n : Nat} {t : XT m n} {w : World} {v : Value} {c : Int} (h : NormIs names n t w v c) (hc : checkR names n t = 0) : c = 0 ∧ ∃ y, toX n t = xY y ∧ Nm.Ok y ∧ ∃ (m' n' : Nat) (t' : XT m' n'), toX n' t' = xY (Nm.norm y) ∧ XRep w w.heap.size m' n' t' v := by
 cases h with
 | err h => exact absurd hc h
 | ok _ y hy ho m' n' t' ht v hv => exact ⟨rfl, y, hy, ho, m', n', t', ht, hv⟩
theorem nX_same {m m' n n' : Nat} {t : XT m n} {u : XT m' n'} {y : YX} (ho : Nm.Ok y) (h : toX n t = xY y) (h' : toX n' u = xY y) : nX n t = nX n' u := by
 rw [nX_Y n t y ho h, nX_Y n' u y ho h']
set_option maxRecDepth 100000 in
set_option maxHeartbeats 16000000 in
theorem of66_any (s r : ByteArray) (h : OfIs s r) (w : World) (hr : Rdy w) : Calls Tryz.prog 66 #[.string s] w fun e w' => e = .returned (.string r) ∧ Below w.heap.size w w' := by
 obtain ⟨hc, m0, n0, t0, y0, m1, n1, t1, ha, hk0, hy0, ho0, hy1, hk1, ht1, hx1, hnx⟩ := h
 obtain ⟨w1, hw1⟩ : ∃ w1, w1 = w.alloc (.cells #[.string ⟨#[112]⟩, .string ⟨#[113]⟩] 9) := ⟨_, rfl⟩
 have hb1 : Below w.heap.size w w1 := by rw [hw1]; exact (Below.refl _ w).alloc (Nat.le_refl _) _
 have hn1 : NRep w1 w1.heap.size (.slice (some ⟨w.heap.size, 0, none⟩) 2 2) pqL := by rw [hw1]; exact nrep_pq _ w.heap.size (0, 0) (hp_top rfl) _
 have HN1 := Lib.hid hn1
 have HP := Lib.hid (parse21_any pqL _ pq_small s w1 (hr.below hb1) hn1)
 have HR := Lib.hid hr
 have HB1 := Lib.hid hb1
 have HC := Lib.hid hc
 have HA := Lib.hid ha
 have HK0 := Lib.hid hk0
 have HY := Lib.hid (And.intro hy0 (And.intro ho0 hy1))
 have HK1 := Lib.hid (And.intro hk1 (And.intro ht1 (And.intro hx1 hnx)))
 have HW1 := Lib.hid hw1.symm
 clear hr hb1 hw1 hn1 hc ha hk0 hy0 ho0 hy1 hk1 ht1 hx1 hnx
 go_enter Tryz.func66, Tryz.ntmps66
 go_wp2_with fail
 rw [HW1.out]
 clear HW1
 refine HP.out.mono ?_
 rintro e w2 ⟨x, at_, cd, rfl, hp, hb2⟩
 obtain ⟨rfl, rfl, m, n, t, ht, hx⟩ := hp.at_ok pq_right HC.out HA.out HK0.out
 obtain ⟨k, a1, l1, c1, a, l, c, lo, ls, hi, hs', op, rfl⟩ := hx.shape
 have hb02 := HB1.out.trans (hb2.mono HB1.out.size)
 obtain ⟨w3, hw3⟩ : ∃ w3, w3 = w2.alloc (.cells #[.int .u8 k, .slice a1 l1 c1, .slice a l c, .int .i64 lo, .bool ls, .int .i64 hi, .bool hs', .bool op] 28) := ⟨_, rfl⟩
 have hb3 : Below w2.heap.size w2 w3 := by rw [hw3]; exact (Below.refl _ _).alloc (Nat.le_refl _) _
 have hb13 : Below w1.heap.size w1 w3 := hb2.trans (hb3.mono hb2.size)
 have hx3 : w3.heap[w2.heap.size]? = some (.cells #[.int .u8 k, .slice a1 l1 c1, .slice a l c, .int .i64 lo, .bool ls, .int .i64 hi, .bool hs', .bool op] 28 (0, 0)) := by rw [hw3]; exact hp_top rfl
 have hck : checkR pqL n t = 0 := (checkR_same pqL ht).trans HK0.out
 have hyt : toX n t = xY _ := ht.trans HY.out.1
 have HNM := Lib.hid (norm32_any pqL _ pq_small m n t _ w3 (HR.out.below (HB1.out.trans (hb13.mono HB1.out.size))) (HN1.out.up hb13 hb13.size) (hx.up hb3 hb3.size) (by rw [nX_same HY.out.2.1 hyt HY.out.1]; exact HK1.out.2.2.2))
 have HCK := Lib.hid hck
 have HYT := Lib.hid hyt
 have HB13 := Lib.hid hb13
 have HW3 := Lib.hid hw3.symm
 have x0 := Lib.cell_of_heap hx3 0
 have x1 := Lib.cell_of_heap hx3 1
 have x2 := Lib.cell_of_heap hx3 2
 have x3 := Lib.cell_of_heap hx3 3
 have x4 := Lib.cell_of_heap hx3 4
 have x5 := Lib.cell_of_heap hx3 5
 have x6 := Lib.cell_of_heap hx3 6
 have x7 := Lib.cell_of_heap hx3 7
 simp only [List.getElem?_toArray, List.getElem?_cons_zero, List.getElem?_cons_succ] at x0 x1 x2 x3 x4 x5 x6 x7
 have hxl := (Array.getElem?_eq_some_iff.1 hx3).1
 clear hp hb2 ht hx hb02 hw3 hb3 hb13 hx3 hck hyt HP
 go_upto_region 3 with fail
 rw [HW3.out]
 clear HW3
 go_wp2_with fail
 refine HNM.out.mono ?_
 rintro e w4 ⟨v4, c4, rfl, hni, hb4⟩
 obtain ⟨rfl, y4, hy4, ho4, m4, n4, t4, ht4, hv4⟩ := hni.ok' HCK.out
 obtain rfl := xY_inj _ _ ho4 HY.out.2.1 (hy4.symm.trans HYT.out)
 have hteq : toX n4 t4 = toX n1 t1 := ht4.trans HY.out.2.2.symm
 obtain ⟨k2, a12, l12, c12, a2, l2, c2, lo2, ls2, hi2, hs2, op2, rfl⟩ := hv4.shape
 obtain ⟨w5, hw5⟩ : ∃ w5, w5 = w4.alloc (.cells #[.int .u8 k2, .slice a12 l12 c12, .slice a2 l2 c2, .int .i64 lo2, .bool ls2, .int .i64 hi2, .bool hs2, .bool op2] 28) := ⟨_, rfl⟩
 have hb5 : Below w4.heap.size w4 w5 := by rw [hw5]; exact (Below.refl _ _).alloc (Nat.le_refl _) _
 have hx5 : w5.heap[w4.heap.size]? = some (.cells #[.int .u8 k2, .slice a12 l12 c12, .slice a2 l2 c2, .int .i64 lo2, .bool ls2, .int .i64 hi2, .bool hs2, .bool op2] 28 (0, 0)) := by rw [hw5]; exact hp_top rfl
 have hb15 : Below w1.heap.size w1 w5 := HB13.out.trans ((hb4.trans (hb5.mono hb4.size)).mono HB13.out.size)
 have HPR := Lib.hid (print18_any pqL _ pq_small m4 n4 t4 _ w5 (HR.out.below (HB1.out.trans (hb15.mono HB1.out.size))) (HN1.out.up hb15 hb15.size) (hv4.up hb5 hb5.size) (by rw [tX_same n4 n1 t4 t1 hteq]; exact HK1.out.2.2.1))
 rw [checkR_same pqL hteq, textR_same pqL hteq, HK1.out.1, HK1.out.2.1] at HPR
 have HPR : Hid (Calls Tryz.prog 18 #[.slice (some ⟨w.heap.size, 0, none⟩) 2 2, .agg #[.int .u8 k2, .slice a12 l12 c12, .slice a2 l2 c2, .int .i64 lo2, .bool ls2, .int .i64 hi2, .bool hs2, .bool op2]] w5 fun e w' => e = .returned (.tuple #[.string r, .int .i64 0]) ∧ Below w5.heap.size w5 w') := HPR
 have HB15 := Lib.hid hb15
 have HW5 := Lib.hid hw5.symm
 clear x0 x1 x2 x3 x4 x5 x6 x7 hxl
 have x0 := Lib.cell_of_heap hx5 0
 have x1 := Lib.cell_of_heap hx5 1
 have x2 := Lib.cell_of_heap hx5 2
 have x3 := Lib.cell_of_heap hx5 3
 have x4 := Lib.cell_of_heap hx5 4
 have x5 := Lib.cell_of_heap hx5 5
 have x6 := Lib.cell_of_heap hx5 6
 have x7 := Lib.cell_of_heap hx5 7
 simp only [List.getElem?_toArray, List.getElem?_cons_zero, List.getElem?_cons_succ] at x0 x1 x2 x3 x4 x5 x6 x7
 have hxl := (Array.getElem?_eq_some_iff.1 hx5).1
 clear hni hb4 hy4 ho4 ht4 hv4 hteq hw5 hb5 hx5 hb15 HNM
 go_upto_region 4 with fail
 rw [HW5.out]
 clear HW5
 go_wp2_with fail
 refine HPR.out.mono ?_
 rintro e w6 ⟨rfl, hb6⟩
 have HB6 := Lib.hid (HB1.out.trans ((HB15.out.trans (hb6.mono HB15.out.size)).mono HB1.out.size))
 clear hb6 x0 x1 x2 x3 x4 x5 x6 x7 hxl
 go_wp2_with fail
 all_goals go_ret
 all_goals exact ⟨rfl, HB6.out⟩
set_option maxRecDepth 100000 in
set_option maxHeartbeats 8000000 in
theorem alive30_any (w : World) (hr : Rdy w) : Calls Tryz.prog 30 #[] w fun e w' => e = .returned (.bool true) ∧ Below w.heap.size w w' := by
 have HR := Lib.hid hr
 clear hr
 go_enter Tryz.func30, Tryz.ntmps30
 go_wp2_with fail
 refine (of66_any sQ r1 ofQ w HR.out).mono ?_
 rintro e w1 ⟨rfl, hb1⟩
 have HB1 := Lib.hid hb1
 clear hb1
 unfold r1
 go_wp2_with fail
 refine (of66_any sPP sP1 ofPP w1 (HR.out.below HB1.out)).mono ?_
 rintro e w2 ⟨rfl, hb2⟩
 have HB2 := Lib.hid (HB1.out.trans (hb2.mono HB1.out.size))
 clear hb2
 unfold sP1
 go_wp2_with fail
 all_goals go_ret
 all_goals exact ⟨rfl, HB2.out⟩
set_option maxRecDepth 100000 in
set_option maxHeartbeats 8000000 in
theorem normNames12_any (w : World) (hr : Rdy w) : Calls Tryz.prog 12 #[] w fun e w' => e = .returned (.bool true) ∧ Below w.heap.size w w' := by
 obtain ⟨w1, hw1⟩ : ∃ w1, w1 = w.alloc (.cells #[.string ⟨#[112]⟩, .string ⟨#[113]⟩] 9) := ⟨_, rfl⟩
 have hb1 : Below w.heap.size w w1 := by rw [hw1]; exact (Below.refl _ w).alloc (Nat.le_refl _) _
 have hn1 : NRep w1 w1.heap.size (.slice (some ⟨w.heap.size, 0, none⟩) 2 2) pqL := by rw [hw1]; exact nrep_pq _ w.heap.size (0, 0) (hp_top rfl) _
 have HP := Lib.hid (parse21_any pqL _ pq_small sQ w1 (hr.below hb1) hn1)
 have HR := Lib.hid hr
 have HB1 := Lib.hid hb1
 have HW1 := Lib.hid hw1.symm
 clear hr hb1 hw1 hn1
 go_enter Tryz.func12, Tryz.ntmps12
 go_wp2_with fail
 rw [HW1.out]
 clear HW1
 refine HP.out.mono ?_
 rintro e w2 ⟨x, at_, cd, rfl, hp, hb2⟩
 obtain ⟨rfl, rfl, m, n, t, ht, hx⟩ := hp.at_ok pq_right (by kernel_rfl) (show allR (cutR sQ).1 sQ.size = .ok (toX 3 xQ) by kernel_rfl) (by kernel_rfl)
 obtain ⟨k, a1, l1, c1, a, l, c, lo, ls, hi, hs', op, rfl⟩ := hx.shape
 obtain ⟨w3, hw3⟩ : ∃ w3, w3 = w2.alloc (.cells #[.int .u8 k, .slice a1 l1 c1, .slice a l c, .int .i64 lo, .bool ls, .int .i64 hi, .bool hs', .bool op] 28) := ⟨_, rfl⟩
 have hb3 : Below w2.heap.size w2 w3 := by rw [hw3]; exact (Below.refl _ _).alloc (Nat.le_refl _) _
 have hb03 : Below w.heap.size w w3 := HB1.out.trans ((hb2.trans (hb3.mono hb2.size)).mono HB1.out.size)
 have hx3 : w3.heap[w2.heap.size]? = some (.cells #[.int .u8 k, .slice a1 l1 c1, .slice a l c, .int .i64 lo, .bool ls, .int .i64 hi, .bool hs', .bool op] 28 (0, 0)) := by rw [hw3]; exact hp_top rfl
 have HX3 := Lib.hid hx3
 have HXR := Lib.hid (hx.up hb3 hb3.size)
 have HB3 := Lib.hid hb03
 have HIS : Hid (isNX n t = false) := by
  rw [Hid, isNX_Y n t yQ yQ_ok (ht.trans xQ_y)]
  rfl
 have HAL := Lib.hid (alive30_any w3 (HR.out.below hb03))
 have HW3 := Lib.hid hw3.symm
 clear hp hb2 ht hx hw3 hb3 hb03 hx3 HP
 go_upto_region 2 with fail
 rw [HW3.out]
 clear HW3
 go_wp2_with fail
 refine HAL.out.mono ?_
 rintro e w4 ⟨rfl, hb4⟩
 have hx4 := (hb4.block _ (Array.getElem?_eq_some_iff.1 HX3.out).1).trans HX3.out
 have HB4 := Lib.hid (HB3.out.trans (hb4.mono HB3.out.size))
 have HI := Lib.hid (is31_any m n t _ w4 (HXR.out.up hb4 hb4.size))
 rw [HIS.out] at HI
 have x0 := Lib.cell_of_heap hx4 0
 have x1 := Lib.cell_of_heap hx4 1
 have x2 := Lib.cell_of_heap hx4 2
 have x3 := Lib.cell_of_heap hx4 3
 have x4 := Lib.cell_of_heap hx4 4
 have x5 := Lib.cell_of_heap hx4 5
 have x6 := Lib.cell_of_heap hx4 6
 have x7 := Lib.cell_of_heap hx4 7
 simp only [List.getElem?_toArray, List.getElem?_cons_zero, List.getElem?_cons_succ] at x0 x1 x2 x3 x4 x5 x6 x7
 have hxl := (Array.getElem?_eq_some_iff.1 hx4).1
 clear hb4 hx4
 go_wp2_with fail
 refine HI.out.mono ?_
 rintro e w5 ⟨rfl, hb5⟩
 have HB5 := Lib.hid (HB4.out.trans (hb5.mono HB4.out.size))
 clear hb5 x0 x1 x2 x3 x4 x5 x6 x7 hxl
 go_wp2_with fail
 all_goals go_ret
 all_goals exact ⟨rfl, HB5.out⟩
end Go.Proofs.YtpgdplmndnopbaaGreatDoor