/- NormOwn walked: a normal form is its own, and may be. (Printed by gen_nob.py.) -/
import Derived.Deep.RegionHeld3
import Derived.Test.YtpgdplmndnopbaaGreatDoorNoA
import Derived.Test.YtpgdplmndnopbaaGreatDoorSmA
import Derived.Test.YtpgdplmndnopbaaGreatDoorTreeJ
import Derived.Test.YtpgdplmndnopbaaGreatDoorTreeR
import Derived.Test.YtpgdplmndnopbaaGreatDoorJnD
namespace Go.Proofs.YtpgdplmndnopbaaGreatDoor
open Go.RowKit
set_option maxRecDepth 100000 in
set_option maxHeartbeats 32000000 in
theorem normOwn14_any (l : List ByteArray) (nv : Value) (m n : Nat) (t : XT m n) (v : Value) (w : World) (hr : Rdy w) (hn : NRep w w.heap.size nv l) (hw : ∀ s ∈ l, s.size ≤ 281474976710656) (hx : XRep w w.heap.size m n t v) (hb : bndX n t) :
 Calls Tryz.prog 14 #[nv, v] w fun e w' => e = .returned (.bool true) ∧ Below w.heap.size w w' := by
 obtain ⟨k, a1, l1, c1, a, l2, c, lo, ls, hi, hs', op, rfl⟩ := hx.shape
 obtain ⟨na, nc, rfl, _⟩ := id hn
 obtain ⟨W0, hW0⟩ : ∃ W0, W0 = w.alloc (.cells #[.int .u8 k, .slice a1 l1 c1, .slice a l2 c, .int .i64 lo, .bool ls, .int .i64 hi, .bool hs', .bool op] 28) := ⟨_, rfl⟩
 have HB0 : Hid (Below w.heap.size w W0) := by rw [Hid, hW0]; exact (Below.refl _ w).alloc (Nat.le_refl _) _
 have HK0 : Hid (W0.heap[w.heap.size]? = some (.cells #[.int .u8 k, .slice a1 l1 c1, .slice a l2 c, .int .i64 lo, .bool ls, .int .i64 hi, .bool hs', .bool op] 28 (0, 0))) := by rw [Hid, hW0]; exact hp_top rfl
 have HR := Lib.hid hr
 have HN := Lib.hid hn
 have HX := Lib.hid hx
 have HW := Lib.hid hw
 have HBD := Lib.hid hb
 have HW0 := Lib.hid hW0.symm
 have HZ0 : Hid (W0.heap.size = w.heap.size + 1) := by rw [Hid, hW0]; simp
 have HCL : Hid (∀ W, Below W0.heap.size W0 W → W.heap[w.heap.size]? = some (.cells #[.int .u8 k, .slice a1 l1 c1, .slice a l2 c, .int .i64 lo, .bool ls, .int .i64 hi, .bool hs', .bool op] 28 (0, 0)) ∧ Below w.heap.size w W ∧ w.heap.size < W.heap.size) := by
  intro W hW
  have := HZ0.out
  have := hW.size
  exact ⟨(hW.block _ (by omega)).trans HK0.out, HB0.out.trans (hW.mono HB0.out.size), by omega⟩
 have HGX : Hid (∀ W, Below w.heap.size w W → Calls Tryz.prog 15 #[.agg #[.int .u8 k, .slice a1 l1 c1, .slice a l2 c, .int .i64 lo, .bool ls, .int .i64 hi, .bool hs', .bool op]] W fun e w' => e = .returned (.bool (decide (2000 < sizeX n t 2000))) ∧ Below W.heap.size W w') := fun W h => great11_any m n t _ W (HX.out.up h h.size)
 have HGN : Hid (∀ W, Below w.heap.size w W → Calls Tryz.prog 16 #[.slice na l.length nc] W fun e w' => e = .returned (.bool (greatN l)) ∧ w' = W) := fun W h => greatNames12_any l _ W (HN.out.up h h.size)
 clear hr hn hx hw hb hW0
 go_enter Tryz.func14, Tryz.ntmps14
 go_wp2_with fail
 rw [HW0.out]
 clear HW0
 refine (alive30_any W0 (HR.out.below HB0.out)).mono ?_
 rintro e w1 ⟨rfl, hb1⟩
 obtain ⟨hk1, hbw1, hlt1⟩ := HCL.out w1 hb1
 have HB1 := Lib.hid hbw1
 have HB01 := Lib.hid hb1
 have x0 := Lib.cell_of_heap hk1 0
 have x1 := Lib.cell_of_heap hk1 1
 have x2 := Lib.cell_of_heap hk1 2
 have x3 := Lib.cell_of_heap hk1 3
 have x4 := Lib.cell_of_heap hk1 4
 have x5 := Lib.cell_of_heap hk1 5
 have x6 := Lib.cell_of_heap hk1 6
 have x7 := Lib.cell_of_heap hk1 7
 simp only [List.getElem?_toArray, List.getElem?_cons_zero, List.getElem?_cons_succ] at x0 x1 x2 x3 x4 x5 x6 x7
 clear hk1 hbw1 hb1
 go_wp2_with fail
 refine (HGX.out w1 HB1.out).mono ?_
 rintro e w2 ⟨rfl, hb2⟩
 have HB02 := Lib.hid (HB01.out.trans (hb2.mono HB01.out.size))
 clear hb2 x0 x1 x2 x3 x4 x5 x6 x7 hlt1
 obtain ⟨hk2, hbw2, hlt2⟩ := HCL.out w2 HB02.out
 have HB2 := Lib.hid hbw2
 have HK2 := Lib.hid hk2
 clear hk2 hbw2
 cases qg : decide (2000 < sizeX n t 2000) with
 | true =>
  go_wp2_with fail
  all_goals go_ret
  all_goals exact ⟨rfl, HB2.out⟩
 | false =>
  have HTX : Hid (tX n t ≤ 2000) := small_of HBD.out qg
  clear qg
  go_wp2_with fail
  refine (HGN.out w2 HB2.out).mono ?_
  rintro e w3 ⟨rfl, rfl⟩
  cases qn : greatN l with
  | true =>
   go_wp2_with fail
   all_goals go_ret
   all_goals exact ⟨rfl, HB2.out⟩
  | false =>
   have HSM : Hid (∀ s ∈ l, s.size ≤ 1048576) := greatN_not qn HW.out
   clear qn
   have hk2 := HK2.out
   have x0 := Lib.cell_of_heap hk2 0
   have x1 := Lib.cell_of_heap hk2 1
   have x2 := Lib.cell_of_heap hk2 2
   have x3 := Lib.cell_of_heap hk2 3
   have x4 := Lib.cell_of_heap hk2 4
   have x5 := Lib.cell_of_heap hk2 5
   have x6 := Lib.cell_of_heap hk2 6
   have x7 := Lib.cell_of_heap hk2 7
   simp only [List.getElem?_toArray, List.getElem?_cons_zero, List.getElem?_cons_succ] at x0 x1 x2 x3 x4 x5 x6 x7
   clear hk2
   have HNX : Hid (nX n t ≤ 1000000) := by have h1 := nX_le n t; have h2 := HTX.out; rw [Hid]; omega
   have HNM := Lib.hid (norm32_any l _ HSM.out m n t _ w3 (HR.out.below HB2.out) (HN.out.up HB2.out HB2.out.size) (HX.out.up HB2.out HB2.out.size) HNX.out)
   go_wp2_with fail
   refine HNM.out.mono ?_
   rintro e w4 ⟨v4, c4, rfl, hni, hb4⟩
   have HB04 := Lib.hid (HB02.out.trans (hb4.mono HB02.out.size))
   clear hb4 x0 x1 x2 x3 x4 x5 x6 x7 hlt2 HNM
   cases hni with
   | err hc =>
    have q : (checkR l n t != 0) = true := by simpa using hc
    have HB5 : Hid (∀ o, Below w.heap.size w (w4.alloc o)) := fun o => (HCL.out w4 HB04.out).2.1.alloc (by have := (HCL.out w4 HB04.out).2.2; omega) o
    unfold noX
    clear hc
    go_wp2_with fail
    all_goals go_ret
    all_goals exact ⟨rfl, HB5.out _⟩
   | ok hck y hy ho m4 n4 t4 ht4 _ hv4 =>
    obtain ⟨ky, b1y, n1y, d1y, b2y, n2y, d2y, loy, lsy, hiy, hsy, opy, rfl⟩ := hv4.shape
    obtain ⟨w5, hw5⟩ : ∃ w5, w5 = w4.alloc (.cells #[.int .u8 ky, .slice b1y n1y d1y, .slice b2y n2y d2y, .int .i64 loy, .bool lsy, .int .i64 hiy, .bool hsy, .bool opy] 28) := ⟨_, rfl⟩
    have hb5 : Below w4.heap.size w4 w5 := by rw [hw5]; exact (Below.refl _ _).alloc (Nat.le_refl _) _
    have hb05 := HB04.out.trans (hb5.mono HB04.out.size)
    have hy5 : w5.heap[w4.heap.size]? = some (.cells #[.int .u8 ky, .slice b1y n1y d1y, .slice b2y n2y d2y, .int .i64 loy, .bool lsy, .int .i64 hiy, .bool hsy, .bool opy] 28 (0, 0)) := by rw [hw5]; exact hp_top rfl
    have hz5 : w5.heap.size = w4.heap.size + 1 := by rw [hw5]; simp
    obtain ⟨hk5, hbw5, hlt5⟩ := HCL.out w5 hb05
    have hv5 : XRep w5 w5.heap.size m4 n4 t4 (.agg #[.int .u8 ky, .slice b1y n1y d1y, .slice b2y n2y d2y, .int .i64 loy, .bool lsy, .int .i64 hiy, .bool hsy, .bool opy]) := hv4.up hb5 hb5.size
    have hcn := check_norm (names := l) ho hy ht4 HNX.out hck
    have hcs := const_norm (t' := t4) ho hy ht4
    have hnn : nX n4 t4 ≤ 1000000 := by
     rw [nX_Y n4 t4 _ (Nm.ok_norm ho) ht4]
     have h1 := Nm.size_norm sF y
     rw [← nX_Y n t y ho hy] at h1
     have := HNX.out
     omega
    have HNM2 := Lib.hid (norm32_any l _ HSM.out m4 n4 t4 _ w5 (HR.out.below hbw5) (HN.out.up hbw5 hbw5.size) hv5 hnn)
    have HY5 := Lib.hid hy5
    have HV5 := Lib.hid hv5
    have HZ5 := Lib.hid hz5
    have HB05 := Lib.hid hb05
    have HCN := Lib.hid hcn
    have HCS := Lib.hid hcs
    have HYY := Lib.hid (And.intro hy (And.intro ho ht4))
    have HCK := Lib.hid hck
    have HW5 := Lib.hid hw5.symm
    have y0 := Lib.cell_of_heap hy5 0
    have y1 := Lib.cell_of_heap hy5 1
    have y2 := Lib.cell_of_heap hy5 2
    have y3 := Lib.cell_of_heap hy5 3
    have y4 := Lib.cell_of_heap hy5 4
    have y5 := Lib.cell_of_heap hy5 5
    have y6 := Lib.cell_of_heap hy5 6
    have y7 := Lib.cell_of_heap hy5 7
    simp only [List.getElem?_toArray, List.getElem?_cons_zero, List.getElem?_cons_succ] at y0 y1 y2 y3 y4 y5 y6 y7
    have hly := (Array.getElem?_eq_some_iff.1 hy5).1
    clear hy ho ht4 hv4 hw5 hb5 hb05 hy5 hz5 hk5 hbw5 hlt5 hv5 hcn hcs hnn hck
    go_upto_region 7 with fail
    rw [HW5.out]
    clear HW5
    go_wp2_with fail
    refine HNM2.out.mono ?_
    rintro e w6 ⟨v6, c6, rfl, hni6, hb6⟩
    obtain ⟨rfl, y6, hy6, ho6, m6, n6, t6, ht6, hv6⟩ := hni6.ok' HCN.out.1
    obtain rfl := xY_inj _ _ ho6 (Nm.ok_norm HYY.out.2.1) (hy6.symm.trans HYY.out.2.2)
    rw [Nm.norm_norm HYY.out.2.1] at ht6
    have heq : toX n4 t4 = toX n6 t6 := HYY.out.2.2.trans ht6.symm
    obtain ⟨kz, b1z, n1z, d1z, b2z, n2z, d2z, loz, lsz, hiz, hsz, opz, rfl⟩ := hv6.shape
    obtain ⟨w7, hw7⟩ : ∃ w7, w7 = w6.alloc (.cells #[.int .u8 kz, .slice b1z n1z d1z, .slice b2z n2z d2z, .int .i64 loz, .bool lsz, .int .i64 hiz, .bool hsz, .bool opz] 28) := ⟨_, rfl⟩
    have hb7 : Below w6.heap.size w6 w7 := by rw [hw7]; exact (Below.refl _ _).alloc (Nat.le_refl _) _
    have hb57 := hb6.trans (hb7.mono hb6.size)
    have hb07 := HB05.out.trans (hb57.mono HB05.out.size)
    obtain ⟨hk7, hbw7, hlt7⟩ := HCL.out w7 hb07
    have hy7 : w7.heap[w4.heap.size]? = some (.cells #[.int .u8 ky, .slice b1y n1y d1y, .slice b2y n2y d2y, .int .i64 loy, .bool lsy, .int .i64 hiy, .bool hsy, .bool opy] 28 (0, 0)) := (hb57.block _ (by have := HZ5.out; omega)).trans HY5.out
    have hz7 : w7.heap[w6.heap.size]? = some (.cells #[.int .u8 kz, .slice b1z n1z d1z, .slice b2z n2z d2z, .int .i64 loz, .bool lsz, .int .i64 hiz, .bool hsz, .bool opz] 28 (0, 0)) := by rw [hw7]; exact hp_top rfl
    have HS : Hid (∀ W, Below w7.heap.size w7.drew W → W.cell? ⟨w.heap.size, 0, none⟩ = some (.int .u8 k) ∧ W.cell? ⟨w.heap.size, 1, none⟩ = some (.slice a1 l1 c1) ∧ W.cell? ⟨w.heap.size, 2, none⟩ = some (.slice a l2 c) ∧ W.cell? ⟨w.heap.size, 3, none⟩ = some (.int .i64 lo) ∧ W.cell? ⟨w.heap.size, 4, none⟩ = some (.bool ls) ∧ W.cell? ⟨w.heap.size, 5, none⟩ = some (.int .i64 hi) ∧ W.cell? ⟨w.heap.size, 6, none⟩ = some (.bool hs') ∧ W.cell? ⟨w.heap.size, 7, none⟩ = some (.bool op) ∧ W.cell? ⟨w4.heap.size, 0, none⟩ = some (.int .u8 ky) ∧ W.cell? ⟨w4.heap.size, 1, none⟩ = some (.slice b1y n1y d1y) ∧ W.cell? ⟨w4.heap.size, 2, none⟩ = some (.slice b2y n2y d2y) ∧ W.cell? ⟨w4.heap.size, 3, none⟩ = some (.int .i64 loy) ∧ W.cell? ⟨w4.heap.size, 4, none⟩ = some (.bool lsy) ∧ W.cell? ⟨w4.heap.size, 5, none⟩ = some (.int .i64 hiy) ∧ W.cell? ⟨w4.heap.size, 6, none⟩ = some (.bool hsy) ∧ W.cell? ⟨w4.heap.size, 7, none⟩ = some (.bool opy) ∧ W.cell? ⟨w6.heap.size, 0, none⟩ = some (.int .u8 kz) ∧ W.cell? ⟨w6.heap.size, 1, none⟩ = some (.slice b1z n1z d1z) ∧ W.cell? ⟨w6.heap.size, 2, none⟩ = some (.slice b2z n2z d2z) ∧ W.cell? ⟨w6.heap.size, 3, none⟩ = some (.int .i64 loz) ∧ W.cell? ⟨w6.heap.size, 4, none⟩ = some (.bool lsz) ∧ W.cell? ⟨w6.heap.size, 5, none⟩ = some (.int .i64 hiz) ∧ W.cell? ⟨w6.heap.size, 6, none⟩ = some (.bool hsz) ∧ W.cell? ⟨w6.heap.size, 7, none⟩ = some (.bool opz)) := by
     intro W hW
     have h1 : W.heap[w.heap.size]? = _ := (hW.block _ (Array.getElem?_eq_some_iff.1 hk7).1).trans hk7
     have h2 : W.heap[w4.heap.size]? = _ := (hW.block _ (Array.getElem?_eq_some_iff.1 hy7).1).trans hy7
     have h3 : W.heap[w6.heap.size]? = _ := (hW.block _ (Array.getElem?_eq_some_iff.1 hz7).1).trans hz7
     exact ⟨Lib.cell_of_heap h1 0, Lib.cell_of_heap h1 1, Lib.cell_of_heap h1 2, Lib.cell_of_heap h1 3, Lib.cell_of_heap h1 4, Lib.cell_of_heap h1 5, Lib.cell_of_heap h1 6, Lib.cell_of_heap h1 7, Lib.cell_of_heap h2 0, Lib.cell_of_heap h2 1, Lib.cell_of_heap h2 2, Lib.cell_of_heap h2 3, Lib.cell_of_heap h2 4, Lib.cell_of_heap h2 5, Lib.cell_of_heap h2 6, Lib.cell_of_heap h2 7, Lib.cell_of_heap h3 0, Lib.cell_of_heap h3 1, Lib.cell_of_heap h3 2, Lib.cell_of_heap h3 3, Lib.cell_of_heap h3 4, Lib.cell_of_heap h3 5, Lib.cell_of_heap h3 6, Lib.cell_of_heap h3 7⟩
    have HBW : Hid (∀ W, Below w7.heap.size w7.drew W → Below w.heap.size w W) := fun W hW => hbw7.drew.trans (hW.mono hbw7.size)
    have hv7 : XRep w7 w7.heap.size m4 n4 t4 (.agg #[.int .u8 ky, .slice b1y n1y d1y, .slice b2y n2y d2y, .int .i64 loy, .bool lsy, .int .i64 hiy, .bool hsy, .bool opy]) := HV5.out.up hb57 hb57.size
    have hu7 : XRep w7 w7.heap.size m6 n6 t6 (.agg #[.int .u8 kz, .slice b1z n1z d1z, .slice b2z n2z d2z, .int .i64 loz, .bool lsz, .int .i64 hiz, .bool hsz, .bool opz]) := hv6.up hb7 hb7.size
    have hx7 : XRep w7 w7.heap.size m n t (.agg #[.int .u8 k, .slice a1 l1 c1, .slice a l2 c, .int .i64 lo, .bool ls, .int .i64 hi, .bool hs', .bool op]) := HX.out.up hbw7 hbw7.size
    have hv7 : XRep w7.drew w7.heap.size m4 n4 t4 (.agg #[.int .u8 ky, .slice b1y n1y d1y, .slice b2y n2y d2y, .int .i64 loy, .bool lsy, .int .i64 hiy, .bool hsy, .bool opy]) := hv7.up ((Below.refl w7.heap.size w7).drew) (Nat.le_refl _)
    have hu7 : XRep w7.drew w7.heap.size m6 n6 t6 (.agg #[.int .u8 kz, .slice b1z n1z d1z, .slice b2z n2z d2z, .int .i64 loz, .bool lsz, .int .i64 hiz, .bool hsz, .bool opz]) := hu7.up ((Below.refl w7.heap.size w7).drew) (Nat.le_refl _)
    have hx7 : XRep w7.drew w7.heap.size m n t (.agg #[.int .u8 k, .slice a1 l1 c1, .slice a l2 c, .int .i64 lo, .bool ls, .int .i64 hi, .bool hs', .bool op]) := hx7.up ((Below.refl w7.heap.size w7).drew) (Nat.le_refl _)
    have H27 : Hid (∀ W, Below w7.heap.size w7.drew W → Calls Tryz.prog 27 #[.agg #[.int .u8 ky, .slice b1y n1y d1y, .slice b2y n2y d2y, .int .i64 loy, .bool lsy, .int .i64 hiy, .bool hsy, .bool opy], .agg #[.int .u8 kz, .slice b1z n1z d1z, .slice b2z n2z d2z, .int .i64 loz, .bool lsz, .int .i64 hiz, .bool hsz, .bool opz]] W fun e w' => e = .returned (.bool true) ∧ Below W.heap.size W w') := by
     intro W hW
     refine (same27_any m4 m6 n4 n6 t4 t6 _ _ W (hv7.up hW hW.size) (hu7.up hW hW.size)).mono ?_
     rintro e w' ⟨⟨b, rfl, hbb⟩, hb'⟩
     exact ⟨by rw [hbb.2 heq], hb'⟩
    have H31 : Hid (∀ W, Below w7.heap.size w7.drew W → Calls Tryz.prog 31 #[.agg #[.int .u8 ky, .slice b1y n1y d1y, .slice b2y n2y d2y, .int .i64 loy, .bool lsy, .int .i64 hiy, .bool hsy, .bool opy]] W fun e w' => e = .returned (.bool true) ∧ Below W.heap.size W w') := by
     intro W hW
     refine (is31_any m4 n4 t4 _ W (hv7.up hW hW.size)).mono ?_
     rintro e w' ⟨rfl, hb'⟩
     exact ⟨by rw [isNX_Y n4 t4 _ (Nm.ok_norm HYY.out.2.1) HYY.out.2.2, Nm.is_norm HYY.out.2.1], hb'⟩
    have H25 : Hid (∀ W, Below w7.heap.size w7.drew W → Calls Tryz.prog 25 #[.slice na l.length nc, .agg #[.int .u8 ky, .slice b1y n1y d1y, .slice b2y n2y d2y, .int .i64 loy, .bool lsy, .int .i64 hiy, .bool hsy, .bool opy]] W fun e w' => e = .returned (.int .i64 0) ∧ Below W.heap.size W w') := by
     intro W hW
     have h1 := HBW.out W hW
     have h2 := check13_any l _ HSM.out m4 n4 t4 _ W (HR.out.below h1) (HN.out.up h1 h1.size) (hv7.up hW hW.size)
     rw [HCN.out.1] at h2
     exact h2
    have H33y : Hid (∀ W, Below w7.heap.size w7.drew W → Calls Tryz.prog 33 #[.agg #[.int .u8 ky, .slice b1y n1y d1y, .slice b2y n2y d2y, .int .i64 loy, .bool lsy, .int .i64 hiy, .bool hsy, .bool opy]] W fun e w' => e = .returned (.int .i64 (manyX n4 t4)) ∧ Below W.heap.size W w') := fun W hW => many14_any m4 n4 t4 _ W (hv7.up hW hW.size)
    have H33x : Hid (∀ W, Below w7.heap.size w7.drew W → Calls Tryz.prog 33 #[.agg #[.int .u8 k, .slice a1 l1 c1, .slice a l2 c, .int .i64 lo, .bool ls, .int .i64 hi, .bool hs', .bool op]] W fun e w' => e = .returned (.int .i64 (manyX n t)) ∧ Below W.heap.size W w') := fun W hW => many14_any m n t _ W (hx7.up hW hW.size)
    have H34y : Hid (∀ W, Below w7.heap.size w7.drew W → Calls Tryz.prog 34 #[.agg #[.int .u8 ky, .slice b1y n1y d1y, .slice b2y n2y d2y, .int .i64 loy, .bool lsy, .int .i64 hiy, .bool hsy, .bool opy]] W fun e w' => e = .returned (.int .i64 (constX n t)) ∧ Below W.heap.size W w') := by
     intro W hW
     have h := const15_any m4 n4 t4 _ W (hv7.up hW hW.size)
     rw [HCS.out] at h
     exact h
    have H34x : Hid (∀ W, Below w7.heap.size w7.drew W → Calls Tryz.prog 34 #[.agg #[.int .u8 k, .slice a1 l1 c1, .slice a l2 c, .int .i64 lo, .bool ls, .int .i64 hi, .bool hs', .bool op]] W fun e w' => e = .returned (.int .i64 (constX n t)) ∧ Below W.heap.size W w') := fun W hW => const15_any m n t _ W (hx7.up hW hW.size)
    have H31x : Hid (∀ W, Below w7.heap.size w7.drew W → Calls Tryz.prog 31 #[.agg #[.int .u8 k, .slice a1 l1 c1, .slice a l2 c, .int .i64 lo, .bool ls, .int .i64 hi, .bool hs', .bool op]] W fun e w' => e = .returned (.bool (isNX n t)) ∧ Below W.heap.size W w') := fun W hW => is31_any m n t _ W (hx7.up hW hW.size)
    have H27x : Hid (∀ W, Below w7.heap.size w7.drew W → Calls Tryz.prog 27 #[.agg #[.int .u8 k, .slice a1 l1 c1, .slice a l2 c, .int .i64 lo, .bool ls, .int .i64 hi, .bool hs', .bool op], .agg #[.int .u8 ky, .slice b1y n1y d1y, .slice b2y n2y d2y, .int .i64 loy, .bool lsy, .int .i64 hiy, .bool hsy, .bool opy]] W fun e w' => e = .returned (.bool (isNX n t)) ∧ Below W.heap.size W w') := by
     intro W hW
     refine (same27_any m m4 n n4 t t4 _ _ W (hx7.up hW hW.size) (hv7.up hW hW.size)).mono ?_
     rintro e w' ⟨⟨b, rfl, hbb⟩, hb'⟩
     refine ⟨?_, hb'⟩
     have hiff : b = true ↔ isNX n t = true := by
      rw [hbb, isNX_Y n t y HYY.out.2.1 HYY.out.1, Nm.is_iff HYY.out.2.1, HYY.out.1, HYY.out.2.2]
      exact ⟨fun h => (xY_inj _ _ HYY.out.2.1 (Nm.ok_norm HYY.out.2.1) h).symm, fun h => by rw [h]⟩
     cases b <;> cases q : isNX n t <;> simp_all
    have hmg : (decide (manyX n t < manyX n4 t4)) = false := by have := HCN.out.2; simp; omega
    have hmgI : ¬ manyX n t < manyX n4 t4 := by have := HCN.out.2; omega
    have HD : Hid (Below w7.heap.size w7.drew w7.drew) := Below.refl _ _
    have HW7 := Lib.hid hw7.symm
    clear y0 y1 y2 y3 y4 y5 y6 y7 hly hni6 hb6 hy6 ho6 ht6 hv6 heq hw7 hb7 hb57 hb07 hk7 hbw7 hlt7 hy7 hz7 hv7 hu7 hx7
    go_upto_region 8 with fail
    rw [HW7.out]
    clear HW7
    refine wp_region_held_drew (S := fun W => W.cell? ⟨w.heap.size, 0, none⟩ = some (.int .u8 k) ∧ W.cell? ⟨w.heap.size, 1, none⟩ = some (.slice a1 l1 c1) ∧ W.cell? ⟨w.heap.size, 2, none⟩ = some (.slice a l2 c) ∧ W.cell? ⟨w.heap.size, 3, none⟩ = some (.int .i64 lo) ∧ W.cell? ⟨w.heap.size, 4, none⟩ = some (.bool ls) ∧ W.cell? ⟨w.heap.size, 5, none⟩ = some (.int .i64 hi) ∧ W.cell? ⟨w.heap.size, 6, none⟩ = some (.bool hs') ∧ W.cell? ⟨w.heap.size, 7, none⟩ = some (.bool op) ∧ W.cell? ⟨w4.heap.size, 0, none⟩ = some (.int .u8 ky) ∧ W.cell? ⟨w4.heap.size, 1, none⟩ = some (.slice b1y n1y d1y) ∧ W.cell? ⟨w4.heap.size, 2, none⟩ = some (.slice b2y n2y d2y) ∧ W.cell? ⟨w4.heap.size, 3, none⟩ = some (.int .i64 loy) ∧ W.cell? ⟨w4.heap.size, 4, none⟩ = some (.bool lsy) ∧ W.cell? ⟨w4.heap.size, 5, none⟩ = some (.int .i64 hiy) ∧ W.cell? ⟨w4.heap.size, 6, none⟩ = some (.bool hsy) ∧ W.cell? ⟨w4.heap.size, 7, none⟩ = some (.bool opy) ∧ W.cell? ⟨w6.heap.size, 0, none⟩ = some (.int .u8 kz) ∧ W.cell? ⟨w6.heap.size, 1, none⟩ = some (.slice b1z n1z d1z) ∧ W.cell? ⟨w6.heap.size, 2, none⟩ = some (.slice b2z n2z d2z) ∧ W.cell? ⟨w6.heap.size, 3, none⟩ = some (.int .i64 loz) ∧ W.cell? ⟨w6.heap.size, 4, none⟩ = some (.bool lsz) ∧ W.cell? ⟨w6.heap.size, 5, none⟩ = some (.int .i64 hiz) ∧ W.cell? ⟨w6.heap.size, 6, none⟩ = some (.bool hsz) ∧ W.cell? ⟨w6.heap.size, 7, none⟩ = some (.bool opz)) (by kernel_rfl) (HS.out _ HD.out) (fun hHeld => ?_)
    refine wpAnyH_take (i := 0) (v := ?_) rfl (by kernel_rfl) (by kernel_rfl) (by kernel_rfl) (fun _ _ _ h => h) (Or.inl ⟨by kernel_rfl, ?_⟩) (by assumption) ?_
    rotate_left
    ·(intro w hSw; (try dsimp only at hSw); go_simp)
     try with_reducible rfl
    try simp only [Act.put, List.setIfInBounds_toArray]
    refine wpAnyH_take (i := 1) (v := ?_) rfl (by kernel_rfl) (by kernel_rfl) (by kernel_rfl) (fun _ _ _ h => h) (Or.inl ⟨by kernel_rfl, ?_⟩) (by assumption) ?_
    rotate_left
    ·(intro w hSw; (try dsimp only at hSw); go_simp)
     try with_reducible rfl
    try simp only [Act.put]
    refine wpAnyH_take (i := 2) (v := ?_) rfl (by kernel_rfl) (by kernel_rfl) (by kernel_rfl) (fun _ _ _ h => h) (Or.inl ⟨by kernel_rfl, ?_⟩) (by assumption) ?_
    rotate_left
    ·(intro w hSw; (try dsimp only at hSw); go_simp)
     try with_reducible rfl
    try simp only [Act.put]
    refine wpAnyH_take (i := 3) (v := ?_) rfl (by kernel_rfl) (by kernel_rfl) (by kernel_rfl) (fun _ _ _ h => h) (Or.inl ⟨by kernel_rfl, ?_⟩) (by assumption) ?_
    rotate_left
    ·(intro w hSw; (try dsimp only at hSw); go_simp)
     try with_reducible rfl
    try simp only [Act.put]
    refine wpAnyH_take (i := 4) (v := ?_) rfl (by kernel_rfl) (by kernel_rfl) (by kernel_rfl) (fun _ _ _ h => h) (Or.inl ⟨by kernel_rfl, ?_⟩) (by assumption) ?_
    rotate_left
    ·(intro w hSw; (try dsimp only at hSw); go_simp)
     try with_reducible rfl
    try simp only [Act.put]
    refine wpAnyH_ready (rs := [5]) (by kernel_rfl) (by simp) ?_
    refine AllReadyH.cons rfl (fun K hK => ?_) AllReadyH.nil
    go_simp
    go_at_call 27
    refine (H27.out _ HD.out).mono ?_
    rintro e v1 ⟨rfl, hb⟩
    have HD := Lib.hid (HD.out.trans (hb.mono HD.out.size))
    clear hb
    dsimp only
    refine hK.out _ _ (HS.out _ HD.out) (fun hHeld => ?_)
    clear hK K
    try simp only [Act.put, List.setIfInBounds_toArray, List.set_cons_zero, List.set_cons_succ]
    refine wpAnyH_take (i := 6) (v := ?_) rfl (by kernel_rfl) (by kernel_rfl) (by kernel_rfl) (fun _ _ _ h => h) (Or.inl ⟨by kernel_rfl, ?_⟩) (by assumption) ?_
    rotate_left
    ·(intro w hSw; (try dsimp only at hSw); go_simp)
     try with_reducible rfl
    try simp only [Act.put]
    refine wpAnyH_take (i := 7) (v := ?_) rfl (by kernel_rfl) (by kernel_rfl) (by kernel_rfl) (fun _ _ _ h => h) (Or.inl ⟨by kernel_rfl, ?_⟩) (by assumption) ?_
    rotate_left
    ·(intro w hSw; (try dsimp only at hSw); go_simp)
     try with_reducible rfl
    try simp only [Act.put]
    refine wpAnyH_take (i := 8) (v := ?_) rfl (by kernel_rfl) (by kernel_rfl) (by kernel_rfl) (fun _ _ _ h => h) (Or.inl ⟨by kernel_rfl, ?_⟩) (by assumption) ?_
    rotate_left
    ·(intro w hSw; (try dsimp only at hSw); go_simp)
     try with_reducible rfl
    try simp only [Act.put]
    refine wpAnyH_take (i := 9) (v := ?_) rfl (by kernel_rfl) (by kernel_rfl) (by kernel_rfl) (fun _ _ _ h => h) (Or.inl ⟨by kernel_rfl, ?_⟩) (by assumption) ?_
    rotate_left
    ·(intro w hSw; (try dsimp only at hSw); go_simp)
     try with_reducible rfl
    try simp only [Act.put]
    refine wpAnyH_ready (rs := [10]) (by kernel_rfl) (by simp) ?_
    refine AllReadyH.cons rfl (fun K hK => ?_) AllReadyH.nil
    go_simp
    go_at_call 31
    refine (H31.out _ HD.out).mono ?_
    rintro e v2 ⟨rfl, hb⟩
    have HD := Lib.hid (HD.out.trans (hb.mono HD.out.size))
    clear hb
    dsimp only
    refine hK.out _ _ (HS.out _ HD.out) (fun hHeld => ?_)
    clear hK K
    try simp only [Act.put, List.setIfInBounds_toArray, List.set_cons_zero, List.set_cons_succ]
    refine wpAnyH_take (i := 11) (v := ?_) rfl (by kernel_rfl) (by kernel_rfl) (by kernel_rfl) (fun _ _ _ h => h) (Or.inl ⟨by kernel_rfl, ?_⟩) (by assumption) ?_
    rotate_left
    ·(intro w hSw; (try dsimp only at hSw); go_simp)
     try with_reducible rfl
    try simp only [Act.put]
    refine wpAnyH_take (i := 12) (v := ?_) rfl (by kernel_rfl) (by kernel_rfl) (by kernel_rfl) (fun _ _ _ h => h) (Or.inl ⟨by kernel_rfl, ?_⟩) (by assumption) ?_
    rotate_left
    ·(intro w hSw; (try dsimp only at hSw); go_simp)
     try with_reducible rfl
    try simp only [Act.put]
    refine wpAnyH_take (i := 13) (v := ?_) rfl (by kernel_rfl) (by kernel_rfl) (by kernel_rfl) (fun _ _ _ h => h) (Or.inl ⟨by kernel_rfl, ?_⟩) (by assumption) ?_
    rotate_left
    ·(intro w hSw; (try dsimp only at hSw); go_simp)
     try with_reducible rfl
    try simp only [Act.put]
    refine wpAnyH_take (i := 14) (v := ?_) rfl (by kernel_rfl) (by kernel_rfl) (by kernel_rfl) (fun _ _ _ h => h) (Or.inl ⟨by kernel_rfl, ?_⟩) (by assumption) ?_
    rotate_left
    ·(intro w hSw; (try dsimp only at hSw); go_simp)
     try with_reducible rfl
    try simp only [Act.put]
    refine wpAnyH_take (i := 15) (v := ?_) rfl (by kernel_rfl) (by kernel_rfl) (by kernel_rfl) (fun _ _ _ h => h) (Or.inl ⟨by kernel_rfl, ?_⟩) (by assumption) ?_
    rotate_left
    ·(intro w hSw; (try dsimp only at hSw); go_simp)
     try with_reducible rfl
    try simp only [Act.put]
    refine wpAnyH_ready (rs := [16]) (by kernel_rfl) (by simp) ?_
    refine AllReadyH.cons rfl (fun K hK => ?_) AllReadyH.nil
    go_simp
    go_at_call 25
    refine (H25.out _ HD.out).mono ?_
    rintro e v3 ⟨rfl, hb⟩
    have HD := Lib.hid (HD.out.trans (hb.mono HD.out.size))
    clear hb
    dsimp only
    refine hK.out _ _ (HS.out _ HD.out) (fun hHeld => ?_)
    clear hK K
    try simp only [Act.put, List.setIfInBounds_toArray, List.set_cons_zero, List.set_cons_succ]
    refine wpAnyH_take (i := 17) (v := ?_) rfl (by kernel_rfl) (by kernel_rfl) (by kernel_rfl) (fun _ _ _ h => h) (Or.inl ⟨by kernel_rfl, ?_⟩) (by assumption) ?_
    rotate_left
    ·(intro w hSw; (try dsimp only at hSw); go_simp)
     try with_reducible rfl
    try simp only [Act.put]
    refine wpAnyH_take (i := 18) (v := ?_) rfl (by kernel_rfl) (by kernel_rfl) (by kernel_rfl) (fun _ _ _ h => h) (Or.inl ⟨by kernel_rfl, ?_⟩) (by assumption) ?_
    rotate_left
    ·(intro w hSw; (try dsimp only at hSw); go_simp)
     try with_reducible rfl
    try simp only [Act.put]
    refine wpAnyH_take (i := 19) (v := ?_) rfl (by kernel_rfl) (by kernel_rfl) (by kernel_rfl) (fun _ _ _ h => h) (Or.inl ⟨by kernel_rfl, ?_⟩) (by assumption) ?_
    rotate_left
    ·(intro w hSw; (try dsimp only at hSw); go_simp)
     try with_reducible rfl
    try simp only [Act.put]
    refine wpAnyH_take (i := 20) (v := ?_) rfl (by kernel_rfl) (by kernel_rfl) (by kernel_rfl) (fun _ _ _ h => h) (Or.inl ⟨by kernel_rfl, ?_⟩) (by assumption) ?_
    rotate_left
    ·(intro w hSw; (try dsimp only at hSw); go_simp)
     try with_reducible rfl
    try simp only [Act.put]
    refine wpAnyH_take (i := 22) (v := ?_) rfl (by kernel_rfl) (by kernel_rfl) (by kernel_rfl) (fun _ _ _ h => h) (Or.inl ⟨by kernel_rfl, ?_⟩) (by assumption) ?_
    rotate_left
    ·(intro w hSw; (try dsimp only at hSw); go_simp)
     try with_reducible rfl
    try simp only [Act.put]
    refine wpAnyH_ready (rs := [21]) (by kernel_rfl) (by simp) ?_
    refine AllReadyH.cons rfl (fun K hK => ?_) AllReadyH.nil
    go_simp
    go_at_call 33
    refine (H33y.out _ HD.out).mono ?_
    rintro e v4 ⟨rfl, hb⟩
    have HD := Lib.hid (HD.out.trans (hb.mono HD.out.size))
    clear hb
    dsimp only
    refine hK.out _ _ (HS.out _ HD.out) (fun hHeld => ?_)
    clear hK K
    try simp only [Act.put, List.setIfInBounds_toArray, List.set_cons_zero, List.set_cons_succ]
    refine wpAnyH_ready (rs := [23]) (by kernel_rfl) (by simp) ?_
    refine AllReadyH.cons rfl (fun K hK => ?_) AllReadyH.nil
    go_simp
    go_at_call 33
    refine (H33x.out _ HD.out).mono ?_
    rintro e v5 ⟨rfl, hb⟩
    have HD := Lib.hid (HD.out.trans (hb.mono HD.out.size))
    clear hb
    dsimp only
    refine hK.out _ _ (HS.out _ HD.out) (fun hHeld => ?_)
    clear hK K
    try simp only [Act.put, List.setIfInBounds_toArray, List.set_cons_zero, List.set_cons_succ]
    refine wpAnyH_take (i := 24) (v := ?_) rfl (by kernel_rfl) (by kernel_rfl) (by kernel_rfl) (fun _ _ _ h => h) (Or.inl ⟨by kernel_rfl, ?_⟩) (by assumption) ?_
    rotate_left
    ·(intro w hSw; (try dsimp only at hSw); go_simp)
     try with_reducible rfl
    try simp only [Act.put]
    refine wpAnyH_take (i := 25) (v := ?_) rfl (by kernel_rfl) (by kernel_rfl) (by kernel_rfl) (fun _ _ _ h => h) (Or.inl ⟨by kernel_rfl, ?_⟩) (by assumption) ?_
    rotate_left
    ·(intro w hSw; (try dsimp only at hSw); go_simp)
     try with_reducible rfl
    try simp only [Act.put]
    refine wpAnyH_take (i := 26) (v := ?_) rfl (by kernel_rfl) (by kernel_rfl) (by kernel_rfl) (fun _ _ _ h => h) (Or.inl ⟨by kernel_rfl, ?_⟩) (by assumption) ?_
    rotate_left
    ·(intro w hSw; (try dsimp only at hSw); go_simp)
     try with_reducible rfl
    try simp only [Act.put]
    refine wpAnyH_take (i := 27) (v := ?_) rfl (by kernel_rfl) (by kernel_rfl) (by kernel_rfl) (fun _ _ _ h => h) (Or.inl ⟨by kernel_rfl, ?_⟩) (by assumption) ?_
    rotate_left
    ·(intro w hSw; (try dsimp only at hSw); go_simp)
     try with_reducible rfl
    try simp only [Act.put]
    refine wpAnyH_take (i := 29) (v := ?_) rfl (by kernel_rfl) (by kernel_rfl) (by kernel_rfl) (fun _ _ _ h => h) (Or.inl ⟨by kernel_rfl, ?_⟩) (by assumption) ?_
    rotate_left
    ·(intro w hSw; (try dsimp only at hSw); go_simp)
     try with_reducible rfl
    try simp only [Act.put]
    refine wpAnyH_ready (rs := [28]) (by kernel_rfl) (by simp) ?_
    refine AllReadyH.cons rfl (fun K hK => ?_) AllReadyH.nil
    go_simp
    go_at_call 34
    refine (H34y.out _ HD.out).mono ?_
    rintro e v6 ⟨rfl, hb⟩
    have HD := Lib.hid (HD.out.trans (hb.mono HD.out.size))
    clear hb
    dsimp only
    refine hK.out _ _ (HS.out _ HD.out) (fun hHeld => ?_)
    clear hK K
    try simp only [Act.put, List.setIfInBounds_toArray, List.set_cons_zero, List.set_cons_succ]
    refine wpAnyH_ready (rs := [30]) (by kernel_rfl) (by simp) ?_
    refine AllReadyH.cons rfl (fun K hK => ?_) AllReadyH.nil
    go_simp
    go_at_call 34
    refine (H34x.out _ HD.out).mono ?_
    rintro e v7 ⟨rfl, hb⟩
    have HD := Lib.hid (HD.out.trans (hb.mono HD.out.size))
    clear hb
    dsimp only
    refine hK.out _ _ (HS.out _ HD.out) (fun hHeld => ?_)
    clear hK K
    try simp only [Act.put, List.setIfInBounds_toArray, List.set_cons_zero, List.set_cons_succ]
    refine wpAnyH_take (i := 31) (v := ?_) rfl (by kernel_rfl) (by kernel_rfl) (by kernel_rfl) (fun _ _ _ h => h) (Or.inl ⟨by kernel_rfl, ?_⟩) (by assumption) ?_
    rotate_left
    ·(intro w hSw; (try dsimp only at hSw); go_simp)
     try with_reducible rfl
    try simp only [Act.put]
    refine wpAnyH_take (i := 32) (v := ?_) rfl (by kernel_rfl) (by kernel_rfl) (by kernel_rfl) (fun _ _ _ h => h) (Or.inl ⟨by kernel_rfl, ?_⟩) (by assumption) ?_
    rotate_left
    ·(intro w hSw; (try dsimp only at hSw); go_simp)
     try with_reducible rfl
    try simp only [Act.put]
    refine wpAnyH_done (by kernel_rfl) ?_ _
    go_upto_region 10 with fail
    have HD : Hid (Below w7.heap.size w7.drew v7.drew) := HD.out.drew
    refine wp_region_held_drew (S := fun W => W.cell? ⟨w.heap.size, 0, none⟩ = some (.int .u8 k) ∧ W.cell? ⟨w.heap.size, 1, none⟩ = some (.slice a1 l1 c1) ∧ W.cell? ⟨w.heap.size, 2, none⟩ = some (.slice a l2 c) ∧ W.cell? ⟨w.heap.size, 3, none⟩ = some (.int .i64 lo) ∧ W.cell? ⟨w.heap.size, 4, none⟩ = some (.bool ls) ∧ W.cell? ⟨w.heap.size, 5, none⟩ = some (.int .i64 hi) ∧ W.cell? ⟨w.heap.size, 6, none⟩ = some (.bool hs') ∧ W.cell? ⟨w.heap.size, 7, none⟩ = some (.bool op) ∧ W.cell? ⟨w4.heap.size, 0, none⟩ = some (.int .u8 ky) ∧ W.cell? ⟨w4.heap.size, 1, none⟩ = some (.slice b1y n1y d1y) ∧ W.cell? ⟨w4.heap.size, 2, none⟩ = some (.slice b2y n2y d2y) ∧ W.cell? ⟨w4.heap.size, 3, none⟩ = some (.int .i64 loy) ∧ W.cell? ⟨w4.heap.size, 4, none⟩ = some (.bool lsy) ∧ W.cell? ⟨w4.heap.size, 5, none⟩ = some (.int .i64 hiy) ∧ W.cell? ⟨w4.heap.size, 6, none⟩ = some (.bool hsy) ∧ W.cell? ⟨w4.heap.size, 7, none⟩ = some (.bool opy) ∧ W.cell? ⟨w6.heap.size, 0, none⟩ = some (.int .u8 kz) ∧ W.cell? ⟨w6.heap.size, 1, none⟩ = some (.slice b1z n1z d1z) ∧ W.cell? ⟨w6.heap.size, 2, none⟩ = some (.slice b2z n2z d2z) ∧ W.cell? ⟨w6.heap.size, 3, none⟩ = some (.int .i64 loz) ∧ W.cell? ⟨w6.heap.size, 4, none⟩ = some (.bool lsz) ∧ W.cell? ⟨w6.heap.size, 5, none⟩ = some (.int .i64 hiz) ∧ W.cell? ⟨w6.heap.size, 6, none⟩ = some (.bool hsz) ∧ W.cell? ⟨w6.heap.size, 7, none⟩ = some (.bool opz)) (by kernel_rfl) (HS.out _ HD.out) (fun hHeld => ?_)
    refine wpAnyH_take (i := 0) (v := ?_) rfl (by kernel_rfl) (by kernel_rfl) (by kernel_rfl) (fun _ _ _ h => h) (Or.inl ⟨by kernel_rfl, ?_⟩) (by assumption) ?_
    rotate_left
    ·(intro w hSw; (try dsimp only at hSw); go_simp)
     try with_reducible rfl
    try simp only [Act.put, List.setIfInBounds_toArray]
    refine wpAnyH_take (i := 1) (v := ?_) rfl (by kernel_rfl) (by kernel_rfl) (by kernel_rfl) (fun _ _ _ h => h) (Or.inl ⟨by kernel_rfl, ?_⟩) (by assumption) ?_
    rotate_left
    ·(intro w hSw; (try dsimp only at hSw); go_simp)
     try with_reducible rfl
    try simp only [Act.put]
    refine wpAnyH_take (i := 2) (v := ?_) rfl (by kernel_rfl) (by kernel_rfl) (by kernel_rfl) (fun _ _ _ h => h) (Or.inl ⟨by kernel_rfl, ?_⟩) (by assumption) ?_
    rotate_left
    ·(intro w hSw; (try dsimp only at hSw); go_simp)
     try with_reducible rfl
    try simp only [Act.put]
    refine wpAnyH_take (i := 4) (v := ?_) rfl (by kernel_rfl) (by kernel_rfl) (by kernel_rfl) (fun _ _ _ h => h) (Or.inl ⟨by kernel_rfl, ?_⟩) (by assumption) ?_
    rotate_left
    ·(intro w hSw; (try dsimp only at hSw); go_simp)
     try with_reducible rfl
    try simp only [Act.put]
    refine wpAnyH_take (i := 5) (v := ?_) rfl (by kernel_rfl) (by kernel_rfl) (by kernel_rfl) (fun _ _ _ h => h) (Or.inl ⟨by kernel_rfl, ?_⟩) (by assumption) ?_
    rotate_left
    ·(intro w hSw; (try dsimp only at hSw); go_simp)
     try with_reducible rfl
    try simp only [Act.put]
    refine wpAnyH_ready (rs := [3]) (by kernel_rfl) (by simp) ?_
    refine AllReadyH.cons rfl (fun K hK => ?_) AllReadyH.nil
    go_simp
    go_at_call 31
    refine (H31x.out _ HD.out).mono ?_
    rintro e v8 ⟨rfl, hb⟩
    have HD := Lib.hid (HD.out.trans (hb.mono HD.out.size))
    clear hb
    dsimp only
    refine hK.out _ _ (HS.out _ HD.out) (fun hHeld => ?_)
    clear hK K
    try simp only [Act.put, List.setIfInBounds_toArray, List.set_cons_zero, List.set_cons_succ]
    refine wpAnyH_ready (rs := [6]) (by kernel_rfl) (by simp) ?_
    refine AllReadyH.cons rfl (fun K hK => ?_) AllReadyH.nil
    go_simp
    go_at_call 27
    refine (H27x.out _ HD.out).mono ?_
    rintro e v9 ⟨rfl, hb⟩
    have HD := Lib.hid (HD.out.trans (hb.mono HD.out.size))
    clear hb
    dsimp only
    refine hK.out _ _ (HS.out _ HD.out) (fun hHeld => ?_)
    clear hK K
    try simp only [Act.put, List.setIfInBounds_toArray, List.set_cons_zero, List.set_cons_succ]
    refine wpAnyH_take (i := 7) (v := ?_) rfl (by kernel_rfl) (by kernel_rfl) (by kernel_rfl) (fun _ _ _ h => h) (Or.inl ⟨by kernel_rfl, ?_⟩) (by assumption) ?_
    rotate_left
    ·(intro w hSw; (try dsimp only at hSw); go_simp)
     try with_reducible rfl
    simp only [Act.put, List.getElem_toArray, List.getElem_cons_succ, List.getElem_cons_zero, List.setIfInBounds_toArray, List.set_cons_zero, List.set_cons_succ]
    refine wpAnyH_take (i := 8) (v := ?_) rfl (by kernel_rfl) (by kernel_rfl) (by kernel_rfl) (fun _ _ _ h => h) (Or.inl ⟨by kernel_rfl, ?_⟩) (by assumption) ?_
    rotate_left
    ·(intro w hSw; (try dsimp only at hSw); go_simp)
     try with_reducible rfl
    simp only [Act.put, List.getElem_toArray, List.getElem_cons_succ, List.getElem_cons_zero, List.setIfInBounds_toArray, List.set_cons_zero, List.set_cons_succ]
    refine wpAnyH_take (i := 9) (v := ?_) rfl (by kernel_rfl) (by kernel_rfl) (by kernel_rfl) (fun _ _ _ h => h) (Or.inl ⟨by kernel_rfl, ?_⟩) (by assumption) ?_
    rotate_left
    ·(intro w hSw; (try dsimp only at hSw); go_simp)
     try with_reducible rfl
    simp only [Act.put, List.getElem_toArray, List.getElem_cons_succ, List.getElem_cons_zero, List.setIfInBounds_toArray, List.set_cons_zero, List.set_cons_succ]
    refine wpAnyH_done (by kernel_rfl) ?_ _
    have HFIN : Hid (Below w.heap.size w v9) := HBW.out _ HD.out
    clear hHeld
    cases q : isNX n t with
    | true =>
     go_wp2_with fail
     all_goals go_ret
     all_goals exact ⟨rfl, HFIN.out⟩
    | false =>
     go_wp2_with fail
     all_goals go_ret
     all_goals exact ⟨rfl, HFIN.out⟩
end Go.Proofs.YtpgdplmndnopbaaGreatDoor