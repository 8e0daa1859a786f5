/- PrintApart walked: two have one text just if they are the same. -/
import Derived.Test.YtpgdplmndnopbaaGreatDoorJnD
namespace Go.Proofs.YtpgdplmndnopbaaGreatDoor
open Go.RowKit

set_option maxRecDepth 100000 in
set_option maxHeartbeats 16000000 in
theorem printApart11_any (l : List ByteArray) (nv : Value) (m n m' n' : Nat) (t : XT m n) (u : XT m' n') (v v' : Value) (w : World) (hr : Rdy w) (hn : NRep w w.heap.size nv l) (hw : ∀ s ∈ l, s.size ≤ 281474976710656) (hx : XRep w w.heap.size m n t v) (hy : XRep w w.heap.size m' n' u v') (hb : bndX n t) (hb' : bndX n' u) :
    Calls Tryz.prog 11 #[nv, v, v'] w fun e w' => e = .returned (.bool true) ∧ Below w.heap.size w w' := by
  obtain ⟨k1, a1, l1, c1, b1, m1, d1, lo1, ls1, hi1, hs1, op1, rfl⟩ := hx.shape
  obtain ⟨k2, a2, l2, c2, b2, m2, d2, lo2, ls2, hi2, hs2, op2, rfl⟩ := hy.shape
  obtain ⟨na, nc, rfl, _⟩ := id hn
  obtain ⟨W0, hW0⟩ : ∃ W0, W0 = (w.alloc (.cells #[.int .u8 k1, .slice a1 l1 c1, .slice b1 m1 d1, .int .i64 lo1, .bool ls1, .int .i64 hi1, .bool hs1, .bool op1] 28)).alloc (.cells #[.int .u8 k2, .slice a2 l2 c2, .slice b2 m2 d2, .int .i64 lo2, .bool ls2, .int .i64 hi2, .bool hs2, .bool op2] 28) := ⟨_, rfl⟩
  have HB0 : Hid (Below w.heap.size w W0) := by rw [Hid, hW0]; exact ((Below.refl _ w).alloc (Nat.le_refl _) _).alloc (by simp) _
  have HK1 : Hid (W0.heap[w.heap.size]? = some (.cells #[.int .u8 k1, .slice a1 l1 c1, .slice b1 m1 d1, .int .i64 lo1, .bool ls1, .int .i64 hi1, .bool hs1, .bool op1] 28 (0, 0))) := by rw [Hid, hW0]; exact hp_in (hp_top rfl)
  have HK2 : Hid (W0.heap[w.heap.size + 1]? = some (.cells #[.int .u8 k2, .slice a2 l2 c2, .slice b2 m2 d2, .int .i64 lo2, .bool ls2, .int .i64 hi2, .bool hs2, .bool op2] 28 (0, 0))) := by rw [Hid, hW0]; exact hp_top (by simp)
  have HR := Lib.hid hr
  have HN := Lib.hid hn
  have HX := Lib.hid hx
  have HY := Lib.hid hy
  have HW := Lib.hid hw
  have HBD := Lib.hid hb
  have HBD' := Lib.hid hb'
  have HW0 := Lib.hid hW0.symm
  have HZ0 : Hid (W0.heap.size = w.heap.size + 2) := by rw [Hid, hW0]; simp
  have HCL : Hid (∀ W, Below W0.heap.size W0 W → W.heap[w.heap.size]? = some (.cells #[.int .u8 k1, .slice a1 l1 c1, .slice b1 m1 d1, .int .i64 lo1, .bool ls1, .int .i64 hi1, .bool hs1, .bool op1] 28 (0, 0)) ∧ W.heap[w.heap.size + 1]? = some (.cells #[.int .u8 k2, .slice a2 l2 c2, .slice b2 m2 d2, .int .i64 lo2, .bool ls2, .int .i64 hi2, .bool hs2, .bool op2] 28 (0, 0)) ∧ Below w.heap.size w W ∧ w.heap.size + 1 < W.heap.size ∧ w.heap.size < W.heap.size) := by
    intro W hW
    have := HZ0.out
    have := hW.size
    exact ⟨(hW.block _ (by omega)).trans HK1.out, (hW.block _ (by omega)).trans HK2.out, HB0.out.trans (hW.mono HB0.out.size), by omega, by omega⟩
  have HGX : Hid (∀ W, Below w.heap.size w W → Calls Tryz.prog 15 #[.agg #[.int .u8 k1, .slice a1 l1 c1, .slice b1 m1 d1, .int .i64 lo1, .bool ls1, .int .i64 hi1, .bool hs1, .bool op1]] W fun e w' => e = .returned (.bool (decide (2000 < sizeX n t 2000))) ∧ Below W.heap.size W w') := fun W h => great11_any m n t _ W (HX.out.up h h.size)
  have HGY : Hid (∀ W, Below w.heap.size w W → Calls Tryz.prog 15 #[.agg #[.int .u8 k2, .slice a2 l2 c2, .slice b2 m2 d2, .int .i64 lo2, .bool ls2, .int .i64 hi2, .bool hs2, .bool op2]] W fun e w' => e = .returned (.bool (decide (2000 < sizeX n' u 2000))) ∧ Below W.heap.size W w') := fun W h => great11_any m' n' u _ W (HY.out.up h h.size)
  have HGN : Hid (∀ W, Below w.heap.size w W → Calls Tryz.prog 16 #[.slice na l.length nc] W fun e w' => e = .returned (.bool (greatN l)) ∧ w' = W) := fun W h => greatNames12_any l _ W (HN.out.up h h.size)
  clear hr hn hx hy hw hb hb' hW0
  go_enter Tryz.func11, Tryz.ntmps11
  go_wp2_with fail
  rw [HW0.out]
  clear HW0
  refine (alive29_any W0 (HR.out.below HB0.out)).mono ?_
  rintro e w1 ⟨rfl, hb1⟩
  obtain ⟨hk1, hk2, hbw1, hlt1, hlt1'⟩ := HCL.out w1 hb1
  have HB1 := Lib.hid hbw1
  have HB01 := Lib.hid hb1
  have x0 := Lib.cell_of_heap hk1 0
  have x1 := Lib.cell_of_heap hk1 1
  have x2 := Lib.cell_of_heap hk1 2
  have x3 := Lib.cell_of_heap hk1 3
  have x4 := Lib.cell_of_heap hk1 4
  have x5 := Lib.cell_of_heap hk1 5
  have x6 := Lib.cell_of_heap hk1 6
  have x7 := Lib.cell_of_heap hk1 7
  simp only [List.getElem?_toArray, List.getElem?_cons_zero, List.getElem?_cons_succ] at x0 x1 x2 x3 x4 x5 x6 x7
  clear hk1 hk2 hbw1 hb1
  go_wp2_with fail
  refine (HGX.out w1 HB1.out).mono ?_
  rintro e w2 ⟨rfl, hb2⟩
  have HB02 := Lib.hid (HB01.out.trans (hb2.mono HB01.out.size))
  clear hb2 x0 x1 x2 x3 x4 x5 x6 x7 hlt1 hlt1'
  obtain ⟨hk1, hk2, hbw2, hlt2, hlt2'⟩ := HCL.out w2 HB02.out
  have HB2 := Lib.hid hbw2
  have y0 := Lib.cell_of_heap hk2 0
  have y1 := Lib.cell_of_heap hk2 1
  have y2 := Lib.cell_of_heap hk2 2
  have y3 := Lib.cell_of_heap hk2 3
  have y4 := Lib.cell_of_heap hk2 4
  have y5 := Lib.cell_of_heap hk2 5
  have y6 := Lib.cell_of_heap hk2 6
  have y7 := Lib.cell_of_heap hk2 7
  simp only [List.getElem?_toArray, List.getElem?_cons_zero, List.getElem?_cons_succ] at y0 y1 y2 y3 y4 y5 y6 y7
  clear hk1 hk2 hbw2
  cases qg : decide (2000 < sizeX n t 2000) with
  | true =>
    go_wp2_with fail
    all_goals go_ret
    all_goals exact ⟨rfl, HB2.out⟩
  | false =>
    have HTX : Hid (tX n t ≤ 2000) := small_of HBD.out qg
    clear qg
    go_wp2_with fail
    refine (HGY.out w2 HB2.out).mono ?_
    rintro e w3 ⟨rfl, hb3⟩
    have HB03 := Lib.hid (HB02.out.trans (hb3.mono HB02.out.size))
    clear hb3 y0 y1 y2 y3 y4 y5 y6 y7 hlt2 hlt2'
    obtain ⟨hk1, hk2, hbw3, hlt3, hlt3'⟩ := HCL.out w3 HB03.out
    have HB3 := Lib.hid hbw3
    have x0 := Lib.cell_of_heap hk1 0
    have x1 := Lib.cell_of_heap hk1 1
    have x2 := Lib.cell_of_heap hk1 2
    have x3 := Lib.cell_of_heap hk1 3
    have x4 := Lib.cell_of_heap hk1 4
    have x5 := Lib.cell_of_heap hk1 5
    have x6 := Lib.cell_of_heap hk1 6
    have x7 := Lib.cell_of_heap hk1 7
    simp only [List.getElem?_toArray, List.getElem?_cons_zero, List.getElem?_cons_succ] at x0 x1 x2 x3 x4 x5 x6 x7
    clear hk1 hk2 hbw3
    cases qg : decide (2000 < sizeX n' u 2000) with
    | true =>
      go_wp2_with fail
      all_goals go_ret
      all_goals exact ⟨rfl, HB3.out⟩
    | false =>
      have HTY : Hid (tX n' u ≤ 2000) := small_of HBD'.out qg
      clear qg
      go_wp2_with fail
      refine (HGN.out w3 HB3.out).mono ?_
      rintro e w4 ⟨rfl, rfl⟩
      cases qn : greatN l with
      | true =>
        go_wp2_with fail
        all_goals go_ret
        all_goals exact ⟨rfl, HB3.out⟩
      | false =>
        have HSM : Hid (∀ s ∈ l, s.size ≤ 1048576) := greatN_not qn HW.out
        clear qn
        have HPR := Lib.hid (print18_any l _ HSM.out m n t _ w4 (HR.out.below HB3.out) (HN.out.up HB3.out HB3.out.size) (HX.out.up HB3.out HB3.out.size) (by have := HTX.out; omega))
        obtain ⟨ck, hck⟩ : ∃ ck, ck = checkR l n t := ⟨_, rfl⟩
        obtain ⟨tx, htx⟩ : ∃ tx : ByteArray, tx = ⟨(textR l n t).toArray⟩ := ⟨_, rfl⟩
        rw [← hck, ← htx] at HPR
        have HCK := Lib.hid hck
        have HTXT := Lib.hid htx
        clear hck htx
        go_wp2_with fail
        refine HPR.out.mono ?_
        rintro e w5 ⟨rfl, hb5⟩
        have HB05 := Lib.hid (HB03.out.trans (hb5.mono HB03.out.size))
        clear hb5 x0 x1 x2 x3 x4 x5 x6 x7 hlt3 hlt3'
        obtain ⟨hk1, hk2, hbw5, hlt5, hlt5'⟩ := HCL.out w5 HB05.out
        have HB5 := Lib.hid hbw5
        have y0 := Lib.cell_of_heap hk2 0
        have y1 := Lib.cell_of_heap hk2 1
        have y2 := Lib.cell_of_heap hk2 2
        have y3 := Lib.cell_of_heap hk2 3
        have y4 := Lib.cell_of_heap hk2 4
        have y5 := Lib.cell_of_heap hk2 5
        have y6 := Lib.cell_of_heap hk2 6
        have y7 := Lib.cell_of_heap hk2 7
        simp only [List.getElem?_toArray, List.getElem?_cons_zero, List.getElem?_cons_succ] at y0 y1 y2 y3 y4 y5 y6 y7
        clear hk1 hk2 hbw5
        have HPS := Lib.hid (print18_any l _ HSM.out m' n' u _ w5 (HR.out.below HB5.out) (HN.out.up HB5.out HB5.out.size) (HY.out.up HB5.out HB5.out.size) (by have := HTY.out; omega))
        obtain ⟨cj, hcj⟩ : ∃ cj, cj = checkR l n' u := ⟨_, rfl⟩
        obtain ⟨ty, hty⟩ : ∃ ty : ByteArray, ty = ⟨(textR l n' u).toArray⟩ := ⟨_, rfl⟩
        rw [← hcj, ← hty] at HPS
        have HCJ := Lib.hid hcj
        have HTYT := Lib.hid hty
        clear hcj hty
        go_wp2_with fail
        refine HPS.out.mono ?_
        rintro e w6 ⟨rfl, hb6⟩
        have HB06 := Lib.hid (HB05.out.trans (hb6.mono HB05.out.size))
        clear hb6 y0 y1 y2 y3 y4 y5 y6 y7 hlt5 hlt5'
        obtain ⟨hk1, hk2, hbw6, hlt6, hlt6'⟩ := HCL.out w6 HB06.out
        have HB6 := Lib.hid hbw6
        have x0 := Lib.cell_of_heap hk1 0
        have x1 := Lib.cell_of_heap hk1 1
        have x2 := Lib.cell_of_heap hk1 2
        have x3 := Lib.cell_of_heap hk1 3
        have x4 := Lib.cell_of_heap hk1 4
        have x5 := Lib.cell_of_heap hk1 5
        have x6 := Lib.cell_of_heap hk1 6
        have x7 := Lib.cell_of_heap hk1 7
        simp only [List.getElem?_toArray, List.getElem?_cons_zero, List.getElem?_cons_succ] at x0 x1 x2 x3 x4 x5 x6 x7
        have y0 := Lib.cell_of_heap hk2 0
        have y1 := Lib.cell_of_heap hk2 1
        have y2 := Lib.cell_of_heap hk2 2
        have y3 := Lib.cell_of_heap hk2 3
        have y4 := Lib.cell_of_heap hk2 4
        have y5 := Lib.cell_of_heap hk2 5
        have y6 := Lib.cell_of_heap hk2 6
        have y7 := Lib.cell_of_heap hk2 7
        simp only [List.getElem?_toArray, List.getElem?_cons_zero, List.getElem?_cons_succ] at y0 y1 y2 y3 y4 y5 y6 y7
        clear hk1 hk2 hbw6
        by_cases h1 : ck = 0
        · by_cases h2 : cj = 0
          · obtain ⟨eqb, heqb⟩ : ∃ eqb, (tx.toList == ty.toList) = eqb := ⟨_, rfl⟩
            have HSAME := Lib.hid (same27_any m m' n n' t u _ _ w6 (HX.out.up HB6.out HB6.out.size) (HY.out.up HB6.out HB6.out.size))
            have HIFF : Hid (eqb = true ↔ toX n t = toX n' u) := by
              have e1 : textR l n t = prX Lib.itoa n t 0 := by rw [textR, if_pos (by rw [← HCK.out]; exact h1)]
              have e2 : textR l n' u = prX Lib.itoa n' u 0 := by rw [textR, if_pos (by rw [← HCJ.out]; exact h2)]
              have z1 : checkR l n t = 0 := by rw [← HCK.out]; exact h1
              have z2 : checkR l n' u = 0 := by rw [← HCJ.out]; exact h2
              rw [Hid, ← print_apart t u (checkR_zero.1 z1).2.1 (check_nm z1) (nX_small z1 (by have := HTX.out; omega)) (checkR_zero.1 z2).2.1 (check_nm z2) (nX_small z2 (by have := HTY.out; omega)), ← heqb, HTXT.out, HTYT.out, e1, e2, ByteArray.toList_eq, ByteArray.toList_eq]
              simp
            subst h1 h2
            go_wp2_with fail
            refine HSAME.out.mono ?_
            rintro e w7 ⟨⟨b, rfl, hbb⟩, hb7⟩
            have hbe : b = eqb := by
              rw [Bool.eq_iff_iff, hbb, HIFF.out]
            subst hbe
            have HB7 := Lib.hid (HB6.out.trans (hb7.mono HB6.out.size))
            clear hbb hb7
            cases b
            all_goals go_wp2_with fail
            all_goals go_ret
            all_goals exact ⟨rfl, HB7.out⟩
          · have q2 : (cj != 0) = true := by simpa using h2
            subst h1
            clear h2
            go_wp2_with fail
            all_goals go_ret
            all_goals exact ⟨rfl, HB6.out⟩
        · have q1 : (ck != 0) = true := by simpa using h1
          clear h1
          go_wp2_with fail
          all_goals go_ret
          all_goals exact ⟨rfl, HB6.out⟩
end Go.Proofs.YtpgdplmndnopbaaGreatDoor
