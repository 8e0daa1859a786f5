/- PrintShort walked: a text that is printed anew is no longer. -/
import Derived.Test.YtpgdplmndnopbaaGreatDoorJnD
import Derived.Test.YtpgdplmndnopbaaGreatDoorPrV
import Derived.Test.YtpgdplmndnopbaaGreatDoorPrW
import Derived.Test.YtpgdplmndnopbaaGreatDoorPrL
namespace Go.Proofs.YtpgdplmndnopbaaGreatDoor
open Go.RowKit

/-- Not an expression, or one. -/
theorem ParseIs.cases0 {names : List ByteArray} {s : ByteArray} {w : World} {v : Value} {at_ cd : Int} (h : ParseIs names s w v at_ cd) : (cd ≠ 0 ∧ v = noX) ∨
    (cd = 0 ∧ at_ = 0 ∧ namesR names = 0 ∧ (cutR s).2.2 = 0 ∧ ∃ (m n : Nat) (t : XT m n), allR (cutR s).1 s.size = .ok (toX n t) ∧ checkR names n t = 0 ∧ XRep w w.heap.size m n t v) := by
  cases h with
  | names h => exact .inl ⟨h, rfl⟩
  | cut _ h => exact .inl ⟨h, rfl⟩
  | wrong _ hc c p he =>
    obtain ⟨_, h2, _⟩ := cutR_ok hc
    have := (wrong_at h2 (by rw [size_list]; exact he)).2.2.1
    exact .inl ⟨by rcases this with rfl | rfl <;> decide, rfl⟩
  | check _ _ m n t he hk => exact .inl ⟨hk, rfl⟩
  | ok hn hc m n t he hk v hv => exact .inr ⟨rfl, rfl, hn, hc, m, n, t, he, hk, hv⟩
/-- What is parsed is small, and its text is no longer than what was parsed. -/
theorem parsed_small {names : List ByteArray} {s : ByteArray} {m n : Nat} {t : XT m n} (hc : (cutR s).2.2 = 0) (ha : allR (cutR s).1 s.size = .ok (toX n t)) (hk : checkR names n t = 0) : (textR names n t).length ≤ s.size ∧ s.size ≤ 4096 ∧ tX n t ≤ 100000 := by
  obtain ⟨h1, h2, _⟩ := cutR_ok hc
  have e : textR names n t = prX Lib.itoa n t 0 := by rw [textR, if_pos hk]
  have h3 := cut_len h2
  rw [size_list] at h3
  have h4 := all_len ha m n t rfl
  have h5 := low_X Lib.itoa n t 0 (checkR_zero.1 hk).2.1 (check_nm hk)
  rw [e]
  omega

set_option maxRecDepth 100000 in
set_option maxHeartbeats 16000000 in
theorem printShort10_any (l : List ByteArray) (nv : Value) (s : ByteArray) (w : World) (hr : Rdy w) (hn : NRep w w.heap.size nv l) (hw : ∀ s ∈ l, s.size ≤ 281474976710656) :
    Calls Tryz.prog 10 #[nv, .string s] w fun e w' => e = .returned (.bool true) ∧ Below w.heap.size w w' := by
  obtain ⟨na, nc, rfl, _⟩ := id hn
  have HR := Lib.hid hr
  have HN := Lib.hid hn
  have HW := Lib.hid hw
  have HGN : Hid (∀ W, Below w.heap.size w W → Calls Tryz.prog 16 #[.slice na l.length nc] W fun e w' => e = .returned (.bool (greatN l)) ∧ w' = W) := fun W h => greatNames12_any l _ W (HN.out.up h h.size)
  clear hr hn hw
  go_enter Tryz.func10, Tryz.ntmps10
  go_wp2_with fail
  refine (alive29_any w HR.out).mono ?_
  rintro e w1 ⟨rfl, hb1⟩
  have HB1 := Lib.hid hb1
  clear hb1
  go_wp2_with fail
  refine (HGN.out w1 HB1.out).mono ?_
  rintro e w2 ⟨rfl, rfl⟩
  cases qn : greatN l with
  | true =>
    go_wp2_with fail
    all_goals go_ret
    all_goals exact ⟨rfl, HB1.out⟩
  | false =>
    have HSM : Hid (∀ s ∈ l, s.size ≤ 1048576) := greatN_not qn HW.out
    clear qn
    by_cases h4 : 4096 < s.size
    · have h4i : (4096 : Int) < (s.size : Int) := by omega
      clear h4
      go_wp2_with fail
      all_goals go_ret
      all_goals exact ⟨rfl, HB1.out⟩
    · have h4i : ¬ (4096 : Int) < (s.size : Int) := by omega
      clear h4
      have HPA := Lib.hid (parse21_any l _ HSM.out s w2 (HR.out.below HB1.out) (HN.out.up HB1.out HB1.out.size))
      go_wp2_with fail
      refine HPA.out.mono ?_
      rintro e w3 ⟨y, at_, cd, rfl, hp, hb3⟩
      have hbw3 := HB1.out.trans (hb3.mono HB1.out.size)
      have HB3 := Lib.hid hbw3
      rcases hp.cases0 with ⟨hc, rfl⟩ | ⟨rfl, rfl, hnm, hcut, m, n, t, ha, hk, hx⟩
      · have q : (cd != 0) = true := by simpa using hc
        have HB4 : Hid (∀ o, Below w.heap.size w (w3.alloc o)) := fun o => HB3.out.alloc (by have := HB3.out.size; omega) o
        clear hp hb3 hbw3 hc
        unfold noX
        go_wp2_with fail
        all_goals go_ret
        all_goals exact ⟨rfl, HB4.out _⟩
      · obtain ⟨g1, g2, g3⟩ := parsed_small hcut ha hk
        obtain ⟨k1, a1, l1, c1, b1, m1, d1, lo1, ls1, hi1, hs1, op1, rfl⟩ := hx.shape
        have hz3 := HB3.out.size
        obtain ⟨w4, hw4⟩ : ∃ w4, w4 = w3.alloc (.cells #[.int .u8 k1, .slice a1 l1 c1, .slice b1 m1 d1, .int .i64 lo1, .bool ls1, .int .i64 hi1, .bool hs1, .bool op1] 28) := ⟨_, rfl⟩
        have hb4 : Below w3.heap.size w3 w4 := by rw [hw4]; exact (Below.refl _ _).alloc (Nat.le_refl _) _
        have HB4 : Hid (Below w.heap.size w w4) := hbw3.trans (hb4.mono hz3)
        have HX4 : Hid (XRep w4 w4.heap.size m n t (.agg #[.int .u8 k1, .slice a1 l1 c1, .slice b1 m1 d1, .int .i64 lo1, .bool ls1, .int .i64 hi1, .bool hs1, .bool op1])) := hx.up hb4 hb4.size
        have HK4 : Hid (w4.heap[w3.heap.size]? = some (.cells #[.int .u8 k1, .slice a1 l1 c1, .slice b1 m1 d1, .int .i64 lo1, .bool ls1, .int .i64 hi1, .bool hs1, .bool op1] 28 (0, 0))) := by rw [Hid, hw4]; exact hp_top rfl
        have HW4 := Lib.hid hw4.symm
        have hk4 := HK4.out
        have x0 := Lib.cell_of_heap hk4 0
        have x1 := Lib.cell_of_heap hk4 1
        have x2 := Lib.cell_of_heap hk4 2
        have x3 := Lib.cell_of_heap hk4 3
        have x4 := Lib.cell_of_heap hk4 4
        have x5 := Lib.cell_of_heap hk4 5
        have x6 := Lib.cell_of_heap hk4 6
        have x7 := Lib.cell_of_heap hk4 7
        simp only [List.getElem?_toArray, List.getElem?_cons_zero, List.getElem?_cons_succ] at x0 x1 x2 x3 x4 x5 x6 x7
        have hlt4 := (Array.getElem?_eq_some_iff.1 hk4).1
        have HCK := Lib.hid hk
        have HPR := Lib.hid (print18_any l _ HSM.out m n t _ w4 (HR.out.below HB4.out) (HN.out.up HB4.out HB4.out.size) HX4.out g3)
        obtain ⟨tx, htx⟩ : ∃ tx : ByteArray, tx = ⟨(textR l n t).toArray⟩ := ⟨_, rfl⟩
        rw [hk, ← htx] at HPR
        have HTXT := Lib.hid htx
        have HTL : Hid (tx.size = (textR l n t).length) := by rw [Hid, htx]; show (textR l n t).toArray.size = _; simp
        have HG := Lib.hid (And.intro g1 (And.intro g2 g3))
        clear hp hb3 hbw3 hnm hcut ha hk hx hz3 hw4 hb4 hk4 htx g1 g2 g3
        go_upto_region 5 with fail
        rw [HW4.out]
        clear HW4
        go_wp2_with fail
        refine HPR.out.mono ?_
        rintro e w5 ⟨rfl, hb5⟩
        have HB5 := Lib.hid (HB4.out.trans (hb5.mono HB4.out.size))
        have HX5 := Lib.hid (HX4.out.up hb5 hb5.size)
        have HK5 : Hid (w5.heap[w3.heap.size]? = some (.cells #[.int .u8 k1, .slice a1 l1 c1, .slice b1 m1 d1, .int .i64 lo1, .bool ls1, .int .i64 hi1, .bool hs1, .bool op1] 28 (0, 0))) := (hb5.block _ hlt4).trans HK4.out
        clear hb5 x0 x1 x2 x3 x4 x5 x6 x7 hlt4
        have HPB := Lib.hid (parse21_any l _ HSM.out tx w5 (HR.out.below HB5.out) (HN.out.up HB5.out HB5.out.size))
        go_wp2_with fail
        refine HPB.out.mono ?_
        rintro e w6 ⟨z, at_, cd, rfl, hp, hb6⟩
        rw [HTXT.out] at hp
        obtain ⟨rfl, rfl, m', n', u, hu, hz⟩ := parse_text HCK.out HG.out.2.2 (by have := HG.out; omega) hp
        obtain ⟨k2, a2, l2, c2, b2, m2, d2, lo2, ls2, hi2, hs2, op2, rfl⟩ := hz.shape
        obtain ⟨w7, hw7⟩ : ∃ w7, w7 = w6.alloc (.cells #[.int .u8 k2, .slice a2 l2 c2, .slice b2 m2 d2, .int .i64 lo2, .bool ls2, .int .i64 hi2, .bool hs2, .bool op2] 28) := ⟨_, rfl⟩
        have hb7 : Below w6.heap.size w6 w7 := by rw [hw7]; exact (Below.refl _ _).alloc (Nat.le_refl _) _
        have hb57 := hb6.trans (hb7.mono hb6.size)
        have HB7 : Hid (Below w.heap.size w w7) := HB5.out.trans (hb57.mono HB5.out.size)
        have HX7 := Lib.hid (HX5.out.up hb57 hb57.size)
        have HZ7 := Lib.hid (hz.up hb7 hb7.size)
        have HL5 := Lib.hid (Array.getElem?_eq_some_iff.1 HK5.out).1
        have HK7 : Hid (w7.heap[w3.heap.size]? = some (.cells #[.int .u8 k1, .slice a1 l1 c1, .slice b1 m1 d1, .int .i64 lo1, .bool ls1, .int .i64 hi1, .bool hs1, .bool op1] 28 (0, 0))) := (hb57.block _ HL5.out).trans HK5.out
        have HJ7 : Hid (w7.heap[w6.heap.size]? = some (.cells #[.int .u8 k2, .slice a2 l2 c2, .slice b2 m2 d2, .int .i64 lo2, .bool ls2, .int .i64 hi2, .bool hs2, .bool op2] 28 (0, 0))) := by rw [Hid, hw7]; exact hp_top rfl
        have HEQ := Lib.hid hu
        have HW7 := Lib.hid hw7.symm
        have hj7 := HJ7.out
        have y0 := Lib.cell_of_heap hj7 0
        have y1 := Lib.cell_of_heap hj7 1
        have y2 := Lib.cell_of_heap hj7 2
        have y3 := Lib.cell_of_heap hj7 3
        have y4 := Lib.cell_of_heap hj7 4
        have y5 := Lib.cell_of_heap hj7 5
        have y6 := Lib.cell_of_heap hj7 6
        have y7 := Lib.cell_of_heap hj7 7
        simp only [List.getElem?_toArray, List.getElem?_cons_zero, List.getElem?_cons_succ] at y0 y1 y2 y3 y4 y5 y6 y7
        have hlt7 := (Array.getElem?_eq_some_iff.1 hj7).1
        have HPS := Lib.hid (print18_any l _ HSM.out m' n' u _ w7 (HR.out.below HB7.out) (HN.out.up HB7.out HB7.out.size) HZ7.out (by rw [tX_same n' n u t hu]; exact HG.out.2.2))
        rw [checkR_same l hu, textR_same l hu, HCK.out, ← HTXT.out] at HPS
        clear hp hb6 hz hu hw7 hb7 hb57 hj7
        go_upto_region 9 with fail
        rw [HW7.out]
        clear HW7
        go_wp2_with fail
        refine HPS.out.mono ?_
        rintro e w8 ⟨rfl, hb8⟩
        have HB8 := Lib.hid (HB7.out.trans (hb8.mono HB7.out.size))
        have hk8 := (hb8.block _ (Array.getElem?_eq_some_iff.1 HK7.out).1).trans HK7.out
        have hj8 := (hb8.block _ hlt7).trans HJ7.out
        clear y0 y1 y2 y3 y4 y5 y6 y7 hlt7
        have x0 := Lib.cell_of_heap hk8 0
        have x1 := Lib.cell_of_heap hk8 1
        have x2 := Lib.cell_of_heap hk8 2
        have x3 := Lib.cell_of_heap hk8 3
        have x4 := Lib.cell_of_heap hk8 4
        have x5 := Lib.cell_of_heap hk8 5
        have x6 := Lib.cell_of_heap hk8 6
        have x7 := Lib.cell_of_heap hk8 7
        simp only [List.getElem?_toArray, List.getElem?_cons_zero, List.getElem?_cons_succ] at x0 x1 x2 x3 x4 x5 x6 x7
        have y0 := Lib.cell_of_heap hj8 0
        have y1 := Lib.cell_of_heap hj8 1
        have y2 := Lib.cell_of_heap hj8 2
        have y3 := Lib.cell_of_heap hj8 3
        have y4 := Lib.cell_of_heap hj8 4
        have y5 := Lib.cell_of_heap hj8 5
        have y6 := Lib.cell_of_heap hj8 6
        have y7 := Lib.cell_of_heap hj8 7
        simp only [List.getElem?_toArray, List.getElem?_cons_zero, List.getElem?_cons_succ] at y0 y1 y2 y3 y4 y5 y6 y7
        have hltx := (Array.getElem?_eq_some_iff.1 hk8).1
        have hlty := (Array.getElem?_eq_some_iff.1 hj8).1
        have HSAME := Lib.hid (same27_any m m' n n' t u _ _ w8 (HX7.out.up hb8 hb8.size) (HZ7.out.up hb8 hb8.size))
        have hle : (tx.size : Int) ≤ (s.size : Int) := by have := HG.out; have := HTL.out; omega
        clear hb8 hk8 hj8
        go_wp2_with fail
        refine HSAME.out.mono ?_
        rintro e w9 ⟨⟨b, rfl, hbb⟩, hb9⟩
        obtain rfl : b = true := hbb.2 HEQ.out.symm
        have HB9 := Lib.hid (HB8.out.trans (hb9.mono HB8.out.size))
        clear hbb hb9
        go_wp2_with fail
        all_goals go_ret
        all_goals exact ⟨rfl, HB9.out⟩
end Go.Proofs.YtpgdplmndnopbaaGreatDoor
