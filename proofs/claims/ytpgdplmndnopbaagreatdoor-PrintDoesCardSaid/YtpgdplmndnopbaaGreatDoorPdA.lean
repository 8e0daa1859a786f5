/- PrintDoes walked: an expression's text is as is said. (Printed by gen_bkm.py.) -/
import Derived.Test.YtpgdplmndnopbaaGreatDoorMgT
import Derived.Test.YtpgdplmndnopbaaGreatDoorMgU
import Derived.Test.YtpgdplmndnopbaaGreatDoorTreeR
namespace Go.Proofs.YtpgdplmndnopbaaGreatDoor
open Go.RowKit

theorem small_ofP {m n : Nat} {t : XT m n} (hb : bndX n t) (h : decide (2000 < sizeX n t 2000) = false) : tX n t ≤ 2000 := by
  have h1 := sizeX_le n t hb 2000 (by omega) (by omega)
  have h2 : sizeX n t 2000 ≤ 2000 := by simpa using h
  have h3 := h1.2.2 h2
  omega
set_option maxRecDepth 100000 in
set_option maxHeartbeats 16000000 in
theorem printDoes3_any (l : List ByteArray) (nv : Value) (m n : Nat) (t : XT m n) (v : Value) (w : World) (hr : Rdy w) (hn : NRep w w.heap.size nv l) (hw : ∀ s ∈ l, s.size ≤ 281474976710656) (hx : XRep w w.heap.size m n t v) (hb : bndX n t) :
    Calls Tryz.prog 3 #[nv, v] w fun e w' => e = .returned (.bool true) ∧ Below w.heap.size w w' := by
  obtain ⟨k, a1, l1, c1, a, l2, c, lo, ls, hi, hs, op, rfl⟩ := hx.shape
  obtain ⟨na, nc, rfl, _⟩ := id hn
  obtain ⟨W0, hW0⟩ : ∃ W0, W0 = w.alloc (.cells #[.int .u8 k, .slice a1 l1 c1, .slice a l2 c, .int .i64 lo, .bool ls, .int .i64 hi, .bool hs, .bool op] 28) := ⟨_, rfl⟩
  have HB0 : Hid (Below w.heap.size w W0) := by rw [Hid, hW0]; exact (Below.refl _ w).alloc (Nat.le_refl _) _
  have HK0 : Hid (W0.heap[w.heap.size]? = some (.cells #[.int .u8 k, .slice a1 l1 c1, .slice a l2 c, .int .i64 lo, .bool ls, .int .i64 hi, .bool hs, .bool op] 28 (0, 0))) := by rw [Hid, hW0]; exact hp_top rfl
  have HR := Lib.hid hr
  have HN := Lib.hid hn
  have HX := Lib.hid hx
  have HW := Lib.hid hw
  have HBD := Lib.hid hb
  have HW0 := Lib.hid hW0.symm
  have HZ0 : Hid (W0.heap.size = w.heap.size + 1) := by rw [Hid, hW0]; simp
  have HCL : Hid (∀ W, Below W0.heap.size W0 W → W.heap[w.heap.size]? = some (.cells #[.int .u8 k, .slice a1 l1 c1, .slice a l2 c, .int .i64 lo, .bool ls, .int .i64 hi, .bool hs, .bool op] 28 (0, 0)) ∧ Below w.heap.size w W ∧ w.heap.size < W.heap.size) := by
    intro W hW
    have := HZ0.out
    have := hW.size
    exact ⟨(hW.block _ (by omega)).trans HK0.out, HB0.out.trans (hW.mono HB0.out.size), by omega⟩
  have HGX : Hid (∀ W, Below w.heap.size w W → Calls Tryz.prog 15 #[.agg #[.int .u8 k, .slice a1 l1 c1, .slice a l2 c, .int .i64 lo, .bool ls, .int .i64 hi, .bool hs, .bool op]] W fun e w' => e = .returned (.bool (decide (2000 < sizeX n t 2000))) ∧ Below W.heap.size W w') := fun W h => great11_any m n t _ W (HX.out.up h h.size)
  have HGN : Hid (∀ W, Below w.heap.size w W → Calls Tryz.prog 16 #[.slice na l.length nc] W fun e w' => e = .returned (.bool (greatN l)) ∧ w' = W) := fun W h => greatNames12_any l _ W (HN.out.up h h.size)
  have HG0 := Lib.hid (HGX.out W0 HB0.out)
  rw [hW0] at HG0
  clear hr hn hx hw hb hW0
  go_enter Tryz.func3, Tryz.ntmps3
  go_wp2_with fail
  refine HG0.out.mono ?_
  rintro e w2 ⟨rfl, hb2⟩
  rw [HW0.out] at hb2
  have HB02 := Lib.hid hb2
  clear hb2 HG0 HGX
  obtain ⟨hk2, hbw2, hlt2⟩ := HCL.out w2 HB02.out
  have HB2 := Lib.hid hbw2
  have HK2 := Lib.hid hk2
  clear hk2 hbw2
  cases qg : decide (2000 < sizeX n t 2000) with
  | true =>
    go_wp2_with fail
    all_goals go_ret
    all_goals exact ⟨rfl, HB2.out⟩
  | false =>
    have HTX : Hid (tX n t ≤ 2000) := small_ofP HBD.out qg
    clear qg
    go_wp2_with fail
    refine (HGN.out w2 HB2.out).mono ?_
    rintro e w3 ⟨rfl, rfl⟩
    cases qn : greatN l with
    | true =>
      go_wp2_with fail
      all_goals go_ret
      all_goals exact ⟨rfl, HB2.out⟩
    | false =>
      have HSM : Hid (∀ s ∈ l, s.size ≤ 1048576) := greatN_not qn HW.out
      clear qn
      have hk2 := HK2.out
      have x0 := Lib.cell_of_heap hk2 0
      have x1 := Lib.cell_of_heap hk2 1
      have x2 := Lib.cell_of_heap hk2 2
      have x3 := Lib.cell_of_heap hk2 3
      have x4 := Lib.cell_of_heap hk2 4
      have x5 := Lib.cell_of_heap hk2 5
      have x6 := Lib.cell_of_heap hk2 6
      have x7 := Lib.cell_of_heap hk2 7
      simp only [List.getElem?_toArray, List.getElem?_cons_zero, List.getElem?_cons_succ] at x0 x1 x2 x3 x4 x5 x6 x7
      have HTW := Lib.hid (twin17_any m n t _ w3 (Nat.le_trans HTX.out (by omega)) (HX.out.up HB2.out HB2.out.size))
      clear hk2
      go_wp2_with fail
      refine HTW.out.mono ?_
      rintro e w4 ⟨⟨v4, rfl, hx4⟩, hb4⟩
      obtain ⟨k3, p3, q3, d3, a3, l3, c3, lo3, ls3, hi3, hs3, op3, rfl⟩ := hx4.shape
      have HX4 := Lib.hid hx4.real
      have HB04 := Lib.hid (HB02.out.trans (hb4.mono HB02.out.size))
      clear hx4 hb4 x0 x1 x2 x3 x4 x5 x6 x7 hlt2 HTW
      obtain ⟨w5, hw5⟩ : ∃ w5, w5 = w4.alloc (.cells #[.int .u8 k3, .slice p3 q3 d3, .slice a3 l3 c3, .int .i64 lo3, .bool ls3, .int .i64 hi3, .bool hs3, .bool op3] 28) := ⟨_, rfl⟩
      have hb45 : Below w4.heap.size w4 w5 := by rw [hw5]; exact (Below.refl _ _).alloc (Nat.le_refl _) _
      have HB05 := Lib.hid (HB04.out.trans (hb45.mono HB04.out.size))
      have HX5 := Lib.hid (HX4.out.up hb45 (Nat.le_refl _))
      have HK5 : Hid (w5.heap[w4.heap.size]? = some (.cells #[.int .u8 k3, .slice p3 q3 d3, .slice a3 l3 c3, .int .i64 lo3, .bool ls3, .int .i64 hi3, .bool hs3, .bool op3] 28 (0, 0))) := by rw [Hid, hw5]; exact hp_top rfl
      have HZ45 : Hid (w4.heap.size ≤ w5.heap.size) := hb45.size
      have HW5 := Lib.hid hw5.symm
      have HB5 := Lib.hid (HCL.out w5 HB05.out).2.1
      obtain ⟨S, hS⟩ : ∃ S, S = byt (textR l n t) := ⟨_, rfl⟩
      obtain ⟨cc, hcc⟩ : ∃ cc, cc = checkR l n t := ⟨_, rfl⟩
      have HPR1 : Hid (∀ v W, Rdy W → NRep W W.heap.size (.slice na l.length nc) l → XRep W W.heap.size m n t v → Calls Tryz.prog 18 #[.slice na l.length nc, v] W fun e w' => e = .returned (.tuple #[.string S, .int .i64 cc]) ∧ Below W.heap.size W w') := fun v W h1 h2 h3 => by
        rw [hS, hcc]; exact print18_any l _ HSM.out m n t v W h1 h2 h3 (Nat.le_trans HTX.out (by omega))
      have HPR2 : Hid (∀ v W, Rdy W → NRep W W.heap.size (.slice na l.length nc) l → XRep W W.heap.size m n t v → Calls Tryz.prog 19 #[.slice na l.length nc, v] W fun e w' => e = .returned (.tuple #[.string S, .int .i64 cc]) ∧ Below W.heap.size W w') := fun v W h1 h2 h3 => by
        rw [hS, hcc]; exact print19_any l _ HSM.out m n t v W h1 h2 h3 (Nat.le_trans HTX.out (by omega))
      clear hS hcc
      have HP1 := Lib.hid (HPR1.out _ w5 (HR.out.below HB5.out) (HN.out.up HB5.out HB5.out.size) (HX5.out.up (Below.refl _ _) HZ45.out))
      have hk5 := HK5.out
      have y0 := Lib.cell_of_heap hk5 0
      have y1 := Lib.cell_of_heap hk5 1
      have y2 := Lib.cell_of_heap hk5 2
      have y3 := Lib.cell_of_heap hk5 3
      have y4 := Lib.cell_of_heap hk5 4
      have y5 := Lib.cell_of_heap hk5 5
      have y6 := Lib.cell_of_heap hk5 6
      have y7 := Lib.cell_of_heap hk5 7
      simp only [List.getElem?_toArray, List.getElem?_cons_zero, List.getElem?_cons_succ] at y0 y1 y2 y3 y4 y5 y6 y7
      have hlt5 : w4.heap.size < w5.heap.size := (Array.getElem?_eq_some_iff.1 hk5).1
      clear hw5 hb45 hk5
      go_wp2_with fail
      rw [HW5.out]
      refine HP1.out.mono ?_
      rintro e w6 ⟨rfl, hb6⟩
      have HB56 := Lib.hid hb6
      have HB06 := Lib.hid (HB05.out.trans (hb6.mono HB05.out.size))
      clear hb6 y0 y1 y2 y3 y4 y5 y6 y7 hlt5 HP1
      obtain ⟨hk6, hbw6, hlt6⟩ := HCL.out w6 HB06.out
      have HB6 := Lib.hid hbw6
      have x0 := Lib.cell_of_heap hk6 0
      have x1 := Lib.cell_of_heap hk6 1
      have x2 := Lib.cell_of_heap hk6 2
      have x3 := Lib.cell_of_heap hk6 3
      have x4 := Lib.cell_of_heap hk6 4
      have x5 := Lib.cell_of_heap hk6 5
      have x6 := Lib.cell_of_heap hk6 6
      have x7 := Lib.cell_of_heap hk6 7
      simp only [List.getElem?_toArray, List.getElem?_cons_zero, List.getElem?_cons_succ] at x0 x1 x2 x3 x4 x5 x6 x7
      clear hk6 hbw6
      have HP2 := Lib.hid (HPR2.out _ w6 (HR.out.below HB6.out) (HN.out.up HB6.out HB6.out.size) (HX.out.up HB6.out HB6.out.size))
      go_wp2_with fail
      refine HP2.out.mono ?_
      rintro e w7 ⟨rfl, hb7⟩
      have HB57 := Lib.hid (HB56.out.trans (hb7.mono HB56.out.size))
      have HB07 := Lib.hid (HB06.out.trans (hb7.mono HB06.out.size))
      clear hb7 x0 x1 x2 x3 x4 x5 x6 x7 hlt6 HP2
      obtain ⟨hk7, hbw7, hlt7⟩ := HCL.out w7 HB07.out
      have HB7 := Lib.hid hbw7
      have x0 := Lib.cell_of_heap hk7 0
      have x1 := Lib.cell_of_heap hk7 1
      have x2 := Lib.cell_of_heap hk7 2
      have x3 := Lib.cell_of_heap hk7 3
      have x4 := Lib.cell_of_heap hk7 4
      have x5 := Lib.cell_of_heap hk7 5
      have x6 := Lib.cell_of_heap hk7 6
      have x7 := Lib.cell_of_heap hk7 7
      simp only [List.getElem?_toArray, List.getElem?_cons_zero, List.getElem?_cons_succ] at x0 x1 x2 x3 x4 x5 x6 x7
      have hk57 := (HB57.out.block w4.heap.size ((Array.getElem?_eq_some_iff.1 HK5.out).1)).trans HK5.out
      have y0 := Lib.cell_of_heap hk57 0
      have y1 := Lib.cell_of_heap hk57 1
      have y2 := Lib.cell_of_heap hk57 2
      have y3 := Lib.cell_of_heap hk57 3
      have y4 := Lib.cell_of_heap hk57 4
      have y5 := Lib.cell_of_heap hk57 5
      have y6 := Lib.cell_of_heap hk57 6
      have y7 := Lib.cell_of_heap hk57 7
      simp only [List.getElem?_toArray, List.getElem?_cons_zero, List.getElem?_cons_succ] at y0 y1 y2 y3 y4 y5 y6 y7
      have hlt57 : w4.heap.size < w7.heap.size := (Array.getElem?_eq_some_iff.1 hk57).1
      have HSA := Lib.hid (same20_any m m n n t t _ _ w7 (HX5.out.up (HB57.out.mono HZ45.out) (Nat.le_trans HZ45.out HB57.out.size)) (HX.out.up HB7.out HB7.out.size))
      clear hk7 hbw7 hk57
      go_wp2_with fail
      refine HSA.out.mono ?_
      rintro e w8 ⟨⟨b, rfl, hb0⟩, hb8⟩
      have hbt : b = true := hb0.2 (by first | trivial | rfl)
      subst hbt
      have HB8 := Lib.hid (HB7.out.trans (hb8.mono HB7.out.size))
      clear hb8 hb0
      go_wp2_with fail
      all_goals go_ret
      all_goals exact ⟨rfl, HB8.out⟩
end Go.Proofs.YtpgdplmndnopbaaGreatDoor
