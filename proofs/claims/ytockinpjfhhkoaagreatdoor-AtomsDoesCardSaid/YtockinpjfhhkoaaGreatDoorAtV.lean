/- zone.Make walked. (Printed by gen_atv.py.) -/
import Derived.StillTailTactics
import Derived.Deep.Cut
import Derived.Deep.RegionHeld
import Derived.Test.YtockinpjfhhkoaaGreatDoorMiD
import Derived.Test.YtockinpjfhhkoaaGreatDoorMiC
namespace Go.Proofs.YtockinpjfhhkoaaGreatDoor
open Go.RowKit

/-- A span that gives two bounds that stand by themselves. -/
def SideOk (s : Spn) (x y : Int) : Prop := nearS s ∧ spanB s = true ∧ lowB s = x ∧ highB s = y ∧ x ≤ noneB ∧ y ≤ noneB ∧ badD [1, x, y, 1] = false ∧ closeD 2 [1, x, y, 1] = some [1, x, y, 1]
theorem btw88_ok {g c : Nat} {lo hi x y : Int} {ls hs op : Bool} {w : World} (h : RowB w g (topD 2)) (hs0 : SideOk ⟨lo, ls, hi, hs, op⟩ x y) :
    Calls Tryz.prog 88 #[.agg #[.int .i64 2, .slice (some ⟨g, 0, none⟩) 4 c], .int .i64 1, .agg #[.int .i64 lo, .bool ls, .int .i64 hi, .bool hs, .bool op]] w fun e w' =>
      (∃ g' c', e = .returned (.tuple #[.agg #[.int .i64 2, .slice (some ⟨g', 0, none⟩) 4 c'], .int .i64 0]) ∧ w.heap.size ≤ g' ∧ RowB w' g' [1, x, y, 1]) ∧ Below w.heap.size w w' := by
  obtain ⟨h1, h2, rfl, rfl, h5, h6, h7, h8⟩ := hs0
  have hw : withD (topD 2) [(1, lowB ⟨lo, ls, hi, hs, op⟩), (1 * 2, highB ⟨lo, ls, hi, hs, op⟩)] = [1, lowB ⟨lo, ls, hi, hs, op⟩, highB ⟨lo, ls, hi, hs, op⟩, 1] := by
    rw [topD2]
    show [1, min noneB _, min noneB _, 1] = _
    rw [Int.min_eq_right h5, Int.min_eq_right h6]
  have hc := between88_any (n := 2) (i := 1) (c := c) h (topD_len 2) (by decide) (by decide) (by decide) (by decide) h1 h2 (by rw [hw]; exact h7)
  rw [hw, h8] at hc
  exact hc
/-- The matrix so far. -/
def mkD (x0 y0 x1 y1 : Int) : Nat → List Int
  | 0 => topD 3
  | 1 => ((topD 3).set 1 x0).set 3 y0
  | _ => ((((topD 3).set 1 x0).set 3 y0).set 2 x1).set 6 y1
theorem mkD_len (x0 y0 x1 y1 : Int) (k : Nat) : (mkD x0 y0 x1 y1 k).length = 9 := by
  match k with
  | 0 | 1 | _ + 2 => simp [mkD, topD]
theorem mkD_succ {x0 y0 x1 y1 : Int} {k : Nat} (h : k < 2) : mkD x0 y0 x1 y1 (k + 1) = ((mkD x0 y0 x1 y1 k).set (k + 1) (if k = 0 then x0 else x1)).set (3 * (k + 1)) (if k = 0 then y0 else y1) := by
  match k, h with
  | 0, _ | 1, _ => rfl
theorem mkD_end (x0 y0 x1 y1 x2 y2 : Int) : ((mkD x0 y0 x1 y1 2).set 5 x2).set 7 y2 = [1, x0, x1, y0, 1, x2, y1, y2, 1] := by
  show ((((((topD 3).set 1 x0).set 3 y0).set 2 x1).set 6 y1).set 5 x2).set 7 y2 = _
  rw [topD3]; rfl
theorem errs_in {w : World} {b : Nat} {x y z : Int} {t : TypeId} (h : w.heap[b]? = some (.cells #[.int .i64 x, .int .i64 y, .int .i64 z] t (0, 0))) : ErrR w b [x, y, z] := by
  refine ⟨(Array.getElem?_eq_some_iff.1 h).1, fun k hk => ?_⟩
  match k, hk with
  | 0, _ | 1, _ | 2, _ => rw [Lib.cell_of_heap h]; rfl
theorem belA' {w w1 : World} (h : Below w.heap.size w w1) (o : Obj) : Below w.heap.size w (w1.alloc o) := h.alloc h.size o
theorem belS {w w1 w2 : World} (h : Below w.heap.size w w1) (k : Below w1.heap.size w1 w2) : Below w.heap.size w w2 := h.trans (k.mono h.size)
set_option maxRecDepth 100000 in
set_option maxHeartbeats 16000000 in
theorem make42_any {lo0 hi0 x0 y0 lo1 hi1 x1 y1 lo2 hi2 x2 y2 : Int} {ls0 hs0 op0 ls1 hs1 op1 ls2 hs2 op2 : Bool} (w : World) (h0 : SideOk ⟨lo0, ls0, hi0, hs0, op0⟩ x0 y0) (h1 : SideOk ⟨lo1, ls1, hi1, hs1, op1⟩ x1 y1) (h2 : SideOk ⟨lo2, ls2, hi2, hs2, op2⟩ x2 y2)
    (hbd : badD [1, x0, x1, y0, 1, x2, y1, y2, 1] = false) (hcl : closeD 3 [1, x0, x1, y0, 1, x2, y1, y2, 1] = some [1, x0, x1, y0, 1, x2, y1, y2, 1]) :
    Calls Tryz.prog 42 #[.agg #[.int .i64 lo0, .bool ls0, .int .i64 hi0, .bool hs0, .bool op0], .agg #[.int .i64 lo1, .bool ls1, .int .i64 hi1, .bool hs1, .bool op1], .agg #[.int .i64 lo2, .bool ls2, .int .i64 hi2, .bool hs2, .bool op2]] w fun e w' => e = .returned (.tuple #[.agg (zonD [1, x0, x1, y0, 1, x2, y1, y2, 1]), .int .i64 0]) ∧ Below w.heap.size w w' := by
  obtain ⟨W4, hW4⟩ : ∃ W4, W4 = (((w.alloc (.cells #[.int .i64 lo0, .bool ls0, .int .i64 hi0, .bool hs0, .bool op0] 45)).alloc (.cells #[.int .i64 lo1, .bool ls1, .int .i64 hi1, .bool hs1, .bool op1] 45)).alloc (.cells #[.int .i64 lo2, .bool ls2, .int .i64 hi2, .bool hs2, .bool op2] 45)).alloc (.cells #[.int .i64 0, .int .i64 0, .int .i64 0, .int .i64 0, .int .i64 0, .int .i64 0] 69) := ⟨_, rfl⟩
  have hb4 : Below w.heap.size w W4 := by rw [hW4]; exact (((belowA _ _).alloc (by simp) _).alloc (by simp; omega) _).alloc (by simp; omega) _
  have hz4 : W4.heap.size = w.heap.size + 4 := by rw [hW4]; simp
  have a0 : W4.heap[w.heap.size]? = some (.cells #[.int .i64 lo0, .bool ls0, .int .i64 hi0, .bool hs0, .bool op0] 45 (0, 0)) := by
    rw [hW4]; exact (Below.heap_alloc _ _ _ (by simp; omega)).trans ((Below.heap_alloc _ _ _ (by simp; omega)).trans ((Below.heap_alloc _ _ _ (by simp)).trans (hp_topA rfl)))
  have a1 : W4.heap[w.heap.size + 1]? = some (.cells #[.int .i64 lo1, .bool ls1, .int .i64 hi1, .bool hs1, .bool op1] 45 (0, 0)) := by
    rw [hW4]; exact (Below.heap_alloc _ _ _ (by simp)).trans ((Below.heap_alloc _ _ _ (by simp)).trans (hp_topA (by simp)))
  have a2 : W4.heap[w.heap.size + 1 + 1]? = some (.cells #[.int .i64 lo2, .bool ls2, .int .i64 hi2, .bool hs2, .bool op2] 45 (0, 0)) := by
    rw [hW4]; exact (Below.heap_alloc _ _ _ (by simp)).trans (hp_topA (by simp))
  have a3 : W4.heap[w.heap.size + 1 + 1 + 1]? = some (.cells #[.int .i64 0, .int .i64 0, .int .i64 0, .int .i64 0, .int .i64 0, .int .i64 0] 69 (0, 0)) := by
    rw [hW4]; exact hp_topA (by simp)
  have HBD := Lib.hid hbd
  have HCL := Lib.hid hcl
  have HS0 := Lib.hid h0
  have HS1 := Lib.hid h1
  have HS2 := Lib.hid h2
  have HW4 := Lib.hid hW4.symm
  have HB4 := Lib.hid hb4
  have HZ4 := Lib.hid hz4
  have HA0 := Lib.hid a0
  have HA1 := Lib.hid a1
  have HA2 := Lib.hid a2
  have HA3 := Lib.hid a3
  have HT3 : Hid (∀ W, Calls Tryz.prog 87 #[.int .i64 3] W fun e w' => (∃ g c, e = .returned (.tuple #[.agg #[.int .i64 3, .slice (some ⟨g, 0, none⟩) 9 c], .int .i64 0]) ∧ W.heap.size ≤ g ∧ RowB w' g (topD 3)) ∧ Below W.heap.size W w') := fun W => by
    have := top87_any (n := 3) W (by decide) (by decide)
    rw [topD_len] at this; exact this
  have HT2 : Hid (∀ W, Calls Tryz.prog 87 #[.int .i64 2] W fun e w' => (∃ g c, e = .returned (.tuple #[.agg #[.int .i64 2, .slice (some ⟨g, 0, none⟩) 4 c], .int .i64 0]) ∧ W.heap.size ≤ g ∧ RowB w' g (topD 2)) ∧ Below W.heap.size W w') := fun W => by
    have := top87_any (n := 2) W (by decide) (by decide)
    rw [topD_len] at this; exact this
  clear h0 h1 h2 hbd hcl hW4 hb4 hz4 a0 a1 a2 a3
  go_enter Tryz.func42, Tryz.ntmps42
  go_wp2_with fail
  rw [HW4.out]
  clear HW4
  refine (HT3.out W4).mono ?_
  rintro e w5 ⟨⟨g3, c3, rfl, hg3, hr3⟩, hb5⟩
  obtain ⟨P, hP⟩ : ∃ P, P = w5.heap.size := ⟨_, rfl⟩
  obtain ⟨W6, hW6⟩ : ∃ W6, W6 = w5.alloc (.cells #[.int .i64 3, .slice (some ⟨g3, 0, none⟩) 9 c3] 116) := ⟨_, rfl⟩
  have hm6 : W6.heap[P]? = some (.cells #[.int .i64 3, .slice (some ⟨g3, 0, none⟩) 9 c3] 116 (0, 0)) := by rw [hW6, hP]; exact hp_topA rfl
  have HP := Lib.hid hP
  have HG3 : Hid (w.heap.size + 4 ≤ g3 ∧ g3 < P) := ⟨by have := HZ4.out; omega, by rw [hP]; exact hr3.lt⟩
  have HR6 : Hid (RowB W6 g3 (topD 3)) := by rw [Hid, hW6]; exact hr3.alloc _
  have HB6 : Hid (Below W4.heap.size W4 W6) := by rw [Hid, hW6]; exact hb5.alloc hb5.size _
  have HW6 := Lib.hid hW6.symm
  have HP' : Hid (w5.heap.size = P) := hP.symm
  have HM6 := Lib.hid hm6
  clear hg3 hr3 hb5 hP hW6 hm6
  go_wp2_with fail
  rw [HW6.out, HP'.out]
  clear HW6
  refine (HT2.out W6).mono ?_
  rintro e w7 ⟨⟨g2, c2, rfl, hg2, hr2⟩, hb7⟩
  obtain ⟨Q, hQ⟩ : ∃ Q, Q = w7.heap.size := ⟨_, rfl⟩
  obtain ⟨W8, hW8⟩ : ∃ W8, W8 = w7.alloc (.cells #[.int .i64 2, .slice (some ⟨g2, 0, none⟩) 4 c2] 116) := ⟨_, rfl⟩
  have hm8 : W8.heap[Q]? = some (.cells #[.int .i64 2, .slice (some ⟨g2, 0, none⟩) 4 c2] 116 (0, 0)) := by rw [hW8, hQ]; exact hp_topA rfl
  have hb68 : Below W6.heap.size W6 W8 := by rw [hW8]; exact hb7.alloc hb7.size _
  have hPl := (Array.getElem?_eq_some_iff.1 HM6.out).1
  have hp8 : W8.heap[P]? = some (.cells #[.int .i64 3, .slice (some ⟨g3, 0, none⟩) 9 c3] 116 (0, 0)) := (hb68.block _ hPl).trans HM6.out
  have hb8 : Below W4.heap.size W4 W8 := HB6.out.trans (hb68.mono HB6.out.size)
  have HG2 : Hid (P < g2 ∧ g2 < Q) := ⟨by omega, by rw [hQ]; exact hr2.lt⟩
  have HR8 : Hid (RowB W8 g3 (topD 3)) := HR6.out.below hb68
  have HR82 : Hid (RowB W8 g2 (topD 2)) := by rw [Hid, hW8]; exact hr2.alloc _
  have HQ' : Hid (w7.heap.size = Q) := hQ.symm
  have HFH : Hid (∀ W, Bt g3 W8 W → W.heap[w.heap.size]? = some (.cells #[.int .i64 lo0, .bool ls0, .int .i64 hi0, .bool hs0, .bool op0] 45 (0, 0)) ∧ W.heap[w.heap.size + 1]? = some (.cells #[.int .i64 lo1, .bool ls1, .int .i64 hi1, .bool hs1, .bool op1] 45 (0, 0)) ∧ W.heap[w.heap.size + 1 + 1]? = some (.cells #[.int .i64 lo2, .bool ls2, .int .i64 hi2, .bool hs2, .bool op2] 45 (0, 0)) ∧ W.heap[w.heap.size + 1 + 1 + 1]? = some (.cells #[.int .i64 0, .int .i64 0, .int .i64 0, .int .i64 0, .int .i64 0, .int .i64 0] 69 (0, 0)) ∧ W.heap[P]? = some (.cells #[.int .i64 3, .slice (some ⟨g3, 0, none⟩) 9 c3] 116 (0, 0)) ∧ W.heap[Q]? = some (.cells #[.int .i64 2, .slice (some ⟨g2, 0, none⟩) 4 c2] 116 (0, 0)) ∧ RowB W g2 (topD 2) ∧ w.heap.size + 4 ≤ W.heap.size) := by
    intro W hW
    have hg3 := HG3.out
    have hg2 := HG2.out
    have hz := HZ4.out
    have hzz := hW.2.2.2.1
    have hsz := hb8.size
    exact ⟨hW.at ((hb8.block _ (by omega)).trans HA0.out) (by omega), hW.at ((hb8.block _ (by omega)).trans HA1.out) (by omega), hW.at ((hb8.block _ (by omega)).trans HA2.out) (by omega), hW.at ((hb8.block _ (by omega)).trans HA3.out) (by omega), hW.at hp8 (by omega), hW.at hm8 (by omega), HR82.out.agree (hW.2.2.2.2 g2 HR82.out.lt (by omega)), by omega⟩
  have HF : Hid (∀ W, Bt g3 W8 W → W.cell? ⟨w.heap.size, 0, none⟩ = some (.int .i64 lo0) ∧ W.cell? ⟨w.heap.size, 1, none⟩ = some (.bool ls0) ∧ W.cell? ⟨w.heap.size, 2, none⟩ = some (.int .i64 hi0) ∧ W.cell? ⟨w.heap.size, 3, none⟩ = some (.bool hs0) ∧ W.cell? ⟨w.heap.size, 4, none⟩ = some (.bool op0) ∧ W.cell? ⟨w.heap.size + 1, 0, none⟩ = some (.int .i64 lo1) ∧ W.cell? ⟨w.heap.size + 1, 1, none⟩ = some (.bool ls1) ∧ W.cell? ⟨w.heap.size + 1, 2, none⟩ = some (.int .i64 hi1) ∧ W.cell? ⟨w.heap.size + 1, 3, none⟩ = some (.bool hs1) ∧ W.cell? ⟨w.heap.size + 1, 4, none⟩ = some (.bool op1) ∧ W.cell? ⟨w.heap.size + 1 + 1, 0, none⟩ = some (.int .i64 lo2) ∧ W.cell? ⟨w.heap.size + 1 + 1, 1, none⟩ = some (.bool ls2) ∧ W.cell? ⟨w.heap.size + 1 + 1, 2, none⟩ = some (.int .i64 hi2) ∧ W.cell? ⟨w.heap.size + 1 + 1, 3, none⟩ = some (.bool hs2) ∧ W.cell? ⟨w.heap.size + 1 + 1, 4, none⟩ = some (.bool op2) ∧ W.cell? ⟨P, 0, none⟩ = some (.int .i64 3) ∧ W.cell? ⟨P, 1, none⟩ = some (.slice (some ⟨g3, 0, none⟩) 9 c3) ∧ W.cell? ⟨Q, 0, none⟩ = some (.int .i64 2) ∧ W.cell? ⟨Q, 1, none⟩ = some (.slice (some ⟨g2, 0, none⟩) 4 c2) ∧ w.heap.size < W.heap.size ∧ w.heap.size + 1 < W.heap.size ∧ w.heap.size + 1 + 1 < W.heap.size ∧ P < W.heap.size ∧ Q < W.heap.size) := by
    intro W hW
    obtain ⟨b0, b1, b2, b3, b4, b5, b6, b7⟩ := HFH.out W hW
    exact ⟨Lib.cell_of_heap b0 0, Lib.cell_of_heap b0 1, Lib.cell_of_heap b0 2, Lib.cell_of_heap b0 3, Lib.cell_of_heap b0 4, Lib.cell_of_heap b1 0, Lib.cell_of_heap b1 1, Lib.cell_of_heap b1 2, Lib.cell_of_heap b1 3, Lib.cell_of_heap b1 4, Lib.cell_of_heap b2 0, Lib.cell_of_heap b2 1, Lib.cell_of_heap b2 2, Lib.cell_of_heap b2 3, Lib.cell_of_heap b2 4, Lib.cell_of_heap b4 0, Lib.cell_of_heap b4 1, Lib.cell_of_heap b5 0, Lib.cell_of_heap b5 1, by omega, by omega, by omega, (Array.getElem?_eq_some_iff.1 b4).1, (Array.getElem?_eq_some_iff.1 b5).1⟩
  have HBW : Hid (Below w.heap.size w W8) := HB4.out.trans (hb8.mono HB4.out.size)
  have HW8 := Lib.hid hW8.symm
  have HK0 : Hid (∀ W, Bt g3 W8 W → Calls Tryz.prog 88 #[.agg #[.int .i64 2, .slice (some ⟨g2, 0, none⟩) 4 c2], .int .i64 1, .agg #[.int .i64 lo0, .bool ls0, .int .i64 hi0, .bool hs0, .bool op0]] W fun e w' => (∃ g' c', e = .returned (.tuple #[.agg #[.int .i64 2, .slice (some ⟨g', 0, none⟩) 4 c'], .int .i64 0]) ∧ W.heap.size ≤ g' ∧ RowB w' g' [1, x0, y0, 1]) ∧ Below W.heap.size W w') := fun W hW => btw88_ok (HFH.out W hW).2.2.2.2.2.2.1 HS0.out
  have HK1 : Hid (∀ W, Bt g3 W8 W → Calls Tryz.prog 88 #[.agg #[.int .i64 2, .slice (some ⟨g2, 0, none⟩) 4 c2], .int .i64 1, .agg #[.int .i64 lo1, .bool ls1, .int .i64 hi1, .bool hs1, .bool op1]] W fun e w' => (∃ g' c', e = .returned (.tuple #[.agg #[.int .i64 2, .slice (some ⟨g', 0, none⟩) 4 c'], .int .i64 0]) ∧ W.heap.size ≤ g' ∧ RowB w' g' [1, x1, y1, 1]) ∧ Below W.heap.size W w') := fun W hW => btw88_ok (HFH.out W hW).2.2.2.2.2.2.1 HS1.out
  have HK2 : Hid (∀ W, Bt g3 W8 W → Calls Tryz.prog 88 #[.agg #[.int .i64 2, .slice (some ⟨g2, 0, none⟩) 4 c2], .int .i64 1, .agg #[.int .i64 lo2, .bool ls2, .int .i64 hi2, .bool hs2, .bool op2]] W fun e w' => (∃ g' c', e = .returned (.tuple #[.agg #[.int .i64 2, .slice (some ⟨g', 0, none⟩) 4 c'], .int .i64 0]) ∧ W.heap.size ≤ g' ∧ RowB w' g' [1, x2, y2, 1]) ∧ Below W.heap.size W w') := fun W hW => btw88_ok (HFH.out W hW).2.2.2.2.2.2.1 HS2.out
  have HCO : Hid (∀ W b c (e0 : Int), ErrR W b [0, 0, 0] → e0 ≠ 0 → Calls Tryz.prog 89 #[.slice (some ⟨b, 0, none⟩) 3 c, .int .i64 e0] W fun e w' => e = .returned (.bool false) ∧ Hid (Below W.heap.size W w')) := by
    intro W b c e0 hE hne
    refine (contains89_any b c [0, 0, 0] e0 W hE (by decide) (by simp; exact fun h => hne h.symm)).mono ?_
    rintro e w' ⟨rfl, rfl⟩
    exact ⟨rfl, Below.refl _ _⟩
  clear hg2 hr2 hb7 hQ hW8 hm8 hb68 hPl hp8 hb8
  obtain ⟨P1, hP1⟩ : ∃ P1 : Hid (Bt g3 W8 W8), True := ⟨Bt.refl _ _, trivial⟩
  clear hP1
  go_upto_region 3 with fail
  rw [HW8.out, HQ'.out]
  clear HW8
  obtain ⟨xa0, xa1, xa2, xa3, xa4, xa5, xa6, xa7, xa8, xa9, xa10, xa11, xa12, xa13, xa14, xa15, xa16, xa17, xa18, xa19, xa20, xa21, xa22, xa23⟩ := HF.out W8 (Bt.refl _ _)
  go_wp2_with fail
  refine (HK2.out W8 (Bt.refl _ _)).mono ?_
  rintro e w9 ⟨⟨ga, ca, rfl, hga, hra⟩, hb9⟩
  have HC9 : Hid (Below W8.heap.size W8 w9) := hb9
  have HB9 : Hid (Bt g3 W8 w9) := .of_below HC9.out
  clear hga hra hb9 xa0 xa1 xa2 xa3 xa4 xa5 xa6 xa7 xa8 xa9 xa10 xa11 xa12 xa13 xa14 xa15 xa16 xa17 xa18 xa19 xa20 xa21 xa22 xa23
  obtain ⟨xb0, xb1, xb2, xb3, xb4, xb5, xb6, xb7, xb8, xb9, xb10, xb11, xb12, xb13, xb14, xb15, xb16, xb17, xb18, xb19, xb20, xb21, xb22, xb23⟩ := HF.out w9 HB9.out
  go_wp2_with fail
  refine (HK1.out _ (HB9.out.alloc _)).mono ?_
  rintro e w10 ⟨⟨gb, cb, rfl, hgb, hrb⟩, hb10⟩
  have HC10 : Hid (Below W8.heap.size W8 w10) := belS (belA' HC9.out _) hb10
  have HB10 : Hid (Bt g3 W8 w10) := .of_below HC10.out
  clear hgb hrb hb10 xb0 xb1 xb2 xb3 xb4 xb5 xb6 xb7 xb8 xb9 xb10 xb11 xb12 xb13 xb14 xb15 xb16 xb17 xb18 xb19 xb20 xb21 xb22 xb23
  obtain ⟨xc0, xc1, xc2, xc3, xc4, xc5, xc6, xc7, xc8, xc9, xc10, xc11, xc12, xc13, xc14, xc15, xc16, xc17, xc18, xc19, xc20, xc21, xc22, xc23⟩ := HF.out w10 HB10.out
  go_wp2_with fail
  refine (HK0.out _ (HB10.out.alloc _)).mono ?_
  rintro e w11 ⟨⟨gc, cc, rfl, hgc, hrc⟩, hb11⟩
  have HC11 : Hid (Below W8.heap.size W8 w11) := belS (belA' HC10.out _) hb11
  have HB11 : Hid (Bt g3 W8 w11) := .of_below HC11.out
  clear hgc hrc hb11 xc0 xc1 xc2 xc3 xc4 xc5 xc6 xc7 xc8 xc9 xc10 xc11 xc12 xc13 xc14 xc15 xc16 xc17 xc18 xc19 xc20 xc21 xc22 xc23
  go_wp2_with fail
  refine (HCO.out _ _ _ _ (errs_in (hp_topA (by simp))) (by decide)).mono ?_
  rintro e w12 ⟨rfl, hb12⟩
  have HC12 : Hid (Below W8.heap.size W8 w12) := belS (belA' (belA' HC11.out _) _) hb12.out
  have HB12 : Hid (Bt g3 W8 w12) := .of_below HC12.out
  clear hb12
  go_wp2_with fail
  refine (HCO.out _ _ _ _ (errs_in (hp_topA (by simp))) (by decide)).mono ?_
  rintro e w13 ⟨rfl, hb13⟩
  have HC13 : Hid (Below W8.heap.size W8 w13) := belS (belA' HC12.out _) hb13.out
  have HB13 : Hid (Bt g3 W8 w13) := .of_below HC13.out
  clear hb13
  obtain ⟨xd0, xd1, xd2, xd3, xd4, xd5, xd6, xd7, xd8, xd9, xd10, xd11, xd12, xd13, xd14, xd15, xd16, xd17, xd18, xd19, xd20, xd21, xd22, xd23⟩ := HF.out w13 HB13.out
  go_wp2_with fail
  refine (HK2.out _ HB13.out).mono ?_
  rintro e w14 ⟨⟨gd, cd, rfl, hgd, hrd⟩, hb14⟩
  have HC14 : Hid (Below W8.heap.size W8 w14) := belS HC13.out hb14
  have HB14 : Hid (Bt g3 W8 w14) := .of_below HC14.out
  have HR3 : Hid (RowB w14 g3 (topD 3)) := HR8.out.below HC14.out
  clear xd0 xd1 xd2 xd3 xd4 xd5 xd6 xd7 xd8 xd9 xd10 xd11 xd12 xd13 xd14 xd15 xd16 xd17 xd18 xd19 xd20 xd21 xd22 xd23
  obtain ⟨xe0, xe1, xe2, xe3, xe4, xe5, xe6, xe7, xe8, xe9, xe10, xe11, xe12, xe13, xe14, xe15, xe16, xe17, xe18, xe19, xe20, xe21, xe22, xe23⟩ := HF.out w14 HB14.out
  have HRD : Hid (∀ W, Below w14.heap.size w14 W → W.cell? ⟨gd, 1, none⟩ = some (.int .i64 x2) ∧ W.cell? ⟨gd, 2, none⟩ = some (.int .i64 y2) ∧ gd < W.heap.size) := by
    intro W hW
    have h := hrd.below hW
    exact ⟨h.cellD 1 (by simp), h.cellD 2 (by simp), h.lt⟩
  have HRDD := Lib.hid hrd
  have HGD : Hid (g3 < w14.heap.size ∧ g3 ≠ gd) := by have h1 := HG3.out; have h2 := HB13.out.2.2.2.1; have h3 := HR8.out.lt; have h4 := hb14.size; exact ⟨by omega, by omega⟩
  clear hgd hrd hb14
  go_wp2_with fail
  clear xe0 xe1 xe2 xe3 xe4 xe5 xe6 xe7 xe8 xe9 xe10 xe11 xe12 xe13 xe14 xe15 xe16 xe17 xe18 xe19 xe20 xe21 xe22 xe23
  obtain ⟨W15, hW15⟩ : ∃ W15, W15 = (w14.alloc (.cells #[.int .i64 2, .slice (some ⟨gd, 0, none⟩) 4 cd] 116)).alloc (.cells #[.int .i64 lo0, .bool ls0, .int .i64 hi0, .bool hs0, .bool op0, .int .i64 lo1, .bool ls1, .int .i64 hi1, .bool hs1, .bool op1] 45) := ⟨_, rfl⟩
  have hb15 : Below w14.heap.size w14 W15 := by rw [hW15]; exact (belowA _ _).alloc (by simp) _
  have HMD : Hid (W15.heap[w14.heap.size]? = some (.cells #[.int .i64 2, .slice (some ⟨gd, 0, none⟩) 4 cd] 116 (0, 0))) := by
    rw [Hid, hW15]; exact (Below.heap_alloc _ _ _ (by simp)).trans (hp_topA rfl)
  have HBS : Hid (W15.heap[w14.heap.size + 1]? = some (.cells #[.int .i64 lo0, .bool ls0, .int .i64 hi0, .bool hs0, .bool op0, .int .i64 lo1, .bool ls1, .int .i64 hi1, .bool hs1, .bool op1] 45 (0, 0))) := by
    rw [Hid, hW15]; exact hp_topA (by simp)
  have HB15 : Hid (Bt g3 W8 W15) := HB14.out.trans (.of_below hb15)
  have HR15 : Hid (RowB W15 g3 (topD 3)) := HR3.out.below hb15
  have HRD15 : Hid (RowB W15 gd [1, x2, y2, 1]) := HRDD.out.below hb15
  have HW15 := Lib.hid hW15.symm
  rw [HW15.out]
  clear HW15 hW15 hb15
  go_loopw [72] (fun i wr => ∃ k : Nat, k ≤ 2 ∧ i = .int .i64 k ∧ Hid (RowB wr g3 (mkD x0 y0 x1 y1 k) ∧ Bt g3 W15 wr)) (fun i _ => 2 - (intOf i).toNat)
  case atStart => exact ⟨0, by omega, rfl, HR15.out, Bt.refl _ _⟩
  case round =>
    obtain ⟨k, hk, rfl, HST⟩ := hrel
    have HBR : Hid (Bt g3 W8 wr) := HB15.out.trans HST.out.2
    by_cases hlt : k < 2
    · have hbs := HST.out.2.at HBS.out (by have := HGD.out; omega)
      have HSEL : ∃ lo ls hi hs op x y, (wr.cell? ⟨w14.heap.size + 1, k * 5, none⟩ = some (.int .i64 lo) ∧ wr.cell? ⟨w14.heap.size + 1, k * 5 + 1, none⟩ = some (.bool ls) ∧ wr.cell? ⟨w14.heap.size + 1, k * 5 + 2, none⟩ = some (.int .i64 hi) ∧ wr.cell? ⟨w14.heap.size + 1, k * 5 + 3, none⟩ = some (.bool hs) ∧ wr.cell? ⟨w14.heap.size + 1, k * 5 + 4, none⟩ = some (.bool op)) ∧ (∀ W, Bt g3 W8 W → Calls Tryz.prog 88 #[.agg #[.int .i64 2, .slice (some ⟨g2, 0, none⟩) 4 c2], .int .i64 1, .agg #[.int .i64 lo, .bool ls, .int .i64 hi, .bool hs, .bool op]] W fun e w' => (∃ g' c', e = .returned (.tuple #[.agg #[.int .i64 2, .slice (some ⟨g', 0, none⟩) 4 c'], .int .i64 0]) ∧ W.heap.size ≤ g' ∧ RowB w' g' [1, x, y, 1]) ∧ Below W.heap.size W w') ∧ mkD x0 y0 x1 y1 (k + 1) = ((mkD x0 y0 x1 y1 k).set (k + 1) x).set (3 * (k + 1)) y := by
        match k, hlt with
        | 0, _ => exact ⟨lo0, ls0, hi0, hs0, op0, x0, y0, ⟨Lib.cell_of_heap hbs 0, Lib.cell_of_heap hbs 1, Lib.cell_of_heap hbs 2, Lib.cell_of_heap hbs 3, Lib.cell_of_heap hbs 4⟩, HK0.out, rfl⟩
        | 1, _ => exact ⟨lo1, ls1, hi1, hs1, op1, x1, y1, ⟨Lib.cell_of_heap hbs 5, Lib.cell_of_heap hbs 6, Lib.cell_of_heap hbs 7, Lib.cell_of_heap hbs 8, Lib.cell_of_heap hbs 9⟩, HK1.out, rfl⟩
      obtain ⟨lo, ls, hi, hs, op, x, y, ⟨e0, e1, e2, e3, e4⟩, hkk, hmk⟩ := HSEL
      have HKK := Lib.hid hkk
      have hbl := (Array.getElem?_eq_some_iff.1 hbs).1
      obtain ⟨p1, hp1⟩ : ∃ p1, k + 1 = p1 := ⟨_, rfl⟩
      obtain ⟨q1, hq1⟩ : ∃ q1, 3 * p1 = q1 := ⟨_, rfl⟩
      rw [hp1, hq1] at hmk
      have HMK := Lib.hid hmk
      have hwp : IntKind.i64.wrap ((k : Int) + 1) = (p1 : Int) := by rw [show (k : Int) + 1 = (p1 : Int) by omega]; exact IntWalk.i64_in _ (by omega)
      have hwp' : wrap64 ((k : Int) + 1) = (p1 : Int) := by rw [show (k : Int) + 1 = (p1 : Int) by omega]; exact IntWalk.wrap64_in _ (by omega)
      have hwq : IntKind.i64.wrap (3 * (p1 : Int)) = (q1 : Int) := by rw [show 3 * (p1 : Int) = (q1 : Int) by omega]; exact IntWalk.i64_in _ (by omega)
      have hwq' : wrap64 (3 * (p1 : Int)) = (q1 : Int) := by rw [show 3 * (p1 : Int) = (q1 : Int) by omega]; exact IntWalk.wrap64_in _ (by omega)
      have hk2 : (k : Int) < 2 := by omega
      have hk0 : (0 : Int) ≤ (k : Int) := by omega
      have hp9 : (p1 : Int) < 9 := by omega
      have hp0 : (0 : Int) ≤ (p1 : Int) := by omega
      have hq9 : (q1 : Int) < 9 := by omega
      have hq0 : (0 : Int) ≤ (q1 : Int) := by omega
      have HPN : Hid (p1 = k + 1 ∧ q1 < 9 ∧ p1 < 9) := ⟨hp1.symm, by omega, by omega⟩
      obtain ⟨xf0, xf1, xf2, xf3, xf4, xf5, xf6, xf7, xf8, xf9, xf10, xf11, xf12, xf13, xf14, xf15, xf16, xf17, xf18, xf19, xf20, xf21, xf22, xf23⟩ := HF.out wr HBR.out
      clear hbs hkk hmk hp1 hq1
      go_wp2_with fail
      refine (HKK.out _ (HBR.out.alloc _)).mono ?_
      rintro e w16 ⟨⟨ge, ce, rfl, hge, hre⟩, hb16⟩
      clear xf0 xf1 xf2 xf3 xf4 xf5 xf6 xf7 xf8 xf9 xf10 xf11 xf12 xf13 xf14 xf15 xf16 xf17 xf18 xf19 xf20 xf21 xf22 xf23 e0 e1 e2 e3 e4 hbl
      obtain ⟨W17, hW17⟩ : ∃ W17, W17 = w16.alloc (.cells #[.int .i64 2, .slice (some ⟨ge, 0, none⟩) 4 ce] 116) := ⟨_, rfl⟩
      have HB17 : Hid (Bt g3 W15 W17) := by rw [Hid, hW17]; exact ((HST.out.2.alloc _).trans (.of_below hb16)).alloc _
      have HR17 : Hid (RowB W17 g3 (mkD x0 y0 x1 y1 k)) := by rw [Hid, hW17]; exact ((HST.out.1.alloc _).below hb16).alloc _
      have hrow17 : RowB W17 ge [1, x, y, 1] := by rw [hW17]; exact hre.alloc _
      have hm17 : W17.heap[w16.heap.size]? = some (.cells #[.int .i64 2, .slice (some ⟨ge, 0, none⟩) 4 ce] 116 (0, 0)) := by rw [hW17]; exact hp_topA rfl
      have hgg : g3 ≠ ge ∧ g3 ≠ w16.heap.size := by
        have h1 := HST.out.1.lt
        have h2 := hb16.size
        simp at hge h2
        exact ⟨by omega, by omega⟩
      have hS0 : (W17.drew.cell? ⟨P, 1, none⟩ = some (.slice (some ⟨g3, 0, none⟩) 9 c3) ∧ W17.drew.cell? ⟨w16.heap.size, 1, none⟩ = some (.slice (some ⟨ge, 0, none⟩) 4 ce) ∧ W17.drew.cell? ⟨ge, 1, none⟩ = some (.int .i64 x) ∧ W17.drew.cell? ⟨ge, 2, none⟩ = some (.int .i64 y) ∧ P < W17.drew.heap.size ∧ w16.heap.size < W17.drew.heap.size ∧ ge < W17.drew.heap.size ∧ g3 < W17.drew.heap.size) := by
        obtain ⟨_, _, _, _, b4, _, _, _⟩ := HFH.out W17 (HB15.out.trans HB17.out)
        exact ⟨Lib.cell_of_heap (w := W17.drew) b4 1, Lib.cell_of_heap (w := W17.drew) hm17 1, (hrow17.agree (w' := W17.drew) rfl).cellD 1 (by simp), (hrow17.agree (w' := W17.drew) rfl).cellD 2 (by simp), (Array.getElem?_eq_some_iff.1 b4).1, (Array.getElem?_eq_some_iff.1 hm17).1, hrow17.lt, HR17.out.lt⟩
      have HS0 := Lib.hid hS0
      have HGG := Lib.hid hgg
      have hfz : W17.drew.frozen? ⟨g3, p1, none⟩ = false := HR17.out.frozen p1
      have hcg : W17.drew.cell? ⟨g3, p1, none⟩ = _ := HR17.out.cellD p1 (by rw [mkD_len]; exact HPN.out.2.2)
      have hgl : g3 < W17.drew.heap.size := HR17.out.lt
      have HW17 := Lib.hid hW17.symm
      have HPG : Hid (g3 ≠ P) := by have := HG3.out; rw [Hid]; omega
      clear hge hre hb16 hrow17 hm17 hgg hS0 hW17
      go_upto_region 15 with fail
      rw [HW17.out]
      clear HW17
      refine wp_region_held_drew (S := fun W => W.cell? ⟨P, 1, none⟩ = some (.slice (some ⟨g3, 0, none⟩) 9 c3) ∧ W.cell? ⟨w16.heap.size, 1, none⟩ = some (.slice (some ⟨ge, 0, none⟩) 4 ce) ∧ W.cell? ⟨ge, 1, none⟩ = some (.int .i64 x) ∧ W.cell? ⟨ge, 2, none⟩ = some (.int .i64 y) ∧ P < W.heap.size ∧ w16.heap.size < W.heap.size ∧ ge < W.heap.size ∧ g3 < W.heap.size) (by kernel_rfl) HS0.out (fun hHeld => ?_)
      refine wpAnyH_take (i := 0) (v := ?_) rfl (by kernel_rfl) (by kernel_rfl) (by kernel_rfl) (fun _ _ _ h => h) (Or.inl ⟨by kernel_rfl, ?_⟩) (by assumption) ?_
      rotate_left
      · (intro w hSw; (try dsimp only at hSw); go_simp)
        try with_reducible rfl
      try simp only [Act.put, List.setIfInBounds_toArray, List.set_cons_zero, List.set_cons_succ, List.getElem_toArray, List.getElem_cons_zero]
      refine wpAnyH_take (i := 1) (v := ?_) rfl (by kernel_rfl) (by kernel_rfl) (by kernel_rfl) (fun _ _ _ h => h) (Or.inl ⟨by kernel_rfl, ?_⟩) (by assumption) ?_
      rotate_left
      · (intro w hSw; (try dsimp only at hSw); go_simp)
        try with_reducible rfl
      try simp only [Act.put, List.setIfInBounds_toArray, List.set_cons_zero, List.set_cons_succ, List.getElem_toArray, List.getElem_cons_zero, List.getElem_cons_succ]
      refine wpAnyH_take (i := 2) (v := ?_) rfl (by kernel_rfl) (by kernel_rfl) (by kernel_rfl) (fun _ _ _ h => h) (Or.inl ⟨by kernel_rfl, ?_⟩) (by assumption) ?_
      rotate_left
      · (intro w hSw; (try dsimp only at hSw); go_simp)
        try with_reducible rfl
      try simp only [Act.put, List.setIfInBounds_toArray, List.set_cons_zero, List.set_cons_succ, List.getElem_toArray, List.getElem_cons_zero, List.getElem_cons_succ]
      refine wpAnyH_take (i := 3) (v := ?_) rfl (by kernel_rfl) (by kernel_rfl) (by kernel_rfl) (fun _ _ _ h => h) (Or.inl ⟨by kernel_rfl, ?_⟩) (by assumption) ?_
      rotate_left
      · (intro w hSw; (try dsimp only at hSw); go_simp)
        try with_reducible rfl
      try simp only [Act.put, List.setIfInBounds_toArray, List.set_cons_zero, List.set_cons_succ, List.getElem_toArray, List.getElem_cons_zero, List.getElem_cons_succ]
      refine wpAnyH_take (i := 4) (v := ?_) rfl (by kernel_rfl) (by kernel_rfl) (by kernel_rfl) (fun _ _ _ h => h) (Or.inl ⟨by kernel_rfl, ?_⟩) (by assumption) ?_
      rotate_left
      · (intro w hSw; (try dsimp only at hSw); go_simp)
        try with_reducible rfl
      try simp only [Act.put, List.setIfInBounds_toArray, List.set_cons_zero, List.set_cons_succ, List.getElem_toArray, List.getElem_cons_zero, List.getElem_cons_succ]
      refine wpAnyH_take (i := 5) (v := ?_) rfl (by kernel_rfl) (by kernel_rfl) (by kernel_rfl) (fun _ _ _ h => h) (Or.inl ⟨by kernel_rfl, ?_⟩) (by assumption) ?_
      rotate_left
      · (intro w hSw; (try dsimp only at hSw); go_simp)
        try with_reducible rfl
      try simp only [Act.put, List.setIfInBounds_toArray, List.set_cons_zero, List.set_cons_succ, List.getElem_toArray, List.getElem_cons_zero, List.getElem_cons_succ]
      refine wpAnyH_take (i := 6) (v := ?_) rfl (by kernel_rfl) (by kernel_rfl) (by kernel_rfl) (fun _ _ _ h => h) (Or.inl ⟨by kernel_rfl, ?_⟩) (by assumption) ?_
      rotate_left
      · (intro w hSw; (try dsimp only at hSw); go_simp)
        try with_reducible rfl
      try simp only [Act.put, List.setIfInBounds_toArray, List.set_cons_zero, List.set_cons_succ, List.getElem_toArray, List.getElem_cons_zero, List.getElem_cons_succ]
      refine wpAnyH_take (i := 7) (v := ?_) rfl (by kernel_rfl) (by kernel_rfl) (by kernel_rfl) (fun _ _ _ h => h) (Or.inl ⟨by kernel_rfl, ?_⟩) (by assumption) ?_
      rotate_left
      · (intro w hSw; (try dsimp only at hSw); go_simp)
        try with_reducible rfl
      try simp only [Act.put, List.setIfInBounds_toArray, List.set_cons_zero, List.set_cons_succ, List.getElem_toArray, List.getElem_cons_zero, List.getElem_cons_succ]
      refine wpAnyH_take (i := 8) (v := ?_) rfl (by kernel_rfl) (by kernel_rfl) (by kernel_rfl) (fun _ _ _ h => h) (Or.inl ⟨by kernel_rfl, ?_⟩) (by assumption) ?_
      rotate_left
      · (intro w hSw; (try dsimp only at hSw); go_simp)
        try with_reducible rfl
      try simp only [Act.put, List.setIfInBounds_toArray, List.set_cons_zero, List.set_cons_succ, List.getElem_toArray, List.getElem_cons_zero, List.getElem_cons_succ]
      refine wpAnyH_take (i := 9) (v := ?_) rfl (by kernel_rfl) (by kernel_rfl) (by kernel_rfl) (fun _ _ _ h => h) (Or.inl ⟨by kernel_rfl, ?_⟩) (by assumption) ?_
      rotate_left
      · (intro w hSw; (try dsimp only at hSw); go_simp)
        try with_reducible rfl
      try simp only [Act.put, List.setIfInBounds_toArray, List.set_cons_zero, List.set_cons_succ, List.getElem_toArray, List.getElem_cons_zero, List.getElem_cons_succ]
      refine wpAnyH_take (i := 10) (v := ?_) rfl (by kernel_rfl) (by kernel_rfl) (by kernel_rfl) (fun _ _ _ h => h) (Or.inl ⟨by kernel_rfl, ?_⟩) (by assumption) ?_
      rotate_left
      · (intro w hSw; (try dsimp only at hSw); go_simp)
        try with_reducible rfl
      try simp only [Act.put, List.setIfInBounds_toArray, List.set_cons_zero, List.set_cons_succ, List.getElem_toArray, List.getElem_cons_zero, List.getElem_cons_succ]
      refine wpAnyH_take (i := 11) (v := ?_) rfl (by kernel_rfl) (by kernel_rfl) (by kernel_rfl) (fun _ _ _ h => h) (Or.inl ⟨by kernel_rfl, ?_⟩) (by assumption) ?_
      rotate_left
      · (intro w hSw; (try dsimp only at hSw); go_simp)
        try with_reducible rfl
      try simp only [Act.put, List.setIfInBounds_toArray, List.set_cons_zero, List.set_cons_succ, List.getElem_toArray, List.getElem_cons_zero, List.getElem_cons_succ]
      refine wpAnyH_take (i := 12) (v := ?_) rfl (by kernel_rfl) (by kernel_rfl) (by kernel_rfl) (fun _ _ _ h => h) (Or.inl ⟨by kernel_rfl, ?_⟩) (by assumption) ?_
      rotate_left
      · (intro w hSw; (try dsimp only at hSw); go_simp)
        try with_reducible rfl
      try simp only [Act.put, List.setIfInBounds_toArray, List.set_cons_zero, List.set_cons_succ, List.getElem_toArray, List.getElem_cons_zero, List.getElem_cons_succ]
      refine wpAnyH_take (i := 13) (v := ?_) rfl (by kernel_rfl) (by kernel_rfl) (by kernel_rfl) (fun _ _ _ h => h) (Or.inl ⟨by kernel_rfl, ?_⟩) (by assumption) ?_
      rotate_left
      · (intro w hSw; (try dsimp only at hSw); go_simp)
        try with_reducible rfl
      try simp only [Act.put, List.setIfInBounds_toArray, List.set_cons_zero, List.set_cons_succ, List.getElem_toArray, List.getElem_cons_zero, List.getElem_cons_succ]
      refine wpAnyH_take (i := 14) (v := ?_) rfl (by kernel_rfl) (by kernel_rfl) (by kernel_rfl) (fun _ _ _ h => h) (Or.inl ⟨by kernel_rfl, ?_⟩) (by assumption) ?_
      rotate_left
      · (intro w hSw; (try dsimp only at hSw); go_simp)
        try with_reducible rfl
      try simp only [Act.put, List.setIfInBounds_toArray, List.set_cons_zero, List.set_cons_succ, List.getElem_toArray, List.getElem_cons_zero, List.getElem_cons_succ]
      refine wpAnyH_take (i := 15) (v := ?_) rfl (by kernel_rfl) (by kernel_rfl) (by kernel_rfl) (fun _ _ _ h => h) (Or.inl ⟨by kernel_rfl, ?_⟩) (by assumption) ?_
      rotate_left
      · (intro w hSw; (try dsimp only at hSw); go_simp)
        try with_reducible rfl
      try simp only [Act.put, List.setIfInBounds_toArray, List.set_cons_zero, List.set_cons_succ, List.getElem_toArray, List.getElem_cons_zero, List.getElem_cons_succ]
      refine wpAnyH_take (i := 16) (v := ?_) rfl (by kernel_rfl) (by kernel_rfl) (by kernel_rfl) (fun _ _ _ h => h) (Or.inl ⟨by kernel_rfl, ?_⟩) (by assumption) ?_
      rotate_left
      · (intro w hSw; (try dsimp only at hSw); go_simp)
        try with_reducible rfl
      try simp only [Act.put, List.setIfInBounds_toArray, List.set_cons_zero, List.set_cons_succ, List.getElem_toArray, List.getElem_cons_zero, List.getElem_cons_succ]
      refine wpAnyH_take (i := 17) (v := ?_) rfl (by kernel_rfl) (by kernel_rfl) (by kernel_rfl) (fun _ _ _ h => h) (Or.inl ⟨by kernel_rfl, ?_⟩) (by assumption) ?_
      rotate_left
      · (intro w hSw; (try dsimp only at hSw); go_simp)
        try with_reducible rfl
      try simp only [Act.put, List.setIfInBounds_toArray, List.set_cons_zero, List.set_cons_succ, List.getElem_toArray, List.getElem_cons_zero, List.getElem_cons_succ]
      refine wpAnyH_ready (rs := [18]) (by kernel_rfl) (by simp) ?_
      refine AllReadyH.cons rfl (fun K hK => ?_) AllReadyH.nil
      go_simp
      obtain ⟨V1, hV1⟩ : ∃ V1, V1 = (W17.setCell ⟨g3, p1, none⟩ (.int .i64 x)).drew := ⟨_, rfl⟩
      have HRV1 : Hid (RowB V1 g3 ((mkD x0 y0 x1 y1 k).set p1 x) ∧ Bt g3 W15 V1) := by
        rw [Hid, hV1]
        exact ⟨(HR17.out.set p1 (by rw [mkD_len]; exact HPN.out.2.2) _).agree rfl, (HB17.out.set _ _).drew⟩
      have HSV1 : Hid (V1.cell? ⟨P, 1, none⟩ = some (.slice (some ⟨g3, 0, none⟩) 9 c3) ∧ V1.cell? ⟨w16.heap.size, 1, none⟩ = some (.slice (some ⟨ge, 0, none⟩) 4 ce) ∧ V1.cell? ⟨ge, 1, none⟩ = some (.int .i64 x) ∧ V1.cell? ⟨ge, 2, none⟩ = some (.int .i64 y) ∧ P < V1.heap.size ∧ w16.heap.size < V1.heap.size ∧ ge < V1.heap.size ∧ g3 < V1.heap.size) := by
        rw [Hid, hV1]
        obtain ⟨a1, a2, a3, a4, a5, a6, a7, a8⟩ := HS0.out
        exact ⟨(World.cell?_of_block (a := ⟨P, 1, none⟩) (setCell_other' W17 _ _ _ _ (Ne.symm HPG.out))).trans a1, (World.cell?_of_block (a := ⟨w16.heap.size, 1, none⟩) (setCell_other' W17 _ _ _ _ (Ne.symm HGG.out.2))).trans a2, (World.cell?_of_block (a := ⟨ge, 1, none⟩) (setCell_other' W17 _ _ _ _ (Ne.symm HGG.out.1))).trans a3, (World.cell?_of_block (a := ⟨ge, 2, none⟩) (setCell_other' W17 _ _ _ _ (Ne.symm HGG.out.1))).trans a4, by simpa [World.setCell] using a5, by simpa [World.setCell] using a6, by simpa [World.setCell] using a7, by simpa [World.setCell] using a8⟩
      have HV1 : Hid ((W17.setCell ⟨g3, p1, none⟩ (.int .i64 x)).drew = V1) := hV1.symm
      rw [HV1.out]
      clear hV1 HV1
      refine hK.out _ _ HSV1.out (fun hHeld => ?_)
      clear hK K hfz hcg hgl
      have hfz : V1.frozen? ⟨g3, q1, none⟩ = false := HRV1.out.1.frozen q1
      have hcg : V1.cell? ⟨g3, q1, none⟩ = _ := HRV1.out.1.cellD q1 (by rw [List.length_set, mkD_len]; exact HPN.out.2.1)
      have hgl : g3 < V1.heap.size := HRV1.out.1.lt
      refine wpAnyH_take (i := 19) (v := ?_) rfl (by kernel_rfl) (by kernel_rfl) (by kernel_rfl) (fun _ _ _ h => h) (Or.inl ⟨by kernel_rfl, ?_⟩) (by assumption) ?_
      rotate_left
      · (intro w hSw; (try dsimp only at hSw); go_simp)
        try with_reducible rfl
      try simp only [Act.put, List.setIfInBounds_toArray, List.set_cons_zero, List.set_cons_succ, List.getElem_toArray, List.getElem_cons_zero, List.getElem_cons_succ]
      refine wpAnyH_ready (rs := [20]) (by kernel_rfl) (by simp) ?_
      refine AllReadyH.cons rfl (fun K hK => ?_) AllReadyH.nil
      go_simp
      obtain ⟨V2, hV2⟩ : ∃ V2, V2 = V1.setCell ⟨g3, q1, none⟩ (.int .i64 y) := ⟨_, rfl⟩
      have HRV2 : Hid (RowB V2 g3 (((mkD x0 y0 x1 y1 k).set p1 x).set q1 y) ∧ Bt g3 W15 V2) := by
        rw [Hid, hV2]
        exact ⟨HRV1.out.1.set q1 (by rw [List.length_set, mkD_len]; exact HPN.out.2.1) _, HRV1.out.2.set _ _⟩
      have HSV2 : Hid (V2.cell? ⟨P, 1, none⟩ = some (.slice (some ⟨g3, 0, none⟩) 9 c3) ∧ V2.cell? ⟨w16.heap.size, 1, none⟩ = some (.slice (some ⟨ge, 0, none⟩) 4 ce) ∧ V2.cell? ⟨ge, 1, none⟩ = some (.int .i64 x) ∧ V2.cell? ⟨ge, 2, none⟩ = some (.int .i64 y) ∧ P < V2.heap.size ∧ w16.heap.size < V2.heap.size ∧ ge < V2.heap.size ∧ g3 < V2.heap.size) := by
        rw [Hid, hV2]
        obtain ⟨a1, a2, a3, a4, a5, a6, a7, a8⟩ := HSV1.out
        exact ⟨(World.cell?_of_block (a := ⟨P, 1, none⟩) (setCell_other' V1 _ _ _ _ (Ne.symm HPG.out))).trans a1, (World.cell?_of_block (a := ⟨w16.heap.size, 1, none⟩) (setCell_other' V1 _ _ _ _ (Ne.symm HGG.out.2))).trans a2, (World.cell?_of_block (a := ⟨ge, 1, none⟩) (setCell_other' V1 _ _ _ _ (Ne.symm HGG.out.1))).trans a3, (World.cell?_of_block (a := ⟨ge, 2, none⟩) (setCell_other' V1 _ _ _ _ (Ne.symm HGG.out.1))).trans a4, by simpa [World.setCell] using a5, by simpa [World.setCell] using a6, by simpa [World.setCell] using a7, by simpa [World.setCell] using a8⟩
      have HV2 : Hid (V1.setCell ⟨g3, q1, none⟩ (.int .i64 y) = V2) := hV2.symm
      rw [HV2.out]
      clear hV2 HV2
      refine hK.out _ _ HSV2.out (fun hHeld => ?_)
      clear hK K hfz hcg hgl
      refine wpAnyH_done (by kernel_rfl) ?_ _
      clear hHeld
      go_wp2_with fail
      go_roundw
      case rel => exact ⟨p1, by have := HPN.out.1; omega, rfl, by rw [HPN.out.1] at HMK HRV2; rw [HPN.out.1, HMK.out]; exact HRV2.out⟩
      case measure => have := HPN.out.1; simp [intOf]; omega
    · obtain rfl : k = 2 := by omega
      have HRW := Lib.hid HST.out.1
      have HBW2 := Lib.hid HST.out.2
      have hmd := HST.out.2.at HMD.out (by have := HGD.out; omega)
      have hrd := HRD15.out.agree (HST.out.2.2.2.2.2 gd HRD15.out.lt (Ne.symm HGD.out.2))
      have hS0 : (wr.drew.cell? ⟨P, 1, none⟩ = some (.slice (some ⟨g3, 0, none⟩) 9 c3) ∧ wr.drew.cell? ⟨w14.heap.size, 1, none⟩ = some (.slice (some ⟨gd, 0, none⟩) 4 cd) ∧ wr.drew.cell? ⟨gd, 1, none⟩ = some (.int .i64 x2) ∧ wr.drew.cell? ⟨gd, 2, none⟩ = some (.int .i64 y2) ∧ P < wr.drew.heap.size ∧ w14.heap.size < wr.drew.heap.size ∧ gd < wr.drew.heap.size ∧ g3 < wr.drew.heap.size) := by
        obtain ⟨_, _, _, _, b4, _, _, _⟩ := HFH.out wr HBR.out
        exact ⟨Lib.cell_of_heap (w := wr.drew) b4 1, Lib.cell_of_heap (w := wr.drew) hmd 1, (hrd.agree (w' := wr.drew) rfl).cellD 1 (by simp), (hrd.agree (w' := wr.drew) rfl).cellD 2 (by simp), (Array.getElem?_eq_some_iff.1 b4).1, (Array.getElem?_eq_some_iff.1 hmd).1, hrd.lt, HRW.out.lt⟩
      have HS0 := Lib.hid hS0
      have hfz : wr.drew.frozen? ⟨g3, 5, none⟩ = false := HRW.out.frozen 5
      have hcg : wr.drew.cell? ⟨g3, 5, none⟩ = _ := HRW.out.cellD 5 (by rw [mkD_len]; decide)
      have hgl : g3 < wr.drew.heap.size := HRW.out.lt
      have HPG : Hid (g3 ≠ P ∧ g3 ≠ w14.heap.size) := by have h1 := HG3.out; have h2 := HGD.out; exact ⟨by omega, by omega⟩
      clear hmd hrd hS0 hlt
      go_upto_region 17 with fail
      refine wp_region_held_drew (S := fun W => W.cell? ⟨P, 1, none⟩ = some (.slice (some ⟨g3, 0, none⟩) 9 c3) ∧ W.cell? ⟨w14.heap.size, 1, none⟩ = some (.slice (some ⟨gd, 0, none⟩) 4 cd) ∧ W.cell? ⟨gd, 1, none⟩ = some (.int .i64 x2) ∧ W.cell? ⟨gd, 2, none⟩ = some (.int .i64 y2) ∧ P < W.heap.size ∧ w14.heap.size < W.heap.size ∧ gd < W.heap.size ∧ g3 < W.heap.size) (by kernel_rfl) HS0.out (fun hHeld => ?_)
      refine wpAnyH_take (i := 0) (v := ?_) rfl (by kernel_rfl) (by kernel_rfl) (by kernel_rfl) (fun _ _ _ h => h) (Or.inl ⟨by kernel_rfl, ?_⟩) (by assumption) ?_
      rotate_left
      · (intro w hSw; (try dsimp only at hSw); go_simp)
        try with_reducible rfl
      try simp only [Act.put, List.setIfInBounds_toArray, List.set_cons_zero, List.set_cons_succ, List.getElem_toArray, List.getElem_cons_zero]
      refine wpAnyH_take (i := 1) (v := ?_) rfl (by kernel_rfl) (by kernel_rfl) (by kernel_rfl) (fun _ _ _ h => h) (Or.inl ⟨by kernel_rfl, ?_⟩) (by assumption) ?_
      rotate_left
      · (intro w hSw; (try dsimp only at hSw); go_simp)
        try with_reducible rfl
      try simp only [Act.put, List.setIfInBounds_toArray, List.set_cons_zero, List.set_cons_succ, List.getElem_toArray, List.getElem_cons_zero, List.getElem_cons_succ]
      refine wpAnyH_take (i := 2) (v := ?_) rfl (by kernel_rfl) (by kernel_rfl) (by kernel_rfl) (fun _ _ _ h => h) (Or.inl ⟨by kernel_rfl, ?_⟩) (by assumption) ?_
      rotate_left
      · (intro w hSw; (try dsimp only at hSw); go_simp)
        try with_reducible rfl
      try simp only [Act.put, List.setIfInBounds_toArray, List.set_cons_zero, List.set_cons_succ, List.getElem_toArray, List.getElem_cons_zero, List.getElem_cons_succ]
      refine wpAnyH_take (i := 3) (v := ?_) rfl (by kernel_rfl) (by kernel_rfl) (by kernel_rfl) (fun _ _ _ h => h) (Or.inl ⟨by kernel_rfl, ?_⟩) (by assumption) ?_
      rotate_left
      · (intro w hSw; (try dsimp only at hSw); go_simp)
        try with_reducible rfl
      try simp only [Act.put, List.setIfInBounds_toArray, List.set_cons_zero, List.set_cons_succ, List.getElem_toArray, List.getElem_cons_zero, List.getElem_cons_succ]
      refine wpAnyH_take (i := 4) (v := ?_) rfl (by kernel_rfl) (by kernel_rfl) (by kernel_rfl) (fun _ _ _ h => h) (Or.inl ⟨by kernel_rfl, ?_⟩) (by assumption) ?_
      rotate_left
      · (intro w hSw; (try dsimp only at hSw); go_simp)
        try with_reducible rfl
      try simp only [Act.put, List.setIfInBounds_toArray, List.set_cons_zero, List.set_cons_succ, List.getElem_toArray, List.getElem_cons_zero, List.getElem_cons_succ]
      refine wpAnyH_take (i := 5) (v := ?_) rfl (by kernel_rfl) (by kernel_rfl) (by kernel_rfl) (fun _ _ _ h => h) (Or.inl ⟨by kernel_rfl, ?_⟩) (by assumption) ?_
      rotate_left
      · (intro w hSw; (try dsimp only at hSw); go_simp)
        try with_reducible rfl
      try simp only [Act.put, List.setIfInBounds_toArray, List.set_cons_zero, List.set_cons_succ, List.getElem_toArray, List.getElem_cons_zero, List.getElem_cons_succ]
      refine wpAnyH_take (i := 6) (v := ?_) rfl (by kernel_rfl) (by kernel_rfl) (by kernel_rfl) (fun _ _ _ h => h) (Or.inl ⟨by kernel_rfl, ?_⟩) (by assumption) ?_
      rotate_left
      · (intro w hSw; (try dsimp only at hSw); go_simp)
        try with_reducible rfl
      try simp only [Act.put, List.setIfInBounds_toArray, List.set_cons_zero, List.set_cons_succ, List.getElem_toArray, List.getElem_cons_zero, List.getElem_cons_succ]
      refine wpAnyH_take (i := 7) (v := ?_) rfl (by kernel_rfl) (by kernel_rfl) (by kernel_rfl) (fun _ _ _ h => h) (Or.inl ⟨by kernel_rfl, ?_⟩) (by assumption) ?_
      rotate_left
      · (intro w hSw; (try dsimp only at hSw); go_simp)
        try with_reducible rfl
      try simp only [Act.put, List.setIfInBounds_toArray, List.set_cons_zero, List.set_cons_succ, List.getElem_toArray, List.getElem_cons_zero, List.getElem_cons_succ]
      refine wpAnyH_take (i := 8) (v := ?_) rfl (by kernel_rfl) (by kernel_rfl) (by kernel_rfl) (fun _ _ _ h => h) (Or.inl ⟨by kernel_rfl, ?_⟩) (by assumption) ?_
      rotate_left
      · (intro w hSw; (try dsimp only at hSw); go_simp)
        try with_reducible rfl
      try simp only [Act.put, List.setIfInBounds_toArray, List.set_cons_zero, List.set_cons_succ, List.getElem_toArray, List.getElem_cons_zero, List.getElem_cons_succ]
      refine wpAnyH_take (i := 9) (v := ?_) rfl (by kernel_rfl) (by kernel_rfl) (by kernel_rfl) (fun _ _ _ h => h) (Or.inl ⟨by kernel_rfl, ?_⟩) (by assumption) ?_
      rotate_left
      · (intro w hSw; (try dsimp only at hSw); go_simp)
        try with_reducible rfl
      try simp only [Act.put, List.setIfInBounds_toArray, List.set_cons_zero, List.set_cons_succ, List.getElem_toArray, List.getElem_cons_zero, List.getElem_cons_succ]
      refine wpAnyH_take (i := 10) (v := ?_) rfl (by kernel_rfl) (by kernel_rfl) (by kernel_rfl) (fun _ _ _ h => h) (Or.inl ⟨by kernel_rfl, ?_⟩) (by assumption) ?_
      rotate_left
      · (intro w hSw; (try dsimp only at hSw); go_simp)
        try with_reducible rfl
      try simp only [Act.put, List.setIfInBounds_toArray, List.set_cons_zero, List.set_cons_succ, List.getElem_toArray, List.getElem_cons_zero, List.getElem_cons_succ]
      refine wpAnyH_take (i := 11) (v := ?_) rfl (by kernel_rfl) (by kernel_rfl) (by kernel_rfl) (fun _ _ _ h => h) (Or.inl ⟨by kernel_rfl, ?_⟩) (by assumption) ?_
      rotate_left
      · (intro w hSw; (try dsimp only at hSw); go_simp)
        try with_reducible rfl
      try simp only [Act.put, List.setIfInBounds_toArray, List.set_cons_zero, List.set_cons_succ, List.getElem_toArray, List.getElem_cons_zero, List.getElem_cons_succ]
      refine wpAnyH_take (i := 12) (v := ?_) rfl (by kernel_rfl) (by kernel_rfl) (by kernel_rfl) (fun _ _ _ h => h) (Or.inl ⟨by kernel_rfl, ?_⟩) (by assumption) ?_
      rotate_left
      · (intro w hSw; (try dsimp only at hSw); go_simp)
        try with_reducible rfl
      try simp only [Act.put, List.setIfInBounds_toArray, List.set_cons_zero, List.set_cons_succ, List.getElem_toArray, List.getElem_cons_zero, List.getElem_cons_succ]
      refine wpAnyH_ready (rs := [13]) (by kernel_rfl) (by simp) ?_
      refine AllReadyH.cons rfl (fun K hK => ?_) AllReadyH.nil
      go_simp
      obtain ⟨V1, hV1⟩ : ∃ V1, V1 = (wr.setCell ⟨g3, 5, none⟩ (.int .i64 x2)).drew := ⟨_, rfl⟩
      have HRV1 : Hid (RowB V1 g3 ((mkD x0 y0 x1 y1 2).set 5 x2) ∧ Bt g3 W15 V1) := by
        rw [Hid, hV1]
        exact ⟨(HRW.out.set 5 (by rw [mkD_len]; decide) _).agree rfl, (HBW2.out.set _ _).drew⟩
      have HSV1 : Hid (V1.cell? ⟨P, 1, none⟩ = some (.slice (some ⟨g3, 0, none⟩) 9 c3) ∧ V1.cell? ⟨w14.heap.size, 1, none⟩ = some (.slice (some ⟨gd, 0, none⟩) 4 cd) ∧ V1.cell? ⟨gd, 1, none⟩ = some (.int .i64 x2) ∧ V1.cell? ⟨gd, 2, none⟩ = some (.int .i64 y2) ∧ P < V1.heap.size ∧ w14.heap.size < V1.heap.size ∧ gd < V1.heap.size ∧ g3 < V1.heap.size) := by
        rw [Hid, hV1]
        obtain ⟨a1, a2, a3, a4, a5, a6, a7, a8⟩ := HS0.out
        exact ⟨(World.cell?_of_block (a := ⟨P, 1, none⟩) (setCell_other' wr _ _ _ _ (Ne.symm HPG.out.1))).trans a1, (World.cell?_of_block (a := ⟨w14.heap.size, 1, none⟩) (setCell_other' wr _ _ _ _ (Ne.symm HPG.out.2))).trans a2, (World.cell?_of_block (a := ⟨gd, 1, none⟩) (setCell_other' wr _ _ _ _ (Ne.symm HGD.out.2))).trans a3, (World.cell?_of_block (a := ⟨gd, 2, none⟩) (setCell_other' wr _ _ _ _ (Ne.symm HGD.out.2))).trans a4, by simpa [World.setCell] using a5, by simpa [World.setCell] using a6, by simpa [World.setCell] using a7, by simpa [World.setCell] using a8⟩
      have HV1 : Hid ((wr.setCell ⟨g3, 5, none⟩ (.int .i64 x2)).drew = V1) := hV1.symm
      rw [HV1.out]
      clear hV1 HV1
      refine hK.out _ _ HSV1.out (fun hHeld => ?_)
      clear hK K hfz hcg hgl
      have hfz : V1.frozen? ⟨g3, 7, none⟩ = false := HRV1.out.1.frozen 7
      have hcg : V1.cell? ⟨g3, 7, none⟩ = _ := HRV1.out.1.cellD 7 (by rw [List.length_set, mkD_len]; decide)
      have hgl : g3 < V1.heap.size := HRV1.out.1.lt
      refine wpAnyH_take (i := 14) (v := ?_) rfl (by kernel_rfl) (by kernel_rfl) (by kernel_rfl) (fun _ _ _ h => h) (Or.inl ⟨by kernel_rfl, ?_⟩) (by assumption) ?_
      rotate_left
      · (intro w hSw; (try dsimp only at hSw); go_simp)
        try with_reducible rfl
      try simp only [Act.put, List.setIfInBounds_toArray, List.set_cons_zero, List.set_cons_succ, List.getElem_toArray, List.getElem_cons_zero, List.getElem_cons_succ]
      refine wpAnyH_ready (rs := [15]) (by kernel_rfl) (by simp) ?_
      refine AllReadyH.cons rfl (fun K hK => ?_) AllReadyH.nil
      go_simp
      obtain ⟨V2, hV2⟩ : ∃ V2, V2 = V1.setCell ⟨g3, 7, none⟩ (.int .i64 y2) := ⟨_, rfl⟩
      have HRV2 : Hid (RowB V2 g3 [1, x0, x1, y0, 1, x2, y1, y2, 1] ∧ Bt g3 W15 V2) := by
        rw [Hid, hV2, ← mkD_end]
        exact ⟨HRV1.out.1.set 7 (by rw [List.length_set, mkD_len]; decide) _, HRV1.out.2.set _ _⟩
      have HSV2 : Hid (V2.cell? ⟨P, 1, none⟩ = some (.slice (some ⟨g3, 0, none⟩) 9 c3) ∧ V2.cell? ⟨w14.heap.size, 1, none⟩ = some (.slice (some ⟨gd, 0, none⟩) 4 cd) ∧ V2.cell? ⟨gd, 1, none⟩ = some (.int .i64 x2) ∧ V2.cell? ⟨gd, 2, none⟩ = some (.int .i64 y2) ∧ P < V2.heap.size ∧ w14.heap.size < V2.heap.size ∧ gd < V2.heap.size ∧ g3 < V2.heap.size) := by
        rw [Hid, hV2]
        obtain ⟨a1, a2, a3, a4, a5, a6, a7, a8⟩ := HSV1.out
        exact ⟨(World.cell?_of_block (a := ⟨P, 1, none⟩) (setCell_other' V1 _ _ _ _ (Ne.symm HPG.out.1))).trans a1, (World.cell?_of_block (a := ⟨w14.heap.size, 1, none⟩) (setCell_other' V1 _ _ _ _ (Ne.symm HPG.out.2))).trans a2, (World.cell?_of_block (a := ⟨gd, 1, none⟩) (setCell_other' V1 _ _ _ _ (Ne.symm HGD.out.2))).trans a3, (World.cell?_of_block (a := ⟨gd, 2, none⟩) (setCell_other' V1 _ _ _ _ (Ne.symm HGD.out.2))).trans a4, by simpa [World.setCell] using a5, by simpa [World.setCell] using a6, by simpa [World.setCell] using a7, by simpa [World.setCell] using a8⟩
      have HV2 : Hid (V1.setCell ⟨g3, 7, none⟩ (.int .i64 y2) = V2) := hV2.symm
      rw [HV2.out]
      clear hV2 HV2
      refine hK.out _ _ HSV2.out (fun hHeld => ?_)
      clear hK K hfz hcg hgl
      refine wpAnyH_done (by kernel_rfl) ?_ _
      clear hHeld
      have HBV2 : Hid (Bt g3 W8 V2) := HB15.out.trans HRV2.out.2
      obtain ⟨xg0, xg1, xg2, xg3, xg4, xg5, xg6, xg7, xg8, xg9, xg10, xg11, xg12, xg13, xg14, xg15, xg16, xg17, xg18, xg19, xg20, xg21, xg22, xg23⟩ := HF.out V2 HBV2.out
      have HOF : Hid (Calls Tryz.prog 90 #[.agg #[.int .i64 3, .slice (some ⟨g3, 0, none⟩) 9 c3]] V2 fun e w' => e = .returned (.tuple #[.agg (zonD [1, x0, x1, y0, 1, x2, y1, y2, 1]), .int .i64 0]) ∧ Below V2.heap.size V2 w') := of90_any (L := [1, x0, x1, y0, 1, x2, y1, y2, 1]) HRV2.out.1 rfl HBD.out HCL.out HBD.out
      go_wp2_with fail
      refine HOF.out.mono ?_
      rintro e w20 ⟨rfl, hb20⟩
      have HB20 : Hid (Bt g3 W8 w20) := HBV2.out.trans (.of_below hb20)
      obtain ⟨_, _, _, hr6, _, _, _, _⟩ := HFH.out w20 HB20.out
      have r0 := Lib.cell_of_heap hr6 0
      have r1 := Lib.cell_of_heap hr6 1
      have r2 := Lib.cell_of_heap hr6 2
      have r3 := Lib.cell_of_heap hr6 3
      have r4 := Lib.cell_of_heap hr6 4
      have r5 := Lib.cell_of_heap hr6 5
      simp only [List.getElem?_toArray, List.getElem?_cons_zero, List.getElem?_cons_succ] at r0 r1 r2 r3 r4 r5
      have f0 := Lib.frozen_of_heap hr6 0
      have f1 := Lib.frozen_of_heap hr6 1
      have f2 := Lib.frozen_of_heap hr6 2
      have f3 := Lib.frozen_of_heap hr6 3
      have f4 := Lib.frozen_of_heap hr6 4
      have f5 := Lib.frozen_of_heap hr6 5
      have rl := (Array.getElem?_eq_some_iff.1 hr6).1
      have HR6' := Lib.hid hr6
      clear hb20 hr6 xg0 xg1 xg2 xg3 xg4 xg5 xg6 xg7 xg8 xg9 xg10 xg11 xg12 xg13 xg14 xg15 xg16 xg17 xg18 xg19 xg20 xg21 xg22 xg23
      unfold zonD
      go_wp2_with fail
      refine bodyPost_ret (results_cell_row_tmp rfl _ _ _ _ _ _ _ _ rfl rfl (set6_at HR6'.out _ _ _ _ _ _) Tryz.underlying69 rfl (by kernel_rfl)) rfl ?_
      exact ⟨rfl, set6_below (bt_below HBW.out HB20.out (by have := HG3.out; omega) HBW.out.size) (by omega) _ _ _ _ _ _⟩
end Go.Proofs.YtockinpjfhhkoaaGreatDoor
