/- tight.Between walked. -/
import Derived.Test.YtockinpjfhhkoaaGreatDoorAtM
namespace Go.Proofs.YtockinpjfhhkoaaGreatDoor
open Go.RowKit

set_option maxRecDepth 100000 in
set_option maxHeartbeats 16000000 in
theorem between88_any {n g c i : Nat} {L : List Int} {lo hi : Int} {ls hs op : Bool} {w : World} (h : RowB w g L) (hl : L.length = n * n) (h1 : 1 ≤ n) (hn : n ≤ 4) (hin : i < n) (hbd : badD L = false) (hs0 : nearS ⟨lo, ls, hi, hs, op⟩) (hsp : spanB ⟨lo, ls, hi, hs, op⟩ = true)
    (hbd2 : badD (withD L [(i, lowB ⟨lo, ls, hi, hs, op⟩), (i * n, highB ⟨lo, ls, hi, hs, op⟩)]) = false) :
    Calls Tryz.prog 88 #[.agg #[.int .i64 n, .slice (some ⟨g, 0, none⟩) L.length c], .int .i64 i, .agg #[.int .i64 lo, .bool ls, .int .i64 hi, .bool hs, .bool op]] w fun e w' =>
      CloseOut n (closeD n (withD L [(i, lowB ⟨lo, ls, hi, hs, op⟩), (i * n, highB ⟨lo, ls, hi, hs, op⟩)])) w.heap.size e w' ∧ Below w.heap.size w w' := by
  obtain ⟨W3, hW3⟩ : ∃ W3, W3 = ((w.alloc (.cells #[.int .i64 n, .slice (some ⟨g, 0, none⟩) L.length c] 116)).alloc (.cells #[.int .i64 lo, .bool ls, .int .i64 hi, .bool hs, .bool op] 45)).alloc (.cells #[.int .i64 0, .slice none 0 0] 116) := ⟨_, rfl⟩
  have hb3 : Below w.heap.size w W3 := by rw [hW3]; exact ((belowA _ _).alloc (by simp) _).alloc (by simp; omega) _
  have hz3 : W3.heap.size = w.heap.size + 3 := by rw [hW3]; simp
  have hx0 : W3.heap[w.heap.size]? = some (.cells #[.int .i64 n, .slice (some ⟨g, 0, none⟩) L.length c] 116 (0, 0)) := by
    rw [hW3]; exact (Below.heap_alloc _ _ _ (by simp; omega)).trans ((Below.heap_alloc _ _ _ (by simp)).trans (hp_topA rfl))
  have hx1 : W3.heap[w.heap.size + 1]? = some (.cells #[.int .i64 lo, .bool ls, .int .i64 hi, .bool hs, .bool op] 45 (0, 0)) := by
    rw [hW3]; exact (Below.heap_alloc _ _ _ (by simp)).trans (hp_topA (by simp))
  have hx2 : W3.heap[w.heap.size + 2]? = some (.cells #[.int .i64 0, .slice none 0 0] 116 (0, 0)) := by
    rw [hW3]; exact hp_topA (by simp)
  have HX : Hid (∀ W, Below W3.heap.size W3 W → W.heap[w.heap.size]? = some (.cells #[.int .i64 n, .slice (some ⟨g, 0, none⟩) L.length c] 116 (0, 0)) ∧ W.heap[w.heap.size + 1]? = some (.cells #[.int .i64 lo, .bool ls, .int .i64 hi, .bool hs, .bool op] 45 (0, 0)) ∧ W.heap[w.heap.size + 2]? = some (.cells #[.int .i64 0, .slice none 0 0] 116 (0, 0)) ∧ RowB W g L) :=
    fun W hW => ⟨(hW.block _ (by omega)).trans hx0, (hW.block _ (by omega)).trans hx1, (hW.block _ (by omega)).trans hx2, (h.below hb3).below hW⟩
  have HF : Hid (∀ W, Below W3.heap.size W3 W → W.cell? ⟨w.heap.size, 0, none⟩ = some (.int .i64 n) ∧ W.cell? ⟨w.heap.size, 1, none⟩ = some (.slice (some ⟨g, 0, none⟩) L.length c) ∧ W.cell? ⟨w.heap.size + 1, 0, none⟩ = some (.int .i64 lo) ∧ W.cell? ⟨w.heap.size + 1, 1, none⟩ = some (.bool ls) ∧ W.cell? ⟨w.heap.size + 1, 2, none⟩ = some (.int .i64 hi) ∧ W.cell? ⟨w.heap.size + 1, 3, none⟩ = some (.bool hs) ∧ W.cell? ⟨w.heap.size + 1, 4, none⟩ = some (.bool op) ∧ w.heap.size < W.heap.size ∧ w.heap.size + 1 < W.heap.size) := by
    intro W hW
    obtain ⟨a0, a1, _, _⟩ := HX.out W hW
    exact ⟨Lib.cell_of_heap a0 0, Lib.cell_of_heap a0 1, Lib.cell_of_heap a1 0, Lib.cell_of_heap a1 1, Lib.cell_of_heap a1 2, Lib.cell_of_heap a1 3, Lib.cell_of_heap a1 4, (Array.getElem?_eq_some_iff.1 a0).1, (Array.getElem?_eq_some_iff.1 a1).1⟩
  have HCK := Lib.hid (check115_any (c := c) (h.below hb3) h1 hn hl)
  have HE : Hid (checkD L = 0) := by rw [Hid, checkD, hbd]; rfl
  have HCL := fun W => Lib.hid (clock157_any (n := n) (i := i) (.slice (some ⟨g, 0, none⟩) L.length c) W hin)
  have HSD : Hid (∀ W, Calls Tryz.prog 158 #[.agg #[.int .i64 lo, .bool ls, .int .i64 hi, .bool hs, .bool op]] W fun e w' => e = .returned (.tuple #[.int .i64 (lowB ⟨lo, ls, hi, hs, op⟩), .int .i64 (highB ⟨lo, ls, hi, hs, op⟩), .bool true]) ∧ Below W.heap.size W w') := fun W => by
    have := sides158_any ⟨lo, ls, hi, hs, op⟩ W hs0
    rw [hsp] at this
    exact this
  obtain ⟨x, hx⟩ : ∃ x, lowB ⟨lo, ls, hi, hs, op⟩ = x := ⟨_, rfl⟩
  obtain ⟨y, hy⟩ : ∃ y, highB ⟨lo, ls, hi, hs, op⟩ = y := ⟨_, rfl⟩
  rw [hx, hy] at HSD hbd2 ⊢
  have hnn : i * n ≤ 16 := Nat.mul_le_mul (show i ≤ 4 by omega) hn
  obtain ⟨q, hq⟩ : ∃ q, i * n = q := ⟨_, rfl⟩
  have hwq : IntKind.i64.wrap ((i : Int) * (n : Int)) = (q : Int) := by rw [← Int.natCast_mul, hq]; exact IntWalk.i64_in _ (by omega)
  have hqn : q < n * n := by
    rw [← hq]
    exact Nat.mul_lt_mul_of_pos_right hin (by omega)
  have hinn : i < n * n := Nat.lt_of_lt_of_le hin (Nat.le_mul_of_pos_left n (by omega))
  rw [hq] at hbd2 ⊢
  have HW : Hid (∀ W b, Below W3.heap.size W3 W → W.heap[b]? = some (.cells #[.int .i64 i, .int .i64 x, .int .i64 q, .int .i64 y] 223 (0, 0)) → Calls Tryz.prog 159 #[.agg #[.int .i64 n, .slice (some ⟨g, 0, none⟩) L.length c], .slice (some ⟨b, 0, none⟩) 2 2] W fun e w' => CloseOut n (closeD n (withD L [(i, x), (q, y)])) W.heap.size e w' ∧ Below W.heap.size W w') := by
    intro W b hW hb
    refine with159_any (l := [(i, x), (q, y)]) (HX.out W hW).2.2.2 ⟨(Array.getElem?_eq_some_iff.1 hb).1, fun k hk => ?_⟩ hl h1 hn (by simp) (by intro r hr; simp at hr; rcases hr with rfl | rfl <;> assumption) hbd2
    match k, hk with
    | 0, _ => exact ⟨by rw [Lib.cell_of_heap hb]; rfl, by rw [Lib.cell_of_heap hb]; rfl⟩
    | 1, _ => exact ⟨by rw [Lib.cell_of_heap hb]; rfl, by rw [Lib.cell_of_heap hb]; rfl⟩
  have HW3 := Lib.hid hW3.symm
  have HB3 := Lib.hid hb3
  have HZ3 := Lib.hid hz3
  obtain ⟨x0, x1, x2, x3, x4, x5, x6, xl, xm⟩ := HF.out W3 (Below.refl _ _)
  clear h hl h1 hn hin hbd hs0 hsp hbd2 hW3 hb3 hz3 hx0 hx1 hx2 hx hy hnn hq hqn hinn
  go_enter Tryz.func88, Tryz.ntmps88
  go_wp2_with fail
  rw [HW3.out]
  refine HCK.out.mono ?_
  rintro e w4 ⟨rfl, hb4⟩
  rw [HE.out]
  have HB4 := Lib.hid hb4
  obtain ⟨y0, y1, y2, y3, y4, y5, y6, yl, ym⟩ := HF.out w4 hb4
  clear HW3 hb4 x0 x1 x2 x3 x4 x5 x6 xl xm
  go_wp2_with fail
  refine (HCL _).out.mono ?_
  rintro e w5 ⟨rfl, hb5⟩
  have HB5 := Lib.hid (HB4.out.trans (hb5.mono HB4.out.size))
  clear hb5 y0 y1 y2 y3 y4 y5 y6 yl ym
  obtain ⟨z0, z1, z2, z3, z4, z5, z6, zl, zm⟩ := HF.out w5 HB5.out
  go_wp2_with fail
  refine (HSD.out _).mono ?_
  rintro e w6 ⟨rfl, hb6⟩
  have HB6 := Lib.hid (HB5.out.trans (hb6.mono HB5.out.size))
  clear hb6 z0 z1 z2 z3 z4 z5 z6 zl zm
  obtain ⟨u0, u1, u2, u3, u4, u5, u6, ul, um⟩ := HF.out w6 HB6.out
  have HB7 : Hid (Below W3.heap.size W3 (w6.alloc (.cells #[.int .i64 i, .int .i64 x, .int .i64 q, .int .i64 y] 223))) := HB6.out.alloc HB6.out.size _
  have HWC := Lib.hid (HW.out _ w6.heap.size HB7.out (hp_topA rfl))
  go_wp2_with fail
  refine HWC.out.mono ?_
  rintro e w8 ⟨hout, hb8⟩
  have HB8 := Lib.hid (HB7.out.trans (hb8.mono HB7.out.size))
  have hr7 := (HX.out w8 HB8.out).2.2.1
  have r0 := Lib.cell_of_heap hr7 0
  have r1 := Lib.cell_of_heap hr7 1
  simp only [List.getElem?_toArray, List.getElem?_cons_zero, List.getElem?_cons_succ] at r0 r1
  have f0 := Lib.frozen_of_heap hr7 0
  have f1 := Lib.frozen_of_heap hr7 1
  have rl := (Array.getElem?_eq_some_iff.1 hr7).1
  have HR7 := Lib.hid hr7
  have HZ6 : Hid (w.heap.size + 3 ≤ w6.heap.size) := by rw [Hid]; have := HB6.out.size; have := HZ3.out; omega
  have HBW : Hid (Below w.heap.size w w8) := HB3.out.trans (HB8.out.mono HB3.out.size)
  cases hcd : closeD n (withD L [(i, x), (q, y)]) with
  | none =>
    rw [hcd] at hout
    have hout : e = _ := hout
    subst hout
    have HCD := Lib.hid hcd
    clear hb8 hr7 hcd u0 u1 u2 u3 u4 u5 u6 ul um
    go_wp2_with fail
    refine bodyPost_ret (results_cell_row_tmp rfl _ _ _ _ _ _ _ _ rfl rfl (set2_at HR7.out _ _) Tryz.underlying116 rfl (by kernel_rfl)) rfl ?_
    exact ⟨by rw [HCD.out]; rfl, set2_below HBW.out (by omega) _ _⟩
  | some M =>
    rw [hcd] at hout
    obtain ⟨g2, c2, rfl, hg2, hrow2⟩ := hout
    have HCD := Lib.hid hcd
    have HRW := Lib.hid hrow2
    have HG2 : Hid (w.heap.size + 3 ≤ g2) := by rw [Hid]; have := HZ6.out; simp at hg2; omega
    clear hb8 hr7 hcd hrow2 hg2 u0 u1 u2 u3 u4 u5 u6 ul um
    go_wp2_with fail
    refine bodyPost_ret (results_cell_row_tmp rfl _ _ _ _ _ _ _ _ rfl rfl (set2_at HR7.out _ _) Tryz.underlying116 rfl (by kernel_rfl)) rfl ?_
    have HRX := Lib.hid (RowB.agree (w' := set2 w8 (w.heap.size + 2) (.int .i64 n) (.slice (some ⟨g2, 0, none⟩) M.length c2)) HRW.out (set2_other _ _ _ _ _ (by have := HG2.out; omega)))
    exact ⟨by rw [HCD.out]; exact ⟨_, _, rfl, by have := HG2.out; omega, HRX.out⟩, set2_below HBW.out (by omega) _ _⟩
end Go.Proofs.YtockinpjfhhkoaaGreatDoor
