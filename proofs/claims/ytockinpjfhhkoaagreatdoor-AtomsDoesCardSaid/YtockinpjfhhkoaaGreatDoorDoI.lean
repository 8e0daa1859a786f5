/- AtomsDoes: the document's Next walked. -/
import Derived.Deep.RegionHeld
import Derived.Deep.Cut
import Derived.Test.YtockinpjfhhkoaaGreatDoorAtZb
import Derived.Test.YtockinpjfhhkoaaGreatDoorMiB
import Derived.Test.YtockinpjfhhkoaaGreatDoorMiF
namespace Go.Proofs.YtockinpjfhhkoaaGreatDoor
open Go.RowKit

set_option maxRecDepth 100000 in
set_option maxHeartbeats 16000000 in
theorem next15_any (names : List ByteArray) (nv : Value) (hs : ∀ s ∈ names, s.size ≤ 1048576) (n : Nat) (t : FT n) (v : Value) (on : Bool) (since at_ dur bits : Int) (w : World) (hb0 : 0 ≤ bits) (hb1 : bits ≤ 255) (hat : in64 at_) (hdu : in64 dur)
    (hnf : (nF n t : Int) ≤ 1000000) (hn : NRep w w.heap.size nv names) (hf : FRep w w.heap.size n t v) :
    Calls Tryz.prog 15 #[nv, v, .agg #[.bool on, .int .i64 since], .int .i64 at_, .agg #[.int .i64 dur, .int .u8 bits]] w fun e w' => e = .returned (.tuple #[.agg #[.bool (nextR names n t on since at_ dur bits).1.1, .int .i64 (nextR names n t on since at_ dur bits).1.2], .int .i64 (nextR names n t on since at_ dur bits).2.2]) ∧ Below w.heap.size w w' := by
  obtain ⟨k, s, fa, fl, fc, rfl⟩ := hf.shape
  obtain ⟨W4, hW4⟩ : ∃ W4, W4 = (((w.alloc (.cells #[.int .u8 k, .string s, .slice fa fl fc] 25)).alloc (.cells #[.bool on, .int .i64 since] 27)).alloc (.cells #[.int .i64 dur, .int .u8 bits] 29)).alloc (.cells #[.bool false, .int .i64 0] 27) := ⟨_, rfl⟩
  have hb4 : Below w.heap.size w W4 := by rw [hW4]; exact (((belowA _ _).alloc (by simp) _).alloc (by simp; omega) _).alloc (by simp; omega) _
  have hz4 : W4.heap.size = w.heap.size + 4 := by rw [hW4]; simp
  have k1 : W4.heap[w.heap.size + 1]? = some (.cells #[.bool on, .int .i64 since] 27 (0, 0)) := by
    rw [hW4]; exact (Below.heap_alloc _ _ _ (by simp)).trans ((Below.heap_alloc _ _ _ (by simp)).trans (hp_topA (by simp)))
  have k2 : W4.heap[w.heap.size + 1 + 1]? = some (.cells #[.int .i64 dur, .int .u8 bits] 29 (0, 0)) := by
    rw [hW4]; exact (Below.heap_alloc _ _ _ (by simp)).trans (hp_topA (by simp))
  have k3 : W4.heap[w.heap.size + 1 + 1 + 1]? = some (.cells #[.bool false, .int .i64 0] 27 (0, 0)) := by
    rw [hW4]; exact hp_topA (by simp)
  have k0 : W4.heap[w.heap.size]? = some (.cells #[.int .u8 k, .string s, .slice fa fl fc] 25 (0, 0)) := by
    rw [hW4]; exact (Below.heap_alloc _ _ _ (by simp; omega)).trans ((Below.heap_alloc _ _ _ (by simp; omega)).trans ((Below.heap_alloc _ _ _ (by simp)).trans (hp_topA rfl)))
  have HX : Hid (∀ W, Below W4.heap.size W4 W → W.heap[w.heap.size + 1]? = some (.cells #[.bool on, .int .i64 since] 27 (0, 0)) ∧ W.heap[w.heap.size + 1 + 1]? = some (.cells #[.int .i64 dur, .int .u8 bits] 29 (0, 0)) ∧ W.heap[w.heap.size + 1 + 1 + 1]? = some (.cells #[.bool false, .int .i64 0] 27 (0, 0))) :=
    fun W hW => ⟨(hW.block _ (by omega)).trans k1, (hW.block _ (by omega)).trans k2, (hW.block _ (by omega)).trans k3⟩
  have HF : Hid (∀ W, Below W4.heap.size W4 W → W.cell? ⟨w.heap.size + 1, 0, none⟩ = some (.bool on) ∧ W.cell? ⟨w.heap.size + 1, 1, none⟩ = some (.int .i64 since) ∧ W.cell? ⟨w.heap.size + 1 + 1, 0, none⟩ = some (.int .i64 dur) ∧ W.cell? ⟨w.heap.size + 1 + 1, 1, none⟩ = some (.int .u8 bits) ∧ W.cell? ⟨w.heap.size + 1 + 1 + 1, 0, none⟩ = some (.bool false) ∧ W.cell? ⟨w.heap.size + 1 + 1 + 1, 1, none⟩ = some (.int .i64 0) ∧ W.frozen? ⟨w.heap.size + 1, 0, none⟩ = false ∧ W.frozen? ⟨w.heap.size + 1, 1, none⟩ = false ∧ W.frozen? ⟨w.heap.size + 1 + 1 + 1, 0, none⟩ = false ∧ W.frozen? ⟨w.heap.size + 1 + 1 + 1, 1, none⟩ = false ∧ w.heap.size + 1 < W.heap.size ∧ w.heap.size + 1 + 1 < W.heap.size ∧ w.heap.size + 1 + 1 + 1 < W.heap.size) := by
    intro W hW
    obtain ⟨a1, a2, a3⟩ := HX.out W hW
    exact ⟨Lib.cell_of_heap a1 0, Lib.cell_of_heap a1 1, Lib.cell_of_heap a2 0, Lib.cell_of_heap a2 1, Lib.cell_of_heap a3 0, Lib.cell_of_heap a3 1, Lib.frozen_of_heap a1 0, Lib.frozen_of_heap a1 1, Lib.frozen_of_heap a3 0, Lib.frozen_of_heap a3 1, (Array.getElem?_eq_some_iff.1 a1).1, (Array.getElem?_eq_some_iff.1 a2).1, (Array.getElem?_eq_some_iff.1 a3).1⟩
  have y0 : W4.cell? ⟨w.heap.size, 0, none⟩ = some (.int .u8 k) := Lib.cell_of_heap k0 0
  have y1 : W4.cell? ⟨w.heap.size, 1, none⟩ = some (.string s) := Lib.cell_of_heap k0 1
  have y2 : W4.cell? ⟨w.heap.size, 2, none⟩ = some (.slice fa fl fc) := Lib.cell_of_heap k0 2
  have HH := Lib.hid (holds43_any names nv hs n t _ bits W4 hb0 hb1 hnf (hn.up hb4 hb4.size) (hf.up hb4 hb4.size))
  obtain ⟨held, he, hH⟩ : ∃ held he, holdsR names n t bits = (held, he) := ⟨_, _, rfl⟩
  have HN0 : Hid (nextR names n t on since at_ dur bits = if he ≠ 0 then ((false, 0), none, he) else if dur < 1 then ((false, 0), none, 8) else if at_ < 0 ∨ mayN on since at_ = false then ((false, 0), none, 2) else if 288230376151711744 - at_ ≤ dur then ((false, 0), none, 220) else if held = false then ((false, 0), none, 0) else ((true, if on then since else at_), some (atomM (if on then since else at_) at_ (at_ + dur)), 0)) := by
    rw [Hid, nextR, hH]
  rw [hH] at HH
  have HMY := fun W => Lib.hid (mayHeld44_any on since at_ W)
  have HMY1 : Hid (mayN true since at_ = (decide (0 ≤ since) && decide (since < at_))) := rfl
  have HMY0 : Hid (mayN false since at_ = (since == 0)) := rfl
  have HIA := Lib.hid hat
  have HID := Lib.hid hdu
  have HW4 := Lib.hid hW4.symm
  have HB4 := Lib.hid hb4
  have HZ4 := Lib.hid hz4
  obtain ⟨xf0, xf1, xf2, xf3, xf4, xf5, xf6, xf7, xf8, xf9, xf10, xf11, xf12⟩ := HF.out W4 (Below.refl _ _)
  have xl : w.heap.size < W4.heap.size := by omega
  clear hb0 hb1 hat hdu hnf hn hf hs hH hW4 hb4 hz4 k0 k1 k2 k3
  go_enter Tryz.func15, Tryz.ntmps15
  go_upto_region 1 with fail
  rw [HW4.out]
  clear HW4
  go_wp2_with fail
  refine HH.out.mono ?_
  rintro e w5 ⟨rfl, hb5⟩
  have HB5 := Lib.hid hb5
  clear hb5 y0 y1 y2 xl xf0 xf1 xf2 xf3 xf4 xf5 xf6 xf7 xf8 xf9 xf10 xf11 xf12
  obtain ⟨yf0, yf1, yf2, yf3, yf4, yf5, yf6, yf7, yf8, yf9, yf10, yf11, yf12⟩ := HF.out w5 HB5.out
  by_cases c1 : he = 0
  rotate_left
  · have HN : Hid (nextR names n t on since at_ dur bits = ((false, 0), none, he)) := by rw [Hid, HN0.out, if_pos c1]
    have d1 : (he != 0) = true := by simpa using c1
    clear c1
    go_wp2_with fail
    refine bodyPost_ret (results_cell_row_tmp rfl _ _ _ _ _ _ _ _ rfl rfl (set2_at (HX.out w5 HB5.out).2.2 _ _) Tryz.underlying27 rfl (by kernel_rfl)) rfl ?_
    exact ⟨by rw [HN.out]; rfl, set2_below (HB4.out.trans (HB5.out.mono HB4.out.size)) (by omega) _ _⟩
  subst c1
  rw [if_neg (by simp)] at HN0
  by_cases c2 : dur < 1
  · have HN : Hid (nextR names n t on since at_ dur bits = ((false, 0), none, 8)) := by rw [Hid, HN0.out, if_pos c2]
    have d2 : decide (dur < 1) = true := by simpa using c2
    clear c2
    go_wp2_with fail
    refine bodyPost_ret (results_cell_row_tmp rfl _ _ _ _ _ _ _ _ rfl rfl (set2_at (HX.out w5 HB5.out).2.2 _ _) Tryz.underlying27 rfl (by kernel_rfl)) rfl ?_
    exact ⟨by rw [HN.out]; rfl, set2_below (HB4.out.trans (HB5.out.mono HB4.out.size)) (by omega) _ _⟩
  rw [if_neg c2] at HN0
  have d2 : decide (dur < 1) = false := by simpa using c2
  have HC2 := Lib.hid c2
  clear c2
  by_cases c3 : at_ < 0
  · have HN : Hid (nextR names n t on since at_ dur bits = ((false, 0), none, 2)) := by rw [Hid, HN0.out, if_pos (.inl c3)]
    have d3 : decide (at_ < 0) = true := by simpa using c3
    clear c3
    go_wp2_with fail
    refine bodyPost_ret (results_cell_row_tmp rfl _ _ _ _ _ _ _ _ rfl rfl (set2_at (HX.out w5 HB5.out).2.2 _ _) Tryz.underlying27 rfl (by kernel_rfl)) rfl ?_
    exact ⟨by rw [HN.out]; rfl, set2_below (HB4.out.trans (HB5.out.mono HB4.out.size)) (by omega) _ _⟩
  have d3 : decide (at_ < 0) = false := by simpa using c3
  have HC3 := Lib.hid c3
  clear c3
  have HMW := Lib.hid (HMY w5).out
  obtain ⟨m, hm⟩ : ∃ m, mayN on since at_ = m := ⟨_, rfl⟩
  rw [hm] at HN0 HMW
  have HM := Lib.hid hm
  clear hm
  have hwa : IntKind.i64.wrap (288230376151711744 - at_) = 288230376151711744 - at_ := by have h1 := HC3.out; have h2 := HIA.out.2; exact IntWalk.i64_in _ (by omega)
  have hwa' : wrap64 (288230376151711744 - at_) = 288230376151711744 - at_ := by have h1 := HC3.out; have h2 := HIA.out.2; exact IntWalk.wrap64_in _ (by omega)
  cases m with
  | false =>
    have HN : Hid (nextR names n t on since at_ dur bits = ((false, 0), none, 2)) := by rw [Hid, HN0.out, if_pos (.inr rfl)]
    go_wp2_with fail
    refine HMW.out.mono ?_
    rintro e w6 ⟨rfl, hb6⟩
    have HB6 := Lib.hid (belS HB5.out hb6)
    clear hb6 yf0 yf1 yf2 yf3 yf4 yf5 yf6 yf7 yf8 yf9 yf10 yf11 yf12
    obtain ⟨zf0, zf1, zf2, zf3, zf4, zf5, zf6, zf7, zf8, zf9, zf10, zf11, zf12⟩ := HF.out w6 HB6.out
    go_wp2_with fail
    refine bodyPost_ret (results_cell_row_tmp rfl _ _ _ _ _ _ _ _ rfl rfl (set2_at (HX.out w6 HB6.out).2.2 _ _) Tryz.underlying27 rfl (by kernel_rfl)) rfl ?_
    exact ⟨by rw [HN.out]; rfl, set2_below (HB4.out.trans (HB6.out.mono HB4.out.size)) (by omega) _ _⟩
  | true =>
    rw [if_neg (by have := HC3.out; simp; omega)] at HN0
    by_cases c4 : 288230376151711744 - at_ ≤ dur
    · have HN : Hid (nextR names n t on since at_ dur bits = ((false, 0), none, 220)) := by rw [Hid, HN0.out, if_pos c4]
      have d4 : decide (288230376151711744 - at_ ≤ dur) = true := by simpa using c4
      clear c4
      cases d5 : decide (288230376151711744 ≤ at_) with
      | true =>
        go_wp2_with fail
        refine HMW.out.mono ?_
        rintro e w6 ⟨rfl, hb6⟩
        have HB6 := Lib.hid (belS HB5.out hb6)
        clear hb6 yf0 yf1 yf2 yf3 yf4 yf5 yf6 yf7 yf8 yf9 yf10 yf11 yf12
        obtain ⟨zf0, zf1, zf2, zf3, zf4, zf5, zf6, zf7, zf8, zf9, zf10, zf11, zf12⟩ := HF.out w6 HB6.out
        go_wp2_with fail
        refine bodyPost_ret (results_cell_row_tmp rfl _ _ _ _ _ _ _ _ rfl rfl (set2_at (HX.out w6 HB6.out).2.2 _ _) Tryz.underlying27 rfl (by kernel_rfl)) rfl ?_
        exact ⟨by rw [HN.out]; rfl, set2_below (HB4.out.trans (HB6.out.mono HB4.out.size)) (by omega) _ _⟩
      | false =>
        go_wp2_with fail
        refine HMW.out.mono ?_
        rintro e w6 ⟨rfl, hb6⟩
        have HB6 := Lib.hid (belS HB5.out hb6)
        clear hb6 yf0 yf1 yf2 yf3 yf4 yf5 yf6 yf7 yf8 yf9 yf10 yf11 yf12
        obtain ⟨zf0, zf1, zf2, zf3, zf4, zf5, zf6, zf7, zf8, zf9, zf10, zf11, zf12⟩ := HF.out w6 HB6.out
        go_wp2_with fail
        refine bodyPost_ret (results_cell_row_tmp rfl _ _ _ _ _ _ _ _ rfl rfl (set2_at (HX.out w6 HB6.out).2.2 _ _) Tryz.underlying27 rfl (by kernel_rfl)) rfl ?_
        exact ⟨by rw [HN.out]; rfl, set2_below (HB4.out.trans (HB6.out.mono HB4.out.size)) (by omega) _ _⟩
    have d5 : decide (288230376151711744 ≤ at_) = false := by have := HC2.out; simp; omega
    rw [if_neg c4] at HN0
    have d4 : decide (288230376151711744 - at_ ≤ dur) = false := by simpa using c4
    have HC4 := Lib.hid c4
    clear c4
    cases held with
    | false =>
      have HN : Hid (nextR names n t on since at_ dur bits = ((false, 0), none, 0)) := by rw [Hid, HN0.out, if_pos rfl]
      go_wp2_with fail
      refine HMW.out.mono ?_
      rintro e w6 ⟨rfl, hb6⟩
      have HB6 := Lib.hid (belS HB5.out hb6)
      clear hb6 yf0 yf1 yf2 yf3 yf4 yf5 yf6 yf7 yf8 yf9 yf10 yf11 yf12
      obtain ⟨zf0, zf1, zf2, zf3, zf4, zf5, zf6, zf7, zf8, zf9, zf10, zf11, zf12⟩ := HF.out w6 HB6.out
      go_wp2_with fail
      refine bodyPost_ret (results_cell_row_tmp rfl _ _ _ _ _ _ _ _ rfl rfl (set2_at (HX.out w6 HB6.out).2.2 _ _) Tryz.underlying27 rfl (by kernel_rfl)) rfl ?_
      exact ⟨by rw [HN.out]; rfl, set2_below (HB4.out.trans (HB6.out.mono HB4.out.size)) (by omega) _ _⟩
    | true =>
      rw [if_neg (by simp)] at HN0
      cases on with
      | true =>
        have HN : Hid (nextR names n t true since at_ dur bits = ((true, since), some (atomM since at_ (at_ + dur)), 0)) := HN0.out
        go_wp2_with fail
        refine HMW.out.mono ?_
        rintro e w6 ⟨rfl, hb6⟩
        have HB6 := Lib.hid (belS HB5.out hb6)
        clear hb6 yf0 yf1 yf2 yf3 yf4 yf5 yf6 yf7 yf8 yf9 yf10 yf11 yf12
        obtain ⟨zf0, zf1, zf2, zf3, zf4, zf5, zf6, zf7, zf8, zf9, zf10, zf11, zf12⟩ := HF.out w6 HB6.out
        go_wp2_with fail
        refine bodyPost_ret (results_cell_row_tmp rfl _ _ _ _ _ _ _ _ rfl rfl (set2_at (HX.out w6 HB6.out).2.2 _ _) Tryz.underlying27 rfl (by kernel_rfl)) rfl ?_
        exact ⟨by rw [HN.out]; rfl, set2_below (HB4.out.trans (HB6.out.mono HB4.out.size)) (by omega) _ _⟩
      | false =>
        have HN : Hid (nextR names n t false since at_ dur bits = ((true, at_), some (atomM at_ at_ (at_ + dur)), 0)) := HN0.out
        go_wp2_with fail
        refine HMW.out.mono ?_
        rintro e w6 ⟨rfl, hb6⟩
        have HB6 := Lib.hid (belS HB5.out hb6)
        clear hb6 yf0 yf1 yf2 yf3 yf4 yf5 yf6 yf7 yf8 yf9 yf10 yf11 yf12
        obtain ⟨zf0, zf1, zf2, zf3, zf4, zf5, zf6, zf7, zf8, zf9, zf10, zf11, zf12⟩ := HF.out w6 HB6.out
        go_wp2_with fail
        refine bodyPost_ret (results_cell_row_tmp rfl _ _ _ _ _ _ _ _ rfl rfl (set2_at (HX.out w6 HB6.out).2.2 _ _) Tryz.underlying27 rfl (by kernel_rfl)) rfl ?_
        exact ⟨by rw [HN.out]; rfl, set2_below (HB4.out.trans (HB6.out.mono HB4.out.size)) (by omega) _ _⟩
end Go.Proofs.YtockinpjfhhkoaaGreatDoor
