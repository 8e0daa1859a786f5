/- atoms.Next walked. (Printed by gen_atzb.py.) -/
import Derived.Deep.RegionHeld
import Derived.Deep.Cut
import Derived.Test.YtockinpjfhhkoaaGreatDoorMiO
import Derived.Test.YtockinpjfhhkoaaGreatDoorMiP
namespace Go.Proofs.YtockinpjfhhkoaaGreatDoor
open Go.RowKit

/-- What Next answers: the run, the zone's matrix, the error. -/
def nextR (names : List ByteArray) (n : Nat) (t : FT n) (on : Bool) (since at_ dur bits : Int) : (Bool × Int) × Option (List Int) × Int :=
  if (holdsR names n t bits).2 ≠ 0 then ((false, 0), none, (holdsR names n t bits).2)
  else if dur < 1 then ((false, 0), none, 8)
  else if at_ < 0 ∨ mayN on since at_ = false then ((false, 0), none, 2)
  else if 288230376151711744 - at_ ≤ dur then ((false, 0), none, 220)
  else if (holdsR names n t bits).1 = false then ((false, 0), none, 0)
  else ((true, if on then since else at_), some (atomM (if on then since else at_) at_ (at_ + dur)), 0)
def NextOut (r : (Bool × Int) × Option (List Int) × Int) (B : Nat) (e : Ending) (w' : World) : Prop :=
  ∃ zv, e = .returned (.tuple #[.agg #[.bool r.1.1, .int .i64 r.1.2], zv, .int .i64 r.2.2]) ∧ match r.2.1 with
    | none => zv = .slice none 0 0
    | some M => ∃ b, zv = .slice (some ⟨b, 0, none⟩) 1 1 ∧ B ≤ b ∧ w'.heap[b]? = some (.cells (zonD M) 69 (0, 0))

set_option maxRecDepth 100000 in
set_option maxHeartbeats 16000000 in
theorem next14_any (names : List ByteArray) (nv : Value) (hs : ∀ s ∈ names, s.size ≤ 1048576) (n : Nat) (t : FT n) (v : Value) (on : Bool) (since at_ dur bits : Int) (w : World) (hb0 : 0 ≤ bits) (hb1 : bits ≤ 255) (hat : in64 at_) (hdu : in64 dur)
    (hr : Rdy w) (hn : NRep w w.heap.size nv names) (hf : FRep w w.heap.size n t v) :
    Calls Tryz.prog 14 #[nv, v, .agg #[.bool on, .int .i64 since], .int .i64 at_, .agg #[.int .i64 dur, .int .u8 bits]] w fun e w' => NextOut (nextR names n t on since at_ dur bits) w.heap.size e w' ∧ Below w.heap.size w w' := by
  obtain ⟨k, s, fa, fl, fc, rfl⟩ := hf.shape
  obtain ⟨W4, hW4⟩ : ∃ W4, W4 = (((w.alloc (.cells #[.int .u8 k, .string s, .slice fa fl fc] 25)).alloc (.cells #[.bool on, .int .i64 since] 27)).alloc (.cells #[.int .i64 dur, .int .u8 bits] 29)).alloc (.cells #[.bool false, .int .i64 0] 27) := ⟨_, rfl⟩
  have hb4 : Below w.heap.size w W4 := by rw [hW4]; exact (((belowA _ _).alloc (by simp) _).alloc (by simp; omega) _).alloc (by simp; omega) _
  have hz4 : W4.heap.size = w.heap.size + 4 := by rw [hW4]; simp
  have k1 : W4.heap[w.heap.size + 1]? = some (.cells #[.bool on, .int .i64 since] 27 (0, 0)) := by
    rw [hW4]; exact (Below.heap_alloc _ _ _ (by simp)).trans ((Below.heap_alloc _ _ _ (by simp)).trans (hp_topA (by simp)))
  have k2 : W4.heap[w.heap.size + 1 + 1]? = some (.cells #[.int .i64 dur, .int .u8 bits] 29 (0, 0)) := by
    rw [hW4]; exact (Below.heap_alloc _ _ _ (by simp)).trans (hp_topA (by simp))
  have k3 : W4.heap[w.heap.size + 1 + 1 + 1]? = some (.cells #[.bool false, .int .i64 0] 27 (0, 0)) := by
    rw [hW4]; exact hp_topA (by simp)
  have k0 : W4.heap[w.heap.size]? = some (.cells #[.int .u8 k, .string s, .slice fa fl fc] 25 (0, 0)) := by
    rw [hW4]; exact (Below.heap_alloc _ _ _ (by simp; omega)).trans ((Below.heap_alloc _ _ _ (by simp; omega)).trans ((Below.heap_alloc _ _ _ (by simp)).trans (hp_topA rfl)))
  have HX : Hid (∀ W, Below W4.heap.size W4 W → W.heap[w.heap.size + 1]? = some (.cells #[.bool on, .int .i64 since] 27 (0, 0)) ∧ W.heap[w.heap.size + 1 + 1]? = some (.cells #[.int .i64 dur, .int .u8 bits] 29 (0, 0)) ∧ W.heap[w.heap.size + 1 + 1 + 1]? = some (.cells #[.bool false, .int .i64 0] 27 (0, 0))) :=
    fun W hW => ⟨(hW.block _ (by omega)).trans k1, (hW.block _ (by omega)).trans k2, (hW.block _ (by omega)).trans k3⟩
  have HF : Hid (∀ W, Below W4.heap.size W4 W → W.cell? ⟨w.heap.size + 1, 0, none⟩ = some (.bool on) ∧ W.cell? ⟨w.heap.size + 1, 1, none⟩ = some (.int .i64 since) ∧ W.cell? ⟨w.heap.size + 1 + 1, 0, none⟩ = some (.int .i64 dur) ∧ W.cell? ⟨w.heap.size + 1 + 1, 1, none⟩ = some (.int .u8 bits) ∧ W.cell? ⟨w.heap.size + 1 + 1 + 1, 0, none⟩ = some (.bool false) ∧ W.cell? ⟨w.heap.size + 1 + 1 + 1, 1, none⟩ = some (.int .i64 0) ∧ W.frozen? ⟨w.heap.size + 1, 0, none⟩ = false ∧ W.frozen? ⟨w.heap.size + 1, 1, none⟩ = false ∧ W.frozen? ⟨w.heap.size + 1 + 1 + 1, 0, none⟩ = false ∧ W.frozen? ⟨w.heap.size + 1 + 1 + 1, 1, none⟩ = false ∧ w.heap.size + 1 < W.heap.size ∧ w.heap.size + 1 + 1 < W.heap.size ∧ w.heap.size + 1 + 1 + 1 < W.heap.size) := by
    intro W hW
    obtain ⟨a1, a2, a3⟩ := HX.out W hW
    exact ⟨Lib.cell_of_heap a1 0, Lib.cell_of_heap a1 1, Lib.cell_of_heap a2 0, Lib.cell_of_heap a2 1, Lib.cell_of_heap a3 0, Lib.cell_of_heap a3 1, Lib.frozen_of_heap a1 0, Lib.frozen_of_heap a1 1, Lib.frozen_of_heap a3 0, Lib.frozen_of_heap a3 1, (Array.getElem?_eq_some_iff.1 a1).1, (Array.getElem?_eq_some_iff.1 a2).1, (Array.getElem?_eq_some_iff.1 a3).1⟩
  have y0 : W4.cell? ⟨w.heap.size, 0, none⟩ = some (.int .u8 k) := Lib.cell_of_heap k0 0
  have y1 : W4.cell? ⟨w.heap.size, 1, none⟩ = some (.string s) := Lib.cell_of_heap k0 1
  have y2 : W4.cell? ⟨w.heap.size, 2, none⟩ = some (.slice fa fl fc) := Lib.cell_of_heap k0 2
  have HH := Lib.hid (holds22_any names nv hs n t _ bits W4 hb0 hb1 (hr.below hb4) (hn.up hb4 hb4.size) (hf.up hb4 hb4.size))
  obtain ⟨held, he, hH⟩ : ∃ held he, holdsR names n t bits = (held, he) := ⟨_, _, rfl⟩
  have HN0 : Hid (nextR names n t on since at_ dur bits = if he ≠ 0 then ((false, 0), none, he) else if dur < 1 then ((false, 0), none, 8) else if at_ < 0 ∨ mayN on since at_ = false then ((false, 0), none, 2) else if 288230376151711744 - at_ ≤ dur then ((false, 0), none, 220) else if held = false then ((false, 0), none, 0) else ((true, if on then since else at_), some (atomM (if on then since else at_) at_ (at_ + dur)), 0)) := by
    rw [Hid, nextR, hH]
  rw [hH] at HH
  have HMY := fun W => Lib.hid (may41_any on since at_ W)
  have HMY1 : Hid (mayN true since at_ = (decide (0 ≤ since) && decide (since < at_))) := rfl
  have HMY0 : Hid (mayN false since at_ = (since == 0)) := rfl
  have HIA := Lib.hid hat
  have HID := Lib.hid hdu
  have HW4 := Lib.hid hW4.symm
  have HB4 := Lib.hid hb4
  have HZ4 := Lib.hid hz4
  obtain ⟨xf0, xf1, xf2, xf3, xf4, xf5, xf6, xf7, xf8, xf9, xf10, xf11, xf12⟩ := HF.out W4 (Below.refl _ _)
  have xl : w.heap.size < W4.heap.size := by omega
  clear hb0 hb1 hat hdu hr hn hf hs hH hW4 hb4 hz4 k0 k1 k2 k3
  go_enter Tryz.func14, Tryz.ntmps14
  go_upto_region 1 with fail
  rw [HW4.out]
  clear HW4
  go_wp2_with fail
  refine HH.out.mono ?_
  rintro e w5 ⟨rfl, hb5⟩
  have HB5 := Lib.hid hb5
  clear hb5 y0 y1 y2 xl xf0 xf1 xf2 xf3 xf4 xf5 xf6 xf7 xf8 xf9 xf10 xf11 xf12
  obtain ⟨yf0, yf1, yf2, yf3, yf4, yf5, yf6, yf7, yf8, yf9, yf10, yf11, yf12⟩ := HF.out w5 HB5.out
  by_cases c1 : he = 0
  rotate_left
  · have HN : Hid (nextR names n t on since at_ dur bits = ((false, 0), none, he)) := by rw [Hid, HN0.out, if_pos c1]
    have d1 : (he != 0) = true := by simpa using c1
    clear c1
    go_wp2_with fail
    refine bodyPost_ret (results_cell_row_tmp2 rfl _ _ _ _ _ _ _ _ _ rfl rfl rfl (set2_at (HX.out w5 HB5.out).2.2 _ _) Tryz.underlying27 rfl (by kernel_rfl)) rfl ?_
    exact ⟨⟨_, by rw [HN.out]; rfl, by rw [HN.out]; rfl⟩, set2_below (HB4.out.trans (HB5.out.mono HB4.out.size)) (by omega) _ _⟩
  subst c1
  rw [if_neg (by simp)] at HN0
  by_cases c2 : dur < 1
  · have HN : Hid (nextR names n t on since at_ dur bits = ((false, 0), none, 8)) := by rw [Hid, HN0.out, if_pos c2]
    have d2 : decide (dur < 1) = true := by simpa using c2
    clear c2
    go_wp2_with fail
    refine bodyPost_ret (results_cell_row_tmp2 rfl _ _ _ _ _ _ _ _ _ rfl rfl rfl (set2_at (HX.out w5 HB5.out).2.2 _ _) Tryz.underlying27 rfl (by kernel_rfl)) rfl ?_
    exact ⟨⟨_, by rw [HN.out]; rfl, by rw [HN.out]; rfl⟩, set2_below (HB4.out.trans (HB5.out.mono HB4.out.size)) (by omega) _ _⟩
  rw [if_neg c2] at HN0
  have d2 : decide (dur < 1) = false := by simpa using c2
  have HC2 := Lib.hid c2
  clear c2
  by_cases c3 : at_ < 0
  · have HN : Hid (nextR names n t on since at_ dur bits = ((false, 0), none, 2)) := by rw [Hid, HN0.out, if_pos (.inl c3)]
    have d3 : decide (at_ < 0) = true := by simpa using c3
    clear c3
    go_wp2_with fail
    refine bodyPost_ret (results_cell_row_tmp2 rfl _ _ _ _ _ _ _ _ _ rfl rfl rfl (set2_at (HX.out w5 HB5.out).2.2 _ _) Tryz.underlying27 rfl (by kernel_rfl)) rfl ?_
    exact ⟨⟨_, by rw [HN.out]; rfl, by rw [HN.out]; rfl⟩, set2_below (HB4.out.trans (HB5.out.mono HB4.out.size)) (by omega) _ _⟩
  have d3 : decide (at_ < 0) = false := by simpa using c3
  have HC3 := Lib.hid c3
  clear c3
  have HMW := Lib.hid (HMY w5).out
  obtain ⟨m, hm⟩ : ∃ m, mayN on since at_ = m := ⟨_, rfl⟩
  rw [hm] at HN0 HMW
  have HM := Lib.hid hm
  clear hm
  have hwa : IntKind.i64.wrap (288230376151711744 - at_) = 288230376151711744 - at_ := by have h1 := HC3.out; have h2 := HIA.out.2; exact IntWalk.i64_in _ (by omega)
  have hwa' : wrap64 (288230376151711744 - at_) = 288230376151711744 - at_ := by have h1 := HC3.out; have h2 := HIA.out.2; exact IntWalk.wrap64_in _ (by omega)
  cases m with
  | false =>
    have HN : Hid (nextR names n t on since at_ dur bits = ((false, 0), none, 2)) := by rw [Hid, HN0.out, if_pos (.inr rfl)]
    go_wp2_with fail
    refine HMW.out.mono ?_
    rintro e w6 ⟨rfl, hb6⟩
    have HB6 := Lib.hid (belS HB5.out hb6)
    clear hb6 yf0 yf1 yf2 yf3 yf4 yf5 yf6 yf7 yf8 yf9 yf10 yf11 yf12
    obtain ⟨zf0, zf1, zf2, zf3, zf4, zf5, zf6, zf7, zf8, zf9, zf10, zf11, zf12⟩ := HF.out w6 HB6.out
    go_wp2_with fail
    refine bodyPost_ret (results_cell_row_tmp2 rfl _ _ _ _ _ _ _ _ _ rfl rfl rfl (set2_at (HX.out w6 HB6.out).2.2 _ _) Tryz.underlying27 rfl (by kernel_rfl)) rfl ?_
    exact ⟨⟨_, by rw [HN.out]; rfl, by rw [HN.out]; rfl⟩, set2_below (HB4.out.trans (HB6.out.mono HB4.out.size)) (by omega) _ _⟩
  | true =>
    rw [if_neg (by have := HC3.out; simp; omega)] at HN0
    by_cases c4 : 288230376151711744 - at_ ≤ dur
    · have HN : Hid (nextR names n t on since at_ dur bits = ((false, 0), none, 220)) := by rw [Hid, HN0.out, if_pos c4]
      have d4 : decide (288230376151711744 - at_ ≤ dur) = true := by simpa using c4
      clear c4
      go_wp2_with fail
      refine HMW.out.mono ?_
      rintro e w6 ⟨rfl, hb6⟩
      have HB6 := Lib.hid (belS HB5.out hb6)
      clear hb6 yf0 yf1 yf2 yf3 yf4 yf5 yf6 yf7 yf8 yf9 yf10 yf11 yf12
      obtain ⟨zf0, zf1, zf2, zf3, zf4, zf5, zf6, zf7, zf8, zf9, zf10, zf11, zf12⟩ := HF.out w6 HB6.out
      go_wp2_with fail
      refine bodyPost_ret (results_cell_row_tmp2 rfl _ _ _ _ _ _ _ _ _ rfl rfl rfl (set2_at (HX.out w6 HB6.out).2.2 _ _) Tryz.underlying27 rfl (by kernel_rfl)) rfl ?_
      exact ⟨⟨_, by rw [HN.out]; rfl, by rw [HN.out]; rfl⟩, set2_below (HB4.out.trans (HB6.out.mono HB4.out.size)) (by omega) _ _⟩
    rw [if_neg c4] at HN0
    have d4 : decide (288230376151711744 - at_ ≤ dur) = false := by simpa using c4
    have HC4 := Lib.hid c4
    clear c4
    cases held with
    | false =>
      have HN : Hid (nextR names n t on since at_ dur bits = ((false, 0), none, 0)) := by rw [Hid, HN0.out, if_pos rfl]
      go_wp2_with fail
      refine HMW.out.mono ?_
      rintro e w6 ⟨rfl, hb6⟩
      have HB6 := Lib.hid (belS HB5.out hb6)
      clear hb6 yf0 yf1 yf2 yf3 yf4 yf5 yf6 yf7 yf8 yf9 yf10 yf11 yf12
      obtain ⟨zf0, zf1, zf2, zf3, zf4, zf5, zf6, zf7, zf8, zf9, zf10, zf11, zf12⟩ := HF.out w6 HB6.out
      go_wp2_with fail
      refine bodyPost_ret (results_cell_row_tmp2 rfl _ _ _ _ _ _ _ _ _ rfl rfl rfl (set2_at (HX.out w6 HB6.out).2.2 _ _) Tryz.underlying27 rfl (by kernel_rfl)) rfl ?_
      exact ⟨⟨_, by rw [HN.out]; rfl, by rw [HN.out]; rfl⟩, set2_below (HB4.out.trans (HB6.out.mono HB4.out.size)) (by omega) _ _⟩
    | true =>
      rw [if_neg (by simp)] at HN0
      cases on with
      | true =>
        rw [HM.out] at HMY1
        have HFA : Hid (0 ≤ since ∧ since ≤ at_) := by
          have h := HMY1.out
          simp only [Eq.comm (a := true), Bool.and_eq_true, decide_eq_true_eq] at h
          exact ⟨h.1, by omega⟩
        have HN : Hid (nextR names n t true since at_ dur bits = ((true, since), some (atomM since at_ (at_ + dur)), 0)) := HN0.out
        go_wp2_with fail
        refine HMW.out.mono ?_
        rintro e w6 ⟨rfl, hb6⟩
        have HB6 := Lib.hid (belS HB5.out hb6)
        clear hb6 yf0 yf1 yf2 yf3 yf4 yf5 yf6 yf7 yf8 yf9 yf10 yf11 yf12
        obtain ⟨zf0, zf1, zf2, zf3, zf4, zf5, zf6, zf7, zf8, zf9, zf10, zf11, zf12⟩ := HF.out w6 HB6.out
        go_upto_region 14 with fail
        clear zf0 zf1 zf2 zf3 zf4 zf5 zf6 zf7 zf8 zf9 zf10 zf11 zf12
        have HVX := Lib.hid (HX.out w6 HB6.out)
        have HVB : Hid (Below w.heap.size w w6) := HB4.out.trans (HB6.out.mono HB4.out.size)
        have hfa : 0 ≤ since ∧ since ≤ at_ := by have := HFA.out; exact this
        have hde : at_ < at_ + dur ∧ at_ + dur ≤ 288230376151711744 := by have h1 := HC2.out; have h2 := HC4.out; omega
        obtain ⟨E, hE⟩ : ∃ E, at_ + dur = E := ⟨_, rfl⟩
        rw [hE] at hde HN
        have hw1 : IntKind.i64.wrap (at_ + dur) = E := by rw [hE]; exact IntWalk.i64_in _ (by omega)
        have hw1' : wrap64 (at_ + dur) = E := by rw [hE]; exact IntWalk.wrap64_in _ (by omega)
        have hw2 : IntKind.i64.wrap (E - since) = E - since := IntWalk.i64_in _ (by omega)
        have hw2' : wrap64 (E - since) = E - since := IntWalk.wrap64_in _ (by omega)
        have s0 : SideOk ⟨since, false, E, true, false⟩ (2 * (-since) + 1) (2 * E) := by
          have := side_ok (lo := since) (hi := E) (ls := false) (hs := true) (by omega) (by omega) (by omega)
          simp only [Bool.false_eq_true, if_false, if_true, Int.add_zero] at this
          exact this
        have s1 : SideOk ⟨at_, true, E, false, false⟩ (2 * (-at_)) (2 * E + 1) := by
          have := side_ok (lo := at_) (hi := E) (ls := true) (hs := false) (by omega) (by omega) (by omega)
          simp only [Bool.false_eq_true, if_false, if_true, Int.add_zero] at this
          exact this
        have s2 : SideOk ⟨0, true, E - since, false, false⟩ 0 (2 * (E - since) + 1) := by
          have := side_ok (lo := 0) (hi := E - since) (ls := true) (hs := false) (by omega) (by omega) (by omega)
          simp only [Bool.false_eq_true, if_false, if_true, Int.add_zero, Int.neg_zero, Int.mul_zero] at this
          exact this
        have HMK := fun W => Lib.hid (make42_any W s0 s1 s2 (atom_bad hfa.1 hfa.2 hde.1 hde.2) (atom_closed hfa.1 hfa.2 hde.1 hde.2))
        obtain ⟨z0, z1, z2, z3, z4, z5, hzz⟩ : ∃ z0 z1 z2 z3 z4 z5, zonD (atomM since at_ E) = #[.int .i64 z0, .int .i64 z1, .int .i64 z2, .int .i64 z3, .int .i64 z4, .int .i64 z5] := ⟨_, _, _, _, _, _, rfl⟩
        have HZZ := Lib.hid hzz
        have HMK2 : Hid (∀ W, Calls Tryz.prog 42 #[.agg #[.int .i64 since, .bool false, .int .i64 E, .bool true, .bool false], .agg #[.int .i64 at_, .bool true, .int .i64 E, .bool false, .bool false], .agg #[.int .i64 0, .bool true, .int .i64 (E - since), .bool false, .bool false]] W fun e w' => e = .returned (.tuple #[.agg #[.int .i64 z0, .int .i64 z1, .int .i64 z2, .int .i64 z3, .int .i64 z4, .int .i64 z5], .int .i64 0]) ∧ Below W.heap.size W w') := fun W => by
          have := (HMK W).out
          rw [show [1, 2 * -since + 1, 2 * -at_, 2 * E, 1, 0, 2 * E + 1, 2 * (E - since) + 1, 1] = atomM since at_ E from rfl, hzz] at this
          exact this
        have HXV : Hid (∀ W, Below w6.heap.size w6 W → W.heap[w.heap.size + 1]? = some (.cells #[.bool true, .int .i64 since] 27 (0, 0)) ∧ W.heap[w.heap.size + 1 + 1]? = some (.cells #[.int .i64 dur, .int .u8 bits] 29 (0, 0)) ∧ W.heap[w.heap.size + 1 + 1 + 1]? = some (.cells #[.bool false, .int .i64 0] 27 (0, 0))) := by
          obtain ⟨v1, v2, v3⟩ := HVX.out
          intro W hW
          exact ⟨(hW.block _ (Array.getElem?_eq_some_iff.1 v1).1).trans v1, (hW.block _ (Array.getElem?_eq_some_iff.1 v2).1).trans v2, (hW.block _ (Array.getElem?_eq_some_iff.1 v3).1).trans v3⟩
        have HFV : Hid (∀ W, Below w6.heap.size w6 W → W.cell? ⟨w.heap.size + 1, 0, none⟩ = some (.bool true) ∧ W.cell? ⟨w.heap.size + 1, 1, none⟩ = some (.int .i64 since) ∧ W.cell? ⟨w.heap.size + 1 + 1, 0, none⟩ = some (.int .i64 dur) ∧ W.cell? ⟨w.heap.size + 1 + 1, 1, none⟩ = some (.int .u8 bits) ∧ W.cell? ⟨w.heap.size + 1 + 1 + 1, 0, none⟩ = some (.bool false) ∧ W.cell? ⟨w.heap.size + 1 + 1 + 1, 1, none⟩ = some (.int .i64 0) ∧ W.frozen? ⟨w.heap.size + 1 + 1 + 1, 0, none⟩ = false ∧ W.frozen? ⟨w.heap.size + 1 + 1 + 1, 1, none⟩ = false ∧ w.heap.size + 1 < W.heap.size ∧ w.heap.size + 1 + 1 < W.heap.size ∧ w.heap.size + 1 + 1 + 1 < W.heap.size) := by
          intro W hW
          obtain ⟨a1, a2, a3⟩ := HXV.out W hW
          exact ⟨Lib.cell_of_heap a1 0, Lib.cell_of_heap a1 1, Lib.cell_of_heap a2 0, Lib.cell_of_heap a2 1, Lib.cell_of_heap a3 0, Lib.cell_of_heap a3 1, Lib.frozen_of_heap a3 0, Lib.frozen_of_heap a3 1, (Array.getElem?_eq_some_iff.1 a1).1, (Array.getElem?_eq_some_iff.1 a2).1, (Array.getElem?_eq_some_iff.1 a3).1⟩
        clear s0 s1 s2 hde hfa HMK hzz hE
        obtain ⟨vf0, vf1, vf2, vf3, vf4, vf5, vf6, vf7, vf8, vf9, vf10⟩ := HFV.out w6 (Below.refl _ _)
        go_wp2_with fail
        refine (HMK2.out w6).mono ?_
        rintro e w8 ⟨rfl, hb8⟩
        have HB8 : Hid (Below w6.heap.size w6 w8) := hb8
        obtain ⟨W9, hW9⟩ : ∃ W9, W9 = w8.alloc (.cells #[.int .i64 z0, .int .i64 z1, .int .i64 z2, .int .i64 z3, .int .i64 z4, .int .i64 z5] 69) := ⟨_, rfl⟩
        have HB9 : Hid (Below w6.heap.size w6 W9) := by rw [Hid, hW9]; exact belA' hb8 _
        have hm9 : W9.heap[w8.heap.size]? = some (.cells #[.int .i64 z0, .int .i64 z1, .int .i64 z2, .int .i64 z3, .int .i64 z4, .int .i64 z5] 69 (0, 0)) := by rw [hW9]; exact hp_topA rfl
        have HM9 := Lib.hid hm9
        have HW9 := Lib.hid hW9.symm
        have HZ9 : Hid (w.heap.size ≤ W9.heap.size) := by have h1 := (HFV.out W9 HB9.out).2.2.2.2.2.2.2.2.1; rw [Hid]; omega
        have HSR : Hid (∀ W, Below W9.heap.size W9 W → W.cell? ⟨w.heap.size + 1, 0, none⟩ = some (.bool true) ∧ W.cell? ⟨w.heap.size + 1, 1, none⟩ = some (.int .i64 since) ∧ W.cell? ⟨w8.heap.size, 0, none⟩ = some (.int .i64 z0) ∧ W.cell? ⟨w8.heap.size, 1, none⟩ = some (.int .i64 z1) ∧ W.cell? ⟨w8.heap.size, 2, none⟩ = some (.int .i64 z2) ∧ W.cell? ⟨w8.heap.size, 3, none⟩ = some (.int .i64 z3) ∧ W.cell? ⟨w8.heap.size, 4, none⟩ = some (.int .i64 z4) ∧ W.cell? ⟨w8.heap.size, 5, none⟩ = some (.int .i64 z5) ∧ w.heap.size + 1 < W.heap.size ∧ w8.heap.size < W.heap.size) := by
          intro W hW
          obtain ⟨a1, a2, a3⟩ := HXV.out W (belS HB9.out hW)
          have a4 := (hW.block _ (Array.getElem?_eq_some_iff.1 HM9.out).1).trans HM9.out
          exact ⟨Lib.cell_of_heap a1 0, Lib.cell_of_heap a1 1, Lib.cell_of_heap a4 0, Lib.cell_of_heap a4 1, Lib.cell_of_heap a4 2, Lib.cell_of_heap a4 3, Lib.cell_of_heap a4 4, Lib.cell_of_heap a4 5, (Array.getElem?_eq_some_iff.1 a1).1, (Array.getElem?_eq_some_iff.1 a4).1⟩
        clear hb8 hm9 hW9 vf0 vf1 vf2 vf3 vf4 vf5 vf6 vf7 vf8 vf9 vf10
        go_upto_region 18 with fail
        rw [HW9.out]
        clear HW9
        refine wp_region_held_drew (S := fun W => W.cell? ⟨w.heap.size + 1, 0, none⟩ = some (.bool true) ∧ W.cell? ⟨w.heap.size + 1, 1, none⟩ = some (.int .i64 since) ∧ W.cell? ⟨w8.heap.size, 0, none⟩ = some (.int .i64 z0) ∧ W.cell? ⟨w8.heap.size, 1, none⟩ = some (.int .i64 z1) ∧ W.cell? ⟨w8.heap.size, 2, none⟩ = some (.int .i64 z2) ∧ W.cell? ⟨w8.heap.size, 3, none⟩ = some (.int .i64 z3) ∧ W.cell? ⟨w8.heap.size, 4, none⟩ = some (.int .i64 z4) ∧ W.cell? ⟨w8.heap.size, 5, none⟩ = some (.int .i64 z5) ∧ w.heap.size + 1 < W.heap.size ∧ w8.heap.size < W.heap.size) (by kernel_rfl) (HSR.out W9.drew (Below.refl _ _).drew) (fun hHeld => ?_)
        refine wpAnyH_take (i := 0) (v := ?_) rfl (by kernel_rfl) (by kernel_rfl) (by kernel_rfl) (fun _ _ _ h => h) (Or.inl ⟨by kernel_rfl, ?_⟩) (by assumption) ?_
        rotate_left
        · (intro w hSw; (try dsimp only at hSw); go_simp)
          try with_reducible rfl
        try simp only [Act.put, List.setIfInBounds_toArray, List.set_cons_zero, List.set_cons_succ, List.getElem_toArray, List.getElem_cons_zero]
        refine wpAnyH_take (i := 1) (v := ?_) rfl (by kernel_rfl) (by kernel_rfl) (by kernel_rfl) (fun _ _ _ h => h) (Or.inl ⟨by kernel_rfl, ?_⟩) (by assumption) ?_
        rotate_left
        · (intro w hSw; (try dsimp only at hSw); go_simp)
          try with_reducible rfl
        try simp only [Act.put, List.setIfInBounds_toArray, List.set_cons_zero, List.set_cons_succ, List.getElem_toArray, List.getElem_cons_zero, List.getElem_cons_succ]
        refine wpAnyH_ready (rs := [2, 3]) (by kernel_rfl) (by simp) ?_
        refine AllReadyH.cons rfl (fun K hK => ?_) (AllReadyH.cons rfl (fun K hK => ?_) AllReadyH.nil)
        · go_simp
          obtain ⟨U, hU⟩ : ∃ U, U = (W9.alloc (.cells #[.int .i64 z0, .int .i64 z1, .int .i64 z2, .int .i64 z3, .int .i64 z4, .int .i64 z5] 69)).drew := ⟨_, rfl⟩
          have HU : Hid (Below W9.heap.size W9 U) := by rw [Hid, hU]; exact (belA' (Below.refl _ _) _).drew
          have HMU : Hid (U.heap[W9.heap.size]? = some (.cells #[.int .i64 z0, .int .i64 z1, .int .i64 z2, .int .i64 z3, .int .i64 z4, .int .i64 z5] 69 (0, 0))) := by rw [Hid, hU]; exact hp_topA rfl
          have HU2 := Lib.hid hU.symm
          rw [HU2.out]
          clear hU HU2
          refine hK.out _ _ (HSR.out _ HU.out) (fun hHeld => ?_)
          clear hK K
          try simp only [Act.put, List.setIfInBounds_toArray, List.set_cons_zero, List.set_cons_succ, List.getElem_toArray, List.getElem_cons_zero, List.getElem_cons_succ]
          obtain ⟨_, _, _, _, u4, u5, u6, u7, _, _, u10⟩ := HFV.out U (belS HB9.out HU.out)
          refine wpAnyH_ready (rs := [3]) (by kernel_rfl) (by simp) ?_
          refine AllReadyH.cons rfl (fun K hK => ?_) AllReadyH.nil
          go_simp
          have HSU : Hid ((set2 U (w.heap.size + 1 + 1 + 1) (.bool true) (.int .i64 since)).cell? ⟨w.heap.size + 1, 0, none⟩ = some (.bool true) ∧ (set2 U (w.heap.size + 1 + 1 + 1) (.bool true) (.int .i64 since)).cell? ⟨w.heap.size + 1, 1, none⟩ = some (.int .i64 since) ∧ (set2 U (w.heap.size + 1 + 1 + 1) (.bool true) (.int .i64 since)).cell? ⟨w8.heap.size, 0, none⟩ = some (.int .i64 z0) ∧ (set2 U (w.heap.size + 1 + 1 + 1) (.bool true) (.int .i64 since)).cell? ⟨w8.heap.size, 1, none⟩ = some (.int .i64 z1) ∧ (set2 U (w.heap.size + 1 + 1 + 1) (.bool true) (.int .i64 since)).cell? ⟨w8.heap.size, 2, none⟩ = some (.int .i64 z2) ∧ (set2 U (w.heap.size + 1 + 1 + 1) (.bool true) (.int .i64 since)).cell? ⟨w8.heap.size, 3, none⟩ = some (.int .i64 z3) ∧ (set2 U (w.heap.size + 1 + 1 + 1) (.bool true) (.int .i64 since)).cell? ⟨w8.heap.size, 4, none⟩ = some (.int .i64 z4) ∧ (set2 U (w.heap.size + 1 + 1 + 1) (.bool true) (.int .i64 since)).cell? ⟨w8.heap.size, 5, none⟩ = some (.int .i64 z5) ∧ w.heap.size + 1 < (set2 U (w.heap.size + 1 + 1 + 1) (.bool true) (.int .i64 since)).heap.size ∧ w8.heap.size < (set2 U (w.heap.size + 1 + 1 + 1) (.bool true) (.int .i64 since)).heap.size) := by
            obtain ⟨b1, b2, b3, b4, b5, b6, b7, b8, b9, b10⟩ := HSR.out U HU.out
            have hne : w8.heap.size ≠ w.heap.size + 1 + 1 + 1 := by have h1 := (HFV.out w8 HB8.out).2.2.2.2.2.2.2.2.2.2; omega
            exact ⟨(World.cell?_of_block (a := ⟨w.heap.size + 1, 0, none⟩) (set2_other U _ _ _ _ (by show w.heap.size + 1 ≠ w.heap.size + 1 + 1 + 1; omega))).trans b1, (World.cell?_of_block (a := ⟨w.heap.size + 1, 1, none⟩) (set2_other U _ _ _ _ (by show w.heap.size + 1 ≠ w.heap.size + 1 + 1 + 1; omega))).trans b2, (World.cell?_of_block (a := ⟨w8.heap.size, 0, none⟩) (set2_other U _ _ _ _ (hne))).trans b3, (World.cell?_of_block (a := ⟨w8.heap.size, 1, none⟩) (set2_other U _ _ _ _ (hne))).trans b4, (World.cell?_of_block (a := ⟨w8.heap.size, 2, none⟩) (set2_other U _ _ _ _ (hne))).trans b5, (World.cell?_of_block (a := ⟨w8.heap.size, 3, none⟩) (set2_other U _ _ _ _ (hne))).trans b6, (World.cell?_of_block (a := ⟨w8.heap.size, 4, none⟩) (set2_other U _ _ _ _ (hne))).trans b7, (World.cell?_of_block (a := ⟨w8.heap.size, 5, none⟩) (set2_other U _ _ _ _ (hne))).trans b8, by simpa [set2, World.setCell] using b9, by simpa [set2, World.setCell] using b10⟩
          refine hK.out _ _ HSU.out (fun hHeld => ?_)
          clear hK K u4 u5 u6 u7 u10
          try simp only [Act.put, List.setIfInBounds_toArray, List.set_cons_zero, List.set_cons_succ, List.getElem_toArray, List.getElem_cons_zero, List.getElem_cons_succ]
          refine wpAnyH_take (i := 4) (v := ?_) rfl (by kernel_rfl) (by kernel_rfl) (by kernel_rfl) (fun _ _ _ h => h) (Or.inl ⟨by kernel_rfl, ?_⟩) (by assumption) ?_
          rotate_left
          · (intro w hSw; (try dsimp only at hSw); go_simp)
            try with_reducible rfl
          try simp only [Act.put, List.setIfInBounds_toArray, List.set_cons_zero, List.set_cons_succ, List.getElem_toArray, List.getElem_cons_zero, List.getElem_cons_succ]
          refine wpAnyH_take (i := 5) (v := ?_) rfl (by kernel_rfl) (by kernel_rfl) (by kernel_rfl) (fun _ _ _ h => h) (Or.inl ⟨by kernel_rfl, ?_⟩) (by assumption) ?_
          rotate_left
          · (intro w hSw; (try dsimp only at hSw); go_simp)
            try with_reducible rfl
          try simp only [Act.put, List.setIfInBounds_toArray, List.set_cons_zero, List.set_cons_succ, List.getElem_toArray, List.getElem_cons_zero, List.getElem_cons_succ]
          refine wpAnyH_done (by kernel_rfl) ?_ _
          clear hHeld
          go_wp2_with fail
          refine bodyPost_ret (results_cell_row_tmp2 rfl _ _ _ _ _ _ _ _ _ rfl rfl rfl (set2_at (HXV.out U (belS HB9.out HU.out)).2.2 _ _) Tryz.underlying27 rfl (by kernel_rfl)) rfl ?_
          refine ⟨⟨_, by rw [HN.out]; rfl, ?_⟩, set2_below (bt_below (Below.refl _ _) (.of_below ((HVB.out.trans (HB9.out.mono HVB.out.size)).trans (HU.out.mono (by exact HZ9.out)))) (Nat.le_refl _) (Nat.le_refl _)) (by omega) _ _⟩
          rw [HN.out]
          refine ⟨W9.heap.size, rfl, HZ9.out, ?_⟩
          rw [HZZ.out]
          exact (set2_other _ _ _ _ _ (by have h1 := (HFV.out W9 HB9.out).2.2.2.2.2.2.2.2.2.2; omega)).trans HMU.out
        · obtain ⟨_, _, _, _, u4, u5, u6, u7, _, _, u10⟩ := HFV.out W9 HB9.out
          go_simp
          have HSU : Hid ((set2 W9 (w.heap.size + 1 + 1 + 1) (.bool true) (.int .i64 since)).drew.cell? ⟨w.heap.size + 1, 0, none⟩ = some (.bool true) ∧ (set2 W9 (w.heap.size + 1 + 1 + 1) (.bool true) (.int .i64 since)).drew.cell? ⟨w.heap.size + 1, 1, none⟩ = some (.int .i64 since) ∧ (set2 W9 (w.heap.size + 1 + 1 + 1) (.bool true) (.int .i64 since)).drew.cell? ⟨w8.heap.size, 0, none⟩ = some (.int .i64 z0) ∧ (set2 W9 (w.heap.size + 1 + 1 + 1) (.bool true) (.int .i64 since)).drew.cell? ⟨w8.heap.size, 1, none⟩ = some (.int .i64 z1) ∧ (set2 W9 (w.heap.size + 1 + 1 + 1) (.bool true) (.int .i64 since)).drew.cell? ⟨w8.heap.size, 2, none⟩ = some (.int .i64 z2) ∧ (set2 W9 (w.heap.size + 1 + 1 + 1) (.bool true) (.int .i64 since)).drew.cell? ⟨w8.heap.size, 3, none⟩ = some (.int .i64 z3) ∧ (set2 W9 (w.heap.size + 1 + 1 + 1) (.bool true) (.int .i64 since)).drew.cell? ⟨w8.heap.size, 4, none⟩ = some (.int .i64 z4) ∧ (set2 W9 (w.heap.size + 1 + 1 + 1) (.bool true) (.int .i64 since)).drew.cell? ⟨w8.heap.size, 5, none⟩ = some (.int .i64 z5) ∧ w.heap.size + 1 < (set2 W9 (w.heap.size + 1 + 1 + 1) (.bool true) (.int .i64 since)).drew.heap.size ∧ w8.heap.size < (set2 W9 (w.heap.size + 1 + 1 + 1) (.bool true) (.int .i64 since)).drew.heap.size) := by
            obtain ⟨b1, b2, b3, b4, b5, b6, b7, b8, b9, b10⟩ := HSR.out W9 (Below.refl _ _)
            have hne : w8.heap.size ≠ w.heap.size + 1 + 1 + 1 := by have h1 := (HFV.out w8 HB8.out).2.2.2.2.2.2.2.2.2.2; omega
            exact ⟨(World.cell?_of_block (a := ⟨w.heap.size + 1, 0, none⟩) (set2_other W9 _ _ _ _ (by show w.heap.size + 1 ≠ w.heap.size + 1 + 1 + 1; omega))).trans b1, (World.cell?_of_block (a := ⟨w.heap.size + 1, 1, none⟩) (set2_other W9 _ _ _ _ (by show w.heap.size + 1 ≠ w.heap.size + 1 + 1 + 1; omega))).trans b2, (World.cell?_of_block (a := ⟨w8.heap.size, 0, none⟩) (set2_other W9 _ _ _ _ (hne))).trans b3, (World.cell?_of_block (a := ⟨w8.heap.size, 1, none⟩) (set2_other W9 _ _ _ _ (hne))).trans b4, (World.cell?_of_block (a := ⟨w8.heap.size, 2, none⟩) (set2_other W9 _ _ _ _ (hne))).trans b5, (World.cell?_of_block (a := ⟨w8.heap.size, 3, none⟩) (set2_other W9 _ _ _ _ (hne))).trans b6, (World.cell?_of_block (a := ⟨w8.heap.size, 4, none⟩) (set2_other W9 _ _ _ _ (hne))).trans b7, (World.cell?_of_block (a := ⟨w8.heap.size, 5, none⟩) (set2_other W9 _ _ _ _ (hne))).trans b8, by simpa [set2, World.setCell] using b9, by simpa [set2, World.setCell] using b10⟩
          obtain ⟨U, hU⟩ : ∃ U, U = (set2 W9 (w.heap.size + 1 + 1 + 1) (.bool true) (.int .i64 since)).drew := ⟨_, rfl⟩
          have hUz : U.heap.size = W9.heap.size := by rw [hU]; simp [set2, World.setCell]
          have HUZ := Lib.hid hUz
          have HRU : Hid (U.heap[w.heap.size + 1 + 1 + 1]? = some (.cells #[.bool true, .int .i64 since] 27 (0, 0))) := by
            rw [Hid, hU]; exact set2_at (HXV.out W9 HB9.out).2.2 _ _
          have HBU : Hid (Below w.heap.size w U) := by
            rw [Hid, hU]
            exact (set2_below (HVB.out.trans (HB9.out.mono HVB.out.size)) (by omega) _ _).drew
          rw [← hU] at HSU
          have HU2 : Hid (((W9.setCell ⟨w.heap.size + 1 + 1 + 1, 0, none⟩ (.bool true)).setCell ⟨w.heap.size + 1 + 1 + 1, 1, none⟩ (.int .i64 since)).drew = U) := hU.symm
          rw [HU2.out]
          refine hK.out _ _ HSU.out (fun hHeld => ?_)
          clear hK K u4 u5 u6 u7 u10 hU HU2 hUz
          try simp only [Act.put, List.setIfInBounds_toArray, List.set_cons_zero, List.set_cons_succ, List.getElem_toArray, List.getElem_cons_zero, List.getElem_cons_succ]
          refine wpAnyH_ready (rs := [2]) (by kernel_rfl) (by simp) ?_
          refine AllReadyH.cons rfl (fun K hK => ?_) AllReadyH.nil
          go_simp
          have HSV : Hid ((U.alloc (.cells #[.int .i64 z0, .int .i64 z1, .int .i64 z2, .int .i64 z3, .int .i64 z4, .int .i64 z5] 69)).cell? ⟨w.heap.size + 1, 0, none⟩ = some (.bool true) ∧ (U.alloc (.cells #[.int .i64 z0, .int .i64 z1, .int .i64 z2, .int .i64 z3, .int .i64 z4, .int .i64 z5] 69)).cell? ⟨w.heap.size + 1, 1, none⟩ = some (.int .i64 since) ∧ (U.alloc (.cells #[.int .i64 z0, .int .i64 z1, .int .i64 z2, .int .i64 z3, .int .i64 z4, .int .i64 z5] 69)).cell? ⟨w8.heap.size, 0, none⟩ = some (.int .i64 z0) ∧ (U.alloc (.cells #[.int .i64 z0, .int .i64 z1, .int .i64 z2, .int .i64 z3, .int .i64 z4, .int .i64 z5] 69)).cell? ⟨w8.heap.size, 1, none⟩ = some (.int .i64 z1) ∧ (U.alloc (.cells #[.int .i64 z0, .int .i64 z1, .int .i64 z2, .int .i64 z3, .int .i64 z4, .int .i64 z5] 69)).cell? ⟨w8.heap.size, 2, none⟩ = some (.int .i64 z2) ∧ (U.alloc (.cells #[.int .i64 z0, .int .i64 z1, .int .i64 z2, .int .i64 z3, .int .i64 z4, .int .i64 z5] 69)).cell? ⟨w8.heap.size, 3, none⟩ = some (.int .i64 z3) ∧ (U.alloc (.cells #[.int .i64 z0, .int .i64 z1, .int .i64 z2, .int .i64 z3, .int .i64 z4, .int .i64 z5] 69)).cell? ⟨w8.heap.size, 4, none⟩ = some (.int .i64 z4) ∧ (U.alloc (.cells #[.int .i64 z0, .int .i64 z1, .int .i64 z2, .int .i64 z3, .int .i64 z4, .int .i64 z5] 69)).cell? ⟨w8.heap.size, 5, none⟩ = some (.int .i64 z5) ∧ w.heap.size + 1 < (U.alloc (.cells #[.int .i64 z0, .int .i64 z1, .int .i64 z2, .int .i64 z3, .int .i64 z4, .int .i64 z5] 69)).heap.size ∧ w8.heap.size < (U.alloc (.cells #[.int .i64 z0, .int .i64 z1, .int .i64 z2, .int .i64 z3, .int .i64 z4, .int .i64 z5] 69)).heap.size) := by
            obtain ⟨b1, b2, b3, b4, b5, b6, b7, b8, b9, b10⟩ := HSU.out
            exact ⟨(World.cell?_of_block (a := ⟨w.heap.size + 1, 0, none⟩) (Below.heap_alloc U _ _ (by exact b9))).trans b1, (World.cell?_of_block (a := ⟨w.heap.size + 1, 1, none⟩) (Below.heap_alloc U _ _ (by exact b9))).trans b2, (World.cell?_of_block (a := ⟨w8.heap.size, 0, none⟩) (Below.heap_alloc U _ _ (by exact b10))).trans b3, (World.cell?_of_block (a := ⟨w8.heap.size, 1, none⟩) (Below.heap_alloc U _ _ (by exact b10))).trans b4, (World.cell?_of_block (a := ⟨w8.heap.size, 2, none⟩) (Below.heap_alloc U _ _ (by exact b10))).trans b5, (World.cell?_of_block (a := ⟨w8.heap.size, 3, none⟩) (Below.heap_alloc U _ _ (by exact b10))).trans b6, (World.cell?_of_block (a := ⟨w8.heap.size, 4, none⟩) (Below.heap_alloc U _ _ (by exact b10))).trans b7, (World.cell?_of_block (a := ⟨w8.heap.size, 5, none⟩) (Below.heap_alloc U _ _ (by exact b10))).trans b8, by simp; omega, by simp; omega⟩
          refine hK.out _ _ HSV.out (fun hHeld => ?_)
          clear hK K
          try simp only [Act.put, List.setIfInBounds_toArray, List.set_cons_zero, List.set_cons_succ, List.getElem_toArray, List.getElem_cons_zero, List.getElem_cons_succ]
          refine wpAnyH_take (i := 4) (v := ?_) rfl (by kernel_rfl) (by kernel_rfl) (by kernel_rfl) (fun _ _ _ h => h) (Or.inl ⟨by kernel_rfl, ?_⟩) (by assumption) ?_
          rotate_left
          · (intro w hSw; (try dsimp only at hSw); go_simp)
            try with_reducible rfl
          try simp only [Act.put, List.setIfInBounds_toArray, List.set_cons_zero, List.set_cons_succ, List.getElem_toArray, List.getElem_cons_zero, List.getElem_cons_succ]
          refine wpAnyH_take (i := 5) (v := ?_) rfl (by kernel_rfl) (by kernel_rfl) (by kernel_rfl) (fun _ _ _ h => h) (Or.inl ⟨by kernel_rfl, ?_⟩) (by assumption) ?_
          rotate_left
          · (intro w hSw; (try dsimp only at hSw); go_simp)
            try with_reducible rfl
          try simp only [Act.put, List.setIfInBounds_toArray, List.set_cons_zero, List.set_cons_succ, List.getElem_toArray, List.getElem_cons_zero, List.getElem_cons_succ]
          refine wpAnyH_done (by kernel_rfl) ?_ _
          clear hHeld
          go_wp2_with fail
          have hru : (U.alloc (.cells #[.int .i64 z0, .int .i64 z1, .int .i64 z2, .int .i64 z3, .int .i64 z4, .int .i64 z5] 69)).heap[w.heap.size + 1 + 1 + 1]? = some (.cells #[.bool true, .int .i64 since] 27 (0, 0)) := (Below.heap_alloc _ _ _ (Array.getElem?_eq_some_iff.1 HRU.out).1).trans HRU.out
          refine bodyPost_ret (results_cell_row_tmp2 rfl _ _ _ _ _ _ _ _ _ rfl rfl rfl hru Tryz.underlying27 rfl (by kernel_rfl)) rfl ?_
          refine ⟨⟨_, by rw [HN.out]; rfl, ?_⟩, belA' HBU.out _⟩
          rw [HN.out]
          refine ⟨U.heap.size, rfl, by rw [HUZ.out]; exact HZ9.out, ?_⟩
          rw [HZZ.out]
          exact hp_topA rfl
      | false =>
        rw [HM.out] at HMY0
        obtain rfl : since = 0 := by have h := HMY0.out; simpa using h.symm
        have HFA : Hid (0 ≤ at_ ∧ at_ ≤ at_) := ⟨by have := HC3.out; omega, Int.le_refl _⟩
        have HN : Hid (nextR names n t false 0 at_ dur bits = ((true, at_), some (atomM at_ at_ (at_ + dur)), 0)) := HN0.out
        go_wp2_with fail
        refine HMW.out.mono ?_
        rintro e w6 ⟨rfl, hb6⟩
        have HB6 := Lib.hid (belS HB5.out hb6)
        clear hb6 yf0 yf1 yf2 yf3 yf4 yf5 yf6 yf7 yf8 yf9 yf10 yf11 yf12
        obtain ⟨zf0, zf1, zf2, zf3, zf4, zf5, zf6, zf7, zf8, zf9, zf10, zf11, zf12⟩ := HF.out w6 HB6.out
        go_upto_region 14 with fail
        clear zf0 zf1 zf2 zf3 zf4 zf5 zf6 zf7 zf8 zf9 zf10 zf11 zf12
        obtain ⟨V, hV⟩ : ∃ V, V = set2 w6 (w.heap.size + 1) (.bool true) (.int .i64 at_) := ⟨_, rfl⟩
        have HVX : Hid (V.heap[w.heap.size + 1]? = some (.cells #[.bool true, .int .i64 at_] 27 (0, 0)) ∧ V.heap[w.heap.size + 1 + 1]? = some (.cells #[.int .i64 dur, .int .u8 bits] 29 (0, 0)) ∧ V.heap[w.heap.size + 1 + 1 + 1]? = some (.cells #[.bool false, .int .i64 0] 27 (0, 0))) := by
          obtain ⟨a1, a2, a3⟩ := HX.out w6 HB6.out
          rw [hV]
          exact ⟨set2_at a1 _ _, (set2_other _ _ _ _ _ (by omega)).trans a2, (set2_other _ _ _ _ _ (by omega)).trans a3⟩
        have HVB : Hid (Below w.heap.size w V) := by rw [Hid, hV]; exact set2_below (HB4.out.trans (HB6.out.mono HB4.out.size)) (by omega) _ _
        have hV' : Hid ((w6.setCell ⟨w.heap.size + 1, 0, none⟩ (.bool true)).setCell ⟨w.heap.size + 1, 1, none⟩ (.int .i64 at_) = V) := hV.symm
        rw [hV'.out]
        clear hV hV'
        have hfa : 0 ≤ at_ ∧ at_ ≤ at_ := by have := HFA.out; exact this
        have hde : at_ < at_ + dur ∧ at_ + dur ≤ 288230376151711744 := by have h1 := HC2.out; have h2 := HC4.out; omega
        obtain ⟨E, hE⟩ : ∃ E, at_ + dur = E := ⟨_, rfl⟩
        rw [hE] at hde HN
        have hw1 : IntKind.i64.wrap (at_ + dur) = E := by rw [hE]; exact IntWalk.i64_in _ (by omega)
        have hw1' : wrap64 (at_ + dur) = E := by rw [hE]; exact IntWalk.wrap64_in _ (by omega)
        have hw2 : IntKind.i64.wrap (E - at_) = E - at_ := IntWalk.i64_in _ (by omega)
        have hw2' : wrap64 (E - at_) = E - at_ := IntWalk.wrap64_in _ (by omega)
        have s0 : SideOk ⟨at_, false, E, true, false⟩ (2 * (-at_) + 1) (2 * E) := by
          have := side_ok (lo := at_) (hi := E) (ls := false) (hs := true) (by omega) (by omega) (by omega)
          simp only [Bool.false_eq_true, if_false, if_true, Int.add_zero] at this
          exact this
        have s1 : SideOk ⟨at_, true, E, false, false⟩ (2 * (-at_)) (2 * E + 1) := by
          have := side_ok (lo := at_) (hi := E) (ls := true) (hs := false) (by omega) (by omega) (by omega)
          simp only [Bool.false_eq_true, if_false, if_true, Int.add_zero] at this
          exact this
        have s2 : SideOk ⟨0, true, E - at_, false, false⟩ 0 (2 * (E - at_) + 1) := by
          have := side_ok (lo := 0) (hi := E - at_) (ls := true) (hs := false) (by omega) (by omega) (by omega)
          simp only [Bool.false_eq_true, if_false, if_true, Int.add_zero, Int.neg_zero, Int.mul_zero] at this
          exact this
        have HMK := fun W => Lib.hid (make42_any W s0 s1 s2 (atom_bad hfa.1 hfa.2 hde.1 hde.2) (atom_closed hfa.1 hfa.2 hde.1 hde.2))
        obtain ⟨z0, z1, z2, z3, z4, z5, hzz⟩ : ∃ z0 z1 z2 z3 z4 z5, zonD (atomM at_ at_ E) = #[.int .i64 z0, .int .i64 z1, .int .i64 z2, .int .i64 z3, .int .i64 z4, .int .i64 z5] := ⟨_, _, _, _, _, _, rfl⟩
        have HZZ := Lib.hid hzz
        have HMK2 : Hid (∀ W, Calls Tryz.prog 42 #[.agg #[.int .i64 at_, .bool false, .int .i64 E, .bool true, .bool false], .agg #[.int .i64 at_, .bool true, .int .i64 E, .bool false, .bool false], .agg #[.int .i64 0, .bool true, .int .i64 (E - at_), .bool false, .bool false]] W fun e w' => e = .returned (.tuple #[.agg #[.int .i64 z0, .int .i64 z1, .int .i64 z2, .int .i64 z3, .int .i64 z4, .int .i64 z5], .int .i64 0]) ∧ Below W.heap.size W w') := fun W => by
          have := (HMK W).out
          rw [show [1, 2 * -at_ + 1, 2 * -at_, 2 * E, 1, 0, 2 * E + 1, 2 * (E - at_) + 1, 1] = atomM at_ at_ E from rfl, hzz] at this
          exact this
        have HXV : Hid (∀ W, Below V.heap.size V W → W.heap[w.heap.size + 1]? = some (.cells #[.bool true, .int .i64 at_] 27 (0, 0)) ∧ W.heap[w.heap.size + 1 + 1]? = some (.cells #[.int .i64 dur, .int .u8 bits] 29 (0, 0)) ∧ W.heap[w.heap.size + 1 + 1 + 1]? = some (.cells #[.bool false, .int .i64 0] 27 (0, 0))) := by
          obtain ⟨v1, v2, v3⟩ := HVX.out
          intro W hW
          exact ⟨(hW.block _ (Array.getElem?_eq_some_iff.1 v1).1).trans v1, (hW.block _ (Array.getElem?_eq_some_iff.1 v2).1).trans v2, (hW.block _ (Array.getElem?_eq_some_iff.1 v3).1).trans v3⟩
        have HFV : Hid (∀ W, Below V.heap.size V W → W.cell? ⟨w.heap.size + 1, 0, none⟩ = some (.bool true) ∧ W.cell? ⟨w.heap.size + 1, 1, none⟩ = some (.int .i64 at_) ∧ W.cell? ⟨w.heap.size + 1 + 1, 0, none⟩ = some (.int .i64 dur) ∧ W.cell? ⟨w.heap.size + 1 + 1, 1, none⟩ = some (.int .u8 bits) ∧ W.cell? ⟨w.heap.size + 1 + 1 + 1, 0, none⟩ = some (.bool false) ∧ W.cell? ⟨w.heap.size + 1 + 1 + 1, 1, none⟩ = some (.int .i64 0) ∧ W.frozen? ⟨w.heap.size + 1 + 1 + 1, 0, none⟩ = false ∧ W.frozen? ⟨w.heap.size + 1 + 1 + 1, 1, none⟩ = false ∧ w.heap.size + 1 < W.heap.size ∧ w.heap.size + 1 + 1 < W.heap.size ∧ w.heap.size + 1 + 1 + 1 < W.heap.size) := by
          intro W hW
          obtain ⟨a1, a2, a3⟩ := HXV.out W hW
          exact ⟨Lib.cell_of_heap a1 0, Lib.cell_of_heap a1 1, Lib.cell_of_heap a2 0, Lib.cell_of_heap a2 1, Lib.cell_of_heap a3 0, Lib.cell_of_heap a3 1, Lib.frozen_of_heap a3 0, Lib.frozen_of_heap a3 1, (Array.getElem?_eq_some_iff.1 a1).1, (Array.getElem?_eq_some_iff.1 a2).1, (Array.getElem?_eq_some_iff.1 a3).1⟩
        clear s0 s1 s2 hde hfa HMK hzz hE
        obtain ⟨vf0, vf1, vf2, vf3, vf4, vf5, vf6, vf7, vf8, vf9, vf10⟩ := HFV.out V (Below.refl _ _)
        go_wp2_with fail
        refine (HMK2.out V).mono ?_
        rintro e w8 ⟨rfl, hb8⟩
        have HB8 : Hid (Below V.heap.size V w8) := hb8
        obtain ⟨W9, hW9⟩ : ∃ W9, W9 = w8.alloc (.cells #[.int .i64 z0, .int .i64 z1, .int .i64 z2, .int .i64 z3, .int .i64 z4, .int .i64 z5] 69) := ⟨_, rfl⟩
        have HB9 : Hid (Below V.heap.size V W9) := by rw [Hid, hW9]; exact belA' hb8 _
        have hm9 : W9.heap[w8.heap.size]? = some (.cells #[.int .i64 z0, .int .i64 z1, .int .i64 z2, .int .i64 z3, .int .i64 z4, .int .i64 z5] 69 (0, 0)) := by rw [hW9]; exact hp_topA rfl
        have HM9 := Lib.hid hm9
        have HW9 := Lib.hid hW9.symm
        have HZ9 : Hid (w.heap.size ≤ W9.heap.size) := by have h1 := (HFV.out W9 HB9.out).2.2.2.2.2.2.2.2.1; rw [Hid]; omega
        have HSR : Hid (∀ W, Below W9.heap.size W9 W → W.cell? ⟨w.heap.size + 1, 0, none⟩ = some (.bool true) ∧ W.cell? ⟨w.heap.size + 1, 1, none⟩ = some (.int .i64 at_) ∧ W.cell? ⟨w8.heap.size, 0, none⟩ = some (.int .i64 z0) ∧ W.cell? ⟨w8.heap.size, 1, none⟩ = some (.int .i64 z1) ∧ W.cell? ⟨w8.heap.size, 2, none⟩ = some (.int .i64 z2) ∧ W.cell? ⟨w8.heap.size, 3, none⟩ = some (.int .i64 z3) ∧ W.cell? ⟨w8.heap.size, 4, none⟩ = some (.int .i64 z4) ∧ W.cell? ⟨w8.heap.size, 5, none⟩ = some (.int .i64 z5) ∧ w.heap.size + 1 < W.heap.size ∧ w8.heap.size < W.heap.size) := by
          intro W hW
          obtain ⟨a1, a2, a3⟩ := HXV.out W (belS HB9.out hW)
          have a4 := (hW.block _ (Array.getElem?_eq_some_iff.1 HM9.out).1).trans HM9.out
          exact ⟨Lib.cell_of_heap a1 0, Lib.cell_of_heap a1 1, Lib.cell_of_heap a4 0, Lib.cell_of_heap a4 1, Lib.cell_of_heap a4 2, Lib.cell_of_heap a4 3, Lib.cell_of_heap a4 4, Lib.cell_of_heap a4 5, (Array.getElem?_eq_some_iff.1 a1).1, (Array.getElem?_eq_some_iff.1 a4).1⟩
        clear hb8 hm9 hW9 vf0 vf1 vf2 vf3 vf4 vf5 vf6 vf7 vf8 vf9 vf10
        go_upto_region 18 with fail
        rw [HW9.out]
        clear HW9
        refine wp_region_held_drew (S := fun W => W.cell? ⟨w.heap.size + 1, 0, none⟩ = some (.bool true) ∧ W.cell? ⟨w.heap.size + 1, 1, none⟩ = some (.int .i64 at_) ∧ W.cell? ⟨w8.heap.size, 0, none⟩ = some (.int .i64 z0) ∧ W.cell? ⟨w8.heap.size, 1, none⟩ = some (.int .i64 z1) ∧ W.cell? ⟨w8.heap.size, 2, none⟩ = some (.int .i64 z2) ∧ W.cell? ⟨w8.heap.size, 3, none⟩ = some (.int .i64 z3) ∧ W.cell? ⟨w8.heap.size, 4, none⟩ = some (.int .i64 z4) ∧ W.cell? ⟨w8.heap.size, 5, none⟩ = some (.int .i64 z5) ∧ w.heap.size + 1 < W.heap.size ∧ w8.heap.size < W.heap.size) (by kernel_rfl) (HSR.out W9.drew (Below.refl _ _).drew) (fun hHeld => ?_)
        refine wpAnyH_take (i := 0) (v := ?_) rfl (by kernel_rfl) (by kernel_rfl) (by kernel_rfl) (fun _ _ _ h => h) (Or.inl ⟨by kernel_rfl, ?_⟩) (by assumption) ?_
        rotate_left
        · (intro w hSw; (try dsimp only at hSw); go_simp)
          try with_reducible rfl
        try simp only [Act.put, List.setIfInBounds_toArray, List.set_cons_zero, List.set_cons_succ, List.getElem_toArray, List.getElem_cons_zero]
        refine wpAnyH_take (i := 1) (v := ?_) rfl (by kernel_rfl) (by kernel_rfl) (by kernel_rfl) (fun _ _ _ h => h) (Or.inl ⟨by kernel_rfl, ?_⟩) (by assumption) ?_
        rotate_left
        · (intro w hSw; (try dsimp only at hSw); go_simp)
          try with_reducible rfl
        try simp only [Act.put, List.setIfInBounds_toArray, List.set_cons_zero, List.set_cons_succ, List.getElem_toArray, List.getElem_cons_zero, List.getElem_cons_succ]
        refine wpAnyH_ready (rs := [2, 3]) (by kernel_rfl) (by simp) ?_
        refine AllReadyH.cons rfl (fun K hK => ?_) (AllReadyH.cons rfl (fun K hK => ?_) AllReadyH.nil)
        · go_simp
          obtain ⟨U, hU⟩ : ∃ U, U = (W9.alloc (.cells #[.int .i64 z0, .int .i64 z1, .int .i64 z2, .int .i64 z3, .int .i64 z4, .int .i64 z5] 69)).drew := ⟨_, rfl⟩
          have HU : Hid (Below W9.heap.size W9 U) := by rw [Hid, hU]; exact (belA' (Below.refl _ _) _).drew
          have HMU : Hid (U.heap[W9.heap.size]? = some (.cells #[.int .i64 z0, .int .i64 z1, .int .i64 z2, .int .i64 z3, .int .i64 z4, .int .i64 z5] 69 (0, 0))) := by rw [Hid, hU]; exact hp_topA rfl
          have HU2 := Lib.hid hU.symm
          rw [HU2.out]
          clear hU HU2
          refine hK.out _ _ (HSR.out _ HU.out) (fun hHeld => ?_)
          clear hK K
          try simp only [Act.put, List.setIfInBounds_toArray, List.set_cons_zero, List.set_cons_succ, List.getElem_toArray, List.getElem_cons_zero, List.getElem_cons_succ]
          obtain ⟨_, _, _, _, u4, u5, u6, u7, _, _, u10⟩ := HFV.out U (belS HB9.out HU.out)
          refine wpAnyH_ready (rs := [3]) (by kernel_rfl) (by simp) ?_
          refine AllReadyH.cons rfl (fun K hK => ?_) AllReadyH.nil
          go_simp
          have HSU : Hid ((set2 U (w.heap.size + 1 + 1 + 1) (.bool true) (.int .i64 at_)).cell? ⟨w.heap.size + 1, 0, none⟩ = some (.bool true) ∧ (set2 U (w.heap.size + 1 + 1 + 1) (.bool true) (.int .i64 at_)).cell? ⟨w.heap.size + 1, 1, none⟩ = some (.int .i64 at_) ∧ (set2 U (w.heap.size + 1 + 1 + 1) (.bool true) (.int .i64 at_)).cell? ⟨w8.heap.size, 0, none⟩ = some (.int .i64 z0) ∧ (set2 U (w.heap.size + 1 + 1 + 1) (.bool true) (.int .i64 at_)).cell? ⟨w8.heap.size, 1, none⟩ = some (.int .i64 z1) ∧ (set2 U (w.heap.size + 1 + 1 + 1) (.bool true) (.int .i64 at_)).cell? ⟨w8.heap.size, 2, none⟩ = some (.int .i64 z2) ∧ (set2 U (w.heap.size + 1 + 1 + 1) (.bool true) (.int .i64 at_)).cell? ⟨w8.heap.size, 3, none⟩ = some (.int .i64 z3) ∧ (set2 U (w.heap.size + 1 + 1 + 1) (.bool true) (.int .i64 at_)).cell? ⟨w8.heap.size, 4, none⟩ = some (.int .i64 z4) ∧ (set2 U (w.heap.size + 1 + 1 + 1) (.bool true) (.int .i64 at_)).cell? ⟨w8.heap.size, 5, none⟩ = some (.int .i64 z5) ∧ w.heap.size + 1 < (set2 U (w.heap.size + 1 + 1 + 1) (.bool true) (.int .i64 at_)).heap.size ∧ w8.heap.size < (set2 U (w.heap.size + 1 + 1 + 1) (.bool true) (.int .i64 at_)).heap.size) := by
            obtain ⟨b1, b2, b3, b4, b5, b6, b7, b8, b9, b10⟩ := HSR.out U HU.out
            have hne : w8.heap.size ≠ w.heap.size + 1 + 1 + 1 := by have h1 := (HFV.out w8 HB8.out).2.2.2.2.2.2.2.2.2.2; omega
            exact ⟨(World.cell?_of_block (a := ⟨w.heap.size + 1, 0, none⟩) (set2_other U _ _ _ _ (by show w.heap.size + 1 ≠ w.heap.size + 1 + 1 + 1; omega))).trans b1, (World.cell?_of_block (a := ⟨w.heap.size + 1, 1, none⟩) (set2_other U _ _ _ _ (by show w.heap.size + 1 ≠ w.heap.size + 1 + 1 + 1; omega))).trans b2, (World.cell?_of_block (a := ⟨w8.heap.size, 0, none⟩) (set2_other U _ _ _ _ (hne))).trans b3, (World.cell?_of_block (a := ⟨w8.heap.size, 1, none⟩) (set2_other U _ _ _ _ (hne))).trans b4, (World.cell?_of_block (a := ⟨w8.heap.size, 2, none⟩) (set2_other U _ _ _ _ (hne))).trans b5, (World.cell?_of_block (a := ⟨w8.heap.size, 3, none⟩) (set2_other U _ _ _ _ (hne))).trans b6, (World.cell?_of_block (a := ⟨w8.heap.size, 4, none⟩) (set2_other U _ _ _ _ (hne))).trans b7, (World.cell?_of_block (a := ⟨w8.heap.size, 5, none⟩) (set2_other U _ _ _ _ (hne))).trans b8, by simpa [set2, World.setCell] using b9, by simpa [set2, World.setCell] using b10⟩
          refine hK.out _ _ HSU.out (fun hHeld => ?_)
          clear hK K u4 u5 u6 u7 u10
          try simp only [Act.put, List.setIfInBounds_toArray, List.set_cons_zero, List.set_cons_succ, List.getElem_toArray, List.getElem_cons_zero, List.getElem_cons_succ]
          refine wpAnyH_take (i := 4) (v := ?_) rfl (by kernel_rfl) (by kernel_rfl) (by kernel_rfl) (fun _ _ _ h => h) (Or.inl ⟨by kernel_rfl, ?_⟩) (by assumption) ?_
          rotate_left
          · (intro w hSw; (try dsimp only at hSw); go_simp)
            try with_reducible rfl
          try simp only [Act.put, List.setIfInBounds_toArray, List.set_cons_zero, List.set_cons_succ, List.getElem_toArray, List.getElem_cons_zero, List.getElem_cons_succ]
          refine wpAnyH_take (i := 5) (v := ?_) rfl (by kernel_rfl) (by kernel_rfl) (by kernel_rfl) (fun _ _ _ h => h) (Or.inl ⟨by kernel_rfl, ?_⟩) (by assumption) ?_
          rotate_left
          · (intro w hSw; (try dsimp only at hSw); go_simp)
            try with_reducible rfl
          try simp only [Act.put, List.setIfInBounds_toArray, List.set_cons_zero, List.set_cons_succ, List.getElem_toArray, List.getElem_cons_zero, List.getElem_cons_succ]
          refine wpAnyH_done (by kernel_rfl) ?_ _
          clear hHeld
          go_wp2_with fail
          refine bodyPost_ret (results_cell_row_tmp2 rfl _ _ _ _ _ _ _ _ _ rfl rfl rfl (set2_at (HXV.out U (belS HB9.out HU.out)).2.2 _ _) Tryz.underlying27 rfl (by kernel_rfl)) rfl ?_
          refine ⟨⟨_, by rw [HN.out]; rfl, ?_⟩, set2_below (bt_below (Below.refl _ _) (.of_below ((HVB.out.trans (HB9.out.mono HVB.out.size)).trans (HU.out.mono (by exact HZ9.out)))) (Nat.le_refl _) (Nat.le_refl _)) (by omega) _ _⟩
          rw [HN.out]
          refine ⟨W9.heap.size, rfl, HZ9.out, ?_⟩
          rw [HZZ.out]
          exact (set2_other _ _ _ _ _ (by have h1 := (HFV.out W9 HB9.out).2.2.2.2.2.2.2.2.2.2; omega)).trans HMU.out
        · obtain ⟨_, _, _, _, u4, u5, u6, u7, _, _, u10⟩ := HFV.out W9 HB9.out
          go_simp
          have HSU : Hid ((set2 W9 (w.heap.size + 1 + 1 + 1) (.bool true) (.int .i64 at_)).drew.cell? ⟨w.heap.size + 1, 0, none⟩ = some (.bool true) ∧ (set2 W9 (w.heap.size + 1 + 1 + 1) (.bool true) (.int .i64 at_)).drew.cell? ⟨w.heap.size + 1, 1, none⟩ = some (.int .i64 at_) ∧ (set2 W9 (w.heap.size + 1 + 1 + 1) (.bool true) (.int .i64 at_)).drew.cell? ⟨w8.heap.size, 0, none⟩ = some (.int .i64 z0) ∧ (set2 W9 (w.heap.size + 1 + 1 + 1) (.bool true) (.int .i64 at_)).drew.cell? ⟨w8.heap.size, 1, none⟩ = some (.int .i64 z1) ∧ (set2 W9 (w.heap.size + 1 + 1 + 1) (.bool true) (.int .i64 at_)).drew.cell? ⟨w8.heap.size, 2, none⟩ = some (.int .i64 z2) ∧ (set2 W9 (w.heap.size + 1 + 1 + 1) (.bool true) (.int .i64 at_)).drew.cell? ⟨w8.heap.size, 3, none⟩ = some (.int .i64 z3) ∧ (set2 W9 (w.heap.size + 1 + 1 + 1) (.bool true) (.int .i64 at_)).drew.cell? ⟨w8.heap.size, 4, none⟩ = some (.int .i64 z4) ∧ (set2 W9 (w.heap.size + 1 + 1 + 1) (.bool true) (.int .i64 at_)).drew.cell? ⟨w8.heap.size, 5, none⟩ = some (.int .i64 z5) ∧ w.heap.size + 1 < (set2 W9 (w.heap.size + 1 + 1 + 1) (.bool true) (.int .i64 at_)).drew.heap.size ∧ w8.heap.size < (set2 W9 (w.heap.size + 1 + 1 + 1) (.bool true) (.int .i64 at_)).drew.heap.size) := by
            obtain ⟨b1, b2, b3, b4, b5, b6, b7, b8, b9, b10⟩ := HSR.out W9 (Below.refl _ _)
            have hne : w8.heap.size ≠ w.heap.size + 1 + 1 + 1 := by have h1 := (HFV.out w8 HB8.out).2.2.2.2.2.2.2.2.2.2; omega
            exact ⟨(World.cell?_of_block (a := ⟨w.heap.size + 1, 0, none⟩) (set2_other W9 _ _ _ _ (by show w.heap.size + 1 ≠ w.heap.size + 1 + 1 + 1; omega))).trans b1, (World.cell?_of_block (a := ⟨w.heap.size + 1, 1, none⟩) (set2_other W9 _ _ _ _ (by show w.heap.size + 1 ≠ w.heap.size + 1 + 1 + 1; omega))).trans b2, (World.cell?_of_block (a := ⟨w8.heap.size, 0, none⟩) (set2_other W9 _ _ _ _ (hne))).trans b3, (World.cell?_of_block (a := ⟨w8.heap.size, 1, none⟩) (set2_other W9 _ _ _ _ (hne))).trans b4, (World.cell?_of_block (a := ⟨w8.heap.size, 2, none⟩) (set2_other W9 _ _ _ _ (hne))).trans b5, (World.cell?_of_block (a := ⟨w8.heap.size, 3, none⟩) (set2_other W9 _ _ _ _ (hne))).trans b6, (World.cell?_of_block (a := ⟨w8.heap.size, 4, none⟩) (set2_other W9 _ _ _ _ (hne))).trans b7, (World.cell?_of_block (a := ⟨w8.heap.size, 5, none⟩) (set2_other W9 _ _ _ _ (hne))).trans b8, by simpa [set2, World.setCell] using b9, by simpa [set2, World.setCell] using b10⟩
          obtain ⟨U, hU⟩ : ∃ U, U = (set2 W9 (w.heap.size + 1 + 1 + 1) (.bool true) (.int .i64 at_)).drew := ⟨_, rfl⟩
          have hUz : U.heap.size = W9.heap.size := by rw [hU]; simp [set2, World.setCell]
          have HUZ := Lib.hid hUz
          have HRU : Hid (U.heap[w.heap.size + 1 + 1 + 1]? = some (.cells #[.bool true, .int .i64 at_] 27 (0, 0))) := by
            rw [Hid, hU]; exact set2_at (HXV.out W9 HB9.out).2.2 _ _
          have HBU : Hid (Below w.heap.size w U) := by
            rw [Hid, hU]
            exact (set2_below (HVB.out.trans (HB9.out.mono HVB.out.size)) (by omega) _ _).drew
          rw [← hU] at HSU
          have HU2 : Hid (((W9.setCell ⟨w.heap.size + 1 + 1 + 1, 0, none⟩ (.bool true)).setCell ⟨w.heap.size + 1 + 1 + 1, 1, none⟩ (.int .i64 at_)).drew = U) := hU.symm
          rw [HU2.out]
          refine hK.out _ _ HSU.out (fun hHeld => ?_)
          clear hK K u4 u5 u6 u7 u10 hU HU2 hUz
          try simp only [Act.put, List.setIfInBounds_toArray, List.set_cons_zero, List.set_cons_succ, List.getElem_toArray, List.getElem_cons_zero, List.getElem_cons_succ]
          refine wpAnyH_ready (rs := [2]) (by kernel_rfl) (by simp) ?_
          refine AllReadyH.cons rfl (fun K hK => ?_) AllReadyH.nil
          go_simp
          have HSV : Hid ((U.alloc (.cells #[.int .i64 z0, .int .i64 z1, .int .i64 z2, .int .i64 z3, .int .i64 z4, .int .i64 z5] 69)).cell? ⟨w.heap.size + 1, 0, none⟩ = some (.bool true) ∧ (U.alloc (.cells #[.int .i64 z0, .int .i64 z1, .int .i64 z2, .int .i64 z3, .int .i64 z4, .int .i64 z5] 69)).cell? ⟨w.heap.size + 1, 1, none⟩ = some (.int .i64 at_) ∧ (U.alloc (.cells #[.int .i64 z0, .int .i64 z1, .int .i64 z2, .int .i64 z3, .int .i64 z4, .int .i64 z5] 69)).cell? ⟨w8.heap.size, 0, none⟩ = some (.int .i64 z0) ∧ (U.alloc (.cells #[.int .i64 z0, .int .i64 z1, .int .i64 z2, .int .i64 z3, .int .i64 z4, .int .i64 z5] 69)).cell? ⟨w8.heap.size, 1, none⟩ = some (.int .i64 z1) ∧ (U.alloc (.cells #[.int .i64 z0, .int .i64 z1, .int .i64 z2, .int .i64 z3, .int .i64 z4, .int .i64 z5] 69)).cell? ⟨w8.heap.size, 2, none⟩ = some (.int .i64 z2) ∧ (U.alloc (.cells #[.int .i64 z0, .int .i64 z1, .int .i64 z2, .int .i64 z3, .int .i64 z4, .int .i64 z5] 69)).cell? ⟨w8.heap.size, 3, none⟩ = some (.int .i64 z3) ∧ (U.alloc (.cells #[.int .i64 z0, .int .i64 z1, .int .i64 z2, .int .i64 z3, .int .i64 z4, .int .i64 z5] 69)).cell? ⟨w8.heap.size, 4, none⟩ = some (.int .i64 z4) ∧ (U.alloc (.cells #[.int .i64 z0, .int .i64 z1, .int .i64 z2, .int .i64 z3, .int .i64 z4, .int .i64 z5] 69)).cell? ⟨w8.heap.size, 5, none⟩ = some (.int .i64 z5) ∧ w.heap.size + 1 < (U.alloc (.cells #[.int .i64 z0, .int .i64 z1, .int .i64 z2, .int .i64 z3, .int .i64 z4, .int .i64 z5] 69)).heap.size ∧ w8.heap.size < (U.alloc (.cells #[.int .i64 z0, .int .i64 z1, .int .i64 z2, .int .i64 z3, .int .i64 z4, .int .i64 z5] 69)).heap.size) := by
            obtain ⟨b1, b2, b3, b4, b5, b6, b7, b8, b9, b10⟩ := HSU.out
            exact ⟨(World.cell?_of_block (a := ⟨w.heap.size + 1, 0, none⟩) (Below.heap_alloc U _ _ (by exact b9))).trans b1, (World.cell?_of_block (a := ⟨w.heap.size + 1, 1, none⟩) (Below.heap_alloc U _ _ (by exact b9))).trans b2, (World.cell?_of_block (a := ⟨w8.heap.size, 0, none⟩) (Below.heap_alloc U _ _ (by exact b10))).trans b3, (World.cell?_of_block (a := ⟨w8.heap.size, 1, none⟩) (Below.heap_alloc U _ _ (by exact b10))).trans b4, (World.cell?_of_block (a := ⟨w8.heap.size, 2, none⟩) (Below.heap_alloc U _ _ (by exact b10))).trans b5, (World.cell?_of_block (a := ⟨w8.heap.size, 3, none⟩) (Below.heap_alloc U _ _ (by exact b10))).trans b6, (World.cell?_of_block (a := ⟨w8.heap.size, 4, none⟩) (Below.heap_alloc U _ _ (by exact b10))).trans b7, (World.cell?_of_block (a := ⟨w8.heap.size, 5, none⟩) (Below.heap_alloc U _ _ (by exact b10))).trans b8, by simp; omega, by simp; omega⟩
          refine hK.out _ _ HSV.out (fun hHeld => ?_)
          clear hK K
          try simp only [Act.put, List.setIfInBounds_toArray, List.set_cons_zero, List.set_cons_succ, List.getElem_toArray, List.getElem_cons_zero, List.getElem_cons_succ]
          refine wpAnyH_take (i := 4) (v := ?_) rfl (by kernel_rfl) (by kernel_rfl) (by kernel_rfl) (fun _ _ _ h => h) (Or.inl ⟨by kernel_rfl, ?_⟩) (by assumption) ?_
          rotate_left
          · (intro w hSw; (try dsimp only at hSw); go_simp)
            try with_reducible rfl
          try simp only [Act.put, List.setIfInBounds_toArray, List.set_cons_zero, List.set_cons_succ, List.getElem_toArray, List.getElem_cons_zero, List.getElem_cons_succ]
          refine wpAnyH_take (i := 5) (v := ?_) rfl (by kernel_rfl) (by kernel_rfl) (by kernel_rfl) (fun _ _ _ h => h) (Or.inl ⟨by kernel_rfl, ?_⟩) (by assumption) ?_
          rotate_left
          · (intro w hSw; (try dsimp only at hSw); go_simp)
            try with_reducible rfl
          try simp only [Act.put, List.setIfInBounds_toArray, List.set_cons_zero, List.set_cons_succ, List.getElem_toArray, List.getElem_cons_zero, List.getElem_cons_succ]
          refine wpAnyH_done (by kernel_rfl) ?_ _
          clear hHeld
          go_wp2_with fail
          have hru : (U.alloc (.cells #[.int .i64 z0, .int .i64 z1, .int .i64 z2, .int .i64 z3, .int .i64 z4, .int .i64 z5] 69)).heap[w.heap.size + 1 + 1 + 1]? = some (.cells #[.bool true, .int .i64 at_] 27 (0, 0)) := (Below.heap_alloc _ _ _ (Array.getElem?_eq_some_iff.1 HRU.out).1).trans HRU.out
          refine bodyPost_ret (results_cell_row_tmp2 rfl _ _ _ _ _ _ _ _ _ rfl rfl rfl hru Tryz.underlying27 rfl (by kernel_rfl)) rfl ?_
          refine ⟨⟨_, by rw [HN.out]; rfl, ?_⟩, belA' HBU.out _⟩
          rw [HN.out]
          refine ⟨U.heap.size, rfl, by rw [HUZ.out]; exact HZ9.out, ?_⟩
          rw [HZZ.out]
          exact hp_topA rfl
end Go.Proofs.YtockinpjfhhkoaaGreatDoor
