/- The law AtomsCut, walked. (Printed by gen_atzf.py.) -/
import Derived.Test.YtockinpjfhhkoaaGreatDoorMhD
namespace Go.Proofs.YtockinpjfhhkoaaGreatDoor
open Go.RowKit

theorem next_ok {names : List ByteArray} {n : Nat} {t : FT n} {on : Bool} {since at_ dur bits : Int} (h : (nextR names n t on since at_ dur bits).2.2 = 0) : (holdsR names n t bits).2 = 0 ∧ 1 ≤ dur ∧ 0 ≤ at_ ∧ mayN on since at_ = true ∧ at_ + dur < 288230376151711744 := by
  unfold nextR at h
  by_cases h1 : (holdsR names n t bits).2 = 0
  rotate_left
  · rw [if_pos h1] at h; exact absurd h h1
  rw [if_neg (by simpa using h1)] at h
  by_cases h2 : dur < 1
  · rw [if_pos h2] at h; exact absurd h (by decide)
  rw [if_neg h2] at h
  by_cases h3 : at_ < 0 ∨ mayN on since at_ = false
  · rw [if_pos h3] at h; exact absurd h (by decide)
  rw [if_neg h3] at h
  by_cases h4 : 288230376151711744 - at_ ≤ dur
  · rw [if_pos h4] at h; exact absurd h (by decide)
  refine ⟨h1, by omega, ?_, ?_, by omega⟩
  · exact Int.not_lt.1 fun h5 => h3 (.inl h5)
  · cases hm : mayN on since at_ with
    | true => rfl
    | false => exact absurd (.inr hm) h3
theorem next_eq {names : List ByteArray} {n : Nat} {t : FT n} {on : Bool} {since at_ dur bits : Int} (h1 : (holdsR names n t bits).2 = 0) (h2 : 1 ≤ dur) (h3 : 0 ≤ at_) (h4 : mayN on since at_ = true) (h5 : at_ + dur < 288230376151711744) :
    nextR names n t on since at_ dur bits = if (holdsR names n t bits).1 = false then ((false, 0), none, 0) else ((true, if on then since else at_), some (atomM (if on then since else at_) at_ (at_ + dur)), 0) := by
  unfold nextR
  rw [if_neg (by simpa using h1), if_neg (by omega), if_neg (by rw [h4]; simp; omega), if_neg (by omega)]
theorem cut_shape (names : List ByteArray) (n : Nat) (t : FT n) (on : Bool) (since at_ dur c bits : Int) (hc : 1 ≤ c) (hcd : c < dur) (e1 : (nextR names n t on since at_ dur bits).2.2 = 0) (e2 : (nextR names n t on since at_ c bits).2.2 = 0) :
    (nextR names n t on since at_ dur bits = ((false, 0), none, 0) ∧ nextR names n t on since at_ c bits = ((false, 0), none, 0) ∧ nextR names n t false 0 (at_ + c) (dur - c) bits = ((false, 0), none, 0)) ∨
    ∃ f, nextR names n t on since at_ dur bits = ((true, f), some (atomM f at_ (at_ + dur)), 0) ∧ nextR names n t on since at_ c bits = ((true, f), some (atomM f at_ (at_ + c)), 0) ∧ nextR names n t true f (at_ + c) (dur - c) bits = ((true, f), some (atomM f (at_ + c) (at_ + dur)), 0) ∧ 0 ≤ f ∧ f ≤ at_ ∧ at_ + dur ≤ 288230376151711744 := by
  obtain ⟨a1, a2, a3, a4, a5⟩ := next_ok e1
  obtain ⟨_, _, _, _, b5⟩ := next_ok e2
  rw [next_eq a1 a2 a3 a4 a5, next_eq a1 hc a3 a4 b5]
  cases hh : (holdsR names n t bits).1 with
  | false =>
    refine .inl ⟨by rw [if_pos rfl], by rw [if_pos rfl], ?_⟩
    rw [next_eq a1 (by omega) (by omega) rfl (by omega), if_pos hh]
  | true =>
    have hf : 0 ≤ (if on then since else at_) ∧ (if on then since else at_) ≤ at_ := by
      cases on with
      | true =>
        have h8 : (decide (0 ≤ since) && decide (since < at_)) = true := a4
        simp only [Bool.and_eq_true, decide_eq_true_eq] at h8
        exact ⟨h8.1, by show since ≤ at_; omega⟩
      | false => exact ⟨a3, Int.le_refl _⟩
    generalize (if on then since else at_) = f at hf ⊢
    refine .inr ⟨f, by rw [if_neg (by simp)], by rw [if_neg (by simp)], ?_, hf.1, hf.2, by omega⟩
    have hm : mayN true f (at_ + c) = true := by
      show (decide (0 ≤ f) && decide (f < at_ + c)) = true
      simp only [Bool.and_eq_true, decide_eq_true_eq]
      omega
    rw [next_eq a1 (by omega) (by omega) hm (by omega), hh, if_neg (by simp)]
    rw [show at_ + c + (dur - c) = at_ + dur by omega]
    rfl
theorem cut_has (f at_ dur c x y : Int) (hc : 1 ≤ c) (hcd : c < dur) : hasZ f at_ (at_ + dur) x y = (hasZ f at_ (at_ + c) x y || hasZ f (at_ + c) (at_ + dur) x y) ∧ (hasZ f at_ (at_ + c) x y && hasZ f (at_ + c) (at_ + dur) x y) = false := by
  unfold hasZ
  by_cases hE : y ≤ 2 * (at_ + c)
  · rw [decide_eq_true (show y ≤ 2 * (at_ + dur) by omega), decide_eq_true hE, decide_eq_false (show ¬ 2 * (at_ + c) < y by omega)]
    simp
  · rw [decide_eq_false hE, decide_eq_true (show 2 * (at_ + c) < y by omega), decide_eq_true (show 2 * at_ < y by omega)]
    simp
theorem heap_at {w w' : World} (h : Below w.heap.size w w') {b : Nat} {o : Obj} (hb : w.heap[b]? = some o) : w'.heap[b]? = some o := (h.block _ (Array.getElem?_eq_some_iff.1 hb).1).trans hb
set_option maxRecDepth 100000 in
set_option maxHeartbeats 16000000 in
theorem atomsCut7_any (names : List ByteArray) (nv : Value) (hw0 : ∀ s ∈ names, s.size ≤ 281474976710656) (n : Nat) (t : FT n) (v : Value) (on : Bool) (since at_ dur bits c x y : Int) (w : World) (hb0 : 0 ≤ bits) (hb1 : bits ≤ 255) (hat : in64 at_) (hdu : in64 dur) (hci : in64 c)
    (hr : Rdy w) (hn : NRep w w.heap.size nv names) (hf : FRep w w.heap.size n t v) :
    Calls Tryz.prog 7 #[nv, v, .agg #[.bool on, .int .i64 since], .int .i64 at_, .agg #[.int .i64 dur, .int .u8 bits], .int .i64 c, .int .i64 x, .int .i64 y] w fun e w' => e = .returned (.bool true) ∧ Below w.heap.size w w' := by
  obtain ⟨k, s, fa, fl, fcc, rfl⟩ := hf.shape
  obtain ⟨W3, hW3⟩ : ∃ W3, W3 = ((w.alloc (.cells #[.int .u8 k, .string s, .slice fa fl fcc] 25)).alloc (.cells #[.bool on, .int .i64 since] 27)).alloc (.cells #[.int .i64 dur, .int .u8 bits] 29) := ⟨_, rfl⟩
  have hb3 : Below w.heap.size w W3 := by rw [hW3]; exact ((belowA _ _).alloc (by simp) _).alloc (by simp; omega) _
  have k0 : W3.heap[w.heap.size]? = some (.cells #[.int .u8 k, .string s, .slice fa fl fcc] 25 (0, 0)) := by
    rw [hW3]; exact (Below.heap_alloc _ _ _ (by simp; omega)).trans ((Below.heap_alloc _ _ _ (by simp)).trans (hp_topA rfl))
  have k1 : W3.heap[w.heap.size + 1]? = some (.cells #[.bool on, .int .i64 since] 27 (0, 0)) := by
    rw [hW3]; exact (Below.heap_alloc _ _ _ (by simp)).trans (hp_topA (by simp))
  have k2 : W3.heap[w.heap.size + 1 + 1]? = some (.cells #[.int .i64 dur, .int .u8 bits] 29 (0, 0)) := by
    rw [hW3]; exact hp_topA (by simp)
  have HF : Hid (∀ W, Below W3.heap.size W3 W → W.cell? ⟨w.heap.size, 0, none⟩ = some (.int .u8 k) ∧ W.cell? ⟨w.heap.size, 1, none⟩ = some (.string s) ∧ W.cell? ⟨w.heap.size, 2, none⟩ = some (.slice fa fl fcc) ∧ W.cell? ⟨w.heap.size + 1, 0, none⟩ = some (.bool on) ∧ W.cell? ⟨w.heap.size + 1, 1, none⟩ = some (.int .i64 since) ∧ W.cell? ⟨w.heap.size + 1 + 1, 0, none⟩ = some (.int .i64 dur) ∧ W.cell? ⟨w.heap.size + 1 + 1, 1, none⟩ = some (.int .u8 bits) ∧ w.heap.size < W.heap.size ∧ w.heap.size + 1 < W.heap.size ∧ w.heap.size + 1 + 1 < W.heap.size) := by
    intro W hW
    have a0 := (hW.block _ (Array.getElem?_eq_some_iff.1 k0).1).trans k0
    have a1 := (hW.block _ (Array.getElem?_eq_some_iff.1 k1).1).trans k1
    have a2 := (hW.block _ (Array.getElem?_eq_some_iff.1 k2).1).trans k2
    exact ⟨Lib.cell_of_heap a0 0, Lib.cell_of_heap a0 1, Lib.cell_of_heap a0 2, Lib.cell_of_heap a1 0, Lib.cell_of_heap a1 1, Lib.cell_of_heap a2 0, Lib.cell_of_heap a2 1, (Array.getElem?_eq_some_iff.1 a0).1, (Array.getElem?_eq_some_iff.1 a1).1, (Array.getElem?_eq_some_iff.1 a2).1⟩
  have HBW : Hid (∀ W, Below W3.heap.size W3 W → Below w.heap.size w W) := fun W h => hb3.trans (h.mono hb3.size)
  have HFR : Hid (∀ W, Below W3.heap.size W3 W → FRep W W.heap.size n t (.agg #[.int .u8 k, .string s, .slice fa fl fcc])) := fun W h => hf.up (HBW.out W h) (HBW.out W h).size
  have HNR : Hid (∀ W, Below W3.heap.size W3 W → NRep W W.heap.size nv names) := fun W h => hn.up (HBW.out W h) (HBW.out W h).size
  have HRD : Hid (∀ W, Below W3.heap.size W3 W → Rdy W) := fun W h => hr.below (HBW.out W h)
  have HGN : Hid (greatN names = false → ∀ s ∈ names, s.size ≤ 1048576) := fun h => greatN_not h hw0
  have HBI : Hid (0 ≤ bits ∧ bits ≤ 255) := ⟨hb0, hb1⟩
  have HAT := Lib.hid hat
  have HDU := Lib.hid hdu
  have HW3 := Lib.hid hW3.symm
  clear hb0 hb1 hat hdu hr hn hf hw0 hW3 hb3 k0 k1 k2
  go_enter Tryz.func7, Tryz.ntmps7
  go_upto_region 1 with fail
  rw [HW3.out]
  clear HW3
  go_wp2_with fail
  refine (alive24_any _ (HRD.out W3 (Below.refl _ _))).mono ?_
  rintro e w4 ⟨rfl, hb4⟩
  have HB4 : Hid (Below W3.heap.size W3 w4) := hb4
  clear hb4
  obtain ⟨xf0, xf1, xf2, xf3, xf4, xf5, xf6, xf7, xf8, xf9⟩ := HF.out w4 HB4.out
  go_wp2_with fail
  refine (greatF12_any n t _ w4 (HFR.out w4 HB4.out)).mono ?_
  rintro e w5 ⟨rfl, hb5⟩
  have HB5 : Hid (Below W3.heap.size W3 w5) := belS HB4.out hb5
  clear hb5 xf0 xf1 xf2 xf3 xf4 xf5 xf6 xf7 xf8 xf9
  obtain ⟨yf0, yf1, yf2, yf3, yf4, yf5, yf6, yf7, yf8, yf9⟩ := HF.out w5 HB5.out
  cases q1 : decide (2000 < sizeF n t 2000) with
  | true =>
    go_wp2_with fail
    all_goals go_ret
    all_goals exact ⟨rfl, HBW.out _ HB5.out⟩
  | false =>
  clear q1
  go_wp2_with fail
  refine (greatNames12_any names _ w5 (HNR.out w5 HB5.out)).mono ?_
  rintro e w6 ⟨rfl, rfl⟩
  cases q3 : greatN names with
  | true =>
    go_wp2_with fail
    all_goals go_ret
    all_goals exact ⟨rfl, HBW.out _ HB5.out⟩
  | false =>
  have HG := Lib.hid (HGN.out q3)
  clear q3
  cases q4 : decide (c < 1) with
  | true =>
    go_wp2_with fail
    all_goals go_ret
    all_goals exact ⟨rfl, HBW.out _ HB5.out⟩
  | false =>
  cases q4b : decide (dur ≤ c) with
  | true =>
    go_wp2_with fail
    all_goals go_ret
    all_goals exact ⟨rfl, HBW.out _ HB5.out⟩
  | false =>
  cases q4c : decide (x < 0) with
  | true =>
    go_wp2_with fail
    all_goals go_ret
    all_goals exact ⟨rfl, HBW.out _ HB5.out⟩
  | false =>
  cases q5 : decide (y < 0) with
  | true =>
    go_wp2_with fail
    all_goals go_ret
    all_goals exact ⟨rfl, HBW.out _ HB5.out⟩
  | false =>
  cases q6 : decide (1125899906842624 < x) with
  | true =>
    go_wp2_with fail
    all_goals go_ret
    all_goals exact ⟨rfl, HBW.out _ HB5.out⟩
  | false =>
  cases q7 : decide (1125899906842624 < y) with
  | true =>
    go_wp2_with fail
    all_goals go_ret
    all_goals exact ⟨rfl, HBW.out _ HB5.out⟩
  | false =>
  cases q8 : decide (562949953421312 < at_) with
  | true =>
    go_wp2_with fail
    all_goals go_ret
    all_goals exact ⟨rfl, HBW.out _ HB5.out⟩
  | false =>
  cases q9 : decide (562949953421312 < dur) with
  | true =>
    go_wp2_with fail
    all_goals go_ret
    all_goals exact ⟨rfl, HBW.out _ HB5.out⟩
  | false =>
  have HOX : Hid (HalfOk x ∧ HalfOk y ∧ at_ ≤ 562949953421312 ∧ dur ≤ 562949953421312 ∧ 1 ≤ c ∧ c < dur) := by
    simp only [decide_eq_false_iff_not] at q4 q4b q4c q5 q6 q7 q8 q9
    exact ⟨⟨by omega, by omega⟩, ⟨by omega, by omega⟩, by omega, by omega, by omega, by omega⟩
  have hm1 : IntKind.i64.wrap (at_ + c) = at_ + c := by have h1 := HOX.out; have h2 := HAT.out.1; exact IntWalk.i64_in _ (by omega)
  have hm2 : IntKind.i64.wrap (dur - c) = dur - c := by have h1 := HOX.out; have h2 := HAT.out.1; exact IntWalk.i64_in _ (by omega)
  have hm1' : wrap64 (at_ + c) = at_ + c := by have h1 := HOX.out; have h2 := HAT.out.1; exact IntWalk.wrap64_in _ (by omega)
  have hm2' : wrap64 (dur - c) = dur - c := by have h1 := HOX.out; have h2 := HAT.out.1; exact IntWalk.wrap64_in _ (by omega)
  have HNX : Hid (∀ W o sn a d, Below W3.heap.size W3 W → in64 a → in64 d → Calls Tryz.prog 14 #[nv, .agg #[.int .u8 k, .string s, .slice fa fl fcc], .agg #[.bool o, .int .i64 sn], .int .i64 a, .agg #[.int .i64 d, .int .u8 bits]] W fun e w' => NextOut (nextR names n t o sn a d bits) W.heap.size e w' ∧ Below W.heap.size W w') := fun W o sn a d h ia id => next14_any names nv HG.out n t _ o sn a d bits W HBI.out.1 HBI.out.2 ia id (HRD.out W h) (HNR.out W h) (HFR.out W h)
  have HIC : Hid (in64 c) := hci
  have HI3 : Hid (in64 (at_ + c) ∧ in64 (dur - c)) := by
    have h1 := HOX.out; have h2 := HAT.out.1
    exact ⟨⟨by omega, by omega⟩, ⟨by omega, by omega⟩⟩
  have HLS := Lib.hid (HOX.out.2.2.2.2)
  clear hci
  by_cases e1 : (nextR names n t on since at_ dur bits).2.2 = 0
  rotate_left
  · have HA := Lib.hid (HNX.out w6 on since at_ dur HB5.out HAT.out HDU.out)
    have HC2 := Lib.hid (fun W h => HNX.out W on since at_ c h HAT.out HIC.out)
    generalize nextR names n t on since at_ dur bits = r1 at e1 HA
    generalize nextR names n t on since at_ c bits = r2 at HC2
    obtain ⟨⟨ro, rs⟩, rz, re⟩ := r1
    obtain ⟨⟨so, ss⟩, sz, se⟩ := r2
    have her : (re != 0) = true := by simpa using e1
    clear e1
    go_wp2_with fail
    refine HA.out.mono ?_
    rintro e w7 ⟨⟨zv, rfl, _⟩, hb7⟩
    have HB7 : Hid (Below W3.heap.size W3 w7) := belS HB5.out hb7
    clear hb7 yf0 yf1 yf2 yf3 yf4 yf5 yf6 yf7 yf8 yf9
    obtain ⟨zf0, zf1, zf2, zf3, zf4, zf5, zf6, zf7, zf8, zf9⟩ := HF.out w7 HB7.out
    go_wp2_with fail
    refine (HC2.out _ (belA' HB7.out _)).mono ?_
    rintro e w8 ⟨⟨zv2, rfl, _⟩, hb8⟩
    have HB8 : Hid (Below W3.heap.size W3 w8) := belS (belA' HB7.out _) hb8
    clear hb8 zf0 zf1 zf2 zf3 zf4 zf5 zf6 zf7 zf8 zf9
    go_wp2_with fail
    all_goals go_ret
    all_goals exact ⟨rfl, HBW.out _ (belA' HB8.out _)⟩
  by_cases e2 : (nextR names n t on since at_ c bits).2.2 = 0
  rotate_left
  · have HA := Lib.hid (HNX.out w6 on since at_ dur HB5.out HAT.out HDU.out)
    have HC2 := Lib.hid (fun W h => HNX.out W on since at_ c h HAT.out HIC.out)
    generalize nextR names n t on since at_ dur bits = r1 at e1 HA
    generalize nextR names n t on since at_ c bits = r2 at e2 HC2
    obtain ⟨⟨ro, rs⟩, rz, re⟩ := r1
    obtain ⟨⟨so, ss⟩, sz, se⟩ := r2
    have her : (se != 0) = true := by simpa using e2
    obtain rfl : re = 0 := e1
    clear e2
    go_wp2_with fail
    refine HA.out.mono ?_
    rintro e w7 ⟨⟨zv, rfl, _⟩, hb7⟩
    have HB7 : Hid (Below W3.heap.size W3 w7) := belS HB5.out hb7
    clear hb7 yf0 yf1 yf2 yf3 yf4 yf5 yf6 yf7 yf8 yf9
    obtain ⟨zf0, zf1, zf2, zf3, zf4, zf5, zf6, zf7, zf8, zf9⟩ := HF.out w7 HB7.out
    go_wp2_with fail
    refine (HC2.out _ (belA' HB7.out _)).mono ?_
    rintro e w8 ⟨⟨zv2, rfl, _⟩, hb8⟩
    have HB8 : Hid (Below W3.heap.size W3 w8) := belS (belA' HB7.out _) hb8
    clear hb8 zf0 zf1 zf2 zf3 zf4 zf5 zf6 zf7 zf8 zf9
    go_wp2_with fail
    all_goals go_ret
    all_goals exact ⟨rfl, HBW.out _ (belA' HB8.out _)⟩
  rcases cut_shape names n t on since at_ dur c bits HLS.out.1 HLS.out.2 e1 e2 with ⟨r1, r2, r3⟩ | ⟨f, r1, r2, r3, g1, g2, g4⟩
  · have HA := Lib.hid (HNX.out w6 on since at_ dur HB5.out HAT.out HDU.out)
    have HC2 := Lib.hid (fun W h => HNX.out W on since at_ c h HAT.out HIC.out)
    have HC3 := Lib.hid (fun W h => HNX.out W false 0 (at_ + c) (dur - c) h HI3.out.1 HI3.out.2)
    rw [r1] at HA
    rw [r2] at HC2
    rw [r3] at HC3
    clear e1 e2 r1 r2 r3
    go_wp2_with fail
    refine HA.out.mono ?_
    rintro e w7 ⟨⟨zv, rfl, rfl⟩, hb7⟩
    have HB7 : Hid (Below W3.heap.size W3 w7) := belS HB5.out hb7
    clear hb7 yf0 yf1 yf2 yf3 yf4 yf5 yf6 yf7 yf8 yf9
    obtain ⟨zf0, zf1, zf2, zf3, zf4, zf5, zf6, zf7, zf8, zf9⟩ := HF.out w7 HB7.out
    go_wp2_with fail
    refine (HC2.out _ (belA' HB7.out _)).mono ?_
    rintro e w8 ⟨⟨zv2, rfl, rfl⟩, hb8⟩
    have HB8 : Hid (Below W3.heap.size W3 w8) := belS (belA' HB7.out _) hb8
    have h7 : Hid (w8.heap[w7.heap.size]? = some (.cells #[.bool false, .int .i64 0] 27 (0, 0))) := (hb8.block _ (by simp)).trans (hp_topA rfl)
    clear hb8 zf0 zf1 zf2 zf3 zf4 zf5 zf6 zf7 zf8 zf9
    obtain ⟨uf0, uf1, uf2, uf3, uf4, uf5, uf6, uf7, uf8, uf9⟩ := HF.out w8 HB8.out
    go_wp2_with fail
    refine (HC3.out _ (belA' HB8.out _)).mono ?_
    rintro e w9 ⟨⟨zv3, rfl, rfl⟩, hb9⟩
    have HB9 : Hid (Below W3.heap.size W3 w9) := belS (belA' HB8.out _) hb9
    have h7' := (hb9.block _ (by simp; have := (Array.getElem?_eq_some_iff.1 h7.out).1; omega)).trans ((Below.heap_alloc _ _ _ (Array.getElem?_eq_some_iff.1 h7.out).1).trans h7.out)
    have t0 := Lib.cell_of_heap h7' 0
    have t1 := Lib.cell_of_heap h7' 1
    simp only [List.getElem?_toArray, List.getElem?_cons_zero, List.getElem?_cons_succ] at t0 t1
    have tl := (Array.getElem?_eq_some_iff.1 h7').1
    clear hb9 h7' uf0 uf1 uf2 uf3 uf4 uf5 uf6 uf7 uf8 uf9
    go_wp2_with fail
    all_goals go_ret
    all_goals exact ⟨rfl, HBW.out _ (belA' HB9.out _)⟩
  · have HA := Lib.hid (HNX.out w6 on since at_ dur HB5.out HAT.out HDU.out)
    have HC2 := Lib.hid (fun W h => HNX.out W on since at_ c h HAT.out HIC.out)
    have HC3 := Lib.hid (fun W h => HNX.out W true f (at_ + c) (dur - c) h HI3.out.1 HI3.out.2)
    rw [r1] at HA
    rw [r2] at HC2
    rw [r3] at HC3
    obtain ⟨z0, z1, z2, z3, z4, z5, hzz⟩ : ∃ z0 z1 z2 z3 z4 z5, zonD (atomM f at_ (at_ + dur)) = #[.int .i64 z0, .int .i64 z1, .int .i64 z2, .int .i64 z3, .int .i64 z4, .int .i64 z5] := ⟨_, _, _, _, _, _, rfl⟩
    obtain ⟨y0, y1, y2, y3, y4, y5, hyy⟩ : ∃ z0 z1 z2 z3 z4 z5, zonD (atomM f at_ (at_ + c)) = #[.int .i64 z0, .int .i64 z1, .int .i64 z2, .int .i64 z3, .int .i64 z4, .int .i64 z5] := ⟨_, _, _, _, _, _, rfl⟩
    obtain ⟨u0, u1, u2, u3, u4, u5, huu⟩ : ∃ z0 z1 z2 z3 z4 z5, zonD (atomM f (at_ + c) (at_ + dur)) = #[.int .i64 z0, .int .i64 z1, .int .i64 z2, .int .i64 z3, .int .i64 z4, .int .i64 z5] := ⟨_, _, _, _, _, _, rfl⟩
    have ho := HOX.out
    have HZA := fun W => Lib.hid (hasZone_any (t := x) (u := y) W g1 g2 (show at_ < at_ + dur by omega) g4 ho.1 ho.2.1)
    have HZB := fun W => Lib.hid (hasZone_any (t := x) (u := y) W g1 g2 (show at_ < at_ + c by omega) (show at_ + c ≤ 288230376151711744 by omega) ho.1 ho.2.1)
    have HZK := fun W => Lib.hid (hasZone_any (t := x) (u := y) W g1 (show f ≤ at_ + c by omega) (show at_ + c < at_ + dur by omega) g4 ho.1 ho.2.1)
    have HPT := fun W => Lib.hid (point26_any x y W ho.1 ho.2.1)
    obtain ⟨hr1, hr2⟩ := cut_has f at_ dur c x y ho.2.2.2.2.1 ho.2.2.2.2.2
    rw [hzz] at HZA
    rw [hyy] at HZB
    rw [huu] at HZK
    rw [hr1] at HZA
    generalize hasZ f at_ (at_ + c) x y = v2 at HZA HZB hr2
    generalize hasZ f (at_ + c) (at_ + dur) x y = v3 at HZA HZK hr2
    obtain ⟨v1, hv1⟩ : ∃ v1, (v2 || v3) = v1 := ⟨_, rfl⟩
    rw [hv1] at HZA
    have HV1 := Lib.hid hv1
    have HR2 := Lib.hid hr2
    clear hv1 hr2
    have HZZ := Lib.hid hzz
    have HYY := Lib.hid hyy
    have HUU := Lib.hid huu
    clear e1 e2 r1 r2 r3 hzz hyy huu g1 g2 g4 ho hr1
    go_wp2_with fail
    refine HA.out.mono ?_
    rintro e w7 ⟨⟨zv, rfl, b1, rfl, _, hk1⟩, hb7⟩
    rw [HZZ.out] at hk1
    have HK1 := Lib.hid hk1
    have HB7 : Hid (Below W3.heap.size W3 w7) := belS HB5.out hb7
    clear hb7 hk1 yf0 yf1 yf2 yf3 yf4 yf5 yf6 yf7 yf8 yf9
    obtain ⟨zf0, zf1, zf2, zf3, zf4, zf5, zf6, zf7, zf8, zf9⟩ := HF.out w7 HB7.out
    go_wp2_with fail
    refine (HC2.out _ (belA' HB7.out _)).mono ?_
    rintro e w8 ⟨⟨zv2, rfl, b2, rfl, _, hk2⟩, hb8⟩
    rw [HYY.out] at hk2
    have HK2 := Lib.hid hk2
    have HB8 : Hid (Below W3.heap.size W3 w8) := belS (belA' HB7.out _) hb8
    have h7 : Hid (w8.heap[w7.heap.size]? = some (.cells #[.bool true, .int .i64 f] 27 (0, 0))) := (hb8.block _ (by simp)).trans (hp_topA rfl)
    have HK1' : Hid (w8.heap[b1]? = some (.cells #[.int .i64 z0, .int .i64 z1, .int .i64 z2, .int .i64 z3, .int .i64 z4, .int .i64 z5] 69 (0, 0))) := heap_at ((belowA w7 _).trans (hb8.mono (by simp))) HK1.out
    clear hb8 hk2 zf0 zf1 zf2 zf3 zf4 zf5 zf6 zf7 zf8 zf9
    obtain ⟨uf0, uf1, uf2, uf3, uf4, uf5, uf6, uf7, uf8, uf9⟩ := HF.out w8 HB8.out
    go_wp2_with fail
    refine (HC3.out _ (belA' HB8.out _)).mono ?_
    rintro e w9 ⟨⟨zv3, rfl, b3, rfl, _, hk3⟩, hb9⟩
    rw [HUU.out] at hk3
    have HB9 : Hid (Below W3.heap.size W3 w9) := belS (belA' HB8.out _) hb9
    have hst := (belowA w8 (.cells #[.bool true, .int .i64 f] 27)).trans (hb9.mono (by simp))
    have h7' := heap_at hst h7.out
    have hk1' := heap_at hst HK1'.out
    have hk2' := heap_at hst HK2.out
    have t0 := Lib.cell_of_heap h7' 0
    have t1 := Lib.cell_of_heap h7' 1
    simp only [List.getElem?_toArray, List.getElem?_cons_zero, List.getElem?_cons_succ] at t0 t1
    have tl := (Array.getElem?_eq_some_iff.1 h7').1
    obtain ⟨W10, hW10⟩ : ∃ W10, W10 = w9.alloc (.cells #[.bool true, .int .i64 f] 27) := ⟨_, rfl⟩
    have HB10 : Hid (Below W3.heap.size W3 W10) := by rw [Hid, hW10]; exact belA' HB9.out _
    have HS : Hid (∀ W, Below W10.heap.size W10 W → W.cell? ⟨b1, 0, none⟩ = some (.int .i64 z0) ∧ W.cell? ⟨b1, 1, none⟩ = some (.int .i64 z1) ∧ W.cell? ⟨b1, 2, none⟩ = some (.int .i64 z2) ∧ W.cell? ⟨b1, 3, none⟩ = some (.int .i64 z3) ∧ W.cell? ⟨b1, 4, none⟩ = some (.int .i64 z4) ∧ W.cell? ⟨b1, 5, none⟩ = some (.int .i64 z5) ∧ b1 < W.heap.size ∧ W.cell? ⟨b2, 0, none⟩ = some (.int .i64 y0) ∧ W.cell? ⟨b2, 1, none⟩ = some (.int .i64 y1) ∧ W.cell? ⟨b2, 2, none⟩ = some (.int .i64 y2) ∧ W.cell? ⟨b2, 3, none⟩ = some (.int .i64 y3) ∧ W.cell? ⟨b2, 4, none⟩ = some (.int .i64 y4) ∧ W.cell? ⟨b2, 5, none⟩ = some (.int .i64 y5) ∧ b2 < W.heap.size ∧ W.cell? ⟨b3, 0, none⟩ = some (.int .i64 u0) ∧ W.cell? ⟨b3, 1, none⟩ = some (.int .i64 u1) ∧ W.cell? ⟨b3, 2, none⟩ = some (.int .i64 u2) ∧ W.cell? ⟨b3, 3, none⟩ = some (.int .i64 u3) ∧ W.cell? ⟨b3, 4, none⟩ = some (.int .i64 u4) ∧ W.cell? ⟨b3, 5, none⟩ = some (.int .i64 u5) ∧ b3 < W.heap.size) := by
      have hal := belowA w9 (.cells #[.bool true, .int .i64 f] 27)
      rw [← hW10] at hal
      intro W hW
      have a1 := heap_at hW (heap_at hal hk1')
      have a2 := heap_at hW (heap_at hal hk2')
      have a3 := heap_at hW (heap_at hal hk3)
      exact ⟨Lib.cell_of_heap a1 0, Lib.cell_of_heap a1 1, Lib.cell_of_heap a1 2, Lib.cell_of_heap a1 3, Lib.cell_of_heap a1 4, Lib.cell_of_heap a1 5, (Array.getElem?_eq_some_iff.1 a1).1, Lib.cell_of_heap a2 0, Lib.cell_of_heap a2 1, Lib.cell_of_heap a2 2, Lib.cell_of_heap a2 3, Lib.cell_of_heap a2 4, Lib.cell_of_heap a2 5, (Array.getElem?_eq_some_iff.1 a2).1, Lib.cell_of_heap a3 0, Lib.cell_of_heap a3 1, Lib.cell_of_heap a3 2, Lib.cell_of_heap a3 3, Lib.cell_of_heap a3 4, Lib.cell_of_heap a3 5, (Array.getElem?_eq_some_iff.1 a3).1⟩
    have HBr : Hid (Below W10.heap.size W10 W10) := Below.refl _ _
    have HW10 := Lib.hid hW10.symm
    clear hb9 hk3 hst h7' hk1' hk2' hW10 uf0 uf1 uf2 uf3 uf4 uf5 uf6 uf7 uf8 uf9
    go_upto_region 13 with fail
    rw [HW10.out]
    refine wp_region_held_drew (S := fun W => W.cell? ⟨b1, 0, none⟩ = some (.int .i64 z0) ∧ W.cell? ⟨b1, 1, none⟩ = some (.int .i64 z1) ∧ W.cell? ⟨b1, 2, none⟩ = some (.int .i64 z2) ∧ W.cell? ⟨b1, 3, none⟩ = some (.int .i64 z3) ∧ W.cell? ⟨b1, 4, none⟩ = some (.int .i64 z4) ∧ W.cell? ⟨b1, 5, none⟩ = some (.int .i64 z5) ∧ b1 < W.heap.size ∧ W.cell? ⟨b2, 0, none⟩ = some (.int .i64 y0) ∧ W.cell? ⟨b2, 1, none⟩ = some (.int .i64 y1) ∧ W.cell? ⟨b2, 2, none⟩ = some (.int .i64 y2) ∧ W.cell? ⟨b2, 3, none⟩ = some (.int .i64 y3) ∧ W.cell? ⟨b2, 4, none⟩ = some (.int .i64 y4) ∧ W.cell? ⟨b2, 5, none⟩ = some (.int .i64 y5) ∧ b2 < W.heap.size ∧ W.cell? ⟨b3, 0, none⟩ = some (.int .i64 u0) ∧ W.cell? ⟨b3, 1, none⟩ = some (.int .i64 u1) ∧ W.cell? ⟨b3, 2, none⟩ = some (.int .i64 u2) ∧ W.cell? ⟨b3, 3, none⟩ = some (.int .i64 u3) ∧ W.cell? ⟨b3, 4, none⟩ = some (.int .i64 u4) ∧ W.cell? ⟨b3, 5, none⟩ = some (.int .i64 u5) ∧ b3 < W.heap.size) (by kernel_rfl) (HS.out _ HBr.out.drew) (fun hHeld => ?_)
    refine wpAnyH_take (i := 0) (v := ?_) rfl (by kernel_rfl) (by kernel_rfl) (by kernel_rfl) (fun _ _ _ h => h) (Or.inl ⟨by kernel_rfl, ?_⟩) (by assumption) ?_
    rotate_left
    · (intro w hSw; (try dsimp only at hSw); go_simp)
      try with_reducible rfl
    try simp only [Act.put, List.setIfInBounds_toArray, List.set_cons_zero, List.set_cons_succ, List.getElem_toArray, List.getElem_cons_zero]
    refine wpAnyH_take (i := 1) (v := ?_) rfl (by kernel_rfl) (by kernel_rfl) (by kernel_rfl) (fun _ _ _ h => h) (Or.inl ⟨by kernel_rfl, ?_⟩) (by assumption) ?_
    rotate_left
    · (intro w hSw; (try dsimp only at hSw); go_simp)
      try with_reducible rfl
    try simp only [Act.put, List.setIfInBounds_toArray, List.set_cons_zero, List.set_cons_succ, List.getElem_toArray, List.getElem_cons_zero, List.getElem_cons_succ]
    refine wpAnyH_take (i := 2) (v := ?_) rfl (by kernel_rfl) (by kernel_rfl) (by kernel_rfl) (fun _ _ _ h => h) (Or.inl ⟨by kernel_rfl, ?_⟩) (by assumption) ?_
    rotate_left
    · (intro w hSw; (try dsimp only at hSw); go_simp)
      try with_reducible rfl
    try simp only [Act.put, List.setIfInBounds_toArray, List.set_cons_zero, List.set_cons_succ, List.getElem_toArray, List.getElem_cons_zero, List.getElem_cons_succ]
    refine wpAnyH_take (i := 3) (v := ?_) rfl (by kernel_rfl) (by kernel_rfl) (by kernel_rfl) (fun _ _ _ h => h) (Or.inl ⟨by kernel_rfl, ?_⟩) (by assumption) ?_
    rotate_left
    · (intro w hSw; (try dsimp only at hSw); go_simp)
      try with_reducible rfl
    try simp only [Act.put, List.setIfInBounds_toArray, List.set_cons_zero, List.set_cons_succ, List.getElem_toArray, List.getElem_cons_zero, List.getElem_cons_succ]
    refine wpAnyH_take (i := 4) (v := ?_) rfl (by kernel_rfl) (by kernel_rfl) (by kernel_rfl) (fun _ _ _ h => h) (Or.inl ⟨by kernel_rfl, ?_⟩) (by assumption) ?_
    rotate_left
    · (intro w hSw; (try dsimp only at hSw); go_simp)
      try with_reducible rfl
    try simp only [Act.put, List.setIfInBounds_toArray, List.set_cons_zero, List.set_cons_succ, List.getElem_toArray, List.getElem_cons_zero, List.getElem_cons_succ]
    refine wpAnyH_ready (rs := [5]) (by kernel_rfl) (by simp) ?_
    refine AllReadyH.cons rfl (fun K hK => ?_) AllReadyH.nil
    go_simp
    go_at_call 26
    refine (HPT _).out.mono ?_
    rintro e wp1 ⟨rfl, hbp1⟩
    have HBp1 := Lib.hid (belS HBr.out.drew hbp1)
    clear hbp1
    try dsimp only
    refine hK.out _ _ (HS.out _ HBp1.out) (fun hHeld => ?_)
    clear hK K
    try simp only [Act.put, List.setIfInBounds_toArray, List.set_cons_zero, List.set_cons_succ, List.getElem_toArray, List.getElem_cons_zero, List.getElem_cons_succ]
    refine wpAnyH_ready (rs := [6]) (by kernel_rfl) (by simp) ?_
    refine AllReadyH.cons rfl (fun K hK => ?_) AllReadyH.nil
    go_simp
    go_at_call 25
    refine (HZA _).out.mono ?_
    rintro e wz1 ⟨rfl, hbz1⟩
    have HBz1 := Lib.hid (belS HBp1.out hbz1)
    clear hbz1
    try dsimp only
    refine hK.out _ _ (HS.out _ HBz1.out) (fun hHeld => ?_)
    clear hK K
    try simp only [Act.put, List.setIfInBounds_toArray, List.set_cons_zero, List.set_cons_succ, List.getElem_toArray, List.getElem_cons_zero, List.getElem_cons_succ]
    refine wpAnyH_take (i := 7) (v := ?_) rfl (by kernel_rfl) (by kernel_rfl) (by kernel_rfl) (fun _ _ _ h => h) (Or.inl ⟨by kernel_rfl, ?_⟩) (by assumption) ?_
    rotate_left
    · (intro w hSw; (try dsimp only at hSw); go_simp)
      try with_reducible rfl
    try simp only [Act.put, List.setIfInBounds_toArray, List.set_cons_zero, List.set_cons_succ, List.getElem_toArray, List.getElem_cons_zero, List.getElem_cons_succ]
    refine wpAnyH_take (i := 8) (v := ?_) rfl (by kernel_rfl) (by kernel_rfl) (by kernel_rfl) (fun _ _ _ h => h) (Or.inl ⟨by kernel_rfl, ?_⟩) (by assumption) ?_
    rotate_left
    · (intro w hSw; (try dsimp only at hSw); go_simp)
      try with_reducible rfl
    try simp only [Act.put, List.setIfInBounds_toArray, List.set_cons_zero, List.set_cons_succ, List.getElem_toArray, List.getElem_cons_zero, List.getElem_cons_succ]
    refine wpAnyH_take (i := 9) (v := ?_) rfl (by kernel_rfl) (by kernel_rfl) (by kernel_rfl) (fun _ _ _ h => h) (Or.inl ⟨by kernel_rfl, ?_⟩) (by assumption) ?_
    rotate_left
    · (intro w hSw; (try dsimp only at hSw); go_simp)
      try with_reducible rfl
    try simp only [Act.put, List.setIfInBounds_toArray, List.set_cons_zero, List.set_cons_succ, List.getElem_toArray, List.getElem_cons_zero, List.getElem_cons_succ]
    refine wpAnyH_take (i := 10) (v := ?_) rfl (by kernel_rfl) (by kernel_rfl) (by kernel_rfl) (fun _ _ _ h => h) (Or.inl ⟨by kernel_rfl, ?_⟩) (by assumption) ?_
    rotate_left
    · (intro w hSw; (try dsimp only at hSw); go_simp)
      try with_reducible rfl
    try simp only [Act.put, List.setIfInBounds_toArray, List.set_cons_zero, List.set_cons_succ, List.getElem_toArray, List.getElem_cons_zero, List.getElem_cons_succ]
    refine wpAnyH_take (i := 11) (v := ?_) rfl (by kernel_rfl) (by kernel_rfl) (by kernel_rfl) (fun _ _ _ h => h) (Or.inl ⟨by kernel_rfl, ?_⟩) (by assumption) ?_
    rotate_left
    · (intro w hSw; (try dsimp only at hSw); go_simp)
      try with_reducible rfl
    try simp only [Act.put, List.setIfInBounds_toArray, List.set_cons_zero, List.set_cons_succ, List.getElem_toArray, List.getElem_cons_zero, List.getElem_cons_succ]
    refine wpAnyH_done (by kernel_rfl) ?_ _
    clear hHeld
    go_upto_region 14 with fail
    refine wp_region_held_drew (S := fun W => W.cell? ⟨b1, 0, none⟩ = some (.int .i64 z0) ∧ W.cell? ⟨b1, 1, none⟩ = some (.int .i64 z1) ∧ W.cell? ⟨b1, 2, none⟩ = some (.int .i64 z2) ∧ W.cell? ⟨b1, 3, none⟩ = some (.int .i64 z3) ∧ W.cell? ⟨b1, 4, none⟩ = some (.int .i64 z4) ∧ W.cell? ⟨b1, 5, none⟩ = some (.int .i64 z5) ∧ b1 < W.heap.size ∧ W.cell? ⟨b2, 0, none⟩ = some (.int .i64 y0) ∧ W.cell? ⟨b2, 1, none⟩ = some (.int .i64 y1) ∧ W.cell? ⟨b2, 2, none⟩ = some (.int .i64 y2) ∧ W.cell? ⟨b2, 3, none⟩ = some (.int .i64 y3) ∧ W.cell? ⟨b2, 4, none⟩ = some (.int .i64 y4) ∧ W.cell? ⟨b2, 5, none⟩ = some (.int .i64 y5) ∧ b2 < W.heap.size ∧ W.cell? ⟨b3, 0, none⟩ = some (.int .i64 u0) ∧ W.cell? ⟨b3, 1, none⟩ = some (.int .i64 u1) ∧ W.cell? ⟨b3, 2, none⟩ = some (.int .i64 u2) ∧ W.cell? ⟨b3, 3, none⟩ = some (.int .i64 u3) ∧ W.cell? ⟨b3, 4, none⟩ = some (.int .i64 u4) ∧ W.cell? ⟨b3, 5, none⟩ = some (.int .i64 u5) ∧ b3 < W.heap.size) (by kernel_rfl) (HS.out _ HBz1.out.drew) (fun hHeld => ?_)
    refine wpAnyH_take (i := 0) (v := ?_) rfl (by kernel_rfl) (by kernel_rfl) (by kernel_rfl) (fun _ _ _ h => h) (Or.inl ⟨by kernel_rfl, ?_⟩) (by assumption) ?_
    rotate_left
    · (intro w hSw; (try dsimp only at hSw); go_simp)
      try with_reducible rfl
    try simp only [Act.put, List.setIfInBounds_toArray, List.set_cons_zero, List.set_cons_succ, List.getElem_toArray, List.getElem_cons_zero]
    refine wpAnyH_take (i := 1) (v := ?_) rfl (by kernel_rfl) (by kernel_rfl) (by kernel_rfl) (fun _ _ _ h => h) (Or.inl ⟨by kernel_rfl, ?_⟩) (by assumption) ?_
    rotate_left
    · (intro w hSw; (try dsimp only at hSw); go_simp)
      try with_reducible rfl
    try simp only [Act.put, List.setIfInBounds_toArray, List.set_cons_zero, List.set_cons_succ, List.getElem_toArray, List.getElem_cons_zero, List.getElem_cons_succ]
    refine wpAnyH_take (i := 2) (v := ?_) rfl (by kernel_rfl) (by kernel_rfl) (by kernel_rfl) (fun _ _ _ h => h) (Or.inl ⟨by kernel_rfl, ?_⟩) (by assumption) ?_
    rotate_left
    · (intro w hSw; (try dsimp only at hSw); go_simp)
      try with_reducible rfl
    try simp only [Act.put, List.setIfInBounds_toArray, List.set_cons_zero, List.set_cons_succ, List.getElem_toArray, List.getElem_cons_zero, List.getElem_cons_succ]
    refine wpAnyH_take (i := 3) (v := ?_) rfl (by kernel_rfl) (by kernel_rfl) (by kernel_rfl) (fun _ _ _ h => h) (Or.inl ⟨by kernel_rfl, ?_⟩) (by assumption) ?_
    rotate_left
    · (intro w hSw; (try dsimp only at hSw); go_simp)
      try with_reducible rfl
    try simp only [Act.put, List.setIfInBounds_toArray, List.set_cons_zero, List.set_cons_succ, List.getElem_toArray, List.getElem_cons_zero, List.getElem_cons_succ]
    refine wpAnyH_take (i := 4) (v := ?_) rfl (by kernel_rfl) (by kernel_rfl) (by kernel_rfl) (fun _ _ _ h => h) (Or.inl ⟨by kernel_rfl, ?_⟩) (by assumption) ?_
    rotate_left
    · (intro w hSw; (try dsimp only at hSw); go_simp)
      try with_reducible rfl
    try simp only [Act.put, List.setIfInBounds_toArray, List.set_cons_zero, List.set_cons_succ, List.getElem_toArray, List.getElem_cons_zero, List.getElem_cons_succ]
    refine wpAnyH_ready (rs := [5]) (by kernel_rfl) (by simp) ?_
    refine AllReadyH.cons rfl (fun K hK => ?_) AllReadyH.nil
    go_simp
    go_at_call 26
    refine (HPT _).out.mono ?_
    rintro e wp2 ⟨rfl, hbp2⟩
    have HBp2 := Lib.hid (belS HBz1.out.drew hbp2)
    clear hbp2
    try dsimp only
    refine hK.out _ _ (HS.out _ HBp2.out) (fun hHeld => ?_)
    clear hK K
    try simp only [Act.put, List.setIfInBounds_toArray, List.set_cons_zero, List.set_cons_succ, List.getElem_toArray, List.getElem_cons_zero, List.getElem_cons_succ]
    refine wpAnyH_ready (rs := [6]) (by kernel_rfl) (by simp) ?_
    refine AllReadyH.cons rfl (fun K hK => ?_) AllReadyH.nil
    go_simp
    go_at_call 25
    refine (HZB _).out.mono ?_
    rintro e wz2 ⟨rfl, hbz2⟩
    have HBz2 := Lib.hid (belS HBp2.out hbz2)
    clear hbz2
    try dsimp only
    refine hK.out _ _ (HS.out _ HBz2.out) (fun hHeld => ?_)
    clear hK K
    try simp only [Act.put, List.setIfInBounds_toArray, List.set_cons_zero, List.set_cons_succ, List.getElem_toArray, List.getElem_cons_zero, List.getElem_cons_succ]
    refine wpAnyH_take (i := 7) (v := ?_) rfl (by kernel_rfl) (by kernel_rfl) (by kernel_rfl) (fun _ _ _ h => h) (Or.inl ⟨by kernel_rfl, ?_⟩) (by assumption) ?_
    rotate_left
    · (intro w hSw; (try dsimp only at hSw); go_simp)
      try with_reducible rfl
    try simp only [Act.put, List.setIfInBounds_toArray, List.set_cons_zero, List.set_cons_succ, List.getElem_toArray, List.getElem_cons_zero, List.getElem_cons_succ]
    refine wpAnyH_take (i := 8) (v := ?_) rfl (by kernel_rfl) (by kernel_rfl) (by kernel_rfl) (fun _ _ _ h => h) (Or.inl ⟨by kernel_rfl, ?_⟩) (by assumption) ?_
    rotate_left
    · (intro w hSw; (try dsimp only at hSw); go_simp)
      try with_reducible rfl
    try simp only [Act.put, List.setIfInBounds_toArray, List.set_cons_zero, List.set_cons_succ, List.getElem_toArray, List.getElem_cons_zero, List.getElem_cons_succ]
    refine wpAnyH_take (i := 9) (v := ?_) rfl (by kernel_rfl) (by kernel_rfl) (by kernel_rfl) (fun _ _ _ h => h) (Or.inl ⟨by kernel_rfl, ?_⟩) (by assumption) ?_
    rotate_left
    · (intro w hSw; (try dsimp only at hSw); go_simp)
      try with_reducible rfl
    try simp only [Act.put, List.setIfInBounds_toArray, List.set_cons_zero, List.set_cons_succ, List.getElem_toArray, List.getElem_cons_zero, List.getElem_cons_succ]
    refine wpAnyH_take (i := 10) (v := ?_) rfl (by kernel_rfl) (by kernel_rfl) (by kernel_rfl) (fun _ _ _ h => h) (Or.inl ⟨by kernel_rfl, ?_⟩) (by assumption) ?_
    rotate_left
    · (intro w hSw; (try dsimp only at hSw); go_simp)
      try with_reducible rfl
    try simp only [Act.put, List.setIfInBounds_toArray, List.set_cons_zero, List.set_cons_succ, List.getElem_toArray, List.getElem_cons_zero, List.getElem_cons_succ]
    refine wpAnyH_take (i := 11) (v := ?_) rfl (by kernel_rfl) (by kernel_rfl) (by kernel_rfl) (fun _ _ _ h => h) (Or.inl ⟨by kernel_rfl, ?_⟩) (by assumption) ?_
    rotate_left
    · (intro w hSw; (try dsimp only at hSw); go_simp)
      try with_reducible rfl
    try simp only [Act.put, List.setIfInBounds_toArray, List.set_cons_zero, List.set_cons_succ, List.getElem_toArray, List.getElem_cons_zero, List.getElem_cons_succ]
    refine wpAnyH_done (by kernel_rfl) ?_ _
    clear hHeld
    go_upto_region 15 with fail
    refine wp_region_held_drew (S := fun W => W.cell? ⟨b1, 0, none⟩ = some (.int .i64 z0) ∧ W.cell? ⟨b1, 1, none⟩ = some (.int .i64 z1) ∧ W.cell? ⟨b1, 2, none⟩ = some (.int .i64 z2) ∧ W.cell? ⟨b1, 3, none⟩ = some (.int .i64 z3) ∧ W.cell? ⟨b1, 4, none⟩ = some (.int .i64 z4) ∧ W.cell? ⟨b1, 5, none⟩ = some (.int .i64 z5) ∧ b1 < W.heap.size ∧ W.cell? ⟨b2, 0, none⟩ = some (.int .i64 y0) ∧ W.cell? ⟨b2, 1, none⟩ = some (.int .i64 y1) ∧ W.cell? ⟨b2, 2, none⟩ = some (.int .i64 y2) ∧ W.cell? ⟨b2, 3, none⟩ = some (.int .i64 y3) ∧ W.cell? ⟨b2, 4, none⟩ = some (.int .i64 y4) ∧ W.cell? ⟨b2, 5, none⟩ = some (.int .i64 y5) ∧ b2 < W.heap.size ∧ W.cell? ⟨b3, 0, none⟩ = some (.int .i64 u0) ∧ W.cell? ⟨b3, 1, none⟩ = some (.int .i64 u1) ∧ W.cell? ⟨b3, 2, none⟩ = some (.int .i64 u2) ∧ W.cell? ⟨b3, 3, none⟩ = some (.int .i64 u3) ∧ W.cell? ⟨b3, 4, none⟩ = some (.int .i64 u4) ∧ W.cell? ⟨b3, 5, none⟩ = some (.int .i64 u5) ∧ b3 < W.heap.size) (by kernel_rfl) (HS.out _ HBz2.out.drew) (fun hHeld => ?_)
    refine wpAnyH_take (i := 0) (v := ?_) rfl (by kernel_rfl) (by kernel_rfl) (by kernel_rfl) (fun _ _ _ h => h) (Or.inl ⟨by kernel_rfl, ?_⟩) (by assumption) ?_
    rotate_left
    · (intro w hSw; (try dsimp only at hSw); go_simp)
      try with_reducible rfl
    try simp only [Act.put, List.setIfInBounds_toArray, List.set_cons_zero, List.set_cons_succ, List.getElem_toArray, List.getElem_cons_zero]
    refine wpAnyH_take (i := 1) (v := ?_) rfl (by kernel_rfl) (by kernel_rfl) (by kernel_rfl) (fun _ _ _ h => h) (Or.inl ⟨by kernel_rfl, ?_⟩) (by assumption) ?_
    rotate_left
    · (intro w hSw; (try dsimp only at hSw); go_simp)
      try with_reducible rfl
    try simp only [Act.put, List.setIfInBounds_toArray, List.set_cons_zero, List.set_cons_succ, List.getElem_toArray, List.getElem_cons_zero, List.getElem_cons_succ]
    refine wpAnyH_take (i := 2) (v := ?_) rfl (by kernel_rfl) (by kernel_rfl) (by kernel_rfl) (fun _ _ _ h => h) (Or.inl ⟨by kernel_rfl, ?_⟩) (by assumption) ?_
    rotate_left
    · (intro w hSw; (try dsimp only at hSw); go_simp)
      try with_reducible rfl
    try simp only [Act.put, List.setIfInBounds_toArray, List.set_cons_zero, List.set_cons_succ, List.getElem_toArray, List.getElem_cons_zero, List.getElem_cons_succ]
    refine wpAnyH_take (i := 3) (v := ?_) rfl (by kernel_rfl) (by kernel_rfl) (by kernel_rfl) (fun _ _ _ h => h) (Or.inl ⟨by kernel_rfl, ?_⟩) (by assumption) ?_
    rotate_left
    · (intro w hSw; (try dsimp only at hSw); go_simp)
      try with_reducible rfl
    try simp only [Act.put, List.setIfInBounds_toArray, List.set_cons_zero, List.set_cons_succ, List.getElem_toArray, List.getElem_cons_zero, List.getElem_cons_succ]
    refine wpAnyH_take (i := 4) (v := ?_) rfl (by kernel_rfl) (by kernel_rfl) (by kernel_rfl) (fun _ _ _ h => h) (Or.inl ⟨by kernel_rfl, ?_⟩) (by assumption) ?_
    rotate_left
    · (intro w hSw; (try dsimp only at hSw); go_simp)
      try with_reducible rfl
    try simp only [Act.put, List.setIfInBounds_toArray, List.set_cons_zero, List.set_cons_succ, List.getElem_toArray, List.getElem_cons_zero, List.getElem_cons_succ]
    refine wpAnyH_ready (rs := [5]) (by kernel_rfl) (by simp) ?_
    refine AllReadyH.cons rfl (fun K hK => ?_) AllReadyH.nil
    go_simp
    go_at_call 26
    refine (HPT _).out.mono ?_
    rintro e wp3 ⟨rfl, hbp3⟩
    have HBp3 := Lib.hid (belS HBz2.out.drew hbp3)
    clear hbp3
    try dsimp only
    refine hK.out _ _ (HS.out _ HBp3.out) (fun hHeld => ?_)
    clear hK K
    try simp only [Act.put, List.setIfInBounds_toArray, List.set_cons_zero, List.set_cons_succ, List.getElem_toArray, List.getElem_cons_zero, List.getElem_cons_succ]
    refine wpAnyH_ready (rs := [6]) (by kernel_rfl) (by simp) ?_
    refine AllReadyH.cons rfl (fun K hK => ?_) AllReadyH.nil
    go_simp
    go_at_call 25
    refine (HZK _).out.mono ?_
    rintro e wz3 ⟨rfl, hbz3⟩
    have HBz3 := Lib.hid (belS HBp3.out hbz3)
    clear hbz3
    try dsimp only
    refine hK.out _ _ (HS.out _ HBz3.out) (fun hHeld => ?_)
    clear hK K
    try simp only [Act.put, List.setIfInBounds_toArray, List.set_cons_zero, List.set_cons_succ, List.getElem_toArray, List.getElem_cons_zero, List.getElem_cons_succ]
    refine wpAnyH_take (i := 7) (v := ?_) rfl (by kernel_rfl) (by kernel_rfl) (by kernel_rfl) (fun _ _ _ h => h) (Or.inl ⟨by kernel_rfl, ?_⟩) (by assumption) ?_
    rotate_left
    · (intro w hSw; (try dsimp only at hSw); go_simp)
      try with_reducible rfl
    try simp only [Act.put, List.setIfInBounds_toArray, List.set_cons_zero, List.set_cons_succ, List.getElem_toArray, List.getElem_cons_zero, List.getElem_cons_succ]
    refine wpAnyH_take (i := 8) (v := ?_) rfl (by kernel_rfl) (by kernel_rfl) (by kernel_rfl) (fun _ _ _ h => h) (Or.inl ⟨by kernel_rfl, ?_⟩) (by assumption) ?_
    rotate_left
    · (intro w hSw; (try dsimp only at hSw); go_simp)
      try with_reducible rfl
    try simp only [Act.put, List.setIfInBounds_toArray, List.set_cons_zero, List.set_cons_succ, List.getElem_toArray, List.getElem_cons_zero, List.getElem_cons_succ]
    refine wpAnyH_take (i := 9) (v := ?_) rfl (by kernel_rfl) (by kernel_rfl) (by kernel_rfl) (fun _ _ _ h => h) (Or.inl ⟨by kernel_rfl, ?_⟩) (by assumption) ?_
    rotate_left
    · (intro w hSw; (try dsimp only at hSw); go_simp)
      try with_reducible rfl
    try simp only [Act.put, List.setIfInBounds_toArray, List.set_cons_zero, List.set_cons_succ, List.getElem_toArray, List.getElem_cons_zero, List.getElem_cons_succ]
    refine wpAnyH_take (i := 10) (v := ?_) rfl (by kernel_rfl) (by kernel_rfl) (by kernel_rfl) (fun _ _ _ h => h) (Or.inl ⟨by kernel_rfl, ?_⟩) (by assumption) ?_
    rotate_left
    · (intro w hSw; (try dsimp only at hSw); go_simp)
      try with_reducible rfl
    try simp only [Act.put, List.setIfInBounds_toArray, List.set_cons_zero, List.set_cons_succ, List.getElem_toArray, List.getElem_cons_zero, List.getElem_cons_succ]
    refine wpAnyH_take (i := 11) (v := ?_) rfl (by kernel_rfl) (by kernel_rfl) (by kernel_rfl) (fun _ _ _ h => h) (Or.inl ⟨by kernel_rfl, ?_⟩) (by assumption) ?_
    rotate_left
    · (intro w hSw; (try dsimp only at hSw); go_simp)
      try with_reducible rfl
    try simp only [Act.put, List.setIfInBounds_toArray, List.set_cons_zero, List.set_cons_succ, List.getElem_toArray, List.getElem_cons_zero, List.getElem_cons_succ]
    refine wpAnyH_done (by kernel_rfl) ?_ _
    clear hHeld
    go_upto_region 16 with fail
    cases v2 with
    | false =>
      cases v3 with
      | false =>
        obtain rfl : v1 = false := HV1.out.symm
        go_wp2_with fail
        all_goals go_ret
        all_goals exact ⟨rfl, HBW.out _ (HB10.out.trans (HBz3.out.mono HB10.out.size))⟩
      | true =>
        obtain rfl : v1 = true := HV1.out.symm
        go_wp2_with fail
        all_goals go_ret
        all_goals exact ⟨rfl, HBW.out _ (HB10.out.trans (HBz3.out.mono HB10.out.size))⟩
    | true =>
      cases v3 with
      | true => exact absurd HR2.out (by decide)
      | false =>
        obtain rfl : v1 = true := HV1.out.symm
        go_wp2_with fail
        all_goals go_ret
        all_goals exact ⟨rfl, HBW.out _ (HB10.out.trans (HBz3.out.mono HB10.out.size))⟩
end Go.Proofs.YtockinpjfhhkoaaGreatDoor
