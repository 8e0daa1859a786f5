/- The law AtomsPoints, walked. (Printed by gen_atze.py.) -/
import Derived.Test.YtockinpjfhhkoaaGreatDoorMhD
namespace Go.Proofs.YtockinpjfhhkoaaGreatDoor
open Go.RowKit

set_option maxRecDepth 100000 in
set_option maxHeartbeats 16000000 in
theorem atomsPoints6_any (names : List ByteArray) (nv : Value) (hw0 : ∀ s ∈ names, s.size ≤ 281474976710656) (n : Nat) (t : FT n) (v : Value) (on : Bool) (since at_ dur bits x y : Int) (w : World) (hb0 : 0 ≤ bits) (hb1 : bits ≤ 255) (hat : in64 at_) (hdu : in64 dur)
    (hr : Rdy w) (hn : NRep w w.heap.size nv names) (hf : FRep w w.heap.size n t v) :
    Calls Tryz.prog 6 #[nv, v, .agg #[.bool on, .int .i64 since], .int .i64 at_, .agg #[.int .i64 dur, .int .u8 bits], .int .i64 x, .int .i64 y] w fun e w' => e = .returned (.bool true) ∧ Below w.heap.size w w' := by
  obtain ⟨k, s, fa, fl, fc, rfl⟩ := hf.shape
  obtain ⟨W3, hW3⟩ : ∃ W3, W3 = ((w.alloc (.cells #[.int .u8 k, .string s, .slice fa fl fc] 25)).alloc (.cells #[.bool on, .int .i64 since] 27)).alloc (.cells #[.int .i64 dur, .int .u8 bits] 29) := ⟨_, rfl⟩
  have hb3 : Below w.heap.size w W3 := by rw [hW3]; exact ((belowA _ _).alloc (by simp) _).alloc (by simp; omega) _
  have k0 : W3.heap[w.heap.size]? = some (.cells #[.int .u8 k, .string s, .slice fa fl fc] 25 (0, 0)) := by
    rw [hW3]; exact (Below.heap_alloc _ _ _ (by simp; omega)).trans ((Below.heap_alloc _ _ _ (by simp)).trans (hp_topA rfl))
  have k1 : W3.heap[w.heap.size + 1]? = some (.cells #[.bool on, .int .i64 since] 27 (0, 0)) := by
    rw [hW3]; exact (Below.heap_alloc _ _ _ (by simp)).trans (hp_topA (by simp))
  have k2 : W3.heap[w.heap.size + 1 + 1]? = some (.cells #[.int .i64 dur, .int .u8 bits] 29 (0, 0)) := by
    rw [hW3]; exact hp_topA (by simp)
  have HF : Hid (∀ W, Below W3.heap.size W3 W → W.cell? ⟨w.heap.size, 0, none⟩ = some (.int .u8 k) ∧ W.cell? ⟨w.heap.size, 1, none⟩ = some (.string s) ∧ W.cell? ⟨w.heap.size, 2, none⟩ = some (.slice fa fl fc) ∧ W.cell? ⟨w.heap.size + 1, 0, none⟩ = some (.bool on) ∧ W.cell? ⟨w.heap.size + 1, 1, none⟩ = some (.int .i64 since) ∧ W.cell? ⟨w.heap.size + 1 + 1, 0, none⟩ = some (.int .i64 dur) ∧ W.cell? ⟨w.heap.size + 1 + 1, 1, none⟩ = some (.int .u8 bits) ∧ w.heap.size < W.heap.size ∧ w.heap.size + 1 < W.heap.size ∧ w.heap.size + 1 + 1 < W.heap.size) := by
    intro W hW
    have a0 := (hW.block _ (Array.getElem?_eq_some_iff.1 k0).1).trans k0
    have a1 := (hW.block _ (Array.getElem?_eq_some_iff.1 k1).1).trans k1
    have a2 := (hW.block _ (Array.getElem?_eq_some_iff.1 k2).1).trans k2
    exact ⟨Lib.cell_of_heap a0 0, Lib.cell_of_heap a0 1, Lib.cell_of_heap a0 2, Lib.cell_of_heap a1 0, Lib.cell_of_heap a1 1, Lib.cell_of_heap a2 0, Lib.cell_of_heap a2 1, (Array.getElem?_eq_some_iff.1 a0).1, (Array.getElem?_eq_some_iff.1 a1).1, (Array.getElem?_eq_some_iff.1 a2).1⟩
  have HBW : Hid (∀ W, Below W3.heap.size W3 W → Below w.heap.size w W) := fun W h => hb3.trans (h.mono hb3.size)
  have HFR : Hid (∀ W, Below W3.heap.size W3 W → FRep W W.heap.size n t (.agg #[.int .u8 k, .string s, .slice fa fl fc])) := fun W h => hf.up (HBW.out W h) (HBW.out W h).size
  have HNR : Hid (∀ W, Below W3.heap.size W3 W → NRep W W.heap.size nv names) := fun W h => hn.up (HBW.out W h) (HBW.out W h).size
  have HRD : Hid (∀ W, Below W3.heap.size W3 W → Rdy W) := fun W h => hr.below (HBW.out W h)
  have HGN : Hid (greatN names = false → ∀ s ∈ names, s.size ≤ 1048576) := fun h => greatN_not h hw0
  have HBI : Hid (0 ≤ bits ∧ bits ≤ 255) := ⟨hb0, hb1⟩
  have HAT := Lib.hid hat
  have HDU := Lib.hid hdu
  have HW3 := Lib.hid hW3.symm
  clear hb0 hb1 hat hdu hr hn hf hw0 hW3 hb3 k0 k1 k2
  go_enter Tryz.func6, Tryz.ntmps6
  go_upto_region 1 with fail
  rw [HW3.out]
  clear HW3
  go_wp2_with fail
  refine (alive24_any _ (HRD.out W3 (Below.refl _ _))).mono ?_
  rintro e w4 ⟨rfl, hb4⟩
  have HB4 : Hid (Below W3.heap.size W3 w4) := hb4
  clear hb4
  obtain ⟨xf0, xf1, xf2, xf3, xf4, xf5, xf6, xf7, xf8, xf9⟩ := HF.out w4 HB4.out
  go_wp2_with fail
  refine (greatF12_any n t _ w4 (HFR.out w4 HB4.out)).mono ?_
  rintro e w5 ⟨rfl, hb5⟩
  have HB5 : Hid (Below W3.heap.size W3 w5) := belS HB4.out hb5
  clear hb5 xf0 xf1 xf2 xf3 xf4 xf5 xf6 xf7 xf8 xf9
  obtain ⟨yf0, yf1, yf2, yf3, yf4, yf5, yf6, yf7, yf8, yf9⟩ := HF.out w5 HB5.out
  cases q1 : decide (2000 < sizeF n t 2000) with
  | true =>
    go_wp2_with fail
    all_goals go_ret
    all_goals exact ⟨rfl, HBW.out _ HB5.out⟩
  | false =>
  clear q1
  go_wp2_with fail
  refine (greatNames12_any names _ w5 (HNR.out w5 HB5.out)).mono ?_
  rintro e w6 ⟨rfl, rfl⟩
  cases q3 : greatN names with
  | true =>
    go_wp2_with fail
    all_goals go_ret
    all_goals exact ⟨rfl, HBW.out _ HB5.out⟩
  | false =>
  have HG := Lib.hid (HGN.out q3)
  clear q3
  cases q4 : decide (x < 0) with
  | true =>
    go_wp2_with fail
    all_goals go_ret
    all_goals exact ⟨rfl, HBW.out _ HB5.out⟩
  | false =>
  cases q5 : decide (y < 0) with
  | true =>
    go_wp2_with fail
    all_goals go_ret
    all_goals exact ⟨rfl, HBW.out _ HB5.out⟩
  | false =>
  cases q6 : decide (1125899906842624 < x) with
  | true =>
    go_wp2_with fail
    all_goals go_ret
    all_goals exact ⟨rfl, HBW.out _ HB5.out⟩
  | false =>
  cases q7 : decide (1125899906842624 < y) with
  | true =>
    go_wp2_with fail
    all_goals go_ret
    all_goals exact ⟨rfl, HBW.out _ HB5.out⟩
  | false =>
  cases q8 : decide (562949953421312 < at_) with
  | true =>
    go_wp2_with fail
    all_goals go_ret
    all_goals exact ⟨rfl, HBW.out _ HB5.out⟩
  | false =>
  cases q9 : decide (562949953421312 < dur) with
  | true =>
    go_wp2_with fail
    all_goals go_ret
    all_goals exact ⟨rfl, HBW.out _ HB5.out⟩
  | false =>
  have HOX : Hid (HalfOk x ∧ HalfOk y ∧ at_ ≤ 562949953421312 ∧ dur ≤ 562949953421312) := by
    simp only [decide_eq_false_iff_not] at q4 q5 q6 q7 q8 q9
    exact ⟨⟨by omega, by omega⟩, ⟨by omega, by omega⟩, by omega, by omega⟩
  have HNX := Lib.hid (next14_any names nv HG.out n t _ on since at_ dur bits w6 HBI.out.1 HBI.out.2 HAT.out HDU.out (HRD.out w6 HB5.out) (HNR.out w6 HB5.out) (HFR.out w6 HB5.out))
  rcases next_shape names n t on since at_ dur bits with ⟨er, her, hsh⟩ | hsh | ⟨f, hsh, g1, g2, g3, g4, g5⟩
  · rw [hsh] at HNX
    have her2 : (er != 0) = true := by simpa using her
    clear hsh her
    go_wp2_with fail
    refine HNX.out.mono ?_
    rintro e w7 ⟨⟨zv, rfl, rfl⟩, hb7⟩
    have HB7 : Hid (Below W3.heap.size W3 w7) := belS HB5.out hb7
    clear hb7 yf0 yf1 yf2 yf3 yf4 yf5 yf6 yf7 yf8 yf9
    go_wp2_with fail
    all_goals go_ret
    all_goals exact ⟨rfl, HBW.out _ (belA' HB7.out _)⟩
  · rw [hsh] at HNX
    clear hsh
    go_wp2_with fail
    refine HNX.out.mono ?_
    rintro e w7 ⟨⟨zv, rfl, rfl⟩, hb7⟩
    have HB7 : Hid (Below W3.heap.size W3 w7) := belS HB5.out hb7
    clear hb7 yf0 yf1 yf2 yf3 yf4 yf5 yf6 yf7 yf8 yf9
    go_wp2_with fail
    all_goals go_ret
    all_goals exact ⟨rfl, HBW.out _ (belA' HB7.out _)⟩
  · rw [hsh] at HNX
    obtain ⟨z0, z1, z2, z3, z4, z5, hzz⟩ : ∃ z0 z1 z2 z3 z4 z5, zonD (atomM f at_ (at_ + dur)) = #[.int .i64 z0, .int .i64 z1, .int .i64 z2, .int .i64 z3, .int .i64 z4, .int .i64 z5] := ⟨_, _, _, _, _, _, rfl⟩
    have HZA := fun W => Lib.hid (hasZone_any (t := x) (u := y) W g1 g2 g3 g4 HOX.out.1 HOX.out.2.1)
    have HCK := fun W => Lib.hid (checkZone_any W g1 g2 g3 g4)
    have HPT := fun W => Lib.hid (point26_any x y W HOX.out.1 HOX.out.2.1)
    rw [hzz] at HZA HCK
    have HZZ := Lib.hid hzz
    have q10 : decide (at_ < f) = false := by simp; omega
    have ho := HOX.out
    have hm1 : IntKind.i64.wrap (2 * f) = 2 * f := IntWalk.i64_in _ (by omega)
    have hm2 : IntKind.i64.wrap (2 * at_) = 2 * at_ := IntWalk.i64_in _ (by omega)
    have hm3 : IntKind.i64.wrap (at_ + dur) = at_ + dur := IntWalk.i64_in _ (by omega)
    have hm4 : IntKind.i64.wrap (2 * (at_ + dur)) = 2 * (at_ + dur) := IntWalk.i64_in _ (by omega)
    have hm1' : wrap64 (2 * f) = 2 * f := IntWalk.wrap64_in _ (by omega)
    have hm2' : wrap64 (2 * at_) = 2 * at_ := IntWalk.wrap64_in _ (by omega)
    have hm3' : wrap64 (at_ + dur) = at_ + dur := IntWalk.wrap64_in _ (by omega)
    have hm4' : wrap64 (2 * (at_ + dur)) = 2 * (at_ + dur) := IntWalk.wrap64_in _ (by omega)
    have HG5 := Lib.hid g5
    clear hsh hzz g1 g2 g3 g4 g5 ho
    go_wp2_with fail
    refine HNX.out.mono ?_
    rintro e w7 ⟨⟨zv, rfl, b, rfl, hbB, hb⟩, hb7⟩
    have HB7 : Hid (Below W3.heap.size W3 w7) := belS HB5.out hb7
    rw [HZZ.out] at hb
    obtain ⟨W8, hW8⟩ : ∃ W8, W8 = w7.alloc (.cells #[.bool true, .int .i64 f] 27) := ⟨_, rfl⟩
    have HB8 : Hid (Below W3.heap.size W3 W8) := by rw [Hid, hW8]; exact belA' HB7.out _
    have hz8 : W8.heap[b]? = some (.cells #[.int .i64 z0, .int .i64 z1, .int .i64 z2, .int .i64 z3, .int .i64 z4, .int .i64 z5] 69 (0, 0)) := by rw [hW8]; exact (Below.heap_alloc _ _ _ (Array.getElem?_eq_some_iff.1 hb).1).trans hb
    have hr8 : W8.heap[w7.heap.size]? = some (.cells #[.bool true, .int .i64 f] 27 (0, 0)) := by rw [hW8]; exact hp_topA rfl
    have HS : Hid (∀ W, Below W8.heap.size W8 W → W.cell? ⟨b, 0, none⟩ = some (.int .i64 z0) ∧ W.cell? ⟨b, 1, none⟩ = some (.int .i64 z1) ∧ W.cell? ⟨b, 2, none⟩ = some (.int .i64 z2) ∧ W.cell? ⟨b, 3, none⟩ = some (.int .i64 z3) ∧ W.cell? ⟨b, 4, none⟩ = some (.int .i64 z4) ∧ W.cell? ⟨b, 5, none⟩ = some (.int .i64 z5) ∧ b < W.heap.size) := by
      intro W hW
      have kk := (hW.block _ (Array.getElem?_eq_some_iff.1 hz8).1).trans hz8
      exact ⟨Lib.cell_of_heap kk 0, Lib.cell_of_heap kk 1, Lib.cell_of_heap kk 2, Lib.cell_of_heap kk 3, Lib.cell_of_heap kk 4, Lib.cell_of_heap kk 5, (Array.getElem?_eq_some_iff.1 kk).1⟩
    have HR8 : Hid (∀ W, Below W8.heap.size W8 W → W.cell? ⟨w7.heap.size, 0, none⟩ = some (.bool true) ∧ W.cell? ⟨w7.heap.size, 1, none⟩ = some (.int .i64 f) ∧ w7.heap.size < W.heap.size) := by
      intro W hW
      have kk := (hW.block _ (Array.getElem?_eq_some_iff.1 hr8).1).trans hr8
      exact ⟨Lib.cell_of_heap kk 0, Lib.cell_of_heap kk 1, (Array.getElem?_eq_some_iff.1 kk).1⟩
    have HBr : Hid (Below W8.heap.size W8 W8) := Below.refl _ _
    obtain ⟨zf0, zf1, zf2, zf3, zf4, zf5, zf6, zf7, zf8, zf9⟩ := HF.out w7 HB7.out
    have HW8 := Lib.hid hW8.symm
    clear hbB hb hb7 yf0 yf1 yf2 yf3 yf4 yf5 yf6 yf7 yf8 yf9 hW8 hz8 hr8
    have hrun : on = true → f = since := HG5.out
    cases on with
    | true =>
      obtain rfl : f = since := hrun rfl
      clear hrun
      cases c1 : decide (2 * f ≤ x) with
      | false =>
        have HZ : ∀ W, Hid (Calls Tryz.prog 25 #[.agg #[.int .i64 z0, .int .i64 z1, .int .i64 z2, .int .i64 z3, .int .i64 z4, .int .i64 z5], pairV x y] W fun e' w' => e' = .returned (.tuple #[.bool false, .int .i64 0]) ∧ Below W.heap.size W w') := fun W => by
          have h : hasZ f at_ (at_ + dur) x y = false := by simp only [hasZ, c1]; rfl
          have h2 := (HZA W).out
          rw [h] at h2
          exact h2
        go_upto_region 11 with fail
        rw [HW8.out]
        refine wp_region_held_drew (S := fun W => W.cell? ⟨b, 0, none⟩ = some (.int .i64 z0) ∧ W.cell? ⟨b, 1, none⟩ = some (.int .i64 z1) ∧ W.cell? ⟨b, 2, none⟩ = some (.int .i64 z2) ∧ W.cell? ⟨b, 3, none⟩ = some (.int .i64 z3) ∧ W.cell? ⟨b, 4, none⟩ = some (.int .i64 z4) ∧ W.cell? ⟨b, 5, none⟩ = some (.int .i64 z5) ∧ b < W.heap.size) (by kernel_rfl) (HS.out _ HBr.out.drew) (fun hHeld => ?_)
        refine wpAnyH_take (i := 0) (v := ?_) rfl (by kernel_rfl) (by kernel_rfl) (by kernel_rfl) (fun _ _ _ h => h) (Or.inl ⟨by kernel_rfl, ?_⟩) (by assumption) ?_
        rotate_left
        · (intro w hSw; (try dsimp only at hSw); go_simp)
          try with_reducible rfl
        try simp only [Act.put, List.setIfInBounds_toArray, List.set_cons_zero, List.set_cons_succ, List.getElem_toArray, List.getElem_cons_zero]
        refine wpAnyH_take (i := 1) (v := ?_) rfl (by kernel_rfl) (by kernel_rfl) (by kernel_rfl) (fun _ _ _ h => h) (Or.inl ⟨by kernel_rfl, ?_⟩) (by assumption) ?_
        rotate_left
        · (intro w hSw; (try dsimp only at hSw); go_simp)
          try with_reducible rfl
        try simp only [Act.put, List.setIfInBounds_toArray, List.set_cons_zero, List.set_cons_succ, List.getElem_toArray, List.getElem_cons_zero, List.getElem_cons_succ]
        refine wpAnyH_take (i := 2) (v := ?_) rfl (by kernel_rfl) (by kernel_rfl) (by kernel_rfl) (fun _ _ _ h => h) (Or.inl ⟨by kernel_rfl, ?_⟩) (by assumption) ?_
        rotate_left
        · (intro w hSw; (try dsimp only at hSw); go_simp)
          try with_reducible rfl
        try simp only [Act.put, List.setIfInBounds_toArray, List.set_cons_zero, List.set_cons_succ, List.getElem_toArray, List.getElem_cons_zero, List.getElem_cons_succ]
        refine wpAnyH_take (i := 3) (v := ?_) rfl (by kernel_rfl) (by kernel_rfl) (by kernel_rfl) (fun _ _ _ h => h) (Or.inl ⟨by kernel_rfl, ?_⟩) (by assumption) ?_
        rotate_left
        · (intro w hSw; (try dsimp only at hSw); go_simp)
          try with_reducible rfl
        try simp only [Act.put, List.setIfInBounds_toArray, List.set_cons_zero, List.set_cons_succ, List.getElem_toArray, List.getElem_cons_zero, List.getElem_cons_succ]
        refine wpAnyH_take (i := 4) (v := ?_) rfl (by kernel_rfl) (by kernel_rfl) (by kernel_rfl) (fun _ _ _ h => h) (Or.inl ⟨by kernel_rfl, ?_⟩) (by assumption) ?_
        rotate_left
        · (intro w hSw; (try dsimp only at hSw); go_simp)
          try with_reducible rfl
        try simp only [Act.put, List.setIfInBounds_toArray, List.set_cons_zero, List.set_cons_succ, List.getElem_toArray, List.getElem_cons_zero, List.getElem_cons_succ]
        refine wpAnyH_ready (rs := [5]) (by kernel_rfl) (by simp) ?_
        refine AllReadyH.cons rfl (fun K hK => ?_) AllReadyH.nil
        go_simp
        go_at_call 26
        refine (HPT _).out.mono ?_
        rintro e wp1 ⟨rfl, hbp1⟩
        have HBp1 := Lib.hid (belS HBr.out.drew hbp1)
        clear hbp1
        try dsimp only
        refine hK.out _ _ (HS.out _ HBp1.out) (fun hHeld => ?_)
        clear hK K
        try simp only [Act.put, List.setIfInBounds_toArray, List.set_cons_zero, List.set_cons_succ, List.getElem_toArray, List.getElem_cons_zero, List.getElem_cons_succ]
        refine wpAnyH_ready (rs := [6]) (by kernel_rfl) (by simp) ?_
        refine AllReadyH.cons rfl (fun K hK => ?_) AllReadyH.nil
        go_simp
        go_at_call 25
        refine (HZ _).out.mono ?_
        rintro e wz1 ⟨rfl, hbz1⟩
        have HBz1 := Lib.hid (belS HBp1.out hbz1)
        clear hbz1
        try dsimp only
        refine hK.out _ _ (HS.out _ HBz1.out) (fun hHeld => ?_)
        clear hK K
        try simp only [Act.put, List.setIfInBounds_toArray, List.set_cons_zero, List.set_cons_succ, List.getElem_toArray, List.getElem_cons_zero, List.getElem_cons_succ]
        refine wpAnyH_take (i := 7) (v := ?_) rfl (by kernel_rfl) (by kernel_rfl) (by kernel_rfl) (fun _ _ _ h => h) (Or.inl ⟨by kernel_rfl, ?_⟩) (by assumption) ?_
        rotate_left
        · (intro w hSw; (try dsimp only at hSw); go_simp)
          try with_reducible rfl
        try simp only [Act.put, List.setIfInBounds_toArray, List.set_cons_zero, List.set_cons_succ, List.getElem_toArray, List.getElem_cons_zero, List.getElem_cons_succ]
        refine wpAnyH_take (i := 8) (v := ?_) rfl (by kernel_rfl) (by kernel_rfl) (by kernel_rfl) (fun _ _ _ h => h) (Or.inl ⟨by kernel_rfl, ?_⟩) (by assumption) ?_
        rotate_left
        · (intro w hSw; (try dsimp only at hSw); go_simp)
          try with_reducible rfl
        try simp only [Act.put, List.setIfInBounds_toArray, List.set_cons_zero, List.set_cons_succ, List.getElem_toArray, List.getElem_cons_zero, List.getElem_cons_succ]
        refine wpAnyH_take (i := 9) (v := ?_) rfl (by kernel_rfl) (by kernel_rfl) (by kernel_rfl) (fun _ _ _ h => h) (Or.inl ⟨by kernel_rfl, ?_⟩) (by assumption) ?_
        rotate_left
        · (intro w hSw; (try dsimp only at hSw); go_simp)
          try with_reducible rfl
        try simp only [Act.put, List.setIfInBounds_toArray, List.set_cons_zero, List.set_cons_succ, List.getElem_toArray, List.getElem_cons_zero, List.getElem_cons_succ]
        refine wpAnyH_take (i := 10) (v := ?_) rfl (by kernel_rfl) (by kernel_rfl) (by kernel_rfl) (fun _ _ _ h => h) (Or.inl ⟨by kernel_rfl, ?_⟩) (by assumption) ?_
        rotate_left
        · (intro w hSw; (try dsimp only at hSw); go_simp)
          try with_reducible rfl
        try simp only [Act.put, List.setIfInBounds_toArray, List.set_cons_zero, List.set_cons_succ, List.getElem_toArray, List.getElem_cons_zero, List.getElem_cons_succ]
        refine wpAnyH_take (i := 11) (v := ?_) rfl (by kernel_rfl) (by kernel_rfl) (by kernel_rfl) (fun _ _ _ h => h) (Or.inl ⟨by kernel_rfl, ?_⟩) (by assumption) ?_
        rotate_left
        · (intro w hSw; (try dsimp only at hSw); go_simp)
          try with_reducible rfl
        try simp only [Act.put, List.setIfInBounds_toArray, List.set_cons_zero, List.set_cons_succ, List.getElem_toArray, List.getElem_cons_zero, List.getElem_cons_succ]
        refine wpAnyH_done (by kernel_rfl) ?_ _
        clear hHeld
        obtain ⟨uf0, uf1, uf2, uf3, uf4, uf5, uf6, uf7, uf8, uf9⟩ := HF.out wz1 (HB8.out.trans (HBz1.out.mono HB8.out.size))
        obtain ⟨rr0, rr1, rr2⟩ := HR8.out wz1 HBz1.out
        obtain ⟨s0, s1, s2, s3, s4, s5, s6⟩ := HS.out wz1 HBz1.out
        clear zf0 zf1 zf2 zf3 zf4 zf5 zf6 zf7 zf8 zf9
        go_wp2_with fail
        refine (HCK wz1).out.mono ?_
        rintro e w9 ⟨rfl, hb9⟩
        have HB9 : Hid (Below W3.heap.size W3 w9) := HB8.out.trans ((HBz1.out.trans (hb9.mono HBz1.out.size)).mono HB8.out.size)
        clear hb9
        go_wp2_with fail
        all_goals go_ret
        all_goals exact ⟨rfl, HBW.out _ HB9.out⟩
      | true =>
        cases c2 : decide (x < y) with
        | false =>
          have HZ : ∀ W, Hid (Calls Tryz.prog 25 #[.agg #[.int .i64 z0, .int .i64 z1, .int .i64 z2, .int .i64 z3, .int .i64 z4, .int .i64 z5], pairV x y] W fun e' w' => e' = .returned (.tuple #[.bool false, .int .i64 0]) ∧ Below W.heap.size W w') := fun W => by
            have h : hasZ f at_ (at_ + dur) x y = false := by simp only [hasZ, c1, c2]; rfl
            have h2 := (HZA W).out
            rw [h] at h2
            exact h2
          go_upto_region 11 with fail
          rw [HW8.out]
          refine wp_region_held_drew (S := fun W => W.cell? ⟨b, 0, none⟩ = some (.int .i64 z0) ∧ W.cell? ⟨b, 1, none⟩ = some (.int .i64 z1) ∧ W.cell? ⟨b, 2, none⟩ = some (.int .i64 z2) ∧ W.cell? ⟨b, 3, none⟩ = some (.int .i64 z3) ∧ W.cell? ⟨b, 4, none⟩ = some (.int .i64 z4) ∧ W.cell? ⟨b, 5, none⟩ = some (.int .i64 z5) ∧ b < W.heap.size) (by kernel_rfl) (HS.out _ HBr.out.drew) (fun hHeld => ?_)
          refine wpAnyH_take (i := 0) (v := ?_) rfl (by kernel_rfl) (by kernel_rfl) (by kernel_rfl) (fun _ _ _ h => h) (Or.inl ⟨by kernel_rfl, ?_⟩) (by assumption) ?_
          rotate_left
          · (intro w hSw; (try dsimp only at hSw); go_simp)
            try with_reducible rfl
          try simp only [Act.put, List.setIfInBounds_toArray, List.set_cons_zero, List.set_cons_succ, List.getElem_toArray, List.getElem_cons_zero]
          refine wpAnyH_take (i := 1) (v := ?_) rfl (by kernel_rfl) (by kernel_rfl) (by kernel_rfl) (fun _ _ _ h => h) (Or.inl ⟨by kernel_rfl, ?_⟩) (by assumption) ?_
          rotate_left
          · (intro w hSw; (try dsimp only at hSw); go_simp)
            try with_reducible rfl
          try simp only [Act.put, List.setIfInBounds_toArray, List.set_cons_zero, List.set_cons_succ, List.getElem_toArray, List.getElem_cons_zero, List.getElem_cons_succ]
          refine wpAnyH_take (i := 2) (v := ?_) rfl (by kernel_rfl) (by kernel_rfl) (by kernel_rfl) (fun _ _ _ h => h) (Or.inl ⟨by kernel_rfl, ?_⟩) (by assumption) ?_
          rotate_left
          · (intro w hSw; (try dsimp only at hSw); go_simp)
            try with_reducible rfl
          try simp only [Act.put, List.setIfInBounds_toArray, List.set_cons_zero, List.set_cons_succ, List.getElem_toArray, List.getElem_cons_zero, List.getElem_cons_succ]
          refine wpAnyH_take (i := 3) (v := ?_) rfl (by kernel_rfl) (by kernel_rfl) (by kernel_rfl) (fun _ _ _ h => h) (Or.inl ⟨by kernel_rfl, ?_⟩) (by assumption) ?_
          rotate_left
          · (intro w hSw; (try dsimp only at hSw); go_simp)
            try with_reducible rfl
          try simp only [Act.put, List.setIfInBounds_toArray, List.set_cons_zero, List.set_cons_succ, List.getElem_toArray, List.getElem_cons_zero, List.getElem_cons_succ]
          refine wpAnyH_take (i := 4) (v := ?_) rfl (by kernel_rfl) (by kernel_rfl) (by kernel_rfl) (fun _ _ _ h => h) (Or.inl ⟨by kernel_rfl, ?_⟩) (by assumption) ?_
          rotate_left
          · (intro w hSw; (try dsimp only at hSw); go_simp)
            try with_reducible rfl
          try simp only [Act.put, List.setIfInBounds_toArray, List.set_cons_zero, List.set_cons_succ, List.getElem_toArray, List.getElem_cons_zero, List.getElem_cons_succ]
          refine wpAnyH_ready (rs := [5]) (by kernel_rfl) (by simp) ?_
          refine AllReadyH.cons rfl (fun K hK => ?_) AllReadyH.nil
          go_simp
          go_at_call 26
          refine (HPT _).out.mono ?_
          rintro e wp1 ⟨rfl, hbp1⟩
          have HBp1 := Lib.hid (belS HBr.out.drew hbp1)
          clear hbp1
          try dsimp only
          refine hK.out _ _ (HS.out _ HBp1.out) (fun hHeld => ?_)
          clear hK K
          try simp only [Act.put, List.setIfInBounds_toArray, List.set_cons_zero, List.set_cons_succ, List.getElem_toArray, List.getElem_cons_zero, List.getElem_cons_succ]
          refine wpAnyH_ready (rs := [6]) (by kernel_rfl) (by simp) ?_
          refine AllReadyH.cons rfl (fun K hK => ?_) AllReadyH.nil
          go_simp
          go_at_call 25
          refine (HZ _).out.mono ?_
          rintro e wz1 ⟨rfl, hbz1⟩
          have HBz1 := Lib.hid (belS HBp1.out hbz1)
          clear hbz1
          try dsimp only
          refine hK.out _ _ (HS.out _ HBz1.out) (fun hHeld => ?_)
          clear hK K
          try simp only [Act.put, List.setIfInBounds_toArray, List.set_cons_zero, List.set_cons_succ, List.getElem_toArray, List.getElem_cons_zero, List.getElem_cons_succ]
          refine wpAnyH_take (i := 7) (v := ?_) rfl (by kernel_rfl) (by kernel_rfl) (by kernel_rfl) (fun _ _ _ h => h) (Or.inl ⟨by kernel_rfl, ?_⟩) (by assumption) ?_
          rotate_left
          · (intro w hSw; (try dsimp only at hSw); go_simp)
            try with_reducible rfl
          try simp only [Act.put, List.setIfInBounds_toArray, List.set_cons_zero, List.set_cons_succ, List.getElem_toArray, List.getElem_cons_zero, List.getElem_cons_succ]
          refine wpAnyH_take (i := 8) (v := ?_) rfl (by kernel_rfl) (by kernel_rfl) (by kernel_rfl) (fun _ _ _ h => h) (Or.inl ⟨by kernel_rfl, ?_⟩) (by assumption) ?_
          rotate_left
          · (intro w hSw; (try dsimp only at hSw); go_simp)
            try with_reducible rfl
          try simp only [Act.put, List.setIfInBounds_toArray, List.set_cons_zero, List.set_cons_succ, List.getElem_toArray, List.getElem_cons_zero, List.getElem_cons_succ]
          refine wpAnyH_take (i := 9) (v := ?_) rfl (by kernel_rfl) (by kernel_rfl) (by kernel_rfl) (fun _ _ _ h => h) (Or.inl ⟨by kernel_rfl, ?_⟩) (by assumption) ?_
          rotate_left
          · (intro w hSw; (try dsimp only at hSw); go_simp)
            try with_reducible rfl
          try simp only [Act.put, List.setIfInBounds_toArray, List.set_cons_zero, List.set_cons_succ, List.getElem_toArray, List.getElem_cons_zero, List.getElem_cons_succ]
          refine wpAnyH_take (i := 10) (v := ?_) rfl (by kernel_rfl) (by kernel_rfl) (by kernel_rfl) (fun _ _ _ h => h) (Or.inl ⟨by kernel_rfl, ?_⟩) (by assumption) ?_
          rotate_left
          · (intro w hSw; (try dsimp only at hSw); go_simp)
            try with_reducible rfl
          try simp only [Act.put, List.setIfInBounds_toArray, List.set_cons_zero, List.set_cons_succ, List.getElem_toArray, List.getElem_cons_zero, List.getElem_cons_succ]
          refine wpAnyH_take (i := 11) (v := ?_) rfl (by kernel_rfl) (by kernel_rfl) (by kernel_rfl) (fun _ _ _ h => h) (Or.inl ⟨by kernel_rfl, ?_⟩) (by assumption) ?_
          rotate_left
          · (intro w hSw; (try dsimp only at hSw); go_simp)
            try with_reducible rfl
          try simp only [Act.put, List.setIfInBounds_toArray, List.set_cons_zero, List.set_cons_succ, List.getElem_toArray, List.getElem_cons_zero, List.getElem_cons_succ]
          refine wpAnyH_done (by kernel_rfl) ?_ _
          clear hHeld
          obtain ⟨uf0, uf1, uf2, uf3, uf4, uf5, uf6, uf7, uf8, uf9⟩ := HF.out wz1 (HB8.out.trans (HBz1.out.mono HB8.out.size))
          obtain ⟨rr0, rr1, rr2⟩ := HR8.out wz1 HBz1.out
          obtain ⟨s0, s1, s2, s3, s4, s5, s6⟩ := HS.out wz1 HBz1.out
          clear zf0 zf1 zf2 zf3 zf4 zf5 zf6 zf7 zf8 zf9
          go_wp2_with fail
          refine (HCK wz1).out.mono ?_
          rintro e w9 ⟨rfl, hb9⟩
          have HB9 : Hid (Below W3.heap.size W3 w9) := HB8.out.trans ((HBz1.out.trans (hb9.mono HBz1.out.size)).mono HB8.out.size)
          clear hb9
          go_wp2_with fail
          all_goals go_ret
          all_goals exact ⟨rfl, HBW.out _ HB9.out⟩
        | true =>
          cases c3 : decide (2 * at_ < y) with
          | false =>
            have HZ : ∀ W, Hid (Calls Tryz.prog 25 #[.agg #[.int .i64 z0, .int .i64 z1, .int .i64 z2, .int .i64 z3, .int .i64 z4, .int .i64 z5], pairV x y] W fun e' w' => e' = .returned (.tuple #[.bool false, .int .i64 0]) ∧ Below W.heap.size W w') := fun W => by
              have h : hasZ f at_ (at_ + dur) x y = false := by simp only [hasZ, c1, c2, c3]; rfl
              have h2 := (HZA W).out
              rw [h] at h2
              exact h2
            go_upto_region 11 with fail
            rw [HW8.out]
            refine wp_region_held_drew (S := fun W => W.cell? ⟨b, 0, none⟩ = some (.int .i64 z0) ∧ W.cell? ⟨b, 1, none⟩ = some (.int .i64 z1) ∧ W.cell? ⟨b, 2, none⟩ = some (.int .i64 z2) ∧ W.cell? ⟨b, 3, none⟩ = some (.int .i64 z3) ∧ W.cell? ⟨b, 4, none⟩ = some (.int .i64 z4) ∧ W.cell? ⟨b, 5, none⟩ = some (.int .i64 z5) ∧ b < W.heap.size) (by kernel_rfl) (HS.out _ HBr.out.drew) (fun hHeld => ?_)
            refine wpAnyH_take (i := 0) (v := ?_) rfl (by kernel_rfl) (by kernel_rfl) (by kernel_rfl) (fun _ _ _ h => h) (Or.inl ⟨by kernel_rfl, ?_⟩) (by assumption) ?_
            rotate_left
            · (intro w hSw; (try dsimp only at hSw); go_simp)
              try with_reducible rfl
            try simp only [Act.put, List.setIfInBounds_toArray, List.set_cons_zero, List.set_cons_succ, List.getElem_toArray, List.getElem_cons_zero]
            refine wpAnyH_take (i := 1) (v := ?_) rfl (by kernel_rfl) (by kernel_rfl) (by kernel_rfl) (fun _ _ _ h => h) (Or.inl ⟨by kernel_rfl, ?_⟩) (by assumption) ?_
            rotate_left
            · (intro w hSw; (try dsimp only at hSw); go_simp)
              try with_reducible rfl
            try simp only [Act.put, List.setIfInBounds_toArray, List.set_cons_zero, List.set_cons_succ, List.getElem_toArray, List.getElem_cons_zero, List.getElem_cons_succ]
            refine wpAnyH_take (i := 2) (v := ?_) rfl (by kernel_rfl) (by kernel_rfl) (by kernel_rfl) (fun _ _ _ h => h) (Or.inl ⟨by kernel_rfl, ?_⟩) (by assumption) ?_
            rotate_left
            · (intro w hSw; (try dsimp only at hSw); go_simp)
              try with_reducible rfl
            try simp only [Act.put, List.setIfInBounds_toArray, List.set_cons_zero, List.set_cons_succ, List.getElem_toArray, List.getElem_cons_zero, List.getElem_cons_succ]
            refine wpAnyH_take (i := 3) (v := ?_) rfl (by kernel_rfl) (by kernel_rfl) (by kernel_rfl) (fun _ _ _ h => h) (Or.inl ⟨by kernel_rfl, ?_⟩) (by assumption) ?_
            rotate_left
            · (intro w hSw; (try dsimp only at hSw); go_simp)
              try with_reducible rfl
            try simp only [Act.put, List.setIfInBounds_toArray, List.set_cons_zero, List.set_cons_succ, List.getElem_toArray, List.getElem_cons_zero, List.getElem_cons_succ]
            refine wpAnyH_take (i := 4) (v := ?_) rfl (by kernel_rfl) (by kernel_rfl) (by kernel_rfl) (fun _ _ _ h => h) (Or.inl ⟨by kernel_rfl, ?_⟩) (by assumption) ?_
            rotate_left
            · (intro w hSw; (try dsimp only at hSw); go_simp)
              try with_reducible rfl
            try simp only [Act.put, List.setIfInBounds_toArray, List.set_cons_zero, List.set_cons_succ, List.getElem_toArray, List.getElem_cons_zero, List.getElem_cons_succ]
            refine wpAnyH_ready (rs := [5]) (by kernel_rfl) (by simp) ?_
            refine AllReadyH.cons rfl (fun K hK => ?_) AllReadyH.nil
            go_simp
            go_at_call 26
            refine (HPT _).out.mono ?_
            rintro e wp1 ⟨rfl, hbp1⟩
            have HBp1 := Lib.hid (belS HBr.out.drew hbp1)
            clear hbp1
            try dsimp only
            refine hK.out _ _ (HS.out _ HBp1.out) (fun hHeld => ?_)
            clear hK K
            try simp only [Act.put, List.setIfInBounds_toArray, List.set_cons_zero, List.set_cons_succ, List.getElem_toArray, List.getElem_cons_zero, List.getElem_cons_succ]
            refine wpAnyH_ready (rs := [6]) (by kernel_rfl) (by simp) ?_
            refine AllReadyH.cons rfl (fun K hK => ?_) AllReadyH.nil
            go_simp
            go_at_call 25
            refine (HZ _).out.mono ?_
            rintro e wz1 ⟨rfl, hbz1⟩
            have HBz1 := Lib.hid (belS HBp1.out hbz1)
            clear hbz1
            try dsimp only
            refine hK.out _ _ (HS.out _ HBz1.out) (fun hHeld => ?_)
            clear hK K
            try simp only [Act.put, List.setIfInBounds_toArray, List.set_cons_zero, List.set_cons_succ, List.getElem_toArray, List.getElem_cons_zero, List.getElem_cons_succ]
            refine wpAnyH_take (i := 7) (v := ?_) rfl (by kernel_rfl) (by kernel_rfl) (by kernel_rfl) (fun _ _ _ h => h) (Or.inl ⟨by kernel_rfl, ?_⟩) (by assumption) ?_
            rotate_left
            · (intro w hSw; (try dsimp only at hSw); go_simp)
              try with_reducible rfl
            try simp only [Act.put, List.setIfInBounds_toArray, List.set_cons_zero, List.set_cons_succ, List.getElem_toArray, List.getElem_cons_zero, List.getElem_cons_succ]
            refine wpAnyH_take (i := 8) (v := ?_) rfl (by kernel_rfl) (by kernel_rfl) (by kernel_rfl) (fun _ _ _ h => h) (Or.inl ⟨by kernel_rfl, ?_⟩) (by assumption) ?_
            rotate_left
            · (intro w hSw; (try dsimp only at hSw); go_simp)
              try with_reducible rfl
            try simp only [Act.put, List.setIfInBounds_toArray, List.set_cons_zero, List.set_cons_succ, List.getElem_toArray, List.getElem_cons_zero, List.getElem_cons_succ]
            refine wpAnyH_take (i := 9) (v := ?_) rfl (by kernel_rfl) (by kernel_rfl) (by kernel_rfl) (fun _ _ _ h => h) (Or.inl ⟨by kernel_rfl, ?_⟩) (by assumption) ?_
            rotate_left
            · (intro w hSw; (try dsimp only at hSw); go_simp)
              try with_reducible rfl
            try simp only [Act.put, List.setIfInBounds_toArray, List.set_cons_zero, List.set_cons_succ, List.getElem_toArray, List.getElem_cons_zero, List.getElem_cons_succ]
            refine wpAnyH_take (i := 10) (v := ?_) rfl (by kernel_rfl) (by kernel_rfl) (by kernel_rfl) (fun _ _ _ h => h) (Or.inl ⟨by kernel_rfl, ?_⟩) (by assumption) ?_
            rotate_left
            · (intro w hSw; (try dsimp only at hSw); go_simp)
              try with_reducible rfl
            try simp only [Act.put, List.setIfInBounds_toArray, List.set_cons_zero, List.set_cons_succ, List.getElem_toArray, List.getElem_cons_zero, List.getElem_cons_succ]
            refine wpAnyH_take (i := 11) (v := ?_) rfl (by kernel_rfl) (by kernel_rfl) (by kernel_rfl) (fun _ _ _ h => h) (Or.inl ⟨by kernel_rfl, ?_⟩) (by assumption) ?_
            rotate_left
            · (intro w hSw; (try dsimp only at hSw); go_simp)
              try with_reducible rfl
            try simp only [Act.put, List.setIfInBounds_toArray, List.set_cons_zero, List.set_cons_succ, List.getElem_toArray, List.getElem_cons_zero, List.getElem_cons_succ]
            refine wpAnyH_done (by kernel_rfl) ?_ _
            clear hHeld
            obtain ⟨uf0, uf1, uf2, uf3, uf4, uf5, uf6, uf7, uf8, uf9⟩ := HF.out wz1 (HB8.out.trans (HBz1.out.mono HB8.out.size))
            obtain ⟨rr0, rr1, rr2⟩ := HR8.out wz1 HBz1.out
            obtain ⟨s0, s1, s2, s3, s4, s5, s6⟩ := HS.out wz1 HBz1.out
            clear zf0 zf1 zf2 zf3 zf4 zf5 zf6 zf7 zf8 zf9
            go_wp2_with fail
            refine (HCK wz1).out.mono ?_
            rintro e w9 ⟨rfl, hb9⟩
            have HB9 : Hid (Below W3.heap.size W3 w9) := HB8.out.trans ((HBz1.out.trans (hb9.mono HBz1.out.size)).mono HB8.out.size)
            clear hb9
            go_wp2_with fail
            all_goals go_ret
            all_goals exact ⟨rfl, HBW.out _ HB9.out⟩
          | true =>
            cases c4 : decide (y ≤ 2 * (at_ + dur)) with
            | false =>
              have HZ : ∀ W, Hid (Calls Tryz.prog 25 #[.agg #[.int .i64 z0, .int .i64 z1, .int .i64 z2, .int .i64 z3, .int .i64 z4, .int .i64 z5], pairV x y] W fun e' w' => e' = .returned (.tuple #[.bool false, .int .i64 0]) ∧ Below W.heap.size W w') := fun W => by
                have h : hasZ f at_ (at_ + dur) x y = false := by simp only [hasZ, c1, c2, c3, c4]; rfl
                have h2 := (HZA W).out
                rw [h] at h2
                exact h2
              go_upto_region 11 with fail
              rw [HW8.out]
              refine wp_region_held_drew (S := fun W => W.cell? ⟨b, 0, none⟩ = some (.int .i64 z0) ∧ W.cell? ⟨b, 1, none⟩ = some (.int .i64 z1) ∧ W.cell? ⟨b, 2, none⟩ = some (.int .i64 z2) ∧ W.cell? ⟨b, 3, none⟩ = some (.int .i64 z3) ∧ W.cell? ⟨b, 4, none⟩ = some (.int .i64 z4) ∧ W.cell? ⟨b, 5, none⟩ = some (.int .i64 z5) ∧ b < W.heap.size) (by kernel_rfl) (HS.out _ HBr.out.drew) (fun hHeld => ?_)
              refine wpAnyH_take (i := 0) (v := ?_) rfl (by kernel_rfl) (by kernel_rfl) (by kernel_rfl) (fun _ _ _ h => h) (Or.inl ⟨by kernel_rfl, ?_⟩) (by assumption) ?_
              rotate_left
              · (intro w hSw; (try dsimp only at hSw); go_simp)
                try with_reducible rfl
              try simp only [Act.put, List.setIfInBounds_toArray, List.set_cons_zero, List.set_cons_succ, List.getElem_toArray, List.getElem_cons_zero]
              refine wpAnyH_take (i := 1) (v := ?_) rfl (by kernel_rfl) (by kernel_rfl) (by kernel_rfl) (fun _ _ _ h => h) (Or.inl ⟨by kernel_rfl, ?_⟩) (by assumption) ?_
              rotate_left
              · (intro w hSw; (try dsimp only at hSw); go_simp)
                try with_reducible rfl
              try simp only [Act.put, List.setIfInBounds_toArray, List.set_cons_zero, List.set_cons_succ, List.getElem_toArray, List.getElem_cons_zero, List.getElem_cons_succ]
              refine wpAnyH_take (i := 2) (v := ?_) rfl (by kernel_rfl) (by kernel_rfl) (by kernel_rfl) (fun _ _ _ h => h) (Or.inl ⟨by kernel_rfl, ?_⟩) (by assumption) ?_
              rotate_left
              · (intro w hSw; (try dsimp only at hSw); go_simp)
                try with_reducible rfl
              try simp only [Act.put, List.setIfInBounds_toArray, List.set_cons_zero, List.set_cons_succ, List.getElem_toArray, List.getElem_cons_zero, List.getElem_cons_succ]
              refine wpAnyH_take (i := 3) (v := ?_) rfl (by kernel_rfl) (by kernel_rfl) (by kernel_rfl) (fun _ _ _ h => h) (Or.inl ⟨by kernel_rfl, ?_⟩) (by assumption) ?_
              rotate_left
              · (intro w hSw; (try dsimp only at hSw); go_simp)
                try with_reducible rfl
              try simp only [Act.put, List.setIfInBounds_toArray, List.set_cons_zero, List.set_cons_succ, List.getElem_toArray, List.getElem_cons_zero, List.getElem_cons_succ]
              refine wpAnyH_take (i := 4) (v := ?_) rfl (by kernel_rfl) (by kernel_rfl) (by kernel_rfl) (fun _ _ _ h => h) (Or.inl ⟨by kernel_rfl, ?_⟩) (by assumption) ?_
              rotate_left
              · (intro w hSw; (try dsimp only at hSw); go_simp)
                try with_reducible rfl
              try simp only [Act.put, List.setIfInBounds_toArray, List.set_cons_zero, List.set_cons_succ, List.getElem_toArray, List.getElem_cons_zero, List.getElem_cons_succ]
              refine wpAnyH_ready (rs := [5]) (by kernel_rfl) (by simp) ?_
              refine AllReadyH.cons rfl (fun K hK => ?_) AllReadyH.nil
              go_simp
              go_at_call 26
              refine (HPT _).out.mono ?_
              rintro e wp1 ⟨rfl, hbp1⟩
              have HBp1 := Lib.hid (belS HBr.out.drew hbp1)
              clear hbp1
              try dsimp only
              refine hK.out _ _ (HS.out _ HBp1.out) (fun hHeld => ?_)
              clear hK K
              try simp only [Act.put, List.setIfInBounds_toArray, List.set_cons_zero, List.set_cons_succ, List.getElem_toArray, List.getElem_cons_zero, List.getElem_cons_succ]
              refine wpAnyH_ready (rs := [6]) (by kernel_rfl) (by simp) ?_
              refine AllReadyH.cons rfl (fun K hK => ?_) AllReadyH.nil
              go_simp
              go_at_call 25
              refine (HZ _).out.mono ?_
              rintro e wz1 ⟨rfl, hbz1⟩
              have HBz1 := Lib.hid (belS HBp1.out hbz1)
              clear hbz1
              try dsimp only
              refine hK.out _ _ (HS.out _ HBz1.out) (fun hHeld => ?_)
              clear hK K
              try simp only [Act.put, List.setIfInBounds_toArray, List.set_cons_zero, List.set_cons_succ, List.getElem_toArray, List.getElem_cons_zero, List.getElem_cons_succ]
              refine wpAnyH_take (i := 7) (v := ?_) rfl (by kernel_rfl) (by kernel_rfl) (by kernel_rfl) (fun _ _ _ h => h) (Or.inl ⟨by kernel_rfl, ?_⟩) (by assumption) ?_
              rotate_left
              · (intro w hSw; (try dsimp only at hSw); go_simp)
                try with_reducible rfl
              try simp only [Act.put, List.setIfInBounds_toArray, List.set_cons_zero, List.set_cons_succ, List.getElem_toArray, List.getElem_cons_zero, List.getElem_cons_succ]
              refine wpAnyH_take (i := 8) (v := ?_) rfl (by kernel_rfl) (by kernel_rfl) (by kernel_rfl) (fun _ _ _ h => h) (Or.inl ⟨by kernel_rfl, ?_⟩) (by assumption) ?_
              rotate_left
              · (intro w hSw; (try dsimp only at hSw); go_simp)
                try with_reducible rfl
              try simp only [Act.put, List.setIfInBounds_toArray, List.set_cons_zero, List.set_cons_succ, List.getElem_toArray, List.getElem_cons_zero, List.getElem_cons_succ]
              refine wpAnyH_take (i := 9) (v := ?_) rfl (by kernel_rfl) (by kernel_rfl) (by kernel_rfl) (fun _ _ _ h => h) (Or.inl ⟨by kernel_rfl, ?_⟩) (by assumption) ?_
              rotate_left
              · (intro w hSw; (try dsimp only at hSw); go_simp)
                try with_reducible rfl
              try simp only [Act.put, List.setIfInBounds_toArray, List.set_cons_zero, List.set_cons_succ, List.getElem_toArray, List.getElem_cons_zero, List.getElem_cons_succ]
              refine wpAnyH_take (i := 10) (v := ?_) rfl (by kernel_rfl) (by kernel_rfl) (by kernel_rfl) (fun _ _ _ h => h) (Or.inl ⟨by kernel_rfl, ?_⟩) (by assumption) ?_
              rotate_left
              · (intro w hSw; (try dsimp only at hSw); go_simp)
                try with_reducible rfl
              try simp only [Act.put, List.setIfInBounds_toArray, List.set_cons_zero, List.set_cons_succ, List.getElem_toArray, List.getElem_cons_zero, List.getElem_cons_succ]
              refine wpAnyH_take (i := 11) (v := ?_) rfl (by kernel_rfl) (by kernel_rfl) (by kernel_rfl) (fun _ _ _ h => h) (Or.inl ⟨by kernel_rfl, ?_⟩) (by assumption) ?_
              rotate_left
              · (intro w hSw; (try dsimp only at hSw); go_simp)
                try with_reducible rfl
              try simp only [Act.put, List.setIfInBounds_toArray, List.set_cons_zero, List.set_cons_succ, List.getElem_toArray, List.getElem_cons_zero, List.getElem_cons_succ]
              refine wpAnyH_done (by kernel_rfl) ?_ _
              clear hHeld
              obtain ⟨uf0, uf1, uf2, uf3, uf4, uf5, uf6, uf7, uf8, uf9⟩ := HF.out wz1 (HB8.out.trans (HBz1.out.mono HB8.out.size))
              obtain ⟨rr0, rr1, rr2⟩ := HR8.out wz1 HBz1.out
              obtain ⟨s0, s1, s2, s3, s4, s5, s6⟩ := HS.out wz1 HBz1.out
              clear zf0 zf1 zf2 zf3 zf4 zf5 zf6 zf7 zf8 zf9
              go_wp2_with fail
              refine (HCK wz1).out.mono ?_
              rintro e w9 ⟨rfl, hb9⟩
              have HB9 : Hid (Below W3.heap.size W3 w9) := HB8.out.trans ((HBz1.out.trans (hb9.mono HBz1.out.size)).mono HB8.out.size)
              clear hb9
              go_wp2_with fail
              all_goals go_ret
              all_goals exact ⟨rfl, HBW.out _ HB9.out⟩
            | true =>
              have HZ : ∀ W, Hid (Calls Tryz.prog 25 #[.agg #[.int .i64 z0, .int .i64 z1, .int .i64 z2, .int .i64 z3, .int .i64 z4, .int .i64 z5], pairV x y] W fun e' w' => e' = .returned (.tuple #[.bool true, .int .i64 0]) ∧ Below W.heap.size W w') := fun W => by
                have h : hasZ f at_ (at_ + dur) x y = true := by simp only [hasZ, c1, c2, c3, c4]; rfl
                have h2 := (HZA W).out
                rw [h] at h2
                exact h2
              go_upto_region 11 with fail
              rw [HW8.out]
              refine wp_region_held_drew (S := fun W => W.cell? ⟨b, 0, none⟩ = some (.int .i64 z0) ∧ W.cell? ⟨b, 1, none⟩ = some (.int .i64 z1) ∧ W.cell? ⟨b, 2, none⟩ = some (.int .i64 z2) ∧ W.cell? ⟨b, 3, none⟩ = some (.int .i64 z3) ∧ W.cell? ⟨b, 4, none⟩ = some (.int .i64 z4) ∧ W.cell? ⟨b, 5, none⟩ = some (.int .i64 z5) ∧ b < W.heap.size) (by kernel_rfl) (HS.out _ HBr.out.drew) (fun hHeld => ?_)
              refine wpAnyH_take (i := 0) (v := ?_) rfl (by kernel_rfl) (by kernel_rfl) (by kernel_rfl) (fun _ _ _ h => h) (Or.inl ⟨by kernel_rfl, ?_⟩) (by assumption) ?_
              rotate_left
              · (intro w hSw; (try dsimp only at hSw); go_simp)
                try with_reducible rfl
              try simp only [Act.put, List.setIfInBounds_toArray, List.set_cons_zero, List.set_cons_succ, List.getElem_toArray, List.getElem_cons_zero]
              refine wpAnyH_take (i := 1) (v := ?_) rfl (by kernel_rfl) (by kernel_rfl) (by kernel_rfl) (fun _ _ _ h => h) (Or.inl ⟨by kernel_rfl, ?_⟩) (by assumption) ?_
              rotate_left
              · (intro w hSw; (try dsimp only at hSw); go_simp)
                try with_reducible rfl
              try simp only [Act.put, List.setIfInBounds_toArray, List.set_cons_zero, List.set_cons_succ, List.getElem_toArray, List.getElem_cons_zero, List.getElem_cons_succ]
              refine wpAnyH_take (i := 2) (v := ?_) rfl (by kernel_rfl) (by kernel_rfl) (by kernel_rfl) (fun _ _ _ h => h) (Or.inl ⟨by kernel_rfl, ?_⟩) (by assumption) ?_
              rotate_left
              · (intro w hSw; (try dsimp only at hSw); go_simp)
                try with_reducible rfl
              try simp only [Act.put, List.setIfInBounds_toArray, List.set_cons_zero, List.set_cons_succ, List.getElem_toArray, List.getElem_cons_zero, List.getElem_cons_succ]
              refine wpAnyH_take (i := 3) (v := ?_) rfl (by kernel_rfl) (by kernel_rfl) (by kernel_rfl) (fun _ _ _ h => h) (Or.inl ⟨by kernel_rfl, ?_⟩) (by assumption) ?_
              rotate_left
              · (intro w hSw; (try dsimp only at hSw); go_simp)
                try with_reducible rfl
              try simp only [Act.put, List.setIfInBounds_toArray, List.set_cons_zero, List.set_cons_succ, List.getElem_toArray, List.getElem_cons_zero, List.getElem_cons_succ]
              refine wpAnyH_take (i := 4) (v := ?_) rfl (by kernel_rfl) (by kernel_rfl) (by kernel_rfl) (fun _ _ _ h => h) (Or.inl ⟨by kernel_rfl, ?_⟩) (by assumption) ?_
              rotate_left
              · (intro w hSw; (try dsimp only at hSw); go_simp)
                try with_reducible rfl
              try simp only [Act.put, List.setIfInBounds_toArray, List.set_cons_zero, List.set_cons_succ, List.getElem_toArray, List.getElem_cons_zero, List.getElem_cons_succ]
              refine wpAnyH_ready (rs := [5]) (by kernel_rfl) (by simp) ?_
              refine AllReadyH.cons rfl (fun K hK => ?_) AllReadyH.nil
              go_simp
              go_at_call 26
              refine (HPT _).out.mono ?_
              rintro e wp1 ⟨rfl, hbp1⟩
              have HBp1 := Lib.hid (belS HBr.out.drew hbp1)
              clear hbp1
              try dsimp only
              refine hK.out _ _ (HS.out _ HBp1.out) (fun hHeld => ?_)
              clear hK K
              try simp only [Act.put, List.setIfInBounds_toArray, List.set_cons_zero, List.set_cons_succ, List.getElem_toArray, List.getElem_cons_zero, List.getElem_cons_succ]
              refine wpAnyH_ready (rs := [6]) (by kernel_rfl) (by simp) ?_
              refine AllReadyH.cons rfl (fun K hK => ?_) AllReadyH.nil
              go_simp
              go_at_call 25
              refine (HZ _).out.mono ?_
              rintro e wz1 ⟨rfl, hbz1⟩
              have HBz1 := Lib.hid (belS HBp1.out hbz1)
              clear hbz1
              try dsimp only
              refine hK.out _ _ (HS.out _ HBz1.out) (fun hHeld => ?_)
              clear hK K
              try simp only [Act.put, List.setIfInBounds_toArray, List.set_cons_zero, List.set_cons_succ, List.getElem_toArray, List.getElem_cons_zero, List.getElem_cons_succ]
              refine wpAnyH_take (i := 7) (v := ?_) rfl (by kernel_rfl) (by kernel_rfl) (by kernel_rfl) (fun _ _ _ h => h) (Or.inl ⟨by kernel_rfl, ?_⟩) (by assumption) ?_
              rotate_left
              · (intro w hSw; (try dsimp only at hSw); go_simp)
                try with_reducible rfl
              try simp only [Act.put, List.setIfInBounds_toArray, List.set_cons_zero, List.set_cons_succ, List.getElem_toArray, List.getElem_cons_zero, List.getElem_cons_succ]
              refine wpAnyH_take (i := 8) (v := ?_) rfl (by kernel_rfl) (by kernel_rfl) (by kernel_rfl) (fun _ _ _ h => h) (Or.inl ⟨by kernel_rfl, ?_⟩) (by assumption) ?_
              rotate_left
              · (intro w hSw; (try dsimp only at hSw); go_simp)
                try with_reducible rfl
              try simp only [Act.put, List.setIfInBounds_toArray, List.set_cons_zero, List.set_cons_succ, List.getElem_toArray, List.getElem_cons_zero, List.getElem_cons_succ]
              refine wpAnyH_take (i := 9) (v := ?_) rfl (by kernel_rfl) (by kernel_rfl) (by kernel_rfl) (fun _ _ _ h => h) (Or.inl ⟨by kernel_rfl, ?_⟩) (by assumption) ?_
              rotate_left
              · (intro w hSw; (try dsimp only at hSw); go_simp)
                try with_reducible rfl
              try simp only [Act.put, List.setIfInBounds_toArray, List.set_cons_zero, List.set_cons_succ, List.getElem_toArray, List.getElem_cons_zero, List.getElem_cons_succ]
              refine wpAnyH_take (i := 10) (v := ?_) rfl (by kernel_rfl) (by kernel_rfl) (by kernel_rfl) (fun _ _ _ h => h) (Or.inl ⟨by kernel_rfl, ?_⟩) (by assumption) ?_
              rotate_left
              · (intro w hSw; (try dsimp only at hSw); go_simp)
                try with_reducible rfl
              try simp only [Act.put, List.setIfInBounds_toArray, List.set_cons_zero, List.set_cons_succ, List.getElem_toArray, List.getElem_cons_zero, List.getElem_cons_succ]
              refine wpAnyH_take (i := 11) (v := ?_) rfl (by kernel_rfl) (by kernel_rfl) (by kernel_rfl) (fun _ _ _ h => h) (Or.inl ⟨by kernel_rfl, ?_⟩) (by assumption) ?_
              rotate_left
              · (intro w hSw; (try dsimp only at hSw); go_simp)
                try with_reducible rfl
              try simp only [Act.put, List.setIfInBounds_toArray, List.set_cons_zero, List.set_cons_succ, List.getElem_toArray, List.getElem_cons_zero, List.getElem_cons_succ]
              refine wpAnyH_done (by kernel_rfl) ?_ _
              clear hHeld
              obtain ⟨uf0, uf1, uf2, uf3, uf4, uf5, uf6, uf7, uf8, uf9⟩ := HF.out wz1 (HB8.out.trans (HBz1.out.mono HB8.out.size))
              obtain ⟨rr0, rr1, rr2⟩ := HR8.out wz1 HBz1.out
              obtain ⟨s0, s1, s2, s3, s4, s5, s6⟩ := HS.out wz1 HBz1.out
              clear zf0 zf1 zf2 zf3 zf4 zf5 zf6 zf7 zf8 zf9
              go_wp2_with fail
              refine (HCK wz1).out.mono ?_
              rintro e w9 ⟨rfl, hb9⟩
              have HB9 : Hid (Below W3.heap.size W3 w9) := HB8.out.trans ((HBz1.out.trans (hb9.mono HBz1.out.size)).mono HB8.out.size)
              clear hb9
              go_wp2_with fail
              all_goals go_ret
              all_goals exact ⟨rfl, HBW.out _ HB9.out⟩
    | false =>
      clear hrun
      cases c1 : decide (2 * f ≤ x) with
      | false =>
        have HZ : ∀ W, Hid (Calls Tryz.prog 25 #[.agg #[.int .i64 z0, .int .i64 z1, .int .i64 z2, .int .i64 z3, .int .i64 z4, .int .i64 z5], pairV x y] W fun e' w' => e' = .returned (.tuple #[.bool false, .int .i64 0]) ∧ Below W.heap.size W w') := fun W => by
          have h : hasZ f at_ (at_ + dur) x y = false := by simp only [hasZ, c1]; rfl
          have h2 := (HZA W).out
          rw [h] at h2
          exact h2
        go_upto_region 11 with fail
        rw [HW8.out]
        refine wp_region_held_drew (S := fun W => W.cell? ⟨b, 0, none⟩ = some (.int .i64 z0) ∧ W.cell? ⟨b, 1, none⟩ = some (.int .i64 z1) ∧ W.cell? ⟨b, 2, none⟩ = some (.int .i64 z2) ∧ W.cell? ⟨b, 3, none⟩ = some (.int .i64 z3) ∧ W.cell? ⟨b, 4, none⟩ = some (.int .i64 z4) ∧ W.cell? ⟨b, 5, none⟩ = some (.int .i64 z5) ∧ b < W.heap.size) (by kernel_rfl) (HS.out _ HBr.out.drew) (fun hHeld => ?_)
        refine wpAnyH_take (i := 0) (v := ?_) rfl (by kernel_rfl) (by kernel_rfl) (by kernel_rfl) (fun _ _ _ h => h) (Or.inl ⟨by kernel_rfl, ?_⟩) (by assumption) ?_
        rotate_left
        · (intro w hSw; (try dsimp only at hSw); go_simp)
          try with_reducible rfl
        try simp only [Act.put, List.setIfInBounds_toArray, List.set_cons_zero, List.set_cons_succ, List.getElem_toArray, List.getElem_cons_zero]
        refine wpAnyH_take (i := 1) (v := ?_) rfl (by kernel_rfl) (by kernel_rfl) (by kernel_rfl) (fun _ _ _ h => h) (Or.inl ⟨by kernel_rfl, ?_⟩) (by assumption) ?_
        rotate_left
        · (intro w hSw; (try dsimp only at hSw); go_simp)
          try with_reducible rfl
        try simp only [Act.put, List.setIfInBounds_toArray, List.set_cons_zero, List.set_cons_succ, List.getElem_toArray, List.getElem_cons_zero, List.getElem_cons_succ]
        refine wpAnyH_take (i := 2) (v := ?_) rfl (by kernel_rfl) (by kernel_rfl) (by kernel_rfl) (fun _ _ _ h => h) (Or.inl ⟨by kernel_rfl, ?_⟩) (by assumption) ?_
        rotate_left
        · (intro w hSw; (try dsimp only at hSw); go_simp)
          try with_reducible rfl
        try simp only [Act.put, List.setIfInBounds_toArray, List.set_cons_zero, List.set_cons_succ, List.getElem_toArray, List.getElem_cons_zero, List.getElem_cons_succ]
        refine wpAnyH_take (i := 3) (v := ?_) rfl (by kernel_rfl) (by kernel_rfl) (by kernel_rfl) (fun _ _ _ h => h) (Or.inl ⟨by kernel_rfl, ?_⟩) (by assumption) ?_
        rotate_left
        · (intro w hSw; (try dsimp only at hSw); go_simp)
          try with_reducible rfl
        try simp only [Act.put, List.setIfInBounds_toArray, List.set_cons_zero, List.set_cons_succ, List.getElem_toArray, List.getElem_cons_zero, List.getElem_cons_succ]
        refine wpAnyH_take (i := 4) (v := ?_) rfl (by kernel_rfl) (by kernel_rfl) (by kernel_rfl) (fun _ _ _ h => h) (Or.inl ⟨by kernel_rfl, ?_⟩) (by assumption) ?_
        rotate_left
        · (intro w hSw; (try dsimp only at hSw); go_simp)
          try with_reducible rfl
        try simp only [Act.put, List.setIfInBounds_toArray, List.set_cons_zero, List.set_cons_succ, List.getElem_toArray, List.getElem_cons_zero, List.getElem_cons_succ]
        refine wpAnyH_ready (rs := [5]) (by kernel_rfl) (by simp) ?_
        refine AllReadyH.cons rfl (fun K hK => ?_) AllReadyH.nil
        go_simp
        go_at_call 26
        refine (HPT _).out.mono ?_
        rintro e wp1 ⟨rfl, hbp1⟩
        have HBp1 := Lib.hid (belS HBr.out.drew hbp1)
        clear hbp1
        try dsimp only
        refine hK.out _ _ (HS.out _ HBp1.out) (fun hHeld => ?_)
        clear hK K
        try simp only [Act.put, List.setIfInBounds_toArray, List.set_cons_zero, List.set_cons_succ, List.getElem_toArray, List.getElem_cons_zero, List.getElem_cons_succ]
        refine wpAnyH_ready (rs := [6]) (by kernel_rfl) (by simp) ?_
        refine AllReadyH.cons rfl (fun K hK => ?_) AllReadyH.nil
        go_simp
        go_at_call 25
        refine (HZ _).out.mono ?_
        rintro e wz1 ⟨rfl, hbz1⟩
        have HBz1 := Lib.hid (belS HBp1.out hbz1)
        clear hbz1
        try dsimp only
        refine hK.out _ _ (HS.out _ HBz1.out) (fun hHeld => ?_)
        clear hK K
        try simp only [Act.put, List.setIfInBounds_toArray, List.set_cons_zero, List.set_cons_succ, List.getElem_toArray, List.getElem_cons_zero, List.getElem_cons_succ]
        refine wpAnyH_take (i := 7) (v := ?_) rfl (by kernel_rfl) (by kernel_rfl) (by kernel_rfl) (fun _ _ _ h => h) (Or.inl ⟨by kernel_rfl, ?_⟩) (by assumption) ?_
        rotate_left
        · (intro w hSw; (try dsimp only at hSw); go_simp)
          try with_reducible rfl
        try simp only [Act.put, List.setIfInBounds_toArray, List.set_cons_zero, List.set_cons_succ, List.getElem_toArray, List.getElem_cons_zero, List.getElem_cons_succ]
        refine wpAnyH_take (i := 8) (v := ?_) rfl (by kernel_rfl) (by kernel_rfl) (by kernel_rfl) (fun _ _ _ h => h) (Or.inl ⟨by kernel_rfl, ?_⟩) (by assumption) ?_
        rotate_left
        · (intro w hSw; (try dsimp only at hSw); go_simp)
          try with_reducible rfl
        try simp only [Act.put, List.setIfInBounds_toArray, List.set_cons_zero, List.set_cons_succ, List.getElem_toArray, List.getElem_cons_zero, List.getElem_cons_succ]
        refine wpAnyH_take (i := 9) (v := ?_) rfl (by kernel_rfl) (by kernel_rfl) (by kernel_rfl) (fun _ _ _ h => h) (Or.inl ⟨by kernel_rfl, ?_⟩) (by assumption) ?_
        rotate_left
        · (intro w hSw; (try dsimp only at hSw); go_simp)
          try with_reducible rfl
        try simp only [Act.put, List.setIfInBounds_toArray, List.set_cons_zero, List.set_cons_succ, List.getElem_toArray, List.getElem_cons_zero, List.getElem_cons_succ]
        refine wpAnyH_take (i := 10) (v := ?_) rfl (by kernel_rfl) (by kernel_rfl) (by kernel_rfl) (fun _ _ _ h => h) (Or.inl ⟨by kernel_rfl, ?_⟩) (by assumption) ?_
        rotate_left
        · (intro w hSw; (try dsimp only at hSw); go_simp)
          try with_reducible rfl
        try simp only [Act.put, List.setIfInBounds_toArray, List.set_cons_zero, List.set_cons_succ, List.getElem_toArray, List.getElem_cons_zero, List.getElem_cons_succ]
        refine wpAnyH_take (i := 11) (v := ?_) rfl (by kernel_rfl) (by kernel_rfl) (by kernel_rfl) (fun _ _ _ h => h) (Or.inl ⟨by kernel_rfl, ?_⟩) (by assumption) ?_
        rotate_left
        · (intro w hSw; (try dsimp only at hSw); go_simp)
          try with_reducible rfl
        try simp only [Act.put, List.setIfInBounds_toArray, List.set_cons_zero, List.set_cons_succ, List.getElem_toArray, List.getElem_cons_zero, List.getElem_cons_succ]
        refine wpAnyH_done (by kernel_rfl) ?_ _
        clear hHeld
        obtain ⟨uf0, uf1, uf2, uf3, uf4, uf5, uf6, uf7, uf8, uf9⟩ := HF.out wz1 (HB8.out.trans (HBz1.out.mono HB8.out.size))
        obtain ⟨rr0, rr1, rr2⟩ := HR8.out wz1 HBz1.out
        obtain ⟨s0, s1, s2, s3, s4, s5, s6⟩ := HS.out wz1 HBz1.out
        clear zf0 zf1 zf2 zf3 zf4 zf5 zf6 zf7 zf8 zf9
        go_wp2_with fail
        refine (HCK wz1).out.mono ?_
        rintro e w9 ⟨rfl, hb9⟩
        have HB9 : Hid (Below W3.heap.size W3 w9) := HB8.out.trans ((HBz1.out.trans (hb9.mono HBz1.out.size)).mono HB8.out.size)
        clear hb9
        go_wp2_with fail
        all_goals go_ret
        all_goals exact ⟨rfl, HBW.out _ HB9.out⟩
      | true =>
        cases c2 : decide (x < y) with
        | false =>
          have HZ : ∀ W, Hid (Calls Tryz.prog 25 #[.agg #[.int .i64 z0, .int .i64 z1, .int .i64 z2, .int .i64 z3, .int .i64 z4, .int .i64 z5], pairV x y] W fun e' w' => e' = .returned (.tuple #[.bool false, .int .i64 0]) ∧ Below W.heap.size W w') := fun W => by
            have h : hasZ f at_ (at_ + dur) x y = false := by simp only [hasZ, c1, c2]; rfl
            have h2 := (HZA W).out
            rw [h] at h2
            exact h2
          go_upto_region 11 with fail
          rw [HW8.out]
          refine wp_region_held_drew (S := fun W => W.cell? ⟨b, 0, none⟩ = some (.int .i64 z0) ∧ W.cell? ⟨b, 1, none⟩ = some (.int .i64 z1) ∧ W.cell? ⟨b, 2, none⟩ = some (.int .i64 z2) ∧ W.cell? ⟨b, 3, none⟩ = some (.int .i64 z3) ∧ W.cell? ⟨b, 4, none⟩ = some (.int .i64 z4) ∧ W.cell? ⟨b, 5, none⟩ = some (.int .i64 z5) ∧ b < W.heap.size) (by kernel_rfl) (HS.out _ HBr.out.drew) (fun hHeld => ?_)
          refine wpAnyH_take (i := 0) (v := ?_) rfl (by kernel_rfl) (by kernel_rfl) (by kernel_rfl) (fun _ _ _ h => h) (Or.inl ⟨by kernel_rfl, ?_⟩) (by assumption) ?_
          rotate_left
          · (intro w hSw; (try dsimp only at hSw); go_simp)
            try with_reducible rfl
          try simp only [Act.put, List.setIfInBounds_toArray, List.set_cons_zero, List.set_cons_succ, List.getElem_toArray, List.getElem_cons_zero]
          refine wpAnyH_take (i := 1) (v := ?_) rfl (by kernel_rfl) (by kernel_rfl) (by kernel_rfl) (fun _ _ _ h => h) (Or.inl ⟨by kernel_rfl, ?_⟩) (by assumption) ?_
          rotate_left
          · (intro w hSw; (try dsimp only at hSw); go_simp)
            try with_reducible rfl
          try simp only [Act.put, List.setIfInBounds_toArray, List.set_cons_zero, List.set_cons_succ, List.getElem_toArray, List.getElem_cons_zero, List.getElem_cons_succ]
          refine wpAnyH_take (i := 2) (v := ?_) rfl (by kernel_rfl) (by kernel_rfl) (by kernel_rfl) (fun _ _ _ h => h) (Or.inl ⟨by kernel_rfl, ?_⟩) (by assumption) ?_
          rotate_left
          · (intro w hSw; (try dsimp only at hSw); go_simp)
            try with_reducible rfl
          try simp only [Act.put, List.setIfInBounds_toArray, List.set_cons_zero, List.set_cons_succ, List.getElem_toArray, List.getElem_cons_zero, List.getElem_cons_succ]
          refine wpAnyH_take (i := 3) (v := ?_) rfl (by kernel_rfl) (by kernel_rfl) (by kernel_rfl) (fun _ _ _ h => h) (Or.inl ⟨by kernel_rfl, ?_⟩) (by assumption) ?_
          rotate_left
          · (intro w hSw; (try dsimp only at hSw); go_simp)
            try with_reducible rfl
          try simp only [Act.put, List.setIfInBounds_toArray, List.set_cons_zero, List.set_cons_succ, List.getElem_toArray, List.getElem_cons_zero, List.getElem_cons_succ]
          refine wpAnyH_take (i := 4) (v := ?_) rfl (by kernel_rfl) (by kernel_rfl) (by kernel_rfl) (fun _ _ _ h => h) (Or.inl ⟨by kernel_rfl, ?_⟩) (by assumption) ?_
          rotate_left
          · (intro w hSw; (try dsimp only at hSw); go_simp)
            try with_reducible rfl
          try simp only [Act.put, List.setIfInBounds_toArray, List.set_cons_zero, List.set_cons_succ, List.getElem_toArray, List.getElem_cons_zero, List.getElem_cons_succ]
          refine wpAnyH_ready (rs := [5]) (by kernel_rfl) (by simp) ?_
          refine AllReadyH.cons rfl (fun K hK => ?_) AllReadyH.nil
          go_simp
          go_at_call 26
          refine (HPT _).out.mono ?_
          rintro e wp1 ⟨rfl, hbp1⟩
          have HBp1 := Lib.hid (belS HBr.out.drew hbp1)
          clear hbp1
          try dsimp only
          refine hK.out _ _ (HS.out _ HBp1.out) (fun hHeld => ?_)
          clear hK K
          try simp only [Act.put, List.setIfInBounds_toArray, List.set_cons_zero, List.set_cons_succ, List.getElem_toArray, List.getElem_cons_zero, List.getElem_cons_succ]
          refine wpAnyH_ready (rs := [6]) (by kernel_rfl) (by simp) ?_
          refine AllReadyH.cons rfl (fun K hK => ?_) AllReadyH.nil
          go_simp
          go_at_call 25
          refine (HZ _).out.mono ?_
          rintro e wz1 ⟨rfl, hbz1⟩
          have HBz1 := Lib.hid (belS HBp1.out hbz1)
          clear hbz1
          try dsimp only
          refine hK.out _ _ (HS.out _ HBz1.out) (fun hHeld => ?_)
          clear hK K
          try simp only [Act.put, List.setIfInBounds_toArray, List.set_cons_zero, List.set_cons_succ, List.getElem_toArray, List.getElem_cons_zero, List.getElem_cons_succ]
          refine wpAnyH_take (i := 7) (v := ?_) rfl (by kernel_rfl) (by kernel_rfl) (by kernel_rfl) (fun _ _ _ h => h) (Or.inl ⟨by kernel_rfl, ?_⟩) (by assumption) ?_
          rotate_left
          · (intro w hSw; (try dsimp only at hSw); go_simp)
            try with_reducible rfl
          try simp only [Act.put, List.setIfInBounds_toArray, List.set_cons_zero, List.set_cons_succ, List.getElem_toArray, List.getElem_cons_zero, List.getElem_cons_succ]
          refine wpAnyH_take (i := 8) (v := ?_) rfl (by kernel_rfl) (by kernel_rfl) (by kernel_rfl) (fun _ _ _ h => h) (Or.inl ⟨by kernel_rfl, ?_⟩) (by assumption) ?_
          rotate_left
          · (intro w hSw; (try dsimp only at hSw); go_simp)
            try with_reducible rfl
          try simp only [Act.put, List.setIfInBounds_toArray, List.set_cons_zero, List.set_cons_succ, List.getElem_toArray, List.getElem_cons_zero, List.getElem_cons_succ]
          refine wpAnyH_take (i := 9) (v := ?_) rfl (by kernel_rfl) (by kernel_rfl) (by kernel_rfl) (fun _ _ _ h => h) (Or.inl ⟨by kernel_rfl, ?_⟩) (by assumption) ?_
          rotate_left
          · (intro w hSw; (try dsimp only at hSw); go_simp)
            try with_reducible rfl
          try simp only [Act.put, List.setIfInBounds_toArray, List.set_cons_zero, List.set_cons_succ, List.getElem_toArray, List.getElem_cons_zero, List.getElem_cons_succ]
          refine wpAnyH_take (i := 10) (v := ?_) rfl (by kernel_rfl) (by kernel_rfl) (by kernel_rfl) (fun _ _ _ h => h) (Or.inl ⟨by kernel_rfl, ?_⟩) (by assumption) ?_
          rotate_left
          · (intro w hSw; (try dsimp only at hSw); go_simp)
            try with_reducible rfl
          try simp only [Act.put, List.setIfInBounds_toArray, List.set_cons_zero, List.set_cons_succ, List.getElem_toArray, List.getElem_cons_zero, List.getElem_cons_succ]
          refine wpAnyH_take (i := 11) (v := ?_) rfl (by kernel_rfl) (by kernel_rfl) (by kernel_rfl) (fun _ _ _ h => h) (Or.inl ⟨by kernel_rfl, ?_⟩) (by assumption) ?_
          rotate_left
          · (intro w hSw; (try dsimp only at hSw); go_simp)
            try with_reducible rfl
          try simp only [Act.put, List.setIfInBounds_toArray, List.set_cons_zero, List.set_cons_succ, List.getElem_toArray, List.getElem_cons_zero, List.getElem_cons_succ]
          refine wpAnyH_done (by kernel_rfl) ?_ _
          clear hHeld
          obtain ⟨uf0, uf1, uf2, uf3, uf4, uf5, uf6, uf7, uf8, uf9⟩ := HF.out wz1 (HB8.out.trans (HBz1.out.mono HB8.out.size))
          obtain ⟨rr0, rr1, rr2⟩ := HR8.out wz1 HBz1.out
          obtain ⟨s0, s1, s2, s3, s4, s5, s6⟩ := HS.out wz1 HBz1.out
          clear zf0 zf1 zf2 zf3 zf4 zf5 zf6 zf7 zf8 zf9
          go_wp2_with fail
          refine (HCK wz1).out.mono ?_
          rintro e w9 ⟨rfl, hb9⟩
          have HB9 : Hid (Below W3.heap.size W3 w9) := HB8.out.trans ((HBz1.out.trans (hb9.mono HBz1.out.size)).mono HB8.out.size)
          clear hb9
          go_wp2_with fail
          all_goals go_ret
          all_goals exact ⟨rfl, HBW.out _ HB9.out⟩
        | true =>
          cases c3 : decide (2 * at_ < y) with
          | false =>
            have HZ : ∀ W, Hid (Calls Tryz.prog 25 #[.agg #[.int .i64 z0, .int .i64 z1, .int .i64 z2, .int .i64 z3, .int .i64 z4, .int .i64 z5], pairV x y] W fun e' w' => e' = .returned (.tuple #[.bool false, .int .i64 0]) ∧ Below W.heap.size W w') := fun W => by
              have h : hasZ f at_ (at_ + dur) x y = false := by simp only [hasZ, c1, c2, c3]; rfl
              have h2 := (HZA W).out
              rw [h] at h2
              exact h2
            go_upto_region 11 with fail
            rw [HW8.out]
            refine wp_region_held_drew (S := fun W => W.cell? ⟨b, 0, none⟩ = some (.int .i64 z0) ∧ W.cell? ⟨b, 1, none⟩ = some (.int .i64 z1) ∧ W.cell? ⟨b, 2, none⟩ = some (.int .i64 z2) ∧ W.cell? ⟨b, 3, none⟩ = some (.int .i64 z3) ∧ W.cell? ⟨b, 4, none⟩ = some (.int .i64 z4) ∧ W.cell? ⟨b, 5, none⟩ = some (.int .i64 z5) ∧ b < W.heap.size) (by kernel_rfl) (HS.out _ HBr.out.drew) (fun hHeld => ?_)
            refine wpAnyH_take (i := 0) (v := ?_) rfl (by kernel_rfl) (by kernel_rfl) (by kernel_rfl) (fun _ _ _ h => h) (Or.inl ⟨by kernel_rfl, ?_⟩) (by assumption) ?_
            rotate_left
            · (intro w hSw; (try dsimp only at hSw); go_simp)
              try with_reducible rfl
            try simp only [Act.put, List.setIfInBounds_toArray, List.set_cons_zero, List.set_cons_succ, List.getElem_toArray, List.getElem_cons_zero]
            refine wpAnyH_take (i := 1) (v := ?_) rfl (by kernel_rfl) (by kernel_rfl) (by kernel_rfl) (fun _ _ _ h => h) (Or.inl ⟨by kernel_rfl, ?_⟩) (by assumption) ?_
            rotate_left
            · (intro w hSw; (try dsimp only at hSw); go_simp)
              try with_reducible rfl
            try simp only [Act.put, List.setIfInBounds_toArray, List.set_cons_zero, List.set_cons_succ, List.getElem_toArray, List.getElem_cons_zero, List.getElem_cons_succ]
            refine wpAnyH_take (i := 2) (v := ?_) rfl (by kernel_rfl) (by kernel_rfl) (by kernel_rfl) (fun _ _ _ h => h) (Or.inl ⟨by kernel_rfl, ?_⟩) (by assumption) ?_
            rotate_left
            · (intro w hSw; (try dsimp only at hSw); go_simp)
              try with_reducible rfl
            try simp only [Act.put, List.setIfInBounds_toArray, List.set_cons_zero, List.set_cons_succ, List.getElem_toArray, List.getElem_cons_zero, List.getElem_cons_succ]
            refine wpAnyH_take (i := 3) (v := ?_) rfl (by kernel_rfl) (by kernel_rfl) (by kernel_rfl) (fun _ _ _ h => h) (Or.inl ⟨by kernel_rfl, ?_⟩) (by assumption) ?_
            rotate_left
            · (intro w hSw; (try dsimp only at hSw); go_simp)
              try with_reducible rfl
            try simp only [Act.put, List.setIfInBounds_toArray, List.set_cons_zero, List.set_cons_succ, List.getElem_toArray, List.getElem_cons_zero, List.getElem_cons_succ]
            refine wpAnyH_take (i := 4) (v := ?_) rfl (by kernel_rfl) (by kernel_rfl) (by kernel_rfl) (fun _ _ _ h => h) (Or.inl ⟨by kernel_rfl, ?_⟩) (by assumption) ?_
            rotate_left
            · (intro w hSw; (try dsimp only at hSw); go_simp)
              try with_reducible rfl
            try simp only [Act.put, List.setIfInBounds_toArray, List.set_cons_zero, List.set_cons_succ, List.getElem_toArray, List.getElem_cons_zero, List.getElem_cons_succ]
            refine wpAnyH_ready (rs := [5]) (by kernel_rfl) (by simp) ?_
            refine AllReadyH.cons rfl (fun K hK => ?_) AllReadyH.nil
            go_simp
            go_at_call 26
            refine (HPT _).out.mono ?_
            rintro e wp1 ⟨rfl, hbp1⟩
            have HBp1 := Lib.hid (belS HBr.out.drew hbp1)
            clear hbp1
            try dsimp only
            refine hK.out _ _ (HS.out _ HBp1.out) (fun hHeld => ?_)
            clear hK K
            try simp only [Act.put, List.setIfInBounds_toArray, List.set_cons_zero, List.set_cons_succ, List.getElem_toArray, List.getElem_cons_zero, List.getElem_cons_succ]
            refine wpAnyH_ready (rs := [6]) (by kernel_rfl) (by simp) ?_
            refine AllReadyH.cons rfl (fun K hK => ?_) AllReadyH.nil
            go_simp
            go_at_call 25
            refine (HZ _).out.mono ?_
            rintro e wz1 ⟨rfl, hbz1⟩
            have HBz1 := Lib.hid (belS HBp1.out hbz1)
            clear hbz1
            try dsimp only
            refine hK.out _ _ (HS.out _ HBz1.out) (fun hHeld => ?_)
            clear hK K
            try simp only [Act.put, List.setIfInBounds_toArray, List.set_cons_zero, List.set_cons_succ, List.getElem_toArray, List.getElem_cons_zero, List.getElem_cons_succ]
            refine wpAnyH_take (i := 7) (v := ?_) rfl (by kernel_rfl) (by kernel_rfl) (by kernel_rfl) (fun _ _ _ h => h) (Or.inl ⟨by kernel_rfl, ?_⟩) (by assumption) ?_
            rotate_left
            · (intro w hSw; (try dsimp only at hSw); go_simp)
              try with_reducible rfl
            try simp only [Act.put, List.setIfInBounds_toArray, List.set_cons_zero, List.set_cons_succ, List.getElem_toArray, List.getElem_cons_zero, List.getElem_cons_succ]
            refine wpAnyH_take (i := 8) (v := ?_) rfl (by kernel_rfl) (by kernel_rfl) (by kernel_rfl) (fun _ _ _ h => h) (Or.inl ⟨by kernel_rfl, ?_⟩) (by assumption) ?_
            rotate_left
            · (intro w hSw; (try dsimp only at hSw); go_simp)
              try with_reducible rfl
            try simp only [Act.put, List.setIfInBounds_toArray, List.set_cons_zero, List.set_cons_succ, List.getElem_toArray, List.getElem_cons_zero, List.getElem_cons_succ]
            refine wpAnyH_take (i := 9) (v := ?_) rfl (by kernel_rfl) (by kernel_rfl) (by kernel_rfl) (fun _ _ _ h => h) (Or.inl ⟨by kernel_rfl, ?_⟩) (by assumption) ?_
            rotate_left
            · (intro w hSw; (try dsimp only at hSw); go_simp)
              try with_reducible rfl
            try simp only [Act.put, List.setIfInBounds_toArray, List.set_cons_zero, List.set_cons_succ, List.getElem_toArray, List.getElem_cons_zero, List.getElem_cons_succ]
            refine wpAnyH_take (i := 10) (v := ?_) rfl (by kernel_rfl) (by kernel_rfl) (by kernel_rfl) (fun _ _ _ h => h) (Or.inl ⟨by kernel_rfl, ?_⟩) (by assumption) ?_
            rotate_left
            · (intro w hSw; (try dsimp only at hSw); go_simp)
              try with_reducible rfl
            try simp only [Act.put, List.setIfInBounds_toArray, List.set_cons_zero, List.set_cons_succ, List.getElem_toArray, List.getElem_cons_zero, List.getElem_cons_succ]
            refine wpAnyH_take (i := 11) (v := ?_) rfl (by kernel_rfl) (by kernel_rfl) (by kernel_rfl) (fun _ _ _ h => h) (Or.inl ⟨by kernel_rfl, ?_⟩) (by assumption) ?_
            rotate_left
            · (intro w hSw; (try dsimp only at hSw); go_simp)
              try with_reducible rfl
            try simp only [Act.put, List.setIfInBounds_toArray, List.set_cons_zero, List.set_cons_succ, List.getElem_toArray, List.getElem_cons_zero, List.getElem_cons_succ]
            refine wpAnyH_done (by kernel_rfl) ?_ _
            clear hHeld
            obtain ⟨uf0, uf1, uf2, uf3, uf4, uf5, uf6, uf7, uf8, uf9⟩ := HF.out wz1 (HB8.out.trans (HBz1.out.mono HB8.out.size))
            obtain ⟨rr0, rr1, rr2⟩ := HR8.out wz1 HBz1.out
            obtain ⟨s0, s1, s2, s3, s4, s5, s6⟩ := HS.out wz1 HBz1.out
            clear zf0 zf1 zf2 zf3 zf4 zf5 zf6 zf7 zf8 zf9
            go_wp2_with fail
            refine (HCK wz1).out.mono ?_
            rintro e w9 ⟨rfl, hb9⟩
            have HB9 : Hid (Below W3.heap.size W3 w9) := HB8.out.trans ((HBz1.out.trans (hb9.mono HBz1.out.size)).mono HB8.out.size)
            clear hb9
            go_wp2_with fail
            all_goals go_ret
            all_goals exact ⟨rfl, HBW.out _ HB9.out⟩
          | true =>
            cases c4 : decide (y ≤ 2 * (at_ + dur)) with
            | false =>
              have HZ : ∀ W, Hid (Calls Tryz.prog 25 #[.agg #[.int .i64 z0, .int .i64 z1, .int .i64 z2, .int .i64 z3, .int .i64 z4, .int .i64 z5], pairV x y] W fun e' w' => e' = .returned (.tuple #[.bool false, .int .i64 0]) ∧ Below W.heap.size W w') := fun W => by
                have h : hasZ f at_ (at_ + dur) x y = false := by simp only [hasZ, c1, c2, c3, c4]; rfl
                have h2 := (HZA W).out
                rw [h] at h2
                exact h2
              go_upto_region 11 with fail
              rw [HW8.out]
              refine wp_region_held_drew (S := fun W => W.cell? ⟨b, 0, none⟩ = some (.int .i64 z0) ∧ W.cell? ⟨b, 1, none⟩ = some (.int .i64 z1) ∧ W.cell? ⟨b, 2, none⟩ = some (.int .i64 z2) ∧ W.cell? ⟨b, 3, none⟩ = some (.int .i64 z3) ∧ W.cell? ⟨b, 4, none⟩ = some (.int .i64 z4) ∧ W.cell? ⟨b, 5, none⟩ = some (.int .i64 z5) ∧ b < W.heap.size) (by kernel_rfl) (HS.out _ HBr.out.drew) (fun hHeld => ?_)
              refine wpAnyH_take (i := 0) (v := ?_) rfl (by kernel_rfl) (by kernel_rfl) (by kernel_rfl) (fun _ _ _ h => h) (Or.inl ⟨by kernel_rfl, ?_⟩) (by assumption) ?_
              rotate_left
              · (intro w hSw; (try dsimp only at hSw); go_simp)
                try with_reducible rfl
              try simp only [Act.put, List.setIfInBounds_toArray, List.set_cons_zero, List.set_cons_succ, List.getElem_toArray, List.getElem_cons_zero]
              refine wpAnyH_take (i := 1) (v := ?_) rfl (by kernel_rfl) (by kernel_rfl) (by kernel_rfl) (fun _ _ _ h => h) (Or.inl ⟨by kernel_rfl, ?_⟩) (by assumption) ?_
              rotate_left
              · (intro w hSw; (try dsimp only at hSw); go_simp)
                try with_reducible rfl
              try simp only [Act.put, List.setIfInBounds_toArray, List.set_cons_zero, List.set_cons_succ, List.getElem_toArray, List.getElem_cons_zero, List.getElem_cons_succ]
              refine wpAnyH_take (i := 2) (v := ?_) rfl (by kernel_rfl) (by kernel_rfl) (by kernel_rfl) (fun _ _ _ h => h) (Or.inl ⟨by kernel_rfl, ?_⟩) (by assumption) ?_
              rotate_left
              · (intro w hSw; (try dsimp only at hSw); go_simp)
                try with_reducible rfl
              try simp only [Act.put, List.setIfInBounds_toArray, List.set_cons_zero, List.set_cons_succ, List.getElem_toArray, List.getElem_cons_zero, List.getElem_cons_succ]
              refine wpAnyH_take (i := 3) (v := ?_) rfl (by kernel_rfl) (by kernel_rfl) (by kernel_rfl) (fun _ _ _ h => h) (Or.inl ⟨by kernel_rfl, ?_⟩) (by assumption) ?_
              rotate_left
              · (intro w hSw; (try dsimp only at hSw); go_simp)
                try with_reducible rfl
              try simp only [Act.put, List.setIfInBounds_toArray, List.set_cons_zero, List.set_cons_succ, List.getElem_toArray, List.getElem_cons_zero, List.getElem_cons_succ]
              refine wpAnyH_take (i := 4) (v := ?_) rfl (by kernel_rfl) (by kernel_rfl) (by kernel_rfl) (fun _ _ _ h => h) (Or.inl ⟨by kernel_rfl, ?_⟩) (by assumption) ?_
              rotate_left
              · (intro w hSw; (try dsimp only at hSw); go_simp)
                try with_reducible rfl
              try simp only [Act.put, List.setIfInBounds_toArray, List.set_cons_zero, List.set_cons_succ, List.getElem_toArray, List.getElem_cons_zero, List.getElem_cons_succ]
              refine wpAnyH_ready (rs := [5]) (by kernel_rfl) (by simp) ?_
              refine AllReadyH.cons rfl (fun K hK => ?_) AllReadyH.nil
              go_simp
              go_at_call 26
              refine (HPT _).out.mono ?_
              rintro e wp1 ⟨rfl, hbp1⟩
              have HBp1 := Lib.hid (belS HBr.out.drew hbp1)
              clear hbp1
              try dsimp only
              refine hK.out _ _ (HS.out _ HBp1.out) (fun hHeld => ?_)
              clear hK K
              try simp only [Act.put, List.setIfInBounds_toArray, List.set_cons_zero, List.set_cons_succ, List.getElem_toArray, List.getElem_cons_zero, List.getElem_cons_succ]
              refine wpAnyH_ready (rs := [6]) (by kernel_rfl) (by simp) ?_
              refine AllReadyH.cons rfl (fun K hK => ?_) AllReadyH.nil
              go_simp
              go_at_call 25
              refine (HZ _).out.mono ?_
              rintro e wz1 ⟨rfl, hbz1⟩
              have HBz1 := Lib.hid (belS HBp1.out hbz1)
              clear hbz1
              try dsimp only
              refine hK.out _ _ (HS.out _ HBz1.out) (fun hHeld => ?_)
              clear hK K
              try simp only [Act.put, List.setIfInBounds_toArray, List.set_cons_zero, List.set_cons_succ, List.getElem_toArray, List.getElem_cons_zero, List.getElem_cons_succ]
              refine wpAnyH_take (i := 7) (v := ?_) rfl (by kernel_rfl) (by kernel_rfl) (by kernel_rfl) (fun _ _ _ h => h) (Or.inl ⟨by kernel_rfl, ?_⟩) (by assumption) ?_
              rotate_left
              · (intro w hSw; (try dsimp only at hSw); go_simp)
                try with_reducible rfl
              try simp only [Act.put, List.setIfInBounds_toArray, List.set_cons_zero, List.set_cons_succ, List.getElem_toArray, List.getElem_cons_zero, List.getElem_cons_succ]
              refine wpAnyH_take (i := 8) (v := ?_) rfl (by kernel_rfl) (by kernel_rfl) (by kernel_rfl) (fun _ _ _ h => h) (Or.inl ⟨by kernel_rfl, ?_⟩) (by assumption) ?_
              rotate_left
              · (intro w hSw; (try dsimp only at hSw); go_simp)
                try with_reducible rfl
              try simp only [Act.put, List.setIfInBounds_toArray, List.set_cons_zero, List.set_cons_succ, List.getElem_toArray, List.getElem_cons_zero, List.getElem_cons_succ]
              refine wpAnyH_take (i := 9) (v := ?_) rfl (by kernel_rfl) (by kernel_rfl) (by kernel_rfl) (fun _ _ _ h => h) (Or.inl ⟨by kernel_rfl, ?_⟩) (by assumption) ?_
              rotate_left
              · (intro w hSw; (try dsimp only at hSw); go_simp)
                try with_reducible rfl
              try simp only [Act.put, List.setIfInBounds_toArray, List.set_cons_zero, List.set_cons_succ, List.getElem_toArray, List.getElem_cons_zero, List.getElem_cons_succ]
              refine wpAnyH_take (i := 10) (v := ?_) rfl (by kernel_rfl) (by kernel_rfl) (by kernel_rfl) (fun _ _ _ h => h) (Or.inl ⟨by kernel_rfl, ?_⟩) (by assumption) ?_
              rotate_left
              · (intro w hSw; (try dsimp only at hSw); go_simp)
                try with_reducible rfl
              try simp only [Act.put, List.setIfInBounds_toArray, List.set_cons_zero, List.set_cons_succ, List.getElem_toArray, List.getElem_cons_zero, List.getElem_cons_succ]
              refine wpAnyH_take (i := 11) (v := ?_) rfl (by kernel_rfl) (by kernel_rfl) (by kernel_rfl) (fun _ _ _ h => h) (Or.inl ⟨by kernel_rfl, ?_⟩) (by assumption) ?_
              rotate_left
              · (intro w hSw; (try dsimp only at hSw); go_simp)
                try with_reducible rfl
              try simp only [Act.put, List.setIfInBounds_toArray, List.set_cons_zero, List.set_cons_succ, List.getElem_toArray, List.getElem_cons_zero, List.getElem_cons_succ]
              refine wpAnyH_done (by kernel_rfl) ?_ _
              clear hHeld
              obtain ⟨uf0, uf1, uf2, uf3, uf4, uf5, uf6, uf7, uf8, uf9⟩ := HF.out wz1 (HB8.out.trans (HBz1.out.mono HB8.out.size))
              obtain ⟨rr0, rr1, rr2⟩ := HR8.out wz1 HBz1.out
              obtain ⟨s0, s1, s2, s3, s4, s5, s6⟩ := HS.out wz1 HBz1.out
              clear zf0 zf1 zf2 zf3 zf4 zf5 zf6 zf7 zf8 zf9
              go_wp2_with fail
              refine (HCK wz1).out.mono ?_
              rintro e w9 ⟨rfl, hb9⟩
              have HB9 : Hid (Below W3.heap.size W3 w9) := HB8.out.trans ((HBz1.out.trans (hb9.mono HBz1.out.size)).mono HB8.out.size)
              clear hb9
              go_wp2_with fail
              all_goals go_ret
              all_goals exact ⟨rfl, HBW.out _ HB9.out⟩
            | true =>
              have HZ : ∀ W, Hid (Calls Tryz.prog 25 #[.agg #[.int .i64 z0, .int .i64 z1, .int .i64 z2, .int .i64 z3, .int .i64 z4, .int .i64 z5], pairV x y] W fun e' w' => e' = .returned (.tuple #[.bool true, .int .i64 0]) ∧ Below W.heap.size W w') := fun W => by
                have h : hasZ f at_ (at_ + dur) x y = true := by simp only [hasZ, c1, c2, c3, c4]; rfl
                have h2 := (HZA W).out
                rw [h] at h2
                exact h2
              go_upto_region 11 with fail
              rw [HW8.out]
              refine wp_region_held_drew (S := fun W => W.cell? ⟨b, 0, none⟩ = some (.int .i64 z0) ∧ W.cell? ⟨b, 1, none⟩ = some (.int .i64 z1) ∧ W.cell? ⟨b, 2, none⟩ = some (.int .i64 z2) ∧ W.cell? ⟨b, 3, none⟩ = some (.int .i64 z3) ∧ W.cell? ⟨b, 4, none⟩ = some (.int .i64 z4) ∧ W.cell? ⟨b, 5, none⟩ = some (.int .i64 z5) ∧ b < W.heap.size) (by kernel_rfl) (HS.out _ HBr.out.drew) (fun hHeld => ?_)
              refine wpAnyH_take (i := 0) (v := ?_) rfl (by kernel_rfl) (by kernel_rfl) (by kernel_rfl) (fun _ _ _ h => h) (Or.inl ⟨by kernel_rfl, ?_⟩) (by assumption) ?_
              rotate_left
              · (intro w hSw; (try dsimp only at hSw); go_simp)
                try with_reducible rfl
              try simp only [Act.put, List.setIfInBounds_toArray, List.set_cons_zero, List.set_cons_succ, List.getElem_toArray, List.getElem_cons_zero]
              refine wpAnyH_take (i := 1) (v := ?_) rfl (by kernel_rfl) (by kernel_rfl) (by kernel_rfl) (fun _ _ _ h => h) (Or.inl ⟨by kernel_rfl, ?_⟩) (by assumption) ?_
              rotate_left
              · (intro w hSw; (try dsimp only at hSw); go_simp)
                try with_reducible rfl
              try simp only [Act.put, List.setIfInBounds_toArray, List.set_cons_zero, List.set_cons_succ, List.getElem_toArray, List.getElem_cons_zero, List.getElem_cons_succ]
              refine wpAnyH_take (i := 2) (v := ?_) rfl (by kernel_rfl) (by kernel_rfl) (by kernel_rfl) (fun _ _ _ h => h) (Or.inl ⟨by kernel_rfl, ?_⟩) (by assumption) ?_
              rotate_left
              · (intro w hSw; (try dsimp only at hSw); go_simp)
                try with_reducible rfl
              try simp only [Act.put, List.setIfInBounds_toArray, List.set_cons_zero, List.set_cons_succ, List.getElem_toArray, List.getElem_cons_zero, List.getElem_cons_succ]
              refine wpAnyH_take (i := 3) (v := ?_) rfl (by kernel_rfl) (by kernel_rfl) (by kernel_rfl) (fun _ _ _ h => h) (Or.inl ⟨by kernel_rfl, ?_⟩) (by assumption) ?_
              rotate_left
              · (intro w hSw; (try dsimp only at hSw); go_simp)
                try with_reducible rfl
              try simp only [Act.put, List.setIfInBounds_toArray, List.set_cons_zero, List.set_cons_succ, List.getElem_toArray, List.getElem_cons_zero, List.getElem_cons_succ]
              refine wpAnyH_take (i := 4) (v := ?_) rfl (by kernel_rfl) (by kernel_rfl) (by kernel_rfl) (fun _ _ _ h => h) (Or.inl ⟨by kernel_rfl, ?_⟩) (by assumption) ?_
              rotate_left
              · (intro w hSw; (try dsimp only at hSw); go_simp)
                try with_reducible rfl
              try simp only [Act.put, List.setIfInBounds_toArray, List.set_cons_zero, List.set_cons_succ, List.getElem_toArray, List.getElem_cons_zero, List.getElem_cons_succ]
              refine wpAnyH_ready (rs := [5]) (by kernel_rfl) (by simp) ?_
              refine AllReadyH.cons rfl (fun K hK => ?_) AllReadyH.nil
              go_simp
              go_at_call 26
              refine (HPT _).out.mono ?_
              rintro e wp1 ⟨rfl, hbp1⟩
              have HBp1 := Lib.hid (belS HBr.out.drew hbp1)
              clear hbp1
              try dsimp only
              refine hK.out _ _ (HS.out _ HBp1.out) (fun hHeld => ?_)
              clear hK K
              try simp only [Act.put, List.setIfInBounds_toArray, List.set_cons_zero, List.set_cons_succ, List.getElem_toArray, List.getElem_cons_zero, List.getElem_cons_succ]
              refine wpAnyH_ready (rs := [6]) (by kernel_rfl) (by simp) ?_
              refine AllReadyH.cons rfl (fun K hK => ?_) AllReadyH.nil
              go_simp
              go_at_call 25
              refine (HZ _).out.mono ?_
              rintro e wz1 ⟨rfl, hbz1⟩
              have HBz1 := Lib.hid (belS HBp1.out hbz1)
              clear hbz1
              try dsimp only
              refine hK.out _ _ (HS.out _ HBz1.out) (fun hHeld => ?_)
              clear hK K
              try simp only [Act.put, List.setIfInBounds_toArray, List.set_cons_zero, List.set_cons_succ, List.getElem_toArray, List.getElem_cons_zero, List.getElem_cons_succ]
              refine wpAnyH_take (i := 7) (v := ?_) rfl (by kernel_rfl) (by kernel_rfl) (by kernel_rfl) (fun _ _ _ h => h) (Or.inl ⟨by kernel_rfl, ?_⟩) (by assumption) ?_
              rotate_left
              · (intro w hSw; (try dsimp only at hSw); go_simp)
                try with_reducible rfl
              try simp only [Act.put, List.setIfInBounds_toArray, List.set_cons_zero, List.set_cons_succ, List.getElem_toArray, List.getElem_cons_zero, List.getElem_cons_succ]
              refine wpAnyH_take (i := 8) (v := ?_) rfl (by kernel_rfl) (by kernel_rfl) (by kernel_rfl) (fun _ _ _ h => h) (Or.inl ⟨by kernel_rfl, ?_⟩) (by assumption) ?_
              rotate_left
              · (intro w hSw; (try dsimp only at hSw); go_simp)
                try with_reducible rfl
              try simp only [Act.put, List.setIfInBounds_toArray, List.set_cons_zero, List.set_cons_succ, List.getElem_toArray, List.getElem_cons_zero, List.getElem_cons_succ]
              refine wpAnyH_take (i := 9) (v := ?_) rfl (by kernel_rfl) (by kernel_rfl) (by kernel_rfl) (fun _ _ _ h => h) (Or.inl ⟨by kernel_rfl, ?_⟩) (by assumption) ?_
              rotate_left
              · (intro w hSw; (try dsimp only at hSw); go_simp)
                try with_reducible rfl
              try simp only [Act.put, List.setIfInBounds_toArray, List.set_cons_zero, List.set_cons_succ, List.getElem_toArray, List.getElem_cons_zero, List.getElem_cons_succ]
              refine wpAnyH_take (i := 10) (v := ?_) rfl (by kernel_rfl) (by kernel_rfl) (by kernel_rfl) (fun _ _ _ h => h) (Or.inl ⟨by kernel_rfl, ?_⟩) (by assumption) ?_
              rotate_left
              · (intro w hSw; (try dsimp only at hSw); go_simp)
                try with_reducible rfl
              try simp only [Act.put, List.setIfInBounds_toArray, List.set_cons_zero, List.set_cons_succ, List.getElem_toArray, List.getElem_cons_zero, List.getElem_cons_succ]
              refine wpAnyH_take (i := 11) (v := ?_) rfl (by kernel_rfl) (by kernel_rfl) (by kernel_rfl) (fun _ _ _ h => h) (Or.inl ⟨by kernel_rfl, ?_⟩) (by assumption) ?_
              rotate_left
              · (intro w hSw; (try dsimp only at hSw); go_simp)
                try with_reducible rfl
              try simp only [Act.put, List.setIfInBounds_toArray, List.set_cons_zero, List.set_cons_succ, List.getElem_toArray, List.getElem_cons_zero, List.getElem_cons_succ]
              refine wpAnyH_done (by kernel_rfl) ?_ _
              clear hHeld
              obtain ⟨uf0, uf1, uf2, uf3, uf4, uf5, uf6, uf7, uf8, uf9⟩ := HF.out wz1 (HB8.out.trans (HBz1.out.mono HB8.out.size))
              obtain ⟨rr0, rr1, rr2⟩ := HR8.out wz1 HBz1.out
              obtain ⟨s0, s1, s2, s3, s4, s5, s6⟩ := HS.out wz1 HBz1.out
              clear zf0 zf1 zf2 zf3 zf4 zf5 zf6 zf7 zf8 zf9
              go_wp2_with fail
              refine (HCK wz1).out.mono ?_
              rintro e w9 ⟨rfl, hb9⟩
              have HB9 : Hid (Below W3.heap.size W3 w9) := HB8.out.trans ((HBz1.out.trans (hb9.mono HBz1.out.size)).mono HB8.out.size)
              clear hb9
              go_wp2_with fail
              all_goals go_ret
              all_goals exact ⟨rfl, HBW.out _ HB9.out⟩
end Go.Proofs.YtockinpjfhhkoaaGreatDoor
