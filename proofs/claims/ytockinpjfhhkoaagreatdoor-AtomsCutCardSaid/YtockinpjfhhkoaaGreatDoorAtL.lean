/- tight.of, sides, clock walked. (Printed by gen_atl.py.) -/
import Derived.Deep.Cut
import Derived.Deep.RegionHeld3
import Derived.Test.YtockinpjfhhkoaaGreatDoorAtF
namespace Go.Proofs.YtockinpjfhhkoaaGreatDoor
open Go.RowKit

set_option maxRecDepth 100000 in
theorem of211_any (c : Int) (s : Bool) (w : World) : Calls Tryz.prog 211 #[.int .i64 c, .bool s] w fun e w' => e = .returned (.int .i64 (madeR c s).1) ∧ Below w.heap.size w w' := by
  cases s with
  | true =>
    have HM := Lib.hid (less232_any c w)
    go_enter Tryz.func211, Tryz.ntmps211
    go_wp2_with fail
    refine HM.out.mono ?_
    rintro e w1 ⟨rfl, hb1⟩
    go_wp2_with fail
    all_goals go_ret
    all_goals exact ⟨rfl, hb1⟩
  | false =>
    have HM := Lib.hid (most233_any c w)
    go_enter Tryz.func211, Tryz.ntmps211
    go_wp2_with fail
    refine HM.out.mono ?_
    rintro e w1 ⟨rfl, hb1⟩
    go_wp2_with fail
    all_goals go_ret
    all_goals exact ⟨rfl, hb1⟩
set_option maxRecDepth 100000 in
theorem clock157_any {n i : Nat} (b : Value) (w : World) (h : i < n) : Calls Tryz.prog 157 #[.agg #[.int .i64 n, b], .int .i64 i] w fun e w' => e = .returned (.bool true) ∧ Below w.heap.size w w' := by
  have d1 : decide ((i : Int) < (n : Int)) = true := by simpa using h
  have d2 : (i : Int) < (n : Int) := by omega
  go_enter Tryz.func157, Tryz.ntmps157
  go_wp2_with fail
  all_goals go_ret
  all_goals exact ⟨rfl, belowA _ _⟩
/-- A span's bounds, of what is not too far. -/
def lowB (s : Spn) : Int := (madeR (-s.low) s.ls).1
def highB (s : Spn) : Int := if s.op then noneB else (madeR s.high s.hs).1
def spanB (s : Spn) : Bool := if s.op then s.high == 0 && !s.hs else decide (s.low ≤ s.high)
def nearS (s : Spn) : Prop := -288230376151711744 ≤ s.low ∧ s.low ≤ 288230376151711744 ∧ s.high ≤ 288230376151711744 ∧ -9223372036854775808 ≤ s.high
set_option maxRecDepth 100000 in
set_option maxHeartbeats 8000000 in
theorem sides158_any (s : Spn) (w : World) (hn : nearS s) : Calls Tryz.prog 158 #[s.val] w fun e w' => e = .returned (.tuple #[.int .i64 (lowB s), .int .i64 (highB s), .bool (spanB s)]) ∧ Below w.heap.size w w' := by
  obtain ⟨lo, ls, hi, hs, op⟩ := s
  obtain ⟨h1, h2, h3, h4⟩ := hn
  dsimp only at h1 h2 h3 h4
  have d1 : decide (lo < -288230376151711744) = false := by simp; omega
  have d2 : decide (288230376151711744 < lo) = false := by simp; omega
  have d3 : decide (288230376151711744 < hi) = false := by simp; omega
  obtain ⟨W1, hW1⟩ : ∃ W1, W1 = w.alloc (.cells #[.int .i64 lo, .bool ls, .int .i64 hi, .bool hs, .bool op] 45) := ⟨_, rfl⟩
  have hb1 : Below w.heap.size w W1 := by rw [hW1]; exact belowA _ _
  have hz1 : W1.heap.size = w.heap.size + 1 := by rw [hW1]; simp
  have hx1 : W1.heap[w.heap.size]? = some (.cells #[.int .i64 lo, .bool ls, .int .i64 hi, .bool hs, .bool op] 45 (0, 0)) := by rw [hW1]; exact hp_topA rfl
  have HX : Hid (∀ W, Below W1.heap.size W1 W → W.cell? ⟨w.heap.size, 0, none⟩ = some (.int .i64 lo) ∧ W.cell? ⟨w.heap.size, 1, none⟩ = some (.bool ls) ∧ W.cell? ⟨w.heap.size, 2, none⟩ = some (.int .i64 hi) ∧ W.cell? ⟨w.heap.size, 3, none⟩ = some (.bool hs) ∧ W.cell? ⟨w.heap.size, 4, none⟩ = some (.bool op) ∧ w.heap.size < W.heap.size) := by
    intro W hW
    have h1 : W.heap[w.heap.size]? = _ := (hW.block _ (by omega)).trans hx1
    exact ⟨Lib.cell_of_heap h1 0, Lib.cell_of_heap h1 1, Lib.cell_of_heap h1 2, Lib.cell_of_heap h1 3, Lib.cell_of_heap h1 4, (Array.getElem?_eq_some_iff.1 h1).1⟩
  have HB1 := Lib.hid hb1
  have HW1 := Lib.hid hW1.symm
  obtain ⟨x0, x1, x2, x3, x4, xl⟩ := HX.out W1 (Below.refl _ _)
  have hw : wrap64 (-lo) = -lo := IntWalk.wrap64_in _ ⟨by omega, by omega⟩
  have HL : Hid (lowB ⟨lo, ls, hi, hs, op⟩ = (madeR (-lo) ls).1) := rfl
  rw [HL.out]
  obtain ⟨b, hb⟩ : ∃ b, (madeR (-lo) ls).1 = b := ⟨_, rfl⟩
  have HO1 := Lib.hid (of211_any (-lo) ls W1)
  rw [hb] at HO1 ⊢
  clear hb1 hz1 hx1 hW1 hb h1 h2 h3 h4
  unfold Spn.val
  cases op with
  | true =>
    have HH : Hid (highB ⟨lo, ls, hi, hs, true⟩ = 9223372036854775807) := rfl
    have HS : Hid (spanB ⟨lo, ls, hi, hs, true⟩ = (hi == 0 && !hs)) := rfl
    rw [HH.out, HS.out]
    cases hs with
    | true =>
      go_enter Tryz.func158, Tryz.ntmps158
      go_wp2_with fail
      rw [HW1.out]
      refine HO1.out.mono ?_
      rintro e w2 ⟨rfl, hb2⟩
      have HB2 := Lib.hid (HB1.out.trans (hb2.mono HB1.out.size))
      obtain ⟨y0, y1, y2, y3, y4, yl⟩ := HX.out w2 hb2
      clear hb2 x0 x1 x2 x3 x4 xl
      go_wp2_with fail
      all_goals go_ret3
      all_goals exact ⟨by simp_all, HB2.out⟩
    | false =>
      go_enter Tryz.func158, Tryz.ntmps158
      go_wp2_with fail
      rw [HW1.out]
      refine HO1.out.mono ?_
      rintro e w2 ⟨rfl, hb2⟩
      have HB2 := Lib.hid (HB1.out.trans (hb2.mono HB1.out.size))
      obtain ⟨y0, y1, y2, y3, y4, yl⟩ := HX.out w2 hb2
      clear hb2 x0 x1 x2 x3 x4 xl
      go_wp2_with fail
      all_goals go_ret3
      all_goals exact ⟨by simp_all, HB2.out⟩
  | false =>
    have HH : Hid (highB ⟨lo, ls, hi, hs, false⟩ = (madeR hi hs).1) := rfl
    have HS : Hid (spanB ⟨lo, ls, hi, hs, false⟩ = decide (lo ≤ hi)) := rfl
    rw [HH.out, HS.out]
    obtain ⟨d, hd⟩ : ∃ d, (madeR hi hs).1 = d := ⟨_, rfl⟩
    have HO2 := fun W => Lib.hid (of211_any hi hs W)
    rw [hd] at HO2 ⊢
    clear hd
    go_enter Tryz.func158, Tryz.ntmps158
    go_upto_region 6 with (first | fail)
    rw [HW1.out]
    refine HO1.out.mono ?_
    rintro e w2 ⟨rfl, hb2⟩
    have HB2 := Lib.hid (HB1.out.trans (hb2.mono HB1.out.size))
    have HBW := Lib.hid hb2
    obtain ⟨y0, y1, y2, y3, y4, yl⟩ := HX.out w2 hb2
    clear hb2 x0 x1 x2 x3 x4 xl
    go_upto_region 6 with fail
    refine wp_region_held_drew (S := fun W => W.cell? ⟨w.heap.size, 0, none⟩ = some (.int .i64 lo) ∧ W.cell? ⟨w.heap.size, 1, none⟩ = some (.bool ls) ∧ W.cell? ⟨w.heap.size, 2, none⟩ = some (.int .i64 hi) ∧ W.cell? ⟨w.heap.size, 3, none⟩ = some (.bool hs) ∧ W.cell? ⟨w.heap.size, 4, none⟩ = some (.bool false) ∧ w.heap.size < W.heap.size) (by kernel_rfl) (HX.out w2.drew HBW.out.drew) (fun hHeld => ?_)
    refine wpAnyH_take (i := 0) (v := ?_) rfl (by kernel_rfl) (by kernel_rfl) (by kernel_rfl) (fun _ _ _ h => h) (Or.inl ⟨by kernel_rfl, ?_⟩) (by assumption) ?_
    rotate_left
    · (intro w hSw; (try dsimp only at hSw); go_simp)
      try with_reducible rfl
    try simp only [Act.put, List.setIfInBounds_toArray, List.set_cons_zero, List.set_cons_succ, List.getElem_toArray, List.getElem_cons_zero]
    refine wpAnyH_take (i := 1) (v := ?_) rfl (by kernel_rfl) (by kernel_rfl) (by kernel_rfl) (fun _ _ _ h => h) (Or.inl ⟨by kernel_rfl, ?_⟩) (by assumption) ?_
    rotate_left
    · (intro w hSw; (try dsimp only at hSw); go_simp)
      try with_reducible rfl
    try simp only [Act.put, List.setIfInBounds_toArray, List.set_cons_zero, List.set_cons_succ, List.getElem_toArray, List.getElem_cons_zero, List.getElem_cons_succ]
    refine wpAnyH_take (i := 2) (v := ?_) rfl (by kernel_rfl) (by kernel_rfl) (by kernel_rfl) (fun _ _ _ h => h) (Or.inl ⟨by kernel_rfl, ?_⟩) (by assumption) ?_
    rotate_left
    · (intro w hSw; (try dsimp only at hSw); go_simp)
      try with_reducible rfl
    try simp only [Act.put, List.setIfInBounds_toArray, List.set_cons_zero, List.set_cons_succ, List.getElem_toArray, List.getElem_cons_zero, List.getElem_cons_succ]
    refine wpAnyH_take (i := 3) (v := ?_) rfl (by kernel_rfl) (by kernel_rfl) (by kernel_rfl) (fun _ _ _ h => h) (Or.inl ⟨by kernel_rfl, ?_⟩) (by assumption) ?_
    rotate_left
    · (intro w hSw; (try dsimp only at hSw); go_simp)
      try with_reducible rfl
    try simp only [Act.put, List.setIfInBounds_toArray, List.set_cons_zero, List.set_cons_succ, List.getElem_toArray, List.getElem_cons_zero, List.getElem_cons_succ]
    refine wpAnyH_take (i := 5) (v := ?_) rfl (by kernel_rfl) (by kernel_rfl) (by kernel_rfl) (fun _ _ _ h => h) (Or.inl ⟨by kernel_rfl, ?_⟩) (by assumption) ?_
    rotate_left
    · (intro w hSw; (try dsimp only at hSw); go_simp)
      try with_reducible rfl
    try simp only [Act.put, List.setIfInBounds_toArray, List.set_cons_zero, List.set_cons_succ, List.getElem_toArray, List.getElem_cons_zero, List.getElem_cons_succ]
    refine wpAnyH_take (i := 6) (v := ?_) rfl (by kernel_rfl) (by kernel_rfl) (by kernel_rfl) (fun _ _ _ h => h) (Or.inl ⟨by kernel_rfl, ?_⟩) (by assumption) ?_
    rotate_left
    · (intro w hSw; (try dsimp only at hSw); go_simp)
      try with_reducible rfl
    try simp only [Act.put, List.setIfInBounds_toArray, List.set_cons_zero, List.set_cons_succ, List.getElem_toArray, List.getElem_cons_zero, List.getElem_cons_succ]
    refine wpAnyH_take (i := 7) (v := ?_) rfl (by kernel_rfl) (by kernel_rfl) (by kernel_rfl) (fun _ _ _ h => h) (Or.inl ⟨by kernel_rfl, ?_⟩) (by assumption) ?_
    rotate_left
    · (intro w hSw; (try dsimp only at hSw); go_simp)
      try with_reducible rfl
    try simp only [Act.put, List.setIfInBounds_toArray, List.set_cons_zero, List.set_cons_succ, List.getElem_toArray, List.getElem_cons_zero, List.getElem_cons_succ]
    refine wpAnyH_take (i := 8) (v := ?_) rfl (by kernel_rfl) (by kernel_rfl) (by kernel_rfl) (fun _ _ _ h => h) (Or.inl ⟨by kernel_rfl, ?_⟩) (by assumption) ?_
    rotate_left
    · (intro w hSw; (try dsimp only at hSw); go_simp)
      try with_reducible rfl
    try simp only [Act.put, List.setIfInBounds_toArray, List.set_cons_zero, List.set_cons_succ, List.getElem_toArray, List.getElem_cons_zero, List.getElem_cons_succ]
    refine wpAnyH_take (i := 9) (v := ?_) rfl (by kernel_rfl) (by kernel_rfl) (by kernel_rfl) (fun _ _ _ h => h) (Or.inl ⟨by kernel_rfl, ?_⟩) (by assumption) ?_
    rotate_left
    · (intro w hSw; (try dsimp only at hSw); go_simp)
      try with_reducible rfl
    try simp only [Act.put, List.setIfInBounds_toArray, List.set_cons_zero, List.set_cons_succ, List.getElem_toArray, List.getElem_cons_zero, List.getElem_cons_succ]
    refine wpAnyH_ready (rs := [4]) (by kernel_rfl) (by simp) ?_
    refine AllReadyH.cons rfl (fun K hK => ?_) AllReadyH.nil
    go_simp
    go_at_call 211
    refine (HO2 _).out.mono ?_
    rintro e w3 ⟨rfl, hb3⟩
    have HB3 : Hid (Below W1.heap.size W1 w3) := HBW.out.trans (Below.mono (Below.trans (b := w2.drew) (Below.refl _ w2).drew hb3) HBW.out.size)
    clear hb3
    try dsimp only
    refine hK.out _ _ (HX.out w3 HB3.out) (fun hHeld => ?_)
    clear hK K
    try simp only [Act.put, List.setIfInBounds_toArray, List.set_cons_zero, List.set_cons_succ, List.getElem_toArray, List.getElem_cons_zero, List.getElem_cons_succ]
    refine wpAnyH_take (i := 10) (v := ?_) rfl (by kernel_rfl) (by kernel_rfl) (by kernel_rfl) (fun _ _ _ h => h) (Or.inl ⟨by kernel_rfl, ?_⟩) (by assumption) ?_
    rotate_left
    · (intro w hSw; (try dsimp only at hSw); go_simp)
      try with_reducible rfl
    try simp only [Act.put, List.setIfInBounds_toArray, List.set_cons_zero, List.set_cons_succ, List.getElem_toArray, List.getElem_cons_zero, List.getElem_cons_succ]
    refine wpAnyH_take (i := 11) (v := ?_) rfl (by kernel_rfl) (by kernel_rfl) (by kernel_rfl) (fun _ _ _ h => h) (Or.inl ⟨by kernel_rfl, ?_⟩) (by assumption) ?_
    rotate_left
    · (intro w hSw; (try dsimp only at hSw); go_simp)
      try with_reducible rfl
    try simp only [Act.put, List.setIfInBounds_toArray, List.set_cons_zero, List.set_cons_succ, List.getElem_toArray, List.getElem_cons_zero, List.getElem_cons_succ]
    refine wpAnyH_done (by kernel_rfl) ?_ _
    go_wp2_with fail
    all_goals go_ret3
    all_goals exact ⟨rfl, HB1.out.trans (HB3.out.mono HB1.out.size)⟩
end Go.Proofs.YtockinpjfhhkoaaGreatDoor
