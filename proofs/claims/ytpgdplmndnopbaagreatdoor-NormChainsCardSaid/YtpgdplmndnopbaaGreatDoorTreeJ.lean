/- Layer 16 walked: how much a formula, and an expression, is (the book's sizes); the greatest number. -/
import Derived.Test.YtpgdplmndnopbaaGreatDoorMgB
namespace Go.Proofs.YtpgdplmndnopbaaGreatDoor
open Go.RowKit
theorem szL_end {α : Type} (f : α → Int → Int) (most n : Int) (l : List α) : szL f most (l.drop l.length) n = n := by rw [List.drop_length]; rfl
set_option maxRecDepth 100000 in
set_option maxHeartbeats 4000000 in
theorem size49_any (n : Nat) : ∀ (t : FT n) (v : Value) (most : Int) (w : World), FRep w w.heap.size n t v →
 Calls Tryz.prog 75 #[v, .int .i64 most] w fun e w' => e = .returned (.int .i64 (sizeF n t most)) ∧ Below w.heap.size w w' := by
 induction n with
 | zero => intro t v most w h; exact h.elim
 | succ n ih =>
  intro t v most w h
  obtain ⟨k, s, of⟩ := t
  obtain ⟨a, c, rfl, hR⟩ := h
  dsimp only at hR ⊢
  have hm := hR.1
  have HR := Lib.hid hR
  have IH := Lib.hid ih
  have HE : Hid (sizeF (n + 1) (k, s, of) most = szL (sizeF n) most (of.drop 0) (wrap64 (1 + s.size))) := rfl
  have HZ : Hid (Below w.heap.size w (w.alloc (.cells #[.int .u8 k, .string s, .slice a of.length c] 61))) := (Below.refl _ _).alloc (Nat.le_refl _) _
  clear hR ih
  go_enter Tryz.func75, Tryz.ntmps75
  go_wp2_with fail
  go_loopw [5, 6] (fun q i wr => ∃ (j : Nat) (z : Int), j ≤ of.length ∧ i = .int .i64 j ∧ q = .int .i64 z ∧ Hid (sizeF (n + 1) (k, s, of) most = szL (sizeF n) most (of.drop j) z) ∧ Below w.heap.size w wr ∧ w.heap.size < wr.heap.size ∧ wr.cell? ⟨w.heap.size, 2, none⟩ = some (.slice a of.length c)) (fun _ i _ => of.length - (intOf i).toNat)
  case atStart => exact ⟨0, _, Nat.zero_le _, rfl, rfl, HE, HZ.out, by simp, by simp [World.cell?_alloc_at]⟩
  case round =>
   obtain ⟨j, z, hj, rfl, rfl, HT, hbw, hsz, hbox⟩ := hrel
   have HBW := Lib.hid hbw
   by_cases hlt : j < of.length
   ·by_cases hq : z ≤ most
    ·obtain ⟨b, off, k', s', sa, sl, sc, rfl, hbl, c0, c1, c2, hr⟩ := (FRow.up HR.out hbw (Nat.le_refl _)).at j hlt
     have hz := hbw.size
     have hbl' : b < wr.heap.size := by omega
     have hS := Lib.hid (szL_drop (sizeF n) most of j z hlt hq)
     have HC := Lib.hid (IH.out of[j] _ (wrap64 (most - z)) wr (hr.up (Below.refl _ _) hz))
     clear hr hbw
     go_wp2_with fail
     refine HC.out.mono ?_
     rintro e w3 ⟨rfl, hb4⟩
     have HB4 := Lib.hid (HBW.out.trans (hb4.mono hz))
     have hbox3 := (hb4.cell (p := ⟨w.heap.size, 2, none⟩) hsz).trans hbox
     have hsz3 : w.heap.size < w3.heap.size := by have := hb4.size; omega
     clear hb4
     go_wp2_with fail
     go_roundw
     case rel => exact ⟨j + 1, _, by omega, by go_num, rfl, HT.out.trans hS.out, HB4.out, hsz3, hbox3⟩
     case measure => simp [intOf]; omega
    ·have hS := Lib.hid (szL_stop (sizeF n) most (of.drop j) z hq)
     clear hbw
     go_wp2_with fail
     all_goals go_ret
     all_goals exact ⟨ret_i (by rw [HT.out, hS.out]), HBW.out⟩
   ·have hje : j = of.length := by omega
    subst hje
    have hS := Lib.hid (szL_end (sizeF n) most z of)
    clear hbw
    go_wp2_with fail
    all_goals go_ret
    all_goals exact ⟨ret_i (by rw [HT.out, hS.out]), HBW.out⟩
set_option maxRecDepth 100000 in
set_option maxHeartbeats 8000000 in
theorem size30_any (m n : Nat) : ∀ (t : XT m n) (v : Value) (most : Int) (w : World), XRep w w.heap.size m n t v →
 Calls Tryz.prog 35 #[v, .int .i64 most] w fun e w' => e = .returned (.int .i64 (sizeX n t most)) ∧ Below w.heap.size w w' := by
 induction n with
 | zero => intro t v most w h; exact h.elim
 | succ n ih =>
  intro t v most w h
  obtain ⟨k, is, of, lo, ls, hi, hs, op⟩ := t
  obtain ⟨a1, c1, a, c, rfl, hR1, hR⟩ := h
  dsimp only at hR hR1 ⊢
  have hm := hR.1
  have hm1 := hR1.1
  have HR := Lib.hid hR
  have HR1 := Lib.hid hR1
  have IH := Lib.hid ih
  have HE : Hid (szL (sizeF m) most is 1 = szL (sizeF m) most (is.drop 0) 1) := rfl
  have HE2 : Hid (sizeX (n + 1) ((k, is, of, ⟨lo, ls, hi, hs, op⟩) : XT m (n + 1)) most = szL (sizeX n) most (of.drop 0) (szL (sizeF m) most is 1)) := rfl
  have HZ : Hid (Below w.heap.size w (w.alloc (.cells #[.int .u8 k, .slice a1 is.length c1, .slice a of.length c, .int .i64 lo, .bool ls, .int .i64 hi, .bool hs, .bool op] 28))) := (Below.refl _ _).alloc (Nat.le_refl _) _
  clear hR hR1 ih
  go_enter Tryz.func35, Tryz.ntmps35
  go_wp2_with fail
  go_loopw [5, 6] (fun q i wr => ∃ (j : Nat) (z : Int), j ≤ is.length ∧ i = .int .i64 j ∧ q = .int .i64 z ∧ Hid (szL (sizeF m) most is 1 = szL (sizeF m) most (is.drop j) z) ∧ Below w.heap.size w wr ∧ w.heap.size < wr.heap.size ∧ wr.cell? ⟨w.heap.size, 1, none⟩ = some (.slice a1 is.length c1) ∧ wr.cell? ⟨w.heap.size, 2, none⟩ = some (.slice a of.length c)) (fun _ i _ => is.length - (intOf i).toNat)
  case atStart => exact ⟨0, _, Nat.zero_le _, rfl, rfl, HE, HZ.out, by simp, by simp [World.cell?_alloc_at], by simp [World.cell?_alloc_at]⟩
  case round =>
   obtain ⟨j, z, hj, rfl, rfl, HT, hbw, hsz, hbox, hbox2⟩ := hrel
   have HBW := Lib.hid hbw
   have HSTOP : Hid (∀ N1 : Int, szL (sizeF m) most is 1 = N1 → sizeX (n + 1) ((k, is, of, ⟨lo, ls, hi, hs, op⟩) : XT m (n + 1)) most = szL (sizeX n) most (of.drop 0) N1) := fun N1 h => by rw [HE2.out, h]
   by_cases hgo : j < is.length ∧ z ≤ most
   ·obtain ⟨hlt, hq⟩ := hgo
    obtain ⟨b, off, k', s', sa, sl, sc, rfl, hbl, c0, c1, c2, hr⟩ := (FRow.up HR1.out hbw (Nat.le_refl _)).at j hlt
    have hz := hbw.size
    have hbl' : b < wr.heap.size := by omega
    have hS := Lib.hid (szL_drop (sizeF m) most is j z hlt hq)
    have HC := Lib.hid (size49_any m is[j] _ (wrap64 (most - z)) wr (hr.up (Below.refl _ _) hz))
    clear hr hbw
    go_wp2_with fail
    refine HC.out.mono ?_
    rintro e w3 ⟨rfl, hb4⟩
    have HB4 := Lib.hid (HBW.out.trans (hb4.mono hz))
    have hbox3 := (hb4.cell (p := ⟨w.heap.size, 1, none⟩) hsz).trans hbox
    have hbox4 := (hb4.cell (p := ⟨w.heap.size, 2, none⟩) hsz).trans hbox2
    have hsz3 : w.heap.size < w3.heap.size := by have := hb4.size; omega
    clear hb4
    go_wp2_with fail
    go_roundw
    case rel => exact ⟨j + 1, _, by omega, by go_num, rfl, HT.out.trans hS.out, HB4.out, hsz3, hbox3, hbox4⟩
    case measure => simp [intOf]; omega
   ·have hS : Hid (szL (sizeF m) most (is.drop j) z = z) := by
     by_cases hlt : j < is.length
     ·exact szL_stop _ _ _ _ (fun hq => hgo ⟨hlt, hq⟩)
     ·obtain rfl : j = is.length := by omega
      exact szL_end _ _ _ _
    have HE3 := Lib.hid (HSTOP.out z (HT.out.trans hS.out))
    have hq : ¬ j < is.length ∨ (j < is.length ∧ ¬ z ≤ most) := by omega
    clear HE HE2 HSTOP HT hS hgo
    rcases hq with hq | ⟨hq, hq2⟩
    all_goals
     clear hbw
     go_wp2_with fail
     go_loopw [5, 7] (fun q i wr => ∃ (j : Nat) (z : Int), j ≤ of.length ∧ i = .int .i64 j ∧ q = .int .i64 z ∧ Hid (sizeX (n + 1) ((k, is, of, ⟨lo, ls, hi, hs, op⟩) : XT m (n + 1)) most = szL (sizeX n) most (of.drop j) z) ∧ Below w.heap.size w wr ∧ w.heap.size < wr.heap.size ∧ wr.cell? ⟨w.heap.size, 2, none⟩ = some (.slice a of.length c)) (fun _ i _ => of.length - (intOf i).toNat)
     case atStart => exact ⟨0, _, Nat.zero_le _, rfl, rfl, HE3, HBW.out, hsz, hbox2⟩
     case round =>
      clear hq hj
      try clear hq2
      clear HBW hsz hbox hbox2 HE3
      obtain ⟨j, z, hj, rfl, rfl, HT, hbw, hsz, hbox⟩ := hrel
      have HBW := Lib.hid hbw
      by_cases hlt : j < of.length
      ·by_cases hq : z ≤ most
       ·obtain ⟨b, off, k', a1', l1', c1', a2', l2', c2', lo', ls', hi', hs', op', rfl, hbl, c0, d1, c2, c3, c4, c5, c6, c7, hr⟩ := (XRow.up HR.out hbw (Nat.le_refl _)).at j hlt
        have hz := hbw.size
        have hbl' : b < wr.heap.size := by omega
        have hS := Lib.hid (szL_drop (sizeX n) most of j z hlt hq)
        have HC := Lib.hid (IH.out of[j] _ (wrap64 (most - z)) _ (hr.up (Below.refl _ _) hz))
        clear hr hbw
        go_wp2_with fail
        refine HC.out.mono ?_
        rintro e w3 ⟨rfl, hb4⟩
        have HB4 := Lib.hid (HBW.out.trans (hb4.mono hz))
        have hbox3 := (hb4.cell (p := ⟨w.heap.size, 2, none⟩) hsz).trans hbox
        have hsz3 : w.heap.size < w3.heap.size := by have := hb4.size; omega
        clear hb4
        go_wp2_with fail
        go_roundw
        case rel => exact ⟨j + 1, _, by omega, by go_num, rfl, HT.out.trans hS.out, HB4.out, hsz3, hbox3⟩
        case measure => simp [intOf]; omega
       ·have hS := Lib.hid (szL_stop (sizeX n) most (of.drop j) z hq)
        clear hbw
        go_wp2_with fail
        all_goals go_ret
        all_goals exact ⟨ret_i (by rw [HT.out, hS.out]), HBW.out⟩
      ·have hje : j = of.length := by omega
       subst hje
       have hS := Lib.hid (szL_end (sizeX n) most z of)
       clear hbw
       go_wp2_with fail
       all_goals go_ret
       all_goals exact ⟨ret_i (by rw [HT.out, hS.out]), HBW.out⟩
set_option maxRecDepth 100000 in
set_option maxHeartbeats 4000000 in
theorem great11_any (m n : Nat) (t : XT m n) (v : Value) (w : World) (h : XRep w w.heap.size m n t v) :
 Calls Tryz.prog 15 #[v] w fun e w' => e = .returned (.bool (decide (2000 < sizeX n t 2000))) ∧ Below w.heap.size w w' := by
 obtain ⟨k, a1, l1, c1, a, l, c, lo, ls, hi, hs, op, rfl⟩ := h.shape
 have hb : Below w.heap.size w (w.alloc (.cells #[.int .u8 k, .slice a1 l1 c1, .slice a l c, .int .i64 lo, .bool ls, .int .i64 hi, .bool hs, .bool op] 28)) := (Below.refl _ _).alloc (Nat.le_refl _) _
 have HC := Lib.hid (size30_any m n t _ 2000 _ (h.up hb hb.size))
 have HB := Lib.hid hb
 clear h hb
 go_enter Tryz.func15, Tryz.ntmps15
 go_wp2_with fail
 refine HC.out.mono ?_
 rintro e w1 ⟨rfl, hb1⟩
 have HB1 := Lib.hid (HB.out.trans (hb1.mono HB.out.size))
 clear hb1
 go_wp2_with fail
 all_goals go_ret
 all_goals exact ⟨rfl, HB1.out⟩
end Go.Proofs.YtpgdplmndnopbaaGreatDoor