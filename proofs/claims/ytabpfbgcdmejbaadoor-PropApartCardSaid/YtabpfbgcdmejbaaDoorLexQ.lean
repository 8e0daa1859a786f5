/- lex.single, lex.may, lex.Near. -/
import Derived.Test.YtabpfbgcdmejbaaDoorLexP
namespace Go.Proofs.YtabpfbgcdmejbaaDoor
open Go.RowKit Go.Shelf
attribute [local go_sem ↓] Go.wp_at_zero Go.wp_at_succ

theorem singleR_no {s : ByteArray} (h : ∀ t, (cutR s).2.2 = 0 → (cutR s).1 = [t] → t.text ≠ s) : singleR s = (noTok, false) := by
  unfold singleR
  by_cases hk : kindOf s.data.toList = 0
  · simp [hk]
  · exfalso
    have h1 := (cut_single s.data.toList [⟨kindOf s.data.toList, bsOf s.data.toList, 0⟩]).2 ⟨hk, rfl⟩
    have hz := kind_size hk
    have h2 : cutR s = ([⟨kindOf s.data.toList, bsOf s.data.toList, 0⟩], 0, 0) := by rw [cutR, if_neg (by omega), h1.1]
    exact h _ (by rw [h2]) (by rw [h2]) (bsOf_of s)
theorem singleR_yes {s : ByteArray} (t : Tok) (h0 : (cutR s).2.2 = 0) (h1 : (cutR s).1 = [t]) (h2 : t.text = s) : singleR s = (t, true) := by
  obtain ⟨_, hc, _⟩ := cutR_ok h0
  rw [h1] at hc
  have := (cut_single s.data.toList [t]).1 ⟨hc, rfl, by rw [List.head?_cons, Option.map_some, h2, bsOf_of]⟩
  unfold singleR
  rw [if_pos this.1]
  have ht := (List.cons.inj this.2).1
  rw [ht, bsOf_of]

set_option maxRecDepth 100000 in
set_option maxHeartbeats 4000000 in
theorem single38_any (s : ByteArray) (w : World) (hr : Rdy w) : Calls Tryd.prog 60 #[.string s] w fun e w' =>
    e = .returned (.tuple #[(singleR s).1.val, .bool (singleR s).2]) ∧ Below w.heap.size w w' := by
  have HCUT := Lib.hid (cut9_any s (w.alloc (.cells #[.int .u8 0, .string .empty, .int .i64 0] 80)) (hr.below ((Below.refl _ w).alloc (Nat.le_refl _) _)))
  have hz : (w.alloc (.cells #[.int .u8 0, .string .empty, .int .i64 0] 80)).heap.size = w.heap.size + 1 := by simp
  have HN := Lib.hid (@singleR_no s)
  have HY := Lib.hid (@singleR_yes s)
  have HRR : Hid (∀ t b, singleR s = (t, b) → (Ending.returned (.tuple #[t.val, .bool b]) : Ending) = .returned (.tuple #[(singleR s).1.val, .bool (singleR s).2])) := by rintro t b h; rw [h]
  generalize cutR s = C at HCUT HN HY
  obtain ⟨l, at_, er⟩ := C
  dsimp only at HCUT HN HY
  go_enter Tryd.func60, Tryd.ntmps60
  go_wp2_with fail
  refine HCUT.out.mono ?_
  rintro e w1 ⟨⟨v', rfl, hown⟩, hb1⟩
  have hbw : Below w.heap.size w w1 := ((Below.refl _ w).alloc (Nat.le_refl _) _).trans (hb1.mono (by rw [hz]; omega))
  have hblk : w1.heap[w.heap.size]? = some (.cells #[.int .u8 0, .string .empty, .int .i64 0] 80 (0, 0)) := by
    rw [hb1.block w.heap.size (by rw [hz]; omega)]
    exact Array.getElem?_push_size
  have HBW := Lib.hid hbw
  have HBL := Lib.hid hblk
  clear hbw hblk hb1 hz
  by_cases her : er = 0
  · subst her
    by_cases hln : l.length = 1
    · obtain ⟨t, rfl⟩ : ∃ t, l = [t] := List.length_eq_one_iff.1 hln
      obtain ⟨g, cp, rfl, _, hgl, hc, _, _⟩ := hown.at (by simp)
      have h3 := hc 0 (by simp)
      simp only [List.getElem_cons_zero, Nat.zero_mul, Nat.zero_add, Nat.add_zero] at h3
      obtain ⟨g0, g1, g2⟩ := h3
      have hln1 : ((([t] : List Tok).length : Int) != 1) = false := by simp
      simp only [List.length_cons, List.length_nil, Nat.zero_add] at *
      obtain ⟨tk, tt, tp⟩ := t
      dsimp only at g0 g1 g2
      clear hc hown
      by_cases hx : tt = s
      · have HF : Hid (singleR s = (⟨tk, tt, tp⟩, true)) := HY.out _ (by trivial) rfl hx
        have HX := Lib.hid hx
        have q : (tt.toList == s.toList) = true := by rw [hx]; simp
        clear hx
        have c0 := Lib.cell_of_heap HBL.out 0
        have c1 := Lib.cell_of_heap HBL.out 1
        have c2 := Lib.cell_of_heap HBL.out 2
        have f0 := Lib.frozen_of_heap HBL.out 0
        have f1 := Lib.frozen_of_heap HBL.out 1
        have f2 := Lib.frozen_of_heap HBL.out 2
        simp only [List.getElem?_toArray, List.getElem?_cons_zero, List.getElem?_cons_succ] at c0 c1 c2
        go_wp2_with fail
        obtain ⟨k0, k1, k2⟩ := set3_cells HBL.out (.int .u8 tk) (.string tt) (.int .i64 tp)
        exact bodyPost_ret (results_row_tmp rfl rfl rfl (Tryd.isAgg80 _) (Tryd.sizeOf80 _) k0 k1 k2) rfl ⟨by rw [← HRR.out _ _ HF.out]; rfl, set3_below HBW.out (Nat.le_refl _) _ _ _⟩
      · have HF : Hid (singleR s = (noTok, false)) := HN.out (fun t _ h => by rw [← (List.cons.inj h).1]; exact hx)
        have q : (tt.toList == s.toList) = false := by simpa using fun h => hx (toList_inj h)
        clear hx
        have c0 := Lib.cell_of_heap HBL.out 0
        have c1 := Lib.cell_of_heap HBL.out 1
        have c2 := Lib.cell_of_heap HBL.out 2
        have f0 := Lib.frozen_of_heap HBL.out 0
        have f1 := Lib.frozen_of_heap HBL.out 1
        have f2 := Lib.frozen_of_heap HBL.out 2
        simp only [List.getElem?_toArray, List.getElem?_cons_zero, List.getElem?_cons_succ] at c0 c1 c2
        go_wp2_with fail
        obtain ⟨k0, k1, k2⟩ := set3_cells HBL.out (.int .u8 0) (.string .empty) (.int .i64 0)
        exact bodyPost_ret (results_row_tmp rfl rfl rfl (Tryd.isAgg80 _) (Tryd.sizeOf80 _) k0 k1 k2) rfl ⟨by rw [← HRR.out _ _ HF.out]; rfl, set3_below HBW.out (Nat.le_refl _) _ _ _⟩
    · have HF : Hid (singleR s = (noTok, false)) := HN.out (fun t _ h => by rw [h] at hln; exact absurd rfl hln)
      obtain ⟨a9, c9, rfl⟩ := hown.shape
      have q : ((l.length : Int) == 1) = false := by simp; omega
      have q2 : ((l.length : Int) != 1) = true := by simp; omega
      clear hln hown
      have c0 := Lib.cell_of_heap HBL.out 0
      have c1 := Lib.cell_of_heap HBL.out 1
      have c2 := Lib.cell_of_heap HBL.out 2
      have f0 := Lib.frozen_of_heap HBL.out 0
      have f1 := Lib.frozen_of_heap HBL.out 1
      have f2 := Lib.frozen_of_heap HBL.out 2
      simp only [List.getElem?_toArray, List.getElem?_cons_zero, List.getElem?_cons_succ] at c0 c1 c2
      go_wp2_with fail
      obtain ⟨k0, k1, k2⟩ := set3_cells HBL.out (.int .u8 0) (.string .empty) (.int .i64 0)
      exact bodyPost_ret (results_row_tmp rfl rfl rfl (Tryd.isAgg80 _) (Tryd.sizeOf80 _) k0 k1 k2) rfl ⟨by rw [← HRR.out _ _ HF.out]; rfl, set3_below HBW.out (Nat.le_refl _) _ _ _⟩
  · have HF : Hid (singleR s = (noTok, false)) := HN.out (fun t h _ => absurd h her)
    have q : (er == 0) = false := by simpa using her
    have q2 : (er != 0) = true := by simpa using her
    clear her hown
    have c0 := Lib.cell_of_heap HBL.out 0
    have c1 := Lib.cell_of_heap HBL.out 1
    have c2 := Lib.cell_of_heap HBL.out 2
    have f0 := Lib.frozen_of_heap HBL.out 0
    have f1 := Lib.frozen_of_heap HBL.out 1
    have f2 := Lib.frozen_of_heap HBL.out 2
    simp only [List.getElem?_toArray, List.getElem?_cons_zero, List.getElem?_cons_succ] at c0 c1 c2
    go_wp2_with fail
    obtain ⟨k0, k1, k2⟩ := set3_cells HBL.out (.int .u8 0) (.string .empty) (.int .i64 0)
    exact bodyPost_ret (results_row_tmp rfl rfl rfl (Tryd.isAgg80 _) (Tryd.sizeOf80 _) k0 k1 k2) rfl ⟨by rw [← HRR.out _ _ HF.out]; rfl, set3_below HBW.out (Nat.le_refl _) _ _ _⟩

theorem mayB_eq (k p : Int) (s : ByteArray) : mayB k s.data.toList p = ((singleR s).2 && ((singleR s).1.kind == k) && decide (0 ≤ p)) := by
  unfold mayB singleR
  rw [kindB_eq]
  by_cases hk : kindOf s.data.toList = 0
  · simp only [hk, ne_eq, not_true_eq_false, if_false, Bool.false_and]
    by_cases h0 : k = 0
    · simp [h0]
    · simp [h0]
  · simp only [ne_eq, hk, not_false_eq_true, if_true, Bool.true_and]
    by_cases h0 : kindOf s.data.toList = k
    · subst h0; simp [hk]
    · have : (k == kindOf s.data.toList) = false := by simpa using fun h => h0 h.symm
      have h2 : (kindOf s.data.toList == k) = false := by simpa using h0
      rw [this, h2]; simp

end Go.Proofs.YtabpfbgcdmejbaaDoor
