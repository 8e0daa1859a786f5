/- lex.single, lex.may, lex.Near. -/
import Derived.Test.YtockinpjfhhkoaaGreatDoorMgH
namespace Go.Proofs.YtockinpjfhhkoaaGreatDoor
open Go.RowKit Go.Shelf
attribute [local go_sem ↓] Go.wp_at_zero Go.wp_at_succ

theorem singleR_no {s : ByteArray} (h : ∀ t, (cutR s).2.2 = 0 → (cutR s).1 = [t] → t.text ≠ s) : singleR s = (noTok, false) := by
  unfold singleR
  by_cases hk : kindOf s.data.toList = 0
  · simp [hk]
  · exfalso
    have h1 := (cut_single s.data.toList [⟨kindOf s.data.toList, bsOf s.data.toList, 0⟩]).2 ⟨hk, rfl⟩
    have hz := kind_size hk
    have h2 : cutR s = ([⟨kindOf s.data.toList, bsOf s.data.toList, 0⟩], 0, 0) := by rw [cutR, if_neg (by omega), h1.1]
    exact h _ (by rw [h2]) (by rw [h2]) (bsOf_of s)
theorem singleR_yes {s : ByteArray} (t : Tok) (h0 : (cutR s).2.2 = 0) (h1 : (cutR s).1 = [t]) (h2 : t.text = s) : singleR s = (t, true) := by
  obtain ⟨_, hc, _⟩ := cutR_ok h0
  rw [h1] at hc
  have := (cut_single s.data.toList [t]).1 ⟨hc, rfl, by rw [List.head?_cons, Option.map_some, h2, bsOf_of]⟩
  unfold singleR
  rw [if_pos this.1]
  have ht := (List.cons.inj this.2).1
  rw [ht, bsOf_of]

set_option maxRecDepth 100000 in
set_option maxHeartbeats 4000000 in
theorem single38_any (s : ByteArray) (w : World) (hr : Rdy w) : Calls Tryz.prog 204 #[.string s] w fun e w' =>
    e = .returned (.tuple #[(singleR s).1.val, .bool (singleR s).2]) ∧ Below w.heap.size w w' := by
  have HCUT := Lib.hid (cut9_any s (w.alloc (.cells #[.int .u8 0, .string .empty, .int .i64 0] 194)) (hr.below ((Below.refl _ w).alloc (Nat.le_refl _) _)))
  have hz : (w.alloc (.cells #[.int .u8 0, .string .empty, .int .i64 0] 194)).heap.size = w.heap.size + 1 := by simp
  have HN := Lib.hid (@singleR_no s)
  have HY := Lib.hid (@singleR_yes s)
  have HRR : Hid (∀ t b, singleR s = (t, b) → (Ending.returned (.tuple #[t.val, .bool b]) : Ending) = .returned (.tuple #[(singleR s).1.val, .bool (singleR s).2])) := by rintro t b h; rw [h]
  generalize cutR s = C at HCUT HN HY
  obtain ⟨l, at_, er⟩ := C
  dsimp only at HCUT HN HY
  go_enter Tryz.func204, Tryz.ntmps204
  go_wp2_with fail
  refine HCUT.out.mono ?_
  rintro e w1 ⟨⟨v', rfl, hown⟩, hb1⟩
  have hbw : Below w.heap.size w w1 := ((Below.refl _ w).alloc (Nat.le_refl _) _).trans (hb1.mono (by rw [hz]; omega))
  have hblk : w1.heap[w.heap.size]? = some (.cells #[.int .u8 0, .string .empty, .int .i64 0] 194 (0, 0)) := by
    rw [hb1.block w.heap.size (by rw [hz]; omega)]
    exact Array.getElem?_push_size
  have HBW := Lib.hid hbw
  have HBL := Lib.hid hblk
  clear hbw hblk hb1 hz
  by_cases her : er = 0
  · subst her
    by_cases hln : l.length = 1
    · obtain ⟨t, rfl⟩ : ∃ t, l = [t] := List.length_eq_one_iff.1 hln
      obtain ⟨g, cp, rfl, _, hgl, hc, _, _⟩ := hown.at (by simp)
      have h3 := hc 0 (by simp)
      simp only [List.getElem_cons_zero, Nat.zero_mul, Nat.zero_add, Nat.add_zero] at h3
      obtain ⟨g0, g1, g2⟩ := h3
      have hln1 : ((([t] : List Tok).length : Int) != 1) = false := by simp
      simp only [List.length_cons, List.length_nil, Nat.zero_add] at *
      obtain ⟨tk, tt, tp⟩ := t
      dsimp only at g0 g1 g2
      clear hc hown
      by_cases hx : tt = s
      · have HF : Hid (singleR s = (⟨tk, tt, tp⟩, true)) := HY.out _ (by trivial) rfl hx
        have HX := Lib.hid hx
        have q : (tt.toList == s.toList) = true := by rw [hx]; simp
        clear hx
        have c0 := Lib.cell_of_heap HBL.out 0
        have c1 := Lib.cell_of_heap HBL.out 1
        have c2 := Lib.cell_of_heap HBL.out 2
        have f0 := Lib.frozen_of_heap HBL.out 0
        have f1 := Lib.frozen_of_heap HBL.out 1
        have f2 := Lib.frozen_of_heap HBL.out 2
        simp only [List.getElem?_toArray, List.getElem?_cons_zero, List.getElem?_cons_succ] at c0 c1 c2
        go_wp2_with fail
        obtain ⟨k0, k1, k2⟩ := set3_cells HBL.out (.int .u8 tk) (.string tt) (.int .i64 tp)
        exact bodyPost_ret (results_row_tmp rfl rfl rfl (Tryz.isAgg194 _) (Tryz.sizeOf194 _) k0 k1 k2) rfl ⟨by rw [← HRR.out _ _ HF.out]; rfl, set3_below HBW.out (Nat.le_refl _) _ _ _⟩
      · have HF : Hid (singleR s = (noTok, false)) := HN.out (fun t _ h => by rw [← (List.cons.inj h).1]; exact hx)
        have q : (tt.toList == s.toList) = false := by simpa using fun h => hx (toList_inj h)
        clear hx
        have c0 := Lib.cell_of_heap HBL.out 0
        have c1 := Lib.cell_of_heap HBL.out 1
        have c2 := Lib.cell_of_heap HBL.out 2
        have f0 := Lib.frozen_of_heap HBL.out 0
        have f1 := Lib.frozen_of_heap HBL.out 1
        have f2 := Lib.frozen_of_heap HBL.out 2
        simp only [List.getElem?_toArray, List.getElem?_cons_zero, List.getElem?_cons_succ] at c0 c1 c2
        go_wp2_with fail
        obtain ⟨k0, k1, k2⟩ := set3_cells HBL.out (.int .u8 0) (.string .empty) (.int .i64 0)
        exact bodyPost_ret (results_row_tmp rfl rfl rfl (Tryz.isAgg194 _) (Tryz.sizeOf194 _) k0 k1 k2) rfl ⟨by rw [← HRR.out _ _ HF.out]; rfl, set3_below HBW.out (Nat.le_refl _) _ _ _⟩
    · have HF : Hid (singleR s = (noTok, false)) := HN.out (fun t _ h => by rw [h] at hln; exact absurd rfl hln)
      obtain ⟨a9, c9, rfl⟩ := hown.shape
      have q : ((l.length : Int) == 1) = false := by simp; omega
      have q2 : ((l.length : Int) != 1) = true := by simp; omega
      clear hln hown
      have c0 := Lib.cell_of_heap HBL.out 0
      have c1 := Lib.cell_of_heap HBL.out 1
      have c2 := Lib.cell_of_heap HBL.out 2
      have f0 := Lib.frozen_of_heap HBL.out 0
      have f1 := Lib.frozen_of_heap HBL.out 1
      have f2 := Lib.frozen_of_heap HBL.out 2
      simp only [List.getElem?_toArray, List.getElem?_cons_zero, List.getElem?_cons_succ] at c0 c1 c2
      go_wp2_with fail
      obtain ⟨k0, k1, k2⟩ := set3_cells HBL.out (.int .u8 0) (.string .empty) (.int .i64 0)
      exact bodyPost_ret (results_row_tmp rfl rfl rfl (Tryz.isAgg194 _) (Tryz.sizeOf194 _) k0 k1 k2) rfl ⟨by rw [← HRR.out _ _ HF.out]; rfl, set3_below HBW.out (Nat.le_refl _) _ _ _⟩
  · have HF : Hid (singleR s = (noTok, false)) := HN.out (fun t h _ => absurd h her)
    have q : (er == 0) = false := by simpa using her
    have q2 : (er != 0) = true := by simpa using her
    clear her hown
    have c0 := Lib.cell_of_heap HBL.out 0
    have c1 := Lib.cell_of_heap HBL.out 1
    have c2 := Lib.cell_of_heap HBL.out 2
    have f0 := Lib.frozen_of_heap HBL.out 0
    have f1 := Lib.frozen_of_heap HBL.out 1
    have f2 := Lib.frozen_of_heap HBL.out 2
    simp only [List.getElem?_toArray, List.getElem?_cons_zero, List.getElem?_cons_succ] at c0 c1 c2
    go_wp2_with fail
    obtain ⟨k0, k1, k2⟩ := set3_cells HBL.out (.int .u8 0) (.string .empty) (.int .i64 0)
    exact bodyPost_ret (results_row_tmp rfl rfl rfl (Tryz.isAgg194 _) (Tryz.sizeOf194 _) k0 k1 k2) rfl ⟨by rw [← HRR.out _ _ HF.out]; rfl, set3_below HBW.out (Nat.le_refl _) _ _ _⟩

theorem mayTk_eq (k p : Int) (s : ByteArray) : mayTk k s.data.toList p = ((singleR s).2 && ((singleR s).1.kind == k) && decide (0 ≤ p)) := by
  unfold mayTk singleR
  rw [kindB_eq]
  by_cases hk : kindOf s.data.toList = 0
  · simp only [hk, ne_eq, not_true_eq_false, if_false, Bool.false_and]
    by_cases h0 : k = 0
    · simp [h0]
    · simp [h0]
  · simp only [ne_eq, hk, not_false_eq_true, if_true, Bool.true_and]
    by_cases h0 : kindOf s.data.toList = k
    · subst h0; simp [hk]
    · have : (k == kindOf s.data.toList) = false := by simpa using fun h => h0 h.symm
      have h2 : (kindOf s.data.toList == k) = false := by simpa using h0
      rw [this, h2]; simp

end Go.Proofs.YtockinpjfhhkoaaGreatDoor

/- lex.Name. -/
namespace Go.Proofs.YtockinpjfhhkoaaGreatDoor
open Go.RowKit Go.Shelf
attribute [local go_sem ↓] Go.wp_at_zero Go.wp_at_succ

def wordsL : List UInt8 := [32, 116, 114, 117, 101, 32, 102, 97, 108, 115, 101, 32, 111, 111, 32]
theorem words_fin : ∀ i : Fin 16, (wordsL.drop i.val).head? = some 32 → ((wordsL.drop i.val).drop 1).takeWhile (· != 32) = [] ∨ ((wordsL.drop i.val).drop 1).takeWhile (· != 32) = [116, 114, 117, 101] ∨ ((wordsL.drop i.val).drop 1).takeWhile (· != 32) = [102, 97, 108, 115, 101] ∨ ((wordsL.drop i.val).drop 1).takeWhile (· != 32) = [111, 111] := by decide
theorem takeWhile_sep (l x : List UInt8) (h : ∀ b ∈ l, b ≠ 32) : (l ++ 32 :: x).takeWhile (· != 32) = l := by
  induction l with
  | nil => simp
  | cons b r ih =>
    have hb : (b != 32) = true := by simpa using h b (by simp)
    rw [List.cons_append, List.takeWhile_cons, hb, if_pos rfl, ih (fun c hc => h c (by simp [hc]))]
theorem contains_word (l : List UInt8) (hne : l ≠ []) (h : ∀ b ∈ l, b ≠ 32) : Lib.contains wordsL (32 :: l ++ [32]) = (l == [116, 114, 117, 101] || l == [102, 97, 108, 115, 101] || l == [111, 111]) := by
  rw [Bool.eq_iff_iff]
  constructor
  · intro hc
    simp only [Lib.contains, decide_eq_true_eq] at hc
    rcases Lib.index_spec wordsL (32 :: l ++ [32]) with ⟨h1, _⟩ | ⟨i, _, h2, h3, _⟩
    · omega
    · simp only [Lib.occAt, List.isPrefixOf_iff_prefix] at h3
      obtain ⟨x, hx⟩ := h3
      have hf := words_fin ⟨i, by have : wordsL.length = 15 := rfl; omega⟩
      simp only at hf
      rw [← hx] at hf
      have h4 : List.takeWhile (fun b : UInt8 => b != 32) (List.drop 1 (32 :: l ++ [32] ++ x)) = l := by
        have : List.drop 1 (32 :: l ++ [32] ++ x) = l ++ 32 :: x := by simp
        rw [this, takeWhile_sep l x h]
      rw [h4] at hf
      rcases hf (by simp) with e | e | e | e
      · exact absurd e hne
      · simp [e]
      · simp [e]
      · simp [e]
  · intro hc
    simp only [Bool.or_eq_true, beq_iff_eq] at hc
    rcases hc with (e | e) | e <;> subst e <;> decide

theorem row_no_blank {l : List UInt8} (h : l.all isRow = true) : ∀ b ∈ l, b ≠ 32 := by
  rw [List.all_eq_true] at h
  rintro b hb rfl
  have := h 32 hb
  revert this; decide
theorem kindOf_one {l : List UInt8} : (kindOf l == 1) = wordB l := by
  rw [← kindB_eq]
  unfold kindB
  cases wordB l with
  | true => rfl
  | false =>
    cases numB l with
    | true => rfl
    | false => cases signB l <;> rfl
theorem wordB_row {l : List UInt8} (h : wordB l = true) : l ≠ [] ∧ l.all isRow = true ∧ l.length ≤ 8 := by
  simp only [wordB, Bool.and_eq_true, decide_eq_true_eq, beq_iff_eq] at h
  cases l with
  | nil => simp at h
  | cons b r =>
    refine ⟨by simp, ?_, h.1.1.2⟩
    have h1 : isLow b = true := by simpa using h.1.2
    have h2 : r.all isRow = true := by simpa using h.2
    simp only [List.all_cons, h2, isRow, h1, Bool.true_or, Bool.and_self]
theorem nameB_single (s : ByteArray) : nameB s.data.toList = ((singleR s).2 && ((singleR s).1.kind == 1) && !(Lib.contains wordsL (32 :: s.data.toList ++ [32]))) := by
  unfold singleR nameB
  by_cases hw : wordB s.data.toList = true
  · have hk := kindOf_one (l := s.data.toList)
    rw [hw] at hk
    have hk1 : kindOf s.data.toList = 1 := by simpa using hk
    obtain ⟨h1, h2, _⟩ := wordB_row hw
    rw [if_pos (by rw [hk1]; decide), contains_word _ h1 (row_no_blank h2), hw]
    simp only [hk1, bne, Bool.true_and, beq_self_eq_true, Bool.not_or]
  · have hw' : wordB s.data.toList = false := by simpa using hw
    have hk := kindOf_one (l := s.data.toList)
    rw [hw'] at hk
    rw [hw']
    split
    · simp only [hk]; simp
    · simp

set_option maxRecDepth 100000 in
set_option maxHeartbeats 4000000 in
theorem name19_any (s : ByteArray) (hs : s.size ≤ 1048576) (w : World) (hr : Rdy w) : Calls Tryz.prog 136 #[.string s] w fun e w' =>
    e = .returned (.bool (nameB s.data.toList)) ∧ Below w.heap.size w w' := by
  have HSI := Lib.hid (single38_any s w hr)
  have HE := Lib.hid (nameB_single s)
  have hadd1 : ∀ W, (Op.stringOp .add ⟨#[32]⟩ s).run Tryz.prog W = .ok (.string (⟨#[32]⟩ ++ s)) W := fun W => run_string_add_sum W _ s (by show 1 + s.size ≤ _; omega)
  have hsz : ((⟨#[32]⟩ : ByteArray) ++ s).size = 1 + s.size := by rw [ByteArray.size_append]; rfl
  have hadd2 : ∀ W, (Op.stringOp .add (⟨#[32]⟩ ++ s) ⟨#[32]⟩).run Tryz.prog W = .ok (.string (⟨#[32]⟩ ++ s ++ ⟨#[32]⟩)) W := fun W => run_string_add_sum W _ _ (by rw [hsz]; show 1 + s.size + 1 ≤ _; omega)
  have hL : ((⟨#[32]⟩ : ByteArray) ++ s ++ ⟨#[32]⟩).data.toList = 32 :: s.data.toList ++ [32] := by simp [ByteArray.data_append]
  have HC : Hid (∀ W, Rdy W → Calls Tryz.prog 205 #[.string ⟨#[32, 116, 114, 117, 101, 32, 102, 97, 108, 115, 101, 32, 111, 111, 32]⟩, .string (⟨#[32]⟩ ++ s ++ ⟨#[32]⟩)] W fun e w' => e = .returned (.bool (Lib.contains wordsL (32 :: s.data.toList ++ [32]))) ∧ w' = W) := by
    intro W hW
    obtain ⟨m, hm⟩ := hW.1
    have := Tryz.strings_Contains ⟨#[32, 116, 114, 117, 101, 32, 102, 97, 108, 115, 101, 32, 111, 111, 32]⟩ (⟨#[32]⟩ ++ s ++ ⟨#[32]⟩) m W (by decide) hm
    rw [hL] at this
    exact this
  have HR := Lib.hid hr
  clear hr hsz hL
  generalize (⟨#[32]⟩ : ByteArray) ++ s ++ ⟨#[32]⟩ = Y at hadd2 HC
  generalize (⟨#[32]⟩ : ByteArray) ++ s = X at hadd1 hadd2
  generalize singleR s = S at HSI HE
  obtain ⟨⟨sk, st, sp⟩, ok⟩ := S
  dsimp only [Tok.val] at HSI HE
  generalize Lib.contains wordsL (32 :: s.data.toList ++ [32]) = C at HC HE
  go_enter Tryz.func136, Tryz.ntmps136
  go_wp2_with fail
  refine HSI.out.mono ?_
  rintro e w1 ⟨rfl, hb1⟩
  have HRW := Lib.hid (HR.out.below hb1)
  have HB := Lib.hid (hb1.alloc hb1.size (.cells #[.int .u8 sk, .string st, .int .i64 sp] 194))
  clear hb1
  cases ok with
  | false =>
    go_wp2_with fail
    all_goals go_ret
    all_goals exact ⟨ret_bool' (by rw [HE.out]; rfl), HB.out⟩
  | true =>
    cases hk : sk == 1 with
    | false =>
      go_wp2_with fail
      all_goals go_ret
      all_goals exact ⟨ret_bool' (by rw [HE.out, hk]; rfl), HB.out⟩
    | true =>
      have HK := Lib.hid hk
      have HCA := Lib.hid (HC.out (w1.alloc (.cells #[.int .u8 sk, .string st, .int .i64 sp] 194)) (HRW.out.below ((Below.refl _ w1).alloc (Nat.le_refl _) _)))
      go_wp2_with (go_at_call 205; refine HCA.out.mono ?_; rintro e w2 ⟨rfl, rfl⟩)
      all_goals go_ret
      all_goals exact ⟨ret_bool' (by rw [HE.out, HK.out]; simp), HB.out⟩
end Go.Proofs.YtockinpjfhhkoaaGreatDoor
