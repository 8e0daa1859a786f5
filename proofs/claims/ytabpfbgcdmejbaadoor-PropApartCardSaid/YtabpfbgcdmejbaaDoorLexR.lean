/- lex.Name. -/
import Derived.Test.YtabpfbgcdmejbaaDoorLexQ
namespace Go.Proofs.YtabpfbgcdmejbaaDoor
open Go.RowKit Go.Shelf
attribute [local go_sem ↓] Go.wp_at_zero Go.wp_at_succ

def wordsL : List UInt8 := [32, 116, 114, 117, 101, 32, 102, 97, 108, 115, 101, 32, 111, 111, 32]
theorem words_fin : ∀ i : Fin 16, (wordsL.drop i.val).head? = some 32 → ((wordsL.drop i.val).drop 1).takeWhile (· != 32) = [] ∨ ((wordsL.drop i.val).drop 1).takeWhile (· != 32) = [116, 114, 117, 101] ∨ ((wordsL.drop i.val).drop 1).takeWhile (· != 32) = [102, 97, 108, 115, 101] ∨ ((wordsL.drop i.val).drop 1).takeWhile (· != 32) = [111, 111] := by decide
theorem takeWhile_sep (l x : List UInt8) (h : ∀ b ∈ l, b ≠ 32) : (l ++ 32 :: x).takeWhile (· != 32) = l := by
  induction l with
  | nil => simp
  | cons b r ih =>
    have hb : (b != 32) = true := by simpa using h b (by simp)
    rw [List.cons_append, List.takeWhile_cons, hb, if_pos rfl, ih (fun c hc => h c (by simp [hc]))]
theorem contains_word (l : List UInt8) (hne : l ≠ []) (h : ∀ b ∈ l, b ≠ 32) : Lib.contains wordsL (32 :: l ++ [32]) = (l == [116, 114, 117, 101] || l == [102, 97, 108, 115, 101] || l == [111, 111]) := by
  rw [Bool.eq_iff_iff]
  constructor
  · intro hc
    simp only [Lib.contains, decide_eq_true_eq] at hc
    rcases Lib.index_spec wordsL (32 :: l ++ [32]) with ⟨h1, _⟩ | ⟨i, _, h2, h3, _⟩
    · omega
    · simp only [Lib.occAt, List.isPrefixOf_iff_prefix] at h3
      obtain ⟨x, hx⟩ := h3
      have hf := words_fin ⟨i, by have : wordsL.length = 15 := rfl; omega⟩
      simp only at hf
      rw [← hx] at hf
      have h4 : List.takeWhile (fun b : UInt8 => b != 32) (List.drop 1 (32 :: l ++ [32] ++ x)) = l := by
        have : List.drop 1 (32 :: l ++ [32] ++ x) = l ++ 32 :: x := by simp
        rw [this, takeWhile_sep l x h]
      rw [h4] at hf
      rcases hf (by simp) with e | e | e | e
      · exact absurd e hne
      · simp [e]
      · simp [e]
      · simp [e]
  · intro hc
    simp only [Bool.or_eq_true, beq_iff_eq] at hc
    rcases hc with (e | e) | e <;> subst e <;> decide

theorem row_no_blank {l : List UInt8} (h : l.all isRow = true) : ∀ b ∈ l, b ≠ 32 := by
  rw [List.all_eq_true] at h
  rintro b hb rfl
  have := h 32 hb
  revert this; decide
theorem kindOf_one {l : List UInt8} : (kindOf l == 1) = wordB l := by
  rw [← kindB_eq]
  unfold kindB
  cases wordB l with
  | true => rfl
  | false =>
    cases numB l with
    | true => rfl
    | false => cases signB l <;> rfl
theorem wordB_row {l : List UInt8} (h : wordB l = true) : l ≠ [] ∧ l.all isRow = true ∧ l.length ≤ 8 := by
  simp only [wordB, Bool.and_eq_true, decide_eq_true_eq, beq_iff_eq] at h
  cases l with
  | nil => simp at h
  | cons b r =>
    refine ⟨by simp, ?_, h.1.1.2⟩
    have h1 : isLow b = true := by simpa using h.1.2
    have h2 : r.all isRow = true := by simpa using h.2
    simp only [List.all_cons, h2, isRow, h1, Bool.true_or, Bool.and_self]
theorem nameB_single (s : ByteArray) : nameB s.data.toList = ((singleR s).2 && ((singleR s).1.kind == 1) && !(Lib.contains wordsL (32 :: s.data.toList ++ [32]))) := by
  unfold singleR nameB
  by_cases hw : wordB s.data.toList = true
  · have hk := kindOf_one (l := s.data.toList)
    rw [hw] at hk
    have hk1 : kindOf s.data.toList = 1 := by simpa using hk
    obtain ⟨h1, h2, _⟩ := wordB_row hw
    rw [if_pos (by rw [hk1]; decide), contains_word _ h1 (row_no_blank h2), hw]
    simp only [hk1, bne, Bool.true_and, beq_self_eq_true, Bool.not_or]
  · have hw' : wordB s.data.toList = false := by simpa using hw
    have hk := kindOf_one (l := s.data.toList)
    rw [hw'] at hk
    rw [hw']
    split
    · simp only [hk]; simp
    · simp

set_option maxRecDepth 100000 in
set_option maxHeartbeats 4000000 in
theorem name19_any (s : ByteArray) (hs : s.size ≤ 1048576) (w : World) (hr : Rdy w) : Calls Tryd.prog 46 #[.string s] w fun e w' =>
    e = .returned (.bool (nameB s.data.toList)) ∧ Below w.heap.size w w' := by
  have HSI := Lib.hid (single38_any s w hr)
  have HE := Lib.hid (nameB_single s)
  have hadd1 : ∀ W, (Op.stringOp .add ⟨#[32]⟩ s).run Tryd.prog W = .ok (.string (⟨#[32]⟩ ++ s)) W := fun W => run_string_add_sum W _ s (by show 1 + s.size ≤ _; omega)
  have hsz : ((⟨#[32]⟩ : ByteArray) ++ s).size = 1 + s.size := by rw [ByteArray.size_append]; rfl
  have hadd2 : ∀ W, (Op.stringOp .add (⟨#[32]⟩ ++ s) ⟨#[32]⟩).run Tryd.prog W = .ok (.string (⟨#[32]⟩ ++ s ++ ⟨#[32]⟩)) W := fun W => run_string_add_sum W _ _ (by rw [hsz]; show 1 + s.size + 1 ≤ _; omega)
  have hL : ((⟨#[32]⟩ : ByteArray) ++ s ++ ⟨#[32]⟩).data.toList = 32 :: s.data.toList ++ [32] := by simp [ByteArray.data_append]
  have HC : Hid (∀ W, Rdy W → Calls Tryd.prog 61 #[.string ⟨#[32, 116, 114, 117, 101, 32, 102, 97, 108, 115, 101, 32, 111, 111, 32]⟩, .string (⟨#[32]⟩ ++ s ++ ⟨#[32]⟩)] W fun e w' => e = .returned (.bool (Lib.contains wordsL (32 :: s.data.toList ++ [32]))) ∧ w' = W) := by
    intro W hW
    obtain ⟨m, hm⟩ := hW.1
    have := Tryd.strings_Contains ⟨#[32, 116, 114, 117, 101, 32, 102, 97, 108, 115, 101, 32, 111, 111, 32]⟩ (⟨#[32]⟩ ++ s ++ ⟨#[32]⟩) m W (by decide) hm
    rw [hL] at this
    exact this
  have HR := Lib.hid hr
  clear hr hsz hL
  generalize (⟨#[32]⟩ : ByteArray) ++ s ++ ⟨#[32]⟩ = Y at hadd2 HC
  generalize (⟨#[32]⟩ : ByteArray) ++ s = X at hadd1 hadd2
  generalize singleR s = S at HSI HE
  obtain ⟨⟨sk, st, sp⟩, ok⟩ := S
  dsimp only [Tok.val] at HSI HE
  generalize Lib.contains wordsL (32 :: s.data.toList ++ [32]) = C at HC HE
  go_enter Tryd.func46, Tryd.ntmps46
  go_wp2_with fail
  refine HSI.out.mono ?_
  rintro e w1 ⟨rfl, hb1⟩
  have HRW := Lib.hid (HR.out.below hb1)
  have HB := Lib.hid (hb1.alloc hb1.size (.cells #[.int .u8 sk, .string st, .int .i64 sp] 80))
  clear hb1
  cases ok with
  | false =>
    go_wp2_with fail
    all_goals go_ret
    all_goals exact ⟨ret_bool' (by rw [HE.out]; rfl), HB.out⟩
  | true =>
    cases hk : sk == 1 with
    | false =>
      go_wp2_with fail
      all_goals go_ret
      all_goals exact ⟨ret_bool' (by rw [HE.out, hk]; rfl), HB.out⟩
    | true =>
      have HK := Lib.hid hk
      have HCA := Lib.hid (HC.out (w1.alloc (.cells #[.int .u8 sk, .string st, .int .i64 sp] 80)) (HRW.out.below ((Below.refl _ w1).alloc (Nat.le_refl _) _)))
      go_wp2_with (go_at_call 61; refine HCA.out.mono ?_; rintro e w2 ⟨rfl, rfl⟩)
      all_goals go_ret
      all_goals exact ⟨ret_bool' (by rw [HE.out, HK.out]; simp), HB.out⟩
end Go.Proofs.YtabpfbgcdmejbaaDoor
