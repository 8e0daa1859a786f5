/- The book's words, numbers, signs, neighbours are those of the plain cut: no program in sight. -/
import Derived.Test.YtabpfbgcdmejbaaDoorLexD
namespace Go.Proofs.YtabpfbgcdmejbaaDoor
open Go.RowKit Go.Shelf

theorem byte_eq (b : UInt8) : b = UInt8.ofNat b.toNat := by simp
theorem sign_row_fin : ∀ i : Fin 256, (isSign (UInt8.ofNat i.val) = true → isRow (UInt8.ofNat i.val) = false) ∧ signB [UInt8.ofNat i.val] = isSign (UInt8.ofNat i.val) ∧ (twin (UInt8.ofNat i.val) = (UInt8.ofNat i.val == 124 || UInt8.ofNat i.val == 38)) ∧ (twin (UInt8.ofNat i.val) = true → isSign (UInt8.ofNat i.val) = true) ∧ (isSign (UInt8.ofNat i.val) = true → isBlank (UInt8.ofNat i.val) = false) ∧ (isRow (UInt8.ofNat i.val) = true → isBlank (UInt8.ofNat i.val) = false) := by decide +kernel
theorem sign_row (b : UInt8) : (isSign b = true → isRow b = false) ∧ signB [b] = isSign b ∧ (twin b = (b == 124 || b == 38)) ∧ (twin b = true → isSign b = true) ∧ (isSign b = true → isBlank b = false) ∧ (isRow b = true → isBlank b = false) := by
  have := sign_row_fin ⟨b.toNat, b.toNat_lt⟩
  simpa using this
theorem signB_two (b c : UInt8) : signB [b, c] = (twin b && c == b) := by
  rw [(sign_row b).2.2.1, Bool.eq_iff_iff]
  simp [signB]
  constructor
  · rintro (⟨rfl, rfl⟩ | ⟨rfl, rfl⟩) <;> simp
  · rintro ⟨rfl | rfl, rfl⟩ <;> simp
theorem signB_long (b c d : UInt8) (r : List UInt8) : signB (b :: c :: d :: r) = false := by simp [signB]
theorem signB_cons (b : UInt8) (r : List UInt8) : signB (b :: r) = (isSign b && (r == [] || (twin b && r == [b]))) := by
  cases r with
  | nil => rw [(sign_row b).2.1]; simp
  | cons c r => cases r with
    | nil =>
      rw [signB_two]
      cases ht : twin b with
      | false => simp
      | true => rw [(sign_row b).2.2.2.1 ht]; simp
    | cons d r =>
      rw [signB_long]
      simp

theorem kindB_eq (l : List UInt8) : kindB l = kindOf l := by
  cases l with
  | nil => rfl
  | cons b r =>
    simp only [kindB, kindOf]
    by_cases hb : isRow b = true
    · have hs : signB (b :: r) = false := by
        rw [signB_cons]
        cases h : isSign b with
        | false => rfl
        | true => rw [(sign_row b).1 h] at hb; cases hb
      rw [hs, if_pos hb]
      by_cases hl : isLow b = true
      · have hn : numB (b :: r) = false := by
          have : isDig b = false := by
            simp only [isLow, isDig, Bool.and_eq_true, decide_eq_true_eq] at hl ⊢
            rw [Bool.and_eq_false_iff]
            right; simp; omega
          simp [numB, numOk, this]
        have hw : wordB (b :: r) = (decide (r.length + 1 ≤ 8) && r.all isRow) := by simp [wordB, hl]
        rw [hw, hn]
        simp only [rowKind, hl, if_true]
        by_cases h8 : r.length + 1 ≤ 8
        · simp [h8]
        · simp [h8]
      · have hl' : isLow b = false := by simpa using hl
        have hw : wordB (b :: r) = false := by simp [wordB, hl']
        rw [hw]
        simp only [rowKind, hl', Bool.false_eq_true, if_false]
        have hnB : numB (b :: r) = numOk (b :: r) := by simp [numB]
        rw [hnB]
        cases hn : numOk (b :: r) with
        | false => simp
        | true =>
          have hall : r.all isRow = true := by
            simp only [numOk, Bool.and_eq_true, List.all_cons] at hn
            have h1 := hn.1.1.1.2
            rw [List.all_eq_true] at h1 ⊢
            intro x hx
            simp [isRow, h1 x hx]
          simp [hall]
    · have hb' : isRow b = false := by simpa using hb
      have hl' : isLow b = false := by simp only [isRow, Bool.or_eq_false_iff] at hb'; exact hb'.1
      have hd' : isDig b = false := by simp only [isRow, Bool.or_eq_false_iff] at hb'; exact hb'.2
      have hw : wordB (b :: r) = false := by simp [wordB, hl']
      have hn : numB (b :: r) = false := by simp [numB, numOk, hd']
      rw [hw, hn, signB_cons, hb']
      rfl

theorem besideB_eq (t u : List UInt8) (ht : kindOf t ≠ 0) (hu : kindOf u ≠ 0) : besideB t u = apart t u := by
  cases t with
  | nil => exact absurd rfl ht
  | cons b r => cases u with
    | nil => exact absurd rfl hu
    | cons c s =>
      have e0 : besideB (b :: r) (c :: s) = (if isRow b || isRow c then !(isRow b && isRow c) else !signB (b :: r ++ [c])) := by simp [besideB]
      rw [e0]
      simp only [apart]
      cases hb : isRow b with
      | true => simp
      | false =>
        cases hc : isRow c with
        | true =>
          simp only [Bool.false_or, if_true, Bool.false_and, Bool.not_false, Bool.false_eq_true, if_false]
          by_cases h : c = b
          · subst h; rw [hb] at hc; cases hc
          · simp [h]
        | false =>
          simp only [Bool.or_self, Bool.false_eq_true, if_false]
          cases r with
          | nil =>
            rw [List.singleton_append, signB_two]
            simp
          | cons d r =>
            rw [List.cons_append, List.cons_append, show r ++ [c] = (r ++ [c]) from rfl]
            have : ∃ x y, r ++ [c] = x :: y := by cases r <;> exact ⟨_, _, rfl⟩
            obtain ⟨x, y, hxy⟩ := this
            rw [hxy, signB_long]
            simp

/-- The text that stands last. -/
def lastOf (p : List UInt8) : List (List UInt8) → List UInt8
  | [] => p
  | t :: r => lastOf t r
theorem lastOf_snoc (ts : List (List UInt8)) (t : List UInt8) : ∀ p, lastOf p (ts ++ [t]) = t := by
  induction ts with
  | nil => intro p; rfl
  | cons u r ih => intro p; exact ih u
theorem glueFrom_snoc (ts : List (List UInt8)) (t : List UInt8) : ∀ p, glueFrom p (ts ++ [t]) = glueFrom p ts ++ (if apart (lastOf p ts) t then t else 32 :: t) := by
  induction ts with
  | nil => intro p; simp only [List.nil_append, glueFrom, lastOf, List.append_nil]; rfl
  | cons u r ih => intro p; rw [List.cons_append, glueFrom, ih u, glueFrom, lastOf, List.append_assoc]
theorem glue_eq_from (ts : List (List UInt8)) : glue ts = glueFrom [] ts := by
  cases ts with
  | nil => rfl
  | cons t r => cases t <;> simp [glue, glueFrom, apart]
theorem glue_snoc (ts : List (List UInt8)) (t : List UInt8) : glue (ts ++ [t]) = glue ts ++ (if apart (lastOf [] ts) t then t else 32 :: t) := by
  rw [glue_eq_from, glue_eq_from, glueFrom_snoc]
theorem glueFrom_len (ts : List (List UInt8)) : ∀ p, (glueFrom p ts).length ≤ (ts.map List.length).sum + ts.length := by
  induction ts with
  | nil => intro p; simp [glueFrom]
  | cons u r ih =>
    intro p
    have := ih u
    simp only [glueFrom, List.length_append, List.map_cons, List.sum_cons, List.length_cons]
    split <;> (try simp only [List.length_cons]) <;> omega
theorem glue_len (ts : List (List UInt8)) : (glue ts).length ≤ (ts.map List.length).sum + ts.length := by
  rw [glue_eq_from]; exact glueFrom_len ts []
end Go.Proofs.YtabpfbgcdmejbaaDoor
