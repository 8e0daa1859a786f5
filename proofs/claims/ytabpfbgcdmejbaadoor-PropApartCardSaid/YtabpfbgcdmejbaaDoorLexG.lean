/- The book's Cut. -/
import Derived.Test.YtabpfbgcdmejbaaDoorLexF
namespace Go.Proofs.YtabpfbgcdmejbaaDoor
open Go.RowKit Go.Shelf
attribute [local go_sem ↓] Go.wp_at_zero Go.wp_at_succ

theorem rowKind_err {b : UInt8} {r : List UInt8} {e : Int} (hb : isRow b = true) (h : rowKind (b :: r) = .error e) : e = if isLow b then 152 else if isDig b then 151 else 150 := by
  simp only [rowKind] at h
  cases hl : isLow b with
  | true =>
    simp only [hl, if_true] at h ⊢
    split at h <;> simp at h
    exact h.symm
  | false =>
    have hd : isDig b = true := by simp only [isRow, hl, Bool.false_or] at hb; exact hb
    simp only [hl, Bool.false_eq_true, if_false, hd, if_true] at h ⊢
    split at h <;> simp at h
    exact h.symm

/-- The book cuts as the plain cut does. -/
theorem cut_book (b : UInt8) (r : List UInt8) (hbl : isBlank b = false) :
    1 ≤ longN (b :: r) ∧ longN (b :: r) ≤ (b :: r).length ∧
    ((kindOf ((b :: r).take (longN (b :: r))) = 0 ∧ ∀ a, cut a (b :: r) = .bad a (if isLow b then 152 else if isDig b then 151 else 150)) ∨
     (kindOf ((b :: r).take (longN (b :: r))) ≠ 0 ∧ ∀ a, cut a (b :: r) = Res.cons ⟨kindOf ((b :: r).take (longN (b :: r))), bsOf ((b :: r).take (longN (b :: r))), a⟩ (cut (a + longN (b :: r)) ((b :: r).drop (longN (b :: r)))))) := by
  by_cases hb : isRow b = true
  · have h1 : rowN (b :: r) = (rowOf r).length + 1 := by rw [rowN, rowOf_pos b r hb]; rfl
    have hn : longN (b :: r) = rowN (b :: r) := by
      rw [longN, if_neg (fun h => by rw [h1] at h; omega)]; omega
    have ht : (b :: r).take (rowN (b :: r)) = rowOf (b :: r) := by
      have : ∀ A B L : List UInt8, L = A ++ B → L.take A.length = A := by rintro A B L rfl; simp
      exact this _ _ _ (rowOf_drop _)
    have hl : rowN (b :: r) ≤ (b :: r).length := rowOf_len _
    rw [hn, ht]
    refine ⟨by omega, hl, ?_⟩
    cases hk : rowKind (rowOf (b :: r)) with
    | error e =>
      left
      have h0 : kindOf (rowOf (b :: r)) = 0 := by
        have hall : (rowOf r).all isRow = true := List.all_takeWhile
        rw [rowOf_pos b r hb] at hk ⊢
        simp [kindOf, hb, hall, hk]
      refine ⟨h0, fun a => ?_⟩
      rw [cut_row a b r hb, hk]
      rw [rowOf_pos b r hb] at hk
      rw [rowKind_err hb hk]
    | ok k =>
      right
      have h0 := kindOf_row hb hk
      rw [h0]
      refine ⟨by rcases rowKind_ne0 hk with h | h <;> simp [h], fun a => ?_⟩
      rw [cut_row a b r hb, hk]
      rfl
  · have hb' : isRow b = false := by simpa using hb
    have h1 : rowN (b :: r) = 0 := by simp [rowN, rowOf, hb']
    by_cases h2 : 2 ≤ (b :: r).length ∧ signB ((b :: r).take 2) = true
    · have hn : longN (b :: r) = 2 := by rw [longN, if_pos ⟨h1, h2⟩]
      cases r with
      | nil => simp at h2
      | cons c r =>
        have h3 := h2.2
        rw [List.take_succ_cons, List.take_succ_cons, List.take_zero, signB_two] at h3
        simp only [Bool.and_eq_true, beq_iff_eq] at h3
        obtain ⟨ht, rfl⟩ := h3
        have hk : kindOf [c, c] = 3 := by
          simp [kindOf, hb', ht, (sign_row c).2.2.2.1 ht]
        rw [hn]
        refine ⟨by omega, by simp, .inr ⟨by simp [hk], fun a => ?_⟩⟩
        rw [cut_two a c r ht]
        simp [hk]
    · have hn : longN (b :: r) = 1 := by
        rw [longN, if_neg (fun h => h2 h.2), h1]; rfl
      rw [hn]
      have hl : isLow b = false := by simp only [isRow, Bool.or_eq_false_iff] at hb'; exact hb'.1
      have hd : isDig b = false := by simp only [isRow, Bool.or_eq_false_iff] at hb'; exact hb'.2
      refine ⟨by omega, by simp, ?_⟩
      cases hs : isSign b with
      | true =>
        right
        have hk : kindOf [b] = 3 := by simp [kindOf, hb', hs]
        refine ⟨by simp [hk], fun a => ?_⟩
        rw [cut_one a b r hb' hbl hs ?_]
        · simp [hk]
        · cases r with
          | nil => simp
          | cons c r =>
            rw [Bool.eq_false_iff]
            intro h3
            simp only [List.head?_cons, Bool.and_eq_true, beq_iff_eq, Option.some.injEq] at h3
            refine h2 ⟨by simp, ?_⟩
            rw [List.take_succ_cons, List.take_succ_cons, List.take_zero, signB_two, h3.1, h3.2]
            simp
      | false =>
        left
        refine ⟨by simp [kindOf, hb', hs], fun a => ?_⟩
        rw [cut_wrong a b r hb' hbl hs, hl, hd]
        rfl

/-- What Cut answers: tokens, a place, an error. -/
def cutR (s : ByteArray) : List Tok × Int × Int :=
  if 4096 < s.size then ([], 0, 3) else match cut 0 s.data.toList with
    | .ok l => (l, 0, 0)
    | .bad a e => ([], a, e)
theorem triple_ret {a c d : Int} {v : Value} {b : Int} (k : IntKind) (h : a = b) (h2 : c = d) : Ending.returned (.tuple #[v, .int .i64 a, .int k c]) = .returned (.tuple #[v, .int .i64 b, .int k d]) := by rw [h, h2]

end Go.Proofs.YtabpfbgcdmejbaaDoor
