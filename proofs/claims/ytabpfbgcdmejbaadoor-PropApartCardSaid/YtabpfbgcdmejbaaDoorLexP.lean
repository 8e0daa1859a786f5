/- lex.single and lex.may. -/
import Derived.Test.YtabpfbgcdmejbaaDoorLexO
namespace Go.Proofs.YtabpfbgcdmejbaaDoor
open Go.RowKit Go.Shelf
attribute [local go_sem ↓] Go.wp_at_zero Go.wp_at_succ

theorem kindOf_len {l : List UInt8} (h : kindOf l ≠ 0) : l.length ≤ 18 := by
  cases l with
  | nil => simp
  | cons b r =>
    simp only [kindOf] at h
    by_cases hb : isRow b = true
    · simp only [hb, if_true] at h
      by_cases hall : r.all isRow = true
      · simp only [hall, if_true] at h
        cases hk : rowKind (b :: r) with
        | error e => rw [hk] at h; exact absurd rfl h
        | ok k =>
          simp only [rowKind] at hk
          split at hk
          · split at hk <;> simp at hk
            simp; omega
          · split at hk <;> simp at hk
            rename_i hn
            simp only [numOk, Bool.and_eq_true, decide_eq_true_eq] at hn
            exact hn.1.1.2
      · rw [if_neg hall] at h; exact absurd rfl h
    · rw [if_neg hb] at h
      by_cases hs : (isSign b && (r == [] || (twin b && r == [b]))) = true
      · simp only [Bool.and_eq_true, Bool.or_eq_true, beq_iff_eq] at hs
        rcases hs.2 with h | h
        · subst h; simp
        · rw [h.2]; simp
      · rw [if_neg hs] at h; exact absurd rfl h
theorem kind_size {s : ByteArray} (h : kindOf s.data.toList ≠ 0) : s.size ≤ 18 := by rw [← size_list]; exact kindOf_len h

def singleR (s : ByteArray) : Tok × Bool := if kindOf s.data.toList ≠ 0 then (⟨kindOf s.data.toList, s, 0⟩, true) else (noTok, false)
theorem cutR_err {s : ByteArray} (h : (cutR s).2.2 ≠ 0) : (cutR s).1 = [] ∧ kindOf s.data.toList = 0 := by
  unfold cutR at h ⊢
  split at h
  · rename_i h4
    rw [if_pos h4]
    refine ⟨rfl, ?_⟩
    by_cases hk : kindOf s.data.toList = 0
    · exact hk
    · have := kind_size hk; omega
  · rename_i h4
    rw [if_neg h4]
    cases hc : cut 0 s.data.toList with
    | ok l => rw [hc] at h; simp at h
    | bad a e =>
      refine ⟨rfl, ?_⟩
      by_cases hk : kindOf s.data.toList = 0
      · exact hk
      · have := (cut_single s.data.toList [⟨kindOf s.data.toList, bsOf s.data.toList, 0⟩]).2 ⟨hk, rfl⟩
        rw [hc] at this; cases this.1
theorem cut_nonzero {l : List UInt8} {p : Nat} {e : Int} : ∀ a, cut a l = .bad p e → e ≠ 0 := by
  induction l using cut_ind with
  | h0 => intro a h; simp at h
  | h1 b r hb hr h ih => intro a hc; rw [h] at hc; exact ih _ hc
  | h2 b r e' h =>
    intro a hc
    rcases (by by_cases hb : isRow b = true
               · exact Or.inl hb
               · exact Or.inr (by simpa using hb) : isRow b = true ∨ isRow b = false) with hb | hb
    · rw [cut_row a b r hb] at hc
      cases hk : rowKind (rowOf (b :: r)) with
      | error e2 => rw [hk] at hc; cases hc; exact rowKind_errne hk
      | ok k =>
        have h3 := h a
        rw [cut_row a b r hb, hk] at h3
        simp only at h3
        cases hq : cut (a + (rowOf (b :: r)).length) ((b :: r).drop (rowOf (b :: r)).length) with
        | ok us => rw [hq] at h3; cases h3
        | bad p2 e2 =>
          rw [hq] at h3
          have h4 := h (a + 1)
          rw [cut_row (a + 1) b r hb, hk] at h4
          simp only at h4
          rw [show a + 1 + (rowOf (b :: r)).length = a + (rowOf (b :: r)).length + 1 by omega, cut_shift 1, hq] at h4
          simp only [Res.cons, Res.shift, Res.bad.injEq] at h3 h4
          have hlt := cut_parts_bad _ _ _ _ hq
          obtain ⟨k2, hk2, _⟩ := hlt
          rw [rowOf_pos b r hb] at hk2
          simp at hk2
          omega
    · by_cases hbl : isBlank b = true
      · have h3 := h a
        rw [cut_blank a b r hb hbl] at h3
        obtain ⟨k2, hk2, _⟩ := cut_parts_bad _ _ _ _ h3
        omega
      · by_cases hs : isSign b = true
        · exfalso
          rcases cut_ways b r with ⟨h5, _⟩ | ⟨e5, h5⟩ | ⟨t, rest, h5, h6, h7, h8, h9⟩
          · exact hbl h5
          · by_cases ht : (twin b && r.head? == some b) = true
            · simp only [Bool.and_eq_true, beq_iff_eq] at ht
              cases r with
              | nil => simp at ht
              | cons c r =>
                simp only [List.head?_cons, Option.some.injEq] at ht
                obtain ⟨ht1, rfl⟩ := ht
                have h6 := h5 a
                rw [cut_two a c r ht1] at h6
                cases hq : cut (a + 2) r with
                | ok us => rw [hq] at h6; cases h6
                | bad p2 e2 =>
                  rw [hq] at h6
                  obtain ⟨k2, hk2, _⟩ := cut_parts_bad _ _ _ _ hq
                  simp only [Res.cons, Res.bad.injEq] at h6
                  omega
            · have h6 := h5 a
              rw [cut_one a b r hb (by simpa using hbl) hs (by simpa using ht)] at h6
              cases hq : cut (a + 1) r with
              | ok us => rw [hq] at h6; cases h6
              | bad p2 e2 =>
                rw [hq] at h6
                obtain ⟨k2, hk2, _⟩ := cut_parts_bad _ _ _ _ hq
                simp only [Res.cons, Res.bad.injEq] at h6
                omega
          · have h10 := h a
            rw [h9] at h10
            cases hq : cut (a + t.length) rest with
            | ok us => rw [hq] at h10; cases h10
            | bad p2 e2 =>
              rw [hq] at h10
              obtain ⟨k2, hk2, _⟩ := cut_parts_bad _ _ _ _ hq
              simp only [Res.cons, Res.bad.injEq] at h10
              have := List.length_pos_iff.2 h5
              omega
        · rw [cut_wrong a b r hb (by simpa using hbl) (by simpa using hs)] at hc
          cases hc; decide
  | h3 t rest hne hk hap h ih =>
    intro a hc
    rw [h] at hc
    cases hq : cut (a + t.length) rest with
    | ok us => rw [hq] at hc; cases hc
    | bad p2 e2 =>
      rw [hq] at hc
      simp only [Res.cons, Res.bad.injEq] at hc
      obtain ⟨rfl, rfl⟩ := hc
      exact ih _ hq
theorem cutR_ok {s : ByteArray} (h : (cutR s).2.2 = 0) : s.size ≤ 4096 ∧ cut 0 s.data.toList = .ok (cutR s).1 ∧ (cutR s).2.1 = 0 := by
  unfold cutR at h ⊢
  split at h
  · simp at h
  · rename_i h4
    rw [if_neg h4]
    cases hc : cut 0 s.data.toList with
    | ok l => exact ⟨by omega, rfl, rfl⟩
    | bad a e => rw [hc] at h; exact absurd h (cut_nonzero 0 hc)
end Go.Proofs.YtabpfbgcdmejbaaDoor
