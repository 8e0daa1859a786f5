/- A row of digits is a number just if strconv parses it, it is small, and it prints as itself: no program in sight. -/
import Derived.Lib.ParseIntB
import Derived.Lib.ItoaNum
import Derived.Lib.ItoaLen
import Derived.Test.YtabpfbgcdmejbaaDoorCutA
namespace Go.Proofs.YtabpfbgcdmejbaaDoor

theorem digVal_snoc' (l : List UInt8) (c : UInt8) : ∀ a, digVal a (l ++ [c]) = 10 * digVal a l + (c.toNat - 48) := by
  induction l with
  | nil => intro a; rfl
  | cons b r ih => intro a; rw [List.cons_append, digVal_cons, digVal_cons, ih]
theorem digVal_ge (l : List UInt8) : ∀ a, a ≤ digVal a l := by
  induction l with
  | nil => intro a; exact Nat.le_refl _
  | cons b r ih =>
    intro a
    rw [digVal_cons]
    have := ih (10 * a + (b.toNat - 48))
    omega
theorem parse_ok (M : Nat) (l : List UInt8) : ∀ a n, Lib.parseUintM M a l = .ok n → l.all isDig = true ∧ n = digVal a l := by
  induction l with
  | nil => intro a n h; simp only [Lib.parseUintM, Lib.NumEnd.ok.injEq] at h; exact ⟨rfl, h.symm⟩
  | cons b r ih =>
    intro a n h
    simp only [Lib.parseUintM] at h
    split at h
    · rename_i hd
      split at h
      · cases h
      · split at h
        · cases h
        · obtain ⟨h1, h2⟩ := ih _ _ h
          refine ⟨?_, ?_⟩
          · simp only [List.all_cons, h1, isDig, hd.1, hd.2]; rfl
          · rw [h2, digVal_cons]; congr 1; omega
    · cases h
theorem parse_small (l : List UInt8) : ∀ a, l.all isDig = true → digVal a l < 288230376151711744 → Lib.parseUintM 4611686018427387903 a l = .ok (digVal a l) := by
  induction l with
  | nil => intro a _ _; rfl
  | cons b r ih =>
    intro a h hv
    simp only [List.all_cons, Bool.and_eq_true] at h
    have hd := h.1
    simp only [isDig, Bool.and_eq_true, decide_eq_true_eq] at hd
    rw [digVal_cons] at hv ⊢
    have h1 := digVal_ge r (10 * a + (b.toNat - 48))
    simp only [Lib.parseUintM]
    rw [if_pos hd, if_neg (by omega), if_neg (by omega), show a * 10 + (b.toNat - 48) = 10 * a + (b.toNat - 48) by omega]
    exact ih _ h.2 hv

theorem digVal_lt' (l : List UInt8) (h : l.all isDig = true) : ∀ a, digVal a l < (a + 1) * 10 ^ l.length := by
  induction l with
  | nil => intro a; simp [digVal]
  | cons b r ih =>
    intro a
    simp only [List.all_cons, Bool.and_eq_true] at h
    have h1 := h.1
    simp only [isDig, Bool.and_eq_true, decide_eq_true_eq] at h1
    have := ih h.2 (10 * a + (b.toNat - 48))
    rw [digVal_cons, List.length_cons, Nat.pow_succ]
    refine Nat.lt_of_lt_of_le this ?_
    calc (10 * a + (b.toNat - 48) + 1) * 10 ^ r.length ≤ ((a + 1) * 10) * 10 ^ r.length := Nat.mul_le_mul_right _ (by omega)
      _ = (a + 1) * (10 ^ r.length * 10) := by rw [Nat.mul_assoc, Nat.mul_comm 10]
theorem digVal_lead (l : List UInt8) : ∀ a, a * 10 ^ l.length ≤ digVal a l := by
  induction l with
  | nil => intro a; simp [digVal]
  | cons b r ih =>
    intro a
    rw [digVal_cons, List.length_cons, Nat.pow_succ]
    refine Nat.le_trans ?_ (ih _)
    calc a * (10 ^ r.length * 10) = (10 * a) * 10 ^ r.length := by rw [Nat.mul_comm (10 ^ r.length), ← Nat.mul_assoc, Nat.mul_comm a]
      _ ≤ _ := Nat.mul_le_mul_right _ (by omega)

/-- Digits without a nought ahead are the numeral of their number. -/
theorem dec_of_digits (l : List UInt8) (hne : l ≠ []) (h : l.all isDig = true) (hz : l.length ≤ 1 ∨ l.head? ≠ some 48) : Lib.decDigits (digVal 0 l) = l := by
  generalize hn : l.length = n
  induction n using Nat.strongRecOn generalizing l with
  | ind n ih =>
    rcases List.eq_nil_or_concat l with rfl | ⟨p, c, rfl⟩
    · exact absurd rfl hne
    · rw [List.concat_eq_append] at *
      rw [digVal_snoc']
      simp only [List.all_append, List.all_cons, List.all_nil, Bool.and_true, Bool.and_eq_true] at h
      have hc := h.2
      simp only [isDig, Bool.and_eq_true, decide_eq_true_eq] at hc
      have hb : UInt8.ofNat (48 + (c.toNat - 48)) = c := by
        have : 48 + (c.toNat - 48) = c.toNat := by omega
        rw [this]; simp
      cases p with
      | nil =>
        have : digVal 0 [] = 0 := rfl
        rw [this, Nat.mul_zero, Nat.zero_add, Lib.decDigits, dif_pos (by omega), hb]
        rfl
      | cons b r =>
        have hh : b ≠ 48 := by
          rcases hz with hz | hz
          · simp at hz
          · simpa using hz
        have hbd := h.1
        simp only [List.all_cons, Bool.and_eq_true] at hbd
        have hbd1 := hbd.1
        simp only [isDig, Bool.and_eq_true, decide_eq_true_eq] at hbd1
        have hb48 : b.toNat ≠ 48 := fun e => hh (UInt8.toNat.inj e)
        have hpos : 1 ≤ digVal 0 (b :: r) := by
          rw [digVal_cons]
          have := digVal_ge r (10 * 0 + (b.toNat - 48))
          omega
        have hi := ih (b :: r).length (by rw [← hn]; simp) (b :: r) (by simp) h.1 (.inr (by simpa using hh)) rfl
        rw [Lib.decDigits, dif_neg (by omega), show (10 * digVal 0 (b :: r) + (c.toNat - 48)) / 10 = digVal 0 (b :: r) by omega, show (10 * digVal 0 (b :: r) + (c.toNat - 48)) % 10 = c.toNat - 48 by omega, hi, hb]

theorem numOk_iff (l : List UInt8) (hne : l ≠ []) : numOk l = true ↔ ∃ n, Lib.parseUintM 4611686018427387903 0 l = .ok n ∧ n < 288230376151711744 ∧ Lib.decDigits n = l := by
  constructor
  · intro h
    simp only [numOk, Bool.and_eq_true, Bool.or_eq_true, decide_eq_true_eq, bne_iff_ne] at h
    obtain ⟨⟨⟨h1, _⟩, h3⟩, h4⟩ := h
    exact ⟨_, parse_small l 0 h1 h4, h4, dec_of_digits l hne h1 h3⟩
  · rintro ⟨n, h1, h2, h3⟩
    obtain ⟨hall, rfl⟩ := parse_ok _ _ _ _ h1
    have hz : l.length ≤ 1 ∨ l.head? ≠ some 48 := by
      cases l with
      | nil => exact absurd rfl hne
      | cons b r =>
        by_cases h : r = []
        · subst h; left; simp
        · right
          intro hb
          simp only [List.head?_cons, Option.some.injEq] at hb
          subst hb
          have e : digVal 0 (48 :: r) = digVal 0 r := by rw [digVal_cons]; rfl
          rw [e] at h3
          simp only [List.all_cons, Bool.and_eq_true] at hall
          have hlt := digVal_lt' r hall.2 0
          have hr : 1 ≤ r.length := List.length_pos_iff.2 h
          have hl := congrArg List.length h3
          rw [Lib.decDigits_length, List.length_cons] at hl
          -- a number below 10 ^ r.length has at most r.length digits
          have hnd : Lib.nDigits (digVal 0 r) ≤ r.length := by
            rw [Nat.zero_add, Nat.one_mul] at hlt
            have : ∀ k u, 1 ≤ k → u < 10 ^ k → Lib.nDigits u ≤ k := by
              intro k
              induction k with
              | zero => intro u h; omega
              | succ k ih =>
                intro u _ hu
                by_cases h10 : u < 10
                · rw [Lib.nDigits_small h10]; omega
                · rw [Lib.nDigits_big h10]
                  have hk : 1 ≤ k := by
                    rcases Nat.eq_zero_or_pos k with rfl | hk
                    · simp at hu; omega
                    · exact hk
                  have := ih (u / 10) hk (by rw [Nat.pow_succ] at hu; omega)
                  omega
            exact this _ _ hr hlt
          omega
    have hlen : l.length ≤ 18 := by
      rcases hz with hz | hz
      · omega
      · cases l with
        | nil => simp
        | cons b r =>
          have hb48 : b ≠ 48 := by simpa using hz
          have hbt : b.toNat ≠ 48 := fun e => hb48 (UInt8.toNat.inj e)
          simp only [List.all_cons, Bool.and_eq_true] at hall
          have hd := hall.1
          simp only [isDig, Bool.and_eq_true, decide_eq_true_eq] at hd
          rw [digVal_cons] at h2
          have h5 := digVal_lead r (10 * 0 + (b.toNat - 48))
          have h6 : 10 ^ r.length ≤ (10 * 0 + (b.toNat - 48)) * 10 ^ r.length := Nat.le_mul_of_pos_left _ (by omega)
          have h7 : 10 ^ r.length < 10 ^ 18 := by
            refine Nat.lt_of_le_of_lt (Nat.le_trans h6 h5) (Nat.lt_of_lt_of_le h2 (by decide))
          have h8 := (Nat.pow_lt_pow_iff_right (by decide : 1 < 10)).1 h7
          simp only [List.length_cons]; omega
    simp only [numOk, Bool.and_eq_true, Bool.or_eq_true, decide_eq_true_eq, bne_iff_ne]
    exact ⟨⟨⟨hall, hlen⟩, hz⟩, h2⟩
end Go.Proofs.YtabpfbgcdmejbaaDoor
