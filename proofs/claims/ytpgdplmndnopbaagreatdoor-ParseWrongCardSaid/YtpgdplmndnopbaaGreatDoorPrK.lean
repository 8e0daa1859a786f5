/- What is parsed and printed is no longer: formulas. No program. -/
import Derived.Test.YtpgdplmndnopbaaGreatDoorMgI
import Derived.Test.YtpgdplmndnopbaaGreatDoorMgG
namespace Go.Proofs.YtpgdplmndnopbaaGreatDoor
open Go.RowKit

/-- How long a token is (a number: as it is written). -/
def wT (t : Tok) : Nat := if t.kind = 2 then (Lib.itoa (digitsV t.text.data.toList)).length else t.text.data.toList.length
/-- How long tokens are, all together. -/
def lenT (l : List Tok) : Nat := (l.map wT).sum
theorem lenT_cons (t : Tok) (l : List Tok) : lenT (t :: l) = wT t + lenT l := by simp [lenT]
theorem lenT_nil : lenT [] = 0 := rfl
theorem isT_len {s : List UInt8} {l : List Tok} (h : isT s l = true) : lenT l = s.length + lenT l.tail := by
  cases l with
  | nil => simp [isT] at h
  | cons t l =>
    have h' : (t.kind != 2 && t.text.data.toList == s) = true := h
    rw [Bool.and_eq_true, beq_iff_eq] at h'
    have hw : wT t = s.length := by
      unfold wT
      rw [if_neg (by simpa using h'.1), h'.2]
    rw [lenT_cons, hw]; rfl
theorem takeT_len {s : List UInt8} {l r : List Tok} (h : takeT s l = .ok r) : lenT l = s.length + lenT r := by
  unfold takeT at h
  split at h
  · rename_i hs
    injection h with h
    subst h
    exact isT_len hs
  · cases h
theorem wrapP_le {a b : Nat} (low : Nat) (o c : UInt8) (body : List UInt8) (h : a ≤ b) : (wrapP (decide (low < a)) o c body).length ≤ (wrapP (decide (low < b)) o c body).length := by
  unfold wrapP
  by_cases h1 : low < a
  · rw [if_pos (by simpa using h1), if_pos (by simp; omega)]; exact Nat.le_refl _
  · rw [if_neg (by simpa using h1)]
    split
    · simp; omega
    · exact Nat.le_refl _
theorem prF_mono {n : Nat} (t : FT n) {a b : Nat} (h : a ≤ b) : (prF n t a).length ≤ (prF n t b).length := by
  cases n with
  | zero => exact nomatch t
  | succ n =>
    obtain ⟨k, s, of⟩ := t
    rw [prF_succ, prF_succ]
    exact wrapP_le _ _ _ _ h
theorem prF_brace {n : Nat} (t : FT n) (a b : Nat) : (prF n t a).length ≤ (prF n t b).length + 2 := by
  cases n with
  | zero => exact nomatch t
  | succ n =>
    obtain ⟨k, s, of⟩ := t
    rw [prF_succ, prF_succ]
    refine Nat.le_trans (wrapP_len _ _ _ _) ?_
    have key : ∀ (is : Bool) (o c : UInt8) (b : List UInt8), b.length ≤ (wrapP is o c b).length := by
      intro is o c b
      cases is
      · exact Nat.le_refl _
      · show b.length ≤ (o :: (b ++ [c])).length
        simp only [List.length_cons, List.length_append, List.length_nil]; omega
    exact Nat.add_le_add_right (key _ _ _ _) 2

/-- A printed formula at a height is within some length, whatever tree shows it. -/
def LeF (x : F) (least c : Nat) : Prop := ∀ (n : Nat) (t : FT n), toF n t = x → (prF n t least).length ≤ c
theorem LeF.mono {x : F} {a b c d : Nat} (h : LeF x b c) (hab : a ≤ b) (hcd : c ≤ d) : LeF x a d := fun n t e => Nat.le_trans (prF_mono t hab) (Nat.le_trans (h n t e) hcd)
theorem toF_two {n : Nat} {t : FT (n + 1)} {k : Int} {s : ByteArray} {a b : F} (h : toF (n + 1) t = .mk k s [a, b]) : ∃ ta tb : FT n, t = (k, s, [ta, tb]) ∧ toF n ta = a ∧ toF n tb = b := by
  obtain ⟨k', s', of⟩ := t
  have h' : F.mk k' s' (of.map (toF n)) = F.mk k s [a, b] := h
  injection h' with h1 h2 h3
  subst h1 h2
  match of, h3 with
  | [ta, tb], h3 =>
    simp only [List.map_cons, List.map_nil, List.cons.injEq, and_true] at h3
    exact ⟨ta, tb, rfl, h3.1, h3.2⟩
theorem le_and {a b : F} {ca cb : Nat} (ha : LeF a 2 ca) (hb : LeF b 3 cb) : LeF (.mk 5 ⟨#[]⟩ [a, b]) 2 (ca + 2 + cb) := by
  intro n t e
  cases n with
  | zero => exact nomatch t
  | succ n' =>
  obtain ⟨ta, tb, rfl, e1, e2⟩ := toF_two e
  have h1 := ha n' ta e1
  have h2 := hb n' tb e2
  have : prF (n' + 1) (5, ⟨#[]⟩, [ta, tb]) 2 = prF n' ta 2 ++ [38, 38] ++ prF n' tb 3 := by rw [prF_succ]; simp [lowF, wrapP]
  rw [this]
  simp only [List.length_append, List.length_cons, List.length_nil]
  omega
theorem le_or {a b : F} {ca cb : Nat} (ha : LeF a 1 ca) (hb : LeF b 2 cb) : LeF (.mk 6 ⟨#[]⟩ [a, b]) 1 (ca + 2 + cb) := by
  intro n t e
  cases n with
  | zero => exact nomatch t
  | succ n' =>
  obtain ⟨ta, tb, rfl, e1, e2⟩ := toF_two e
  have h1 := ha n' ta e1
  have h2 := hb n' tb e2
  have : prF (n' + 1) (6, ⟨#[]⟩, [ta, tb]) 1 = prF n' ta 1 ++ [124, 124] ++ prF n' tb 2 := by rw [prF_succ]; simp [lowF, wrapP]
  rw [this]
  simp only [List.length_append, List.length_cons, List.length_nil]
  omega
theorem le_leaf {k : Int} {s : ByteArray} {c : Nat} (hk : k = 1 ∧ 4 ≤ c ∨ k = 2 ∧ 5 ≤ c ∨ k = 3 ∧ s.data.toList.length ≤ c) : LeF (.mk k s []) 3 c := by
  intro n t e
  cases n with
  | zero => exact nomatch t
  | succ n =>
    obtain ⟨k', s', of⟩ := t
    have h' : F.mk k' s' (of.map (toF n)) = F.mk k s [] := e
    injection h' with h1 h2 h3
    subst h1 h2
    rw [prF_succ]
    rcases hk with ⟨rfl, h⟩ | ⟨rfl, h⟩ | ⟨rfl, h⟩
    · simpa [lowF, wrapP] using h
    · simpa [lowF, wrapP] using h
    · simpa [lowF, wrapP] using h
theorem le_not {a : F} {c : Nat} (h : LeF a 3 c) : LeF (notI a) 3 (1 + c) := by
  intro n t e
  cases n with
  | zero => exact nomatch t
  | succ n =>
    obtain ⟨k', s', of⟩ := t
    have h' : F.mk k' s' (of.map (toF n)) = F.mk 4 ⟨#[]⟩ [a] := e
    injection h' with h1 h2 h3
    subst h1 h2
    match of, h3 with
    | [ta], h3 =>
      simp only [List.map_cons, List.map_nil, List.cons.injEq, and_true] at h3
      have := h n ta h3
      have e2 : prF (n + 1) (4, ⟨#[]⟩, [ta]) 3 = 33 :: prF n ta 3 := by rw [prF_succ]; simp [lowF, wrapP]
      rw [e2]
      simp only [List.length_cons]; omega

/-- A chain of formulas. -/
theorem chain_len {sign : List UInt8} {one : List Tok → PRes F} {join : F → F → F} {lo hi : Nat} (hj : ∀ a b ca cb, LeF a lo ca → LeF b hi cb → LeF (join a b) lo (ca + sign.length + cb))
    (ho : ∀ l x r, one l = .ok (x, r) → ∃ c, LeF x hi c ∧ c + lenT r ≤ lenT l) : ∀ (k : Nat) (x : F) (l : List Tok) (c : Nat) (y : F) (r : List Tok), LeF x lo c → chainR sign one join k x l = .ok (y, r) → ∃ c', LeF y lo c' ∧ c' + lenT r ≤ c + lenT l
  | 0, x, l, c, y, r, hx, h => by
    rw [chainR] at h
    injection h with h
    obtain ⟨rfl, rfl⟩ := Prod.mk.inj h
    exact ⟨c, hx, Nat.le_refl _⟩
  | k + 1, x, l, c, y, r, hx, h => by
    rw [chainR] at h
    split at h
    · rename_i hs
      have hl := isT_len hs
      cases e : one l.tail with
      | error z => rw [e] at h; cases h
      | ok p =>
        obtain ⟨z, r1⟩ := p
        rw [e] at h
        obtain ⟨cz, h1, h2⟩ := ho _ _ _ e
        obtain ⟨c', h3, h4⟩ := chain_len hj ho k (join x z) r1 _ y r (hj _ _ _ _ hx h1) h
        exact ⟨c', h3, by omega⟩
    · injection h with h
      obtain ⟨rfl, rfl⟩ := Prod.mk.inj h
      exact ⟨c, hx, Nat.le_refl _⟩
theorem chainP_len {sign : List UInt8} {one : List Tok → PRes F} {join : F → F → F} {lo hi : Nat} (hlh : lo ≤ hi) (hj : ∀ a b ca cb, LeF a lo ca → LeF b hi cb → LeF (join a b) lo (ca + sign.length + cb))
    (ho : ∀ l x r, one l = .ok (x, r) → ∃ c, LeF x hi c ∧ c + lenT r ≤ lenT l) (l : List Tok) (y : F) (r : List Tok) (h : chainP sign one join l = .ok (y, r)) : ∃ c, LeF y lo c ∧ c + lenT r ≤ lenT l := by
  unfold chainP at h
  cases e : one l with
  | error z => rw [e] at h; cases h
  | ok p =>
    obtain ⟨x, r1⟩ := p
    rw [e] at h
    obtain ⟨c, h1, h2⟩ := ho _ _ _ e
    obtain ⟨c', h3, h4⟩ := chain_len hj ho _ x r1 c y r (h1.mono hlh (Nat.le_refl _)) h
    exact ⟨c', h3, by omega⟩
theorem one_len {fm : Nat → List Tok → PRes F} (hf : ∀ d l x r, fm d l = .ok (x, r) → ∃ c, LeF x 1 c ∧ c + lenT r ≤ lenT l) (deep : Nat) : ∀ (k : Nat) (l : List Tok) (x : F) (r : List Tok), oneR fm deep k l = .ok (x, r) → ∃ c, LeF x 3 c ∧ c + lenT r ≤ lenT l
  | 0, l, x, r, h => by rw [oneR] at h; cases h
  | k + 1, l, x, r, h => by
    rw [oneR.eq_def] at h
    dsimp only at h
    cases e : withinR [123] [125] deep fm l with
    | some q =>
      rw [e] at h
      dsimp only at h
      subst h
      unfold withinR at e
      split at e
      · rename_i hs
        have hl := isT_len hs
        injection e with e
        split at e
        · cases e
        · cases e2 : fm (deep + 1) l.tail with
          | error z => rw [e2] at e; cases e
          | ok p =>
            obtain ⟨x1, r1⟩ := p
            rw [e2] at e
            dsimp only at e
            cases e3 : takeT [125] r1 with
            | error z => rw [e3] at e; cases e
            | ok r2 =>
              rw [e3] at e
              injection e with e
              obtain ⟨rfl, rfl⟩ := Prod.mk.inj e
              obtain ⟨c, h1, h2⟩ := hf _ _ _ _ e2
              have h3 := takeT_len e3
              simp only [List.length_cons, List.length_nil] at hl h3
              exact ⟨c + 2, fun n t ht => Nat.le_trans (prF_brace t 3 1) (by have := h1 n t ht; omega), by omega⟩
      · cases e
    | none =>
      rw [e] at h
      dsimp only at h
      split at h
      · rename_i hs
        have hl := isT_len hs
        cases e2 : oneR fm deep k l.tail with
        | error z => rw [e2] at h; cases h
        | ok p =>
          obtain ⟨x1, r1⟩ := p
          rw [e2] at h
          injection h with h
          obtain ⟨rfl, rfl⟩ := Prod.mk.inj h
          obtain ⟨c, h1, h2⟩ := one_len hf deep k _ _ _ e2
          simp only [List.length_cons, List.length_nil] at hl
          exact ⟨1 + c, le_not h1, by omega⟩
      · split at h
        · rename_i hs
          have hl := isT_len hs
          injection h with h
          obtain ⟨rfl, rfl⟩ := Prod.mk.inj h
          simp only [List.length_cons, List.length_nil] at hl
          exact ⟨4, le_leaf (.inl ⟨rfl, Nat.le_refl _⟩), by omega⟩
        · split at h
          · rename_i hs
            have hl := isT_len hs
            injection h with h
            obtain ⟨rfl, rfl⟩ := Prod.mk.inj h
            simp only [List.length_cons, List.length_nil] at hl
            exact ⟨5, le_leaf (.inr (.inl ⟨rfl, Nat.le_refl _⟩)), by omega⟩
          · cases l with
            | nil => cases h
            | cons t l =>
              dsimp only at h
              split at h
              · rename_i hk
                injection h with h
                obtain ⟨rfl, rfl⟩ := Prod.mk.inj h
                have hw : wT t = t.text.data.toList.length := by
                  unfold wT
                  rw [if_neg (by rw [hk.1]; decide)]
                exact ⟨t.text.data.toList.length, le_leaf (.inr (.inr ⟨rfl, Nat.le_refl _⟩)), by rw [lenT_cons, hw]; omega⟩
              · cases h
theorem form_len : ∀ (d deep : Nat) (l : List Tok) (x : F) (r : List Tok), formR d deep l = .ok (x, r) → ∃ c, LeF x 1 c ∧ c + lenT r ≤ lenT l
  | 0, deep, l, x, r, h => by rw [formR] at h; cases h
  | d + 1, deep, l, x, r, h => by
    rw [formR_succ] at h
    refine chainP_len (hi := 2) (by omega) (fun a b ca cb h1 h2 => le_or h1 h2) (fun l x r h => ?_) l x r h
    exact chainP_len (hi := 3) (by omega) (fun a b ca cb h1 h2 => le_and h1 h2) (fun l x r h => one_len (fun dd l x r h => form_len d dd l x r h) deep _ l x r h) l x r h
end Go.Proofs.YtpgdplmndnopbaaGreatDoor
