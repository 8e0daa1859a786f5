/- What is parsed and printed is no longer: expressions. No program. -/
import Derived.Test.YtpgdplmndnopbaaGreatDoorPrK
namespace Go.Proofs.YtpgdplmndnopbaaGreatDoor
open Go.RowKit

theorem kind_num {l : List UInt8} (h : kindOf l = 2) : numOk l = true ∧ l ≠ [] := by
  cases l with
  | nil => cases h
  | cons b r =>
    have h' : (if isRow b then (if r.all isRow then (match rowKind (b :: r) with | .ok k => k | .error _ => 0) else 0) else if isSign b && (r == [] || (twin b && r == [b])) then (3 : Int) else 0) = 2 := h
    refine ⟨?_, by simp⟩
    split at h'
    · split at h'
      · have e : rowKind (b :: r) = if isLow b then (if r.length + 1 ≤ 8 then .ok 1 else .error 152) else if numOk (b :: r) then .ok 2 else .error 151 := rfl
        rw [e] at h'
        by_cases h1 : isLow b = true
        · rw [if_pos h1] at h'
          split at h' <;> simp_all
          split at * <;> simp_all
        · rw [if_neg h1] at h'
          by_cases h2 : numOk (b :: r) = true
          · exact h2
          · rw [if_neg h2] at h'
            simp at h'
      · omega
    · split at h' <;> omega
theorem prX_mono {m n : Nat} (t : XT m n) {a b : Nat} (h : a ≤ b) : (prX Lib.itoa n t a).length ≤ (prX Lib.itoa n t b).length := by
  cases n with
  | zero => exact nomatch t
  | succ n =>
    obtain ⟨k, is, of, i⟩ := t
    rw [prX_succ, prX_succ]
    exact wrapP_le _ _ _ _ h
theorem prX_brace {m n : Nat} (t : XT m n) (a b : Nat) : (prX Lib.itoa n t a).length ≤ (prX Lib.itoa n t b).length + 2 := by
  cases n with
  | zero => exact nomatch t
  | succ n =>
    obtain ⟨k, is, of, i⟩ := t
    rw [prX_succ, prX_succ]
    refine Nat.le_trans (wrapP_len _ _ _ _) ?_
    have key : ∀ (is : Bool) (o c : UInt8) (b : List UInt8), b.length ≤ (wrapP is o c b).length := by
      intro is o c b
      cases is
      · exact Nat.le_refl _
      · show b.length ≤ (o :: (b ++ [c])).length
        simp only [List.length_cons, List.length_append, List.length_nil]; omega
    exact Nat.add_le_add_right (key _ _ _ _) 2
def LeX (x : X) (least c : Nat) : Prop := ∀ (m n : Nat) (t : XT m n), toX n t = x → (prX Lib.itoa n t least).length ≤ c
theorem LeX.mono {x : X} {a b c d : Nat} (h : LeX x b c) (hab : a ≤ b) (hcd : c ≤ d) : LeX x a d := fun m n t e => Nat.le_trans (prX_mono t hab) (Nat.le_trans (h m n t e) hcd)
theorem toX_parts {m n : Nat} {t : XT m (n + 1)} {k : Int} {is : List F} {of : List X} {i : Spn} (h : toX (n + 1) t = .mk k is of i) : ∃ (is' : List (FT m)) (of' : List (XT m n)), t = (k, is', of', i) ∧ is'.map (toF m) = is ∧ of'.map (toX n) = of := by
  obtain ⟨k', is', of', i'⟩ := t
  have h' : X.mk k' (is'.map (toF m)) (of'.map (toX n)) i' = X.mk k is of i := h
  injection h' with h1 h2 h3 h4
  subst h1 h4
  exact ⟨is', of', rfl, h2, h3⟩
theorem le_join {k : Int} {s : UInt8} {lo : Nat} (hk : k = 2 ∧ s = 124 ∧ lo = 1 ∨ k = 3 ∧ s = 38 ∧ lo = 2 ∨ k = 4 ∧ s = 59 ∧ lo = 3) (a b : X) (ca cb : Nat) (ha : LeX a lo ca) (hb : LeX b (lo + 1) cb) : LeX (joinX k a b) lo (ca + [s].length + cb) := by
  intro m n t e
  cases n with
  | zero => exact nomatch t
  | succ n =>
    obtain ⟨is', of', rfl, _, e2⟩ := toX_parts e
    match of', e2 with
    | [ta, tb], e2 =>
      simp only [List.map_cons, List.map_nil, List.cons.injEq, and_true] at e2
      have h1 := ha m n ta e2.1
      have h2 := hb m n tb e2.2
      rcases hk with ⟨rfl, rfl, rfl⟩ | ⟨rfl, rfl, rfl⟩ | ⟨rfl, rfl, rfl⟩
      all_goals
        rw [prX_succ]
        simp only [Nat.reduceAdd] at h2
        simp [heightX, wrapP]
        omega
theorem le_plus {x : X} {c : Nat} (h : LeX x 4 c) : LeX (.mk 5 [] [x] noSpan) 4 (c + 1) := by
  intro m n t e
  cases n with
  | zero => exact nomatch t
  | succ n =>
    obtain ⟨is', of', rfl, _, e2⟩ := toX_parts e
    match of', e2 with
    | [ta], e2 =>
      simp only [List.map_cons, List.map_nil, List.cons.injEq, and_true] at e2
      have h1 := h m n ta e2
      rw [prX_succ]
      simp [heightX, wrapP]
      omega
theorem le_atom {f : F} {c : Nat} (h : LeF f 1 c) : LeX (.mk 1 [f] [] noSpan) 5 c := by
  intro m n t e
  cases n with
  | zero => exact nomatch t
  | succ n =>
    obtain ⟨is', of', rfl, e1, _⟩ := toX_parts e
    match is', e1 with
    | [tf], e1 =>
      simp only [List.map_cons, List.map_nil, List.cons.injEq, and_true] at e1
      have h1 := Nat.le_trans (prF_mono tf (show 0 ≤ 1 by omega)) (h m tf e1)
      rw [prX_succ]
      simpa [heightX, wrapP] using h1
theorem le_timed {x : X} {i : Spn} {c d : Nat} (h : LeX x 1 c) (hi : (prI Lib.itoa i).length ≤ d) : LeX (.mk 6 [] [x] i) 5 (3 + c + d) := by
  intro m n t e
  cases n with
  | zero => exact nomatch t
  | succ n =>
    obtain ⟨is', of', rfl, _, e2⟩ := toX_parts e
    match of', e2 with
    | [ta], e2 =>
      simp only [List.map_cons, List.map_nil, List.cons.injEq, and_true] at e2
      have h1 := Nat.le_trans (prX_mono ta (show 0 ≤ 1 by omega)) (h m n ta e2)
      rw [prX_succ]
      simp [heightX, wrapP]
      omega
theorem chainX_len {sign : List UInt8} {one : List Tok → PRes X} {join : X → X → X} {lo hi : Nat} (hj : ∀ a b ca cb, LeX a lo ca → LeX b hi cb → LeX (join a b) lo (ca + sign.length + cb))
    (ho : ∀ l x r, one l = .ok (x, r) → ∃ c, LeX x hi c ∧ c + lenT r ≤ lenT l) : ∀ (k : Nat) (x : X) (l : List Tok) (c : Nat) (y : X) (r : List Tok), LeX x lo c → chainR sign one join k x l = .ok (y, r) → ∃ c', LeX y lo c' ∧ c' + lenT r ≤ c + lenT l
  | 0, x, l, c, y, r, hx, h => by
    rw [chainR] at h
    injection h with h
    obtain ⟨rfl, rfl⟩ := Prod.mk.inj h
    exact ⟨c, hx, Nat.le_refl _⟩
  | k + 1, x, l, c, y, r, hx, h => by
    rw [chainR] at h
    split at h
    · rename_i hs
      have hl := isT_len hs
      cases e : one l.tail with
      | error z => rw [e] at h; cases h
      | ok p =>
        obtain ⟨z, r1⟩ := p
        rw [e] at h
        obtain ⟨cz, h1, h2⟩ := ho _ _ _ e
        obtain ⟨c', h3, h4⟩ := chainX_len hj ho k (join x z) r1 _ y r (hj _ _ _ _ hx h1) h
        exact ⟨c', h3, by omega⟩
    · injection h with h
      obtain ⟨rfl, rfl⟩ := Prod.mk.inj h
      exact ⟨c, hx, Nat.le_refl _⟩
theorem chainPX_len {sign : List UInt8} {one : List Tok → PRes X} {join : X → X → X} {lo hi : Nat} (hlh : lo ≤ hi) (hj : ∀ a b ca cb, LeX a lo ca → LeX b hi cb → LeX (join a b) lo (ca + sign.length + cb))
    (ho : ∀ l x r, one l = .ok (x, r) → ∃ c, LeX x hi c ∧ c + lenT r ≤ lenT l) (l : List Tok) (y : X) (r : List Tok) (h : chainP sign one join l = .ok (y, r)) : ∃ c, LeX y lo c ∧ c + lenT r ≤ lenT l := by
  unfold chainP at h
  cases e : one l with
  | error z => rw [e] at h; cases h
  | ok p =>
    obtain ⟨x, r1⟩ := p
    rw [e] at h
    obtain ⟨c, h1, h2⟩ := ho _ _ _ e
    obtain ⟨c', h3, h4⟩ := chainX_len hj ho _ x r1 c y r (h1.mono hlh (Nat.le_refl _)) h
    exact ⟨c', h3, by omega⟩
theorem plus_len : ∀ (k : Nat) (x : X) (l : List Tok) (c : Nat), LeX x 4 c → ∃ c', LeX (plusR k x l).1 4 c' ∧ c' + lenT (plusR k x l).2 ≤ c + lenT l
  | 0, x, l, c, h => ⟨c, h, Nat.le_refl _⟩
  | k + 1, x, l, c, h => by
    rw [plusR]
    split
    · rename_i hs
      have hl := isT_len hs
      obtain ⟨c', h1, h2⟩ := plus_len k (.mk 5 [] [x] noSpan) l.tail (c + 1) (le_plus h)
      simp only [List.length_cons, List.length_nil] at hl
      exact ⟨c', h1, by omega⟩
    · exact ⟨c, h, Nat.le_refl _⟩
theorem num_len {l r : List Tok} {v : Int} (h : numR l = .ok (v, r)) : (Lib.itoa v).length + lenT r = lenT l := by
  cases l with
  | nil => cases h
  | cons t l =>
    have h' : (if t.kind = 2 then Except.ok (digitsV t.text.data.toList, l) else failR 170 (t :: l)) = (Except.ok (v, r) : PRes Int) := h
    split at h'
    · rename_i hk
      injection h' with h'
      obtain ⟨rfl, rfl⟩ := Prod.mk.inj h'
      rw [lenT_cons, wT, if_pos hk]
    · cases h'
theorem interval_len {l r : List Tok} {i : Spn} (h : intervalR l = .ok (i, r)) : (prI Lib.itoa i).length + lenT r = lenT l := by
  unfold intervalR at h
  dsimp only at h
  cases e1 : (if isT [40] l = true then Except.ok l.tail else takeT [91] l : Except (Int × Int) (List Tok)) with
  | error z => rw [e1] at h; cases h
  | ok l1 =>
    rw [e1] at h
    have k1 : lenT l = 1 + lenT l1 := by
      by_cases hs : isT [40] l = true
      · rw [if_pos hs] at e1
        injection e1 with e1
        subst e1
        exact isT_len hs
      · rw [if_neg hs] at e1
        exact takeT_len e1
    dsimp only at h
    cases e2 : numR l1 with
    | error z => rw [e2] at h; cases h
    | ok p =>
      obtain ⟨low, l2⟩ := p
      rw [e2] at h
      have k2 := num_len e2
      dsimp only at h
      cases e3 : takeT [44] l2 with
      | error z => rw [e3] at h; cases h
      | ok l3 =>
        rw [e3] at h
        have k3 := takeT_len e3
        dsimp only at h
        by_cases hs : isT [111, 111] l3 = true
        · rw [if_pos hs] at h
          have k4 := isT_len hs
          cases e4 : takeT [41] l3.tail with
          | error z => rw [e4] at h; cases h
          | ok l4 =>
            rw [e4] at h
            have k5 := takeT_len e4
            injection h with h
            obtain ⟨rfl, rfl⟩ := Prod.mk.inj h
            simp only [List.length_cons, List.length_nil] at k3 k4 k5
            have hb : ∀ b : Bool, (if b = true then ([40] : List UInt8) else [91]).length = 1 := fun b => by cases b <;> rfl
            unfold prI
            simp only [List.length_append, hb, List.length_cons, List.length_nil, if_true]
            omega
        · rw [if_neg hs] at h
          cases e4 : numR l3 with
          | error z => rw [e4] at h; cases h
          | ok p =>
            obtain ⟨high, l4⟩ := p
            rw [e4] at h
            have k4 := num_len e4
            dsimp only at h
            cases e5 : (if isT [41] l4 = true then Except.ok l4.tail else takeT [93] l4 : Except (Int × Int) (List Tok)) with
            | error z => rw [e5] at h; cases h
            | ok l5 =>
              rw [e5] at h
              have k5 : lenT l4 = 1 + lenT l5 := by
                by_cases hs : isT [41] l4 = true
                · rw [if_pos hs] at e5
                  injection e5 with e5
                  subst e5
                  exact isT_len hs
                · rw [if_neg hs] at e5
                  exact takeT_len e5
              injection h with h
              obtain ⟨rfl, rfl⟩ := Prod.mk.inj h
              simp only [List.length_cons, List.length_nil] at k3
              have hb : ∀ b : Bool, (if b = true then ([40] : List UInt8) else [91]).length = 1 := fun b => by cases b <;> rfl
              have hb2 : ∀ b : Bool, (if b = true then ([41] : List UInt8) else [93]).length = 1 := fun b => by cases b <;> rfl
              unfold prI
              simp only [List.length_append, hb, hb2, List.length_cons, List.length_nil, Bool.false_eq_true, if_false]
              omega
theorem within_len {o c : UInt8} {tr : Nat → List Tok → PRes X} {deep : Nat} {l r : List Tok} {x : X} (hf : ∀ d l x r, tr d l = .ok (x, r) → ∃ c, LeX x 1 c ∧ c + lenT r ≤ lenT l) (e : withinR [o] [c] deep tr l = some (.ok (x, r))) : ∃ c, LeX x 1 c ∧ c + 2 + lenT r ≤ lenT l := by
  unfold withinR at e
  split at e
  · rename_i hs
    have hl := isT_len hs
    injection e with e
    split at e
    · cases e
    · cases e2 : tr (deep + 1) l.tail with
      | error z => rw [e2] at e; cases e
      | ok p =>
        obtain ⟨x1, r1⟩ := p
        rw [e2] at e
        dsimp only at e
        cases e3 : takeT [c] r1 with
        | error z => rw [e3] at e; cases e
        | ok r2 =>
          rw [e3] at e
          injection e with e
          obtain ⟨rfl, rfl⟩ := Prod.mk.inj e
          obtain ⟨c, h1, h2⟩ := hf _ _ _ _ e2
          have h3 := takeT_len e3
          simp only [List.length_cons, List.length_nil] at hl h3
          exact ⟨c, h1, by omega⟩
  · cases e
theorem base_len {tr : Nat → List Tok → PRes X} (hf : ∀ d l x r, tr d l = .ok (x, r) → ∃ c, LeX x 1 c ∧ c + lenT r ≤ lenT l) {deep : Nat} {l r : List Tok} {x : X} (h : baseR tr deep l = .ok (x, r)) : ∃ c, LeX x 5 c ∧ c + lenT r ≤ lenT l := by
  unfold baseR at h
  cases e : withinR [40] [41] deep tr l with
  | some q =>
    rw [e] at h
    dsimp only at h
    subst h
    obtain ⟨c, h1, h2⟩ := within_len hf e
    exact ⟨c + 2, fun m n t ht => Nat.le_trans (prX_brace t 5 1) (by have := h1 m n t ht; omega), by omega⟩
  | none =>
    rw [e] at h
    dsimp only at h
    cases e1 : withinR [60] [62] deep tr l with
    | some q =>
      rw [e1] at h
      cases q with
      | error z => cases h
      | ok p =>
        obtain ⟨x1, r1⟩ := p
        dsimp only at h
        obtain ⟨c, h1, h2⟩ := within_len hf e1
        cases e2 : takeT [95] r1 with
        | error z => rw [e2] at h; cases h
        | ok r2 =>
          rw [e2] at h
          have h3 := takeT_len e2
          dsimp only at h
          cases e3 : intervalR r2 with
          | error z => rw [e3] at h; cases h
          | ok p =>
            obtain ⟨i, r3⟩ := p
            rw [e3] at h
            have h4 := interval_len e3
            injection h with h
            obtain ⟨rfl, rfl⟩ := Prod.mk.inj h
            simp only [List.length_cons, List.length_nil] at h3
            exact ⟨3 + c + (prI Lib.itoa i).length, le_timed h1 (Nat.le_refl _), by omega⟩
    | none =>
      rw [e1] at h
      dsimp only at h
      cases e2 : formR 66 deep l with
      | error z => rw [e2] at h; cases h
      | ok p =>
        obtain ⟨f, r1⟩ := p
        rw [e2] at h
        injection h with h
        obtain ⟨rfl, rfl⟩ := Prod.mk.inj h
        obtain ⟨c, h1, h2⟩ := form_len _ _ _ _ _ e2
        exact ⟨c, le_atom h1, h2⟩
theorem tre_len : ∀ (d deep : Nat) (l : List Tok) (x : X) (r : List Tok), treR d deep l = .ok (x, r) → ∃ c, LeX x 1 c ∧ c + lenT r ≤ lenT l
  | 0, deep, l, x, r, h => by rw [treR] at h; cases h
  | d + 1, deep, l, x, r, h => by
    rw [treR_succ] at h
    have hm : ∀ l x r, moreR (treR d) deep l = .ok (x, r) → ∃ c, LeX x 4 c ∧ c + lenT r ≤ lenT l := by
      intro l x r h
      unfold moreR at h
      cases e : baseR (treR d) deep l with
      | error z => rw [e] at h; cases h
      | ok p =>
        obtain ⟨x1, r1⟩ := p
        rw [e] at h
        dsimp only at h
        obtain ⟨c, h1, h2⟩ := base_len (fun dd l x r h => tre_len d dd l x r h) e
        obtain ⟨c', h3, h4⟩ := plus_len r1.length x1 r1 c (h1.mono (by omega) (Nat.le_refl _))
        injection h with h
        rw [h] at h3 h4
        dsimp only at h3 h4
        exact ⟨c', h3, by omega⟩
    refine chainPX_len (lo := 1) (hi := 2) (by omega) (le_join (.inl ⟨rfl, rfl, rfl⟩)) (fun l x r h => ?_) l x r h
    refine chainPX_len (lo := 2) (hi := 3) (by omega) (le_join (.inr (.inl ⟨rfl, rfl, rfl⟩))) (fun l x r h => ?_) l x r h
    exact chainPX_len (lo := 3) (hi := 4) (by omega) (le_join (.inr (.inr ⟨rfl, rfl, rfl⟩))) hm l x r h

/-- What is parsed of a text's tokens and printed is no longer than these. -/
theorem all_len {l : List Tok} {stop : Int} {x : X} (h : allR l stop = .ok x) : LeX x 0 (lenT l) := by
  unfold allR at h
  cases e : treR 66 0 (l ++ [⟨0, ⟨#[]⟩, stop⟩]) with
  | error z => rw [e] at h; cases h
  | ok p =>
    obtain ⟨x1, r⟩ := p
    rw [e] at h
    dsimp only at h
    split at h
    · cases h
    · injection h with h
      subst h
      obtain ⟨c, h1, h2⟩ := tre_len _ _ _ _ _ e
      have hl : lenT (l ++ [⟨0, ⟨#[]⟩, stop⟩]) = lenT l := by
        simp [lenT, wT]
      exact h1.mono (by omega) (by omega)
/-- The tokens of a text are no longer than it. -/
theorem cut_len {s : List UInt8} {l : List Tok} (h : cut 0 s = .ok l) : lenT l ≤ s.length := by
  have hk := cut_kinds s 0 l h
  have h1 := glue_short s 0 l h
  have key : ∀ (l : List Tok) (p : List UInt8), (∀ t ∈ l, wT t ≤ t.text.data.toList.length) → lenT l ≤ (glueFrom p (textsOf l)).length := by
    intro l
    induction l with
    | nil => intro p _; simp [lenT]
    | cons t l ih =>
      intro p hw
      have h1 := ih t.text.data.toList (fun u hu => hw u (by simp [hu]))
      have h2 := hw t (by simp)
      rw [lenT_cons]
      show _ ≤ (glueFrom p (t.text.data.toList :: textsOf l)).length
      rw [glueFrom]
      split <;> simp only [List.length_append, List.length_cons] <;> omega
  have hw : ∀ t ∈ l, wT t ≤ t.text.data.toList.length := by
    intro t ht
    obtain ⟨k1, k2, _⟩ := hk t ht
    unfold wT
    split
    · rename_i h2
      rw [h2] at k1
      obtain ⟨a, b⟩ := kind_num k1
      obtain ⟨n, p1, p2, p3⟩ := (numOk_iff _ b).1 a
      obtain ⟨hall, hn⟩ := parse_ok _ _ _ _ p1
      rw [digitsV_eq _ hall, ← hn, Lib.itoa_nonneg, p3]
      exact Nat.le_refl _
    · exact Nat.le_refl _
  refine Nat.le_trans ?_ h1
  rw [glue_eq_from]
  exact key l [] hw
end Go.Proofs.YtpgdplmndnopbaaGreatDoor
