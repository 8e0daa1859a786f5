/- What the parser answers hangs on the tokens alone, but for places: expressions. No program. -/
import Derived.Test.YtpgdplmndnopbaaGreatDoorPrM
import Derived.Test.YtpgdplmndnopbaaGreatDoorMgG
namespace Go.Proofs.YtpgdplmndnopbaaGreatDoor
open Go.RowKit

theorem num_rel {l l' : List Tok} (h : plainT l = plainT l') : Rl (numR l) (numR l') := by
  cases l with
  | nil => cases l' with
    | nil => exact fail_rel _
    | cons t l' => simp [plainT] at h
  | cons t l => cases l' with
    | nil => simp [plainT] at h
    | cons t' l' =>
      have h0 := h
      simp only [plainT, List.map_cons, List.cons.injEq, Prod.mk.injEq] at h0
      show Rl (if t.kind = 2 then Except.ok (digitsV t.text.data.toList, l) else failR 170 (t :: l)) (if t'.kind = 2 then Except.ok (digitsV t'.text.data.toList, l') else failR 170 (t' :: l'))
      rw [h0.1.1, h0.1.2]
      split
      · exact .ok _ _ _ h0.2
      · exact fail_rel _
theorem may_rel {l l' : List Tok} (h : plainT l = plainT l') (s u : List UInt8) : Rk (if isT s l = true then .ok l.tail else takeT u l) (if isT s l' = true then .ok l'.tail else takeT u l') := by
  rw [plain_isT h]
  split
  · exact .ok _ _ (plain_tail h)
  · exact take_rel h u
theorem interval_rel {l l' : List Tok} (h : plainT l = plainT l') : Rl (intervalR l) (intervalR l') := by
  unfold intervalR
  dsimp only
  have h1 := may_rel h [40] [91]
  have e1 := plain_isT h [40]
  generalize (if isT [40] l = true then Except.ok l.tail else takeT [91] l : Except (Int × Int) (List Tok)) = a at h1 ⊢
  generalize (if isT [40] l' = true then Except.ok l'.tail else takeT [91] l' : Except (Int × Int) (List Tok)) = b at h1 ⊢
  cases h1 with
  | err e p p' => exact .err _ _ _
  | ok l1 l1' h1 =>
    dsimp only
    have h2 := num_rel h1
    generalize numR l1 = a at h2 ⊢
    generalize numR l1' = b at h2 ⊢
    cases h2 with
    | err e p p' => exact .err _ _ _
    | ok low l2 l2' h2 =>
      dsimp only
      have h3 := take_rel h2 [44]
      generalize takeT [44] l2 = a at h3 ⊢
      generalize takeT [44] l2' = b at h3 ⊢
      cases h3 with
      | err e p p' => exact .err _ _ _
      | ok l3 l3' h3 =>
        dsimp only
        rw [plain_isT h3 [111, 111]]
        split
        · have h4 := take_rel (plain_tail h3) [41]
          generalize takeT [41] l3.tail = a at h4 ⊢
          generalize takeT [41] l3'.tail = b at h4 ⊢
          cases h4 with
          | err e p p' => exact .err _ _ _
          | ok l4 l4' h4 => dsimp only; rw [e1]; exact .ok _ _ _ h4
        · have h4 := num_rel h3
          generalize numR l3 = a at h4 ⊢
          generalize numR l3' = b at h4 ⊢
          cases h4 with
          | err e p p' => exact .err _ _ _
          | ok high l4 l4' h4 =>
            dsimp only
            have h5 := may_rel h4 [41] [93]
            have e5 := plain_isT h4 [41]
            generalize (if isT [41] l4 = true then Except.ok l4.tail else takeT [93] l4 : Except (Int × Int) (List Tok)) = a at h5 ⊢
            generalize (if isT [41] l4' = true then Except.ok l4'.tail else takeT [93] l4' : Except (Int × Int) (List Tok)) = b at h5 ⊢
            cases h5 with
            | err e p p' => exact .err _ _ _
            | ok l5 l5' h5 => dsimp only; rw [e1, e5]; exact .ok _ _ _ h5
theorem base_rel {tr : Nat → List Tok → PRes X} (hf : ∀ d l l', plainT l = plainT l' → Rl (tr d l) (tr d l')) (deep : Nat) {l l' : List Tok} (h : plainT l = plainT l') : Rl (baseR tr deep l) (baseR tr deep l') := by
  unfold baseR
  have hw := within_rel (o := [40]) (c := [41]) (deep := deep) hf h
  generalize withinR [40] [41] deep tr l = a at hw ⊢
  generalize withinR [40] [41] deep tr l' = b at hw ⊢
  cases hw with
  | some a b hab => exact hab
  | none =>
    dsimp only
    have hw := within_rel (o := [60]) (c := [62]) (deep := deep) hf h
    generalize withinR [60] [62] deep tr l = a at hw ⊢
    generalize withinR [60] [62] deep tr l' = b at hw ⊢
    cases hw with
    | some a b hab =>
      cases hab with
      | err e p p' => exact .err _ _ _
      | ok x r r' hr =>
        dsimp only
        have h3 := take_rel hr [95]
        generalize takeT [95] r = a at h3 ⊢
        generalize takeT [95] r' = b at h3 ⊢
        cases h3 with
        | err e p p' => exact .err _ _ _
        | ok l3 l3' h3 =>
          dsimp only
          have h4 := interval_rel h3
          generalize intervalR l3 = a at h4 ⊢
          generalize intervalR l3' = b at h4 ⊢
          cases h4 with
          | err e p p' => exact .err _ _ _
          | ok i l4 l4' h4 => exact .ok _ _ _ h4
    | none =>
      dsimp only
      have h4 := form_rel 66 deep l l' h
      generalize formR 66 deep l = a at h4 ⊢
      generalize formR 66 deep l' = b at h4 ⊢
      cases h4 with
      | err e p p' => exact .err _ _ _
      | ok f l4 l4' h4 => exact .ok _ _ _ h4
theorem plus_rel : ∀ (k : Nat) (x : X) (l l' : List Tok), plainT l = plainT l' → (plusR k x l).1 = (plusR k x l').1 ∧ plainT (plusR k x l).2 = plainT (plusR k x l').2
  | 0, x, l, l', h => ⟨rfl, h⟩
  | k + 1, x, l, l', h => by
    rw [plusR, plusR, plain_isT h]
    split
    · exact plus_rel k _ _ _ (plain_tail h)
    · exact ⟨rfl, h⟩
theorem tre_rel : ∀ (d deep : Nat) (l l' : List Tok), plainT l = plainT l' → Rl (treR d deep l) (treR d deep l')
  | 0, deep, l, l', h => fail_rel _
  | d + 1, deep, l, l', h => by
    rw [treR_succ, treR_succ]
    refine chainP_rel (fun l l' h => chainP_rel (fun l l' h => chainP_rel (fun l l' h => ?_) l l' h) l l' h) l l' h
    unfold moreR
    have hb := base_rel (fun dd l l' h => tre_rel d dd l l' h) deep h
    generalize baseR (treR d) deep l = a at hb ⊢
    generalize baseR (treR d) deep l' = b at hb ⊢
    cases hb with
    | err e p p' => exact .err _ _ _
    | ok x r r' hr =>
      dsimp only
      obtain ⟨h1, h2⟩ := plus_rel r.length x r r' hr
      rw [← plain_len hr]
      generalize plusR r.length x r = a at h1 h2 ⊢
      generalize plusR r.length x r' = b at h1 h2 ⊢
      obtain ⟨a1, a2⟩ := a
      obtain ⟨b1, b2⟩ := b
      obtain rfl : a1 = b1 := h1
      exact .ok _ _ _ h2
/-- All of a text's tokens: the same expression, or the same error, wherever they stand. -/
theorem all_rel {l l' : List Tok} (stop stop' : Int) (h : plainT l = plainT l') : (∃ x, allR l stop = .ok x ∧ allR l' stop' = .ok x) ∨ ∃ e p p', allR l stop = .error (e, p) ∧ allR l' stop' = .error (e, p') := by
  have h0 : plainT (l ++ [⟨0, ⟨#[]⟩, stop⟩]) = plainT (l' ++ [⟨0, ⟨#[]⟩, stop'⟩]) := by
    unfold plainT at h ⊢
    rw [List.map_append, List.map_append, h]; rfl
  have ht := tre_rel 66 0 _ _ h0
  unfold allR
  generalize treR 66 0 (l ++ [⟨0, ⟨#[]⟩, stop⟩]) = a at ht ⊢
  generalize treR 66 0 (l' ++ [⟨0, ⟨#[]⟩, stop'⟩]) = b at ht ⊢
  cases ht with
  | err e p p' => exact .inr ⟨e, p, p', rfl, rfl⟩
  | ok x r r' hr =>
    dsimp only
    rw [plain_len hr]
    split
    · exact .inr ⟨170, _, _, rfl, rfl⟩
    · exact .inl ⟨x, rfl, rfl⟩
end Go.Proofs.YtpgdplmndnopbaaGreatDoor
