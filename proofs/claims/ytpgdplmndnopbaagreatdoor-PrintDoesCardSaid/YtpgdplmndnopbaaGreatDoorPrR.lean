/- An expression with brackets around, one level deeper, is parsed to the same, or lies too deep. No program. -/
import Derived.Test.YtpgdplmndnopbaaGreatDoorPrO
import Derived.Test.YtpgdplmndnopbaaGreatDoorPrQ
namespace Go.Proofs.YtpgdplmndnopbaaGreatDoor
open Go.RowKit

section
variable {E S : Tok} {R : List Tok}
theorem sim_head (hE : EndS E S) {l l' : List Tok} (h : Sim E S R l l') {u : List UInt8} (hu : u ≠ []) (ht : isT u l = true) (s : List UInt8) : isT s l = isT s l' := by
  obtain ⟨b, b', rfl, rfl, hp⟩ := h
  cases b with
  | nil => rw [List.nil_append, isT_no hE.et (fun e => hu e.symm)] at ht; cases ht
  | cons t b =>
    cases b' with
    | nil => simp [plainT] at hp
    | cons t' b' =>
      simp only [plainT, List.map_cons, List.cons.injEq, Prod.mk.injEq] at hp
      show (t.kind != 2 && t.text.data.toList == s) = (t'.kind != 2 && t'.text.data.toList == s)
      rw [hp.1.1, hp.1.2]
theorem num_sim (hE : EndS E S) {l l' r : List Tok} {v : Int} (h : Sim E S R l l') (e : numR l = .ok (v, r)) : ∃ r', numR l' = .ok (v, r') ∧ Sim E S R r r' := by
  obtain ⟨b, b', rfl, rfl, hp⟩ := h
  cases b with
  | nil =>
    have e' : (if E.kind = 2 then Except.ok (digitsV E.text.data.toList, []) else failR 170 [E]) = (Except.ok (v, r) : PRes Int) := e
    rw [if_neg (by rw [hE.ek]; decide)] at e'
    cases e'
  | cons t b =>
    cases b' with
    | nil => simp [plainT] at hp
    | cons t' b' =>
      simp only [plainT, List.map_cons, List.cons.injEq, Prod.mk.injEq] at hp
      have e' : (if t.kind = 2 then Except.ok (digitsV t.text.data.toList, b ++ [E]) else failR 170 (t :: (b ++ [E]))) = (Except.ok (v, r) : PRes Int) := e
      show ∃ r', (if t'.kind = 2 then Except.ok (digitsV t'.text.data.toList, b' ++ S :: R) else failR 170 (t' :: (b' ++ S :: R))) = (Except.ok (v, r') : PRes Int) ∧ Sim E S R r r'
      rw [← hp.1.1, ← hp.1.2]
      split at e'
      · rename_i hk
        rw [if_pos hk]
        injection e' with e'
        obtain ⟨rfl, rfl⟩ := Prod.mk.inj e'
        exact ⟨_, rfl, b, b', rfl, rfl, hp.2⟩
      · cases e'
theorem may_sim (hE : EndS E S) {s u : List UInt8} (hs : s ≠ []) (hu : u ≠ []) {l l' r : List Tok} (h : Sim E S R l l') (e : (if isT s l = true then Except.ok l.tail else takeT u l : Except (Int × Int) (List Tok)) = .ok r) :
    isT s l = isT s l' ∧ ∃ r', (if isT s l' = true then Except.ok l'.tail else takeT u l' : Except (Int × Int) (List Tok)) = .ok r' ∧ Sim E S R r r' := by
  by_cases ht : isT s l = true
  · rw [if_pos ht] at e
    injection e with e
    subst e
    obtain ⟨a, b⟩ := sim_true hE h hs ht
    rw [if_pos a]
    exact ⟨by rw [ht, a], _, rfl, b⟩
  · rw [if_neg ht] at e
    have hk : isT u l = true := by
      unfold takeT at e
      split at e
      · assumption
      · cases e
    have hh := sim_head hE h hu hk s
    obtain ⟨r', e2, hr⟩ := take_sim hE hu h e
    rw [if_neg (by rw [← hh]; exact ht)]
    exact ⟨hh, r', e2, hr⟩
theorem interval_sim (hE : EndS E S) {l l' : List Tok} (h : Sim E S R l l') : Qs E S R (intervalR l) (intervalR l') := fun x r e => by
  unfold intervalR at e ⊢
  dsimp only at e ⊢
  cases e1 : (if isT [40] l = true then Except.ok l.tail else takeT [91] l : Except (Int × Int) (List Tok)) with
  | error z => rw [e1] at e; cases e
  | ok l1 =>
    rw [e1] at e
    obtain ⟨k1, l1', f1, s1⟩ := may_sim hE (by decide) (by decide) h e1
    rw [f1]
    dsimp only at e ⊢
    cases e2 : numR l1 with
    | error z => rw [e2] at e; cases e
    | ok p =>
      obtain ⟨low, l2⟩ := p
      rw [e2] at e
      obtain ⟨l2', f2, s2⟩ := num_sim hE s1 e2
      rw [f2]
      dsimp only at e ⊢
      cases e3 : takeT [44] l2 with
      | error z => rw [e3] at e; cases e
      | ok l3 =>
        rw [e3] at e
        obtain ⟨l3', f3, s3⟩ := take_sim hE (by decide) s2 e3
        rw [f3]
        dsimp only at e ⊢
        rw [← sim_isT hE s3 (by decide : ([111, 111] : List UInt8) ≠ []) (by decide)]
        by_cases hs : isT [111, 111] l3 = true
        · rw [if_pos hs] at e ⊢
          obtain ⟨_, s4⟩ := sim_true hE s3 (by decide) hs
          cases e4 : takeT [41] l3.tail with
          | error z => rw [e4] at e; cases e
          | ok l4 =>
            rw [e4] at e
            obtain ⟨l4', f4, s5⟩ := take_sim hE (by decide) s4 e4
            rw [f4]
            injection e with e
            obtain ⟨rfl, rfl⟩ := Prod.mk.inj e
            rw [k1]
            exact .inl ⟨_, rfl, s5⟩
        · rw [if_neg hs] at e ⊢
          cases e4 : numR l3 with
          | error z => rw [e4] at e; cases e
          | ok p =>
            obtain ⟨high, l4⟩ := p
            rw [e4] at e
            obtain ⟨l4', f4, s4⟩ := num_sim hE s3 e4
            rw [f4]
            dsimp only at e ⊢
            cases e5 : (if isT [41] l4 = true then Except.ok l4.tail else takeT [93] l4 : Except (Int × Int) (List Tok)) with
            | error z => rw [e5] at e; cases e
            | ok l5 =>
              rw [e5] at e
              obtain ⟨k5, l5', f5, s5⟩ := may_sim hE (by decide) (by decide) s4 e5
              rw [f5]
              injection e with e
              obtain ⟨rfl, rfl⟩ := Prod.mk.inj e
              rw [k1, k5]
              exact .inl ⟨_, rfl, s5⟩
theorem plus_sim (hE : EndS E S) : ∀ (k k' : Nat) (x : X) (l l' : List Tok), Sim E S R l l' → l.length ≤ k → l'.length ≤ k' → (plusR k x l).1 = (plusR k' x l').1 ∧ Sim E S R (plusR k x l).2 (plusR k' x l').2
  | 0, k', x, l, l', h, g, _ => by have := sim_pos h; omega
  | k + 1, 0, x, l, l', h, _, g => by have := sim_pos h; omega
  | k + 1, k' + 1, x, l, l', h, g, g' => by
    rw [plusR, plusR, ← sim_isT hE h (by decide : ([43] : List UInt8) ≠ []) (by decide)]
    split
    · rename_i ht
      obtain ⟨ht', htl⟩ := sim_true hE h (by decide) ht
      have p1 := isT_pos ht
      have p2 := isT_pos ht'
      exact plus_sim hE k k' _ _ _ htl (by omega) (by omega)
    · exact ⟨rfl, h⟩
theorem base_sim (hE : EndS E S) {tr tr' : Nat → List Tok → PRes X} {deep : Nat} (hd0 : deep ≤ 64) (hf : deep < 64 → ∀ l l', Sim E S R l l' → Qs E S R (tr (deep + 1) l) (tr' (deep + 1 + 1) l')) {l l' : List Tok} (h : Sim E S R l l') :
    Qs E S R (baseR tr deep l) (baseR tr' (deep + 1) l') := fun x r e => by
  unfold baseR at e ⊢
  rcases within_sim hE (by decide : ([40] : List UInt8) ≠ []) (by decide) (by decide : ([41] : List UInt8) ≠ []) hd0 hf h with ⟨w1, w2⟩ | ⟨q, q', w1, w2, hq⟩
  · rw [w1] at e
    rw [w2]
    dsimp only at e ⊢
    rcases within_sim hE (by decide : ([60] : List UInt8) ≠ []) (by decide) (by decide : ([62] : List UInt8) ≠ []) hd0 hf h with ⟨w3, w4⟩ | ⟨q, q', w3, w4, hq⟩
    · rw [w3] at e
      rw [w4]
      dsimp only at e ⊢
      cases e2 : formR 66 deep l with
      | error z => rw [e2] at e; cases e
      | ok p =>
        obtain ⟨f, r1⟩ := p
        rw [e2] at e
        injection e with e
        obtain ⟨rfl, rfl⟩ := Prod.mk.inj e
        rcases form_sim hE 66 deep hd0 (by omega) _ _ h _ _ e2 with ⟨r1', f2, hr⟩ | ⟨p, f2⟩
        · rw [f2]; exact .inl ⟨_, rfl, hr⟩
        · rw [f2]; exact .inr ⟨p, rfl⟩
    · rw [w3] at e
      rw [w4]
      cases q with
      | error z => cases e
      | ok p =>
        obtain ⟨x1, r1⟩ := p
        dsimp only at e
        rcases hq _ _ rfl with ⟨r1', f1, s1⟩ | ⟨p, f1⟩
        · subst f1
          dsimp only
          cases e2 : takeT [95] r1 with
          | error z => rw [e2] at e; cases e
          | ok r2 =>
            rw [e2] at e
            obtain ⟨r2', f2, s2⟩ := take_sim hE (by decide) s1 e2
            rw [f2]
            dsimp only at e ⊢
            cases e3 : intervalR r2 with
            | error z => rw [e3] at e; cases e
            | ok p =>
              obtain ⟨i, r3⟩ := p
              rw [e3] at e
              injection e with e
              obtain ⟨rfl, rfl⟩ := Prod.mk.inj e
              rcases interval_sim hE s2 _ _ e3 with ⟨r3', f3, s3⟩ | ⟨p, f3⟩
              · rw [f3]; exact .inl ⟨_, rfl, s3⟩
              · rw [f3]; exact .inr ⟨p, rfl⟩
        · subst f1
          exact .inr ⟨p, rfl⟩
  · rw [w1] at e
    rw [w2]
    exact hq x r e
theorem moreR_sh (d dd : Nat) (l : List Tok) : Sh l (moreR (treR d) dd l) := fun x r h => by
  unfold moreR at h
  cases e : baseR (treR d) dd l with
  | error z => rw [e] at h; cases h
  | ok p =>
    obtain ⟨x1, r1⟩ := p
    rw [e] at h
    dsimp only at h
    have h1 := base_sh (fun dd l => tre_sh d dd l) dd l _ _ e
    have h2 := plus_sh r1.length x1 r1
    injection h with h
    rw [h] at h2
    dsimp only at h2
    omega
theorem more_sim (hE : EndS E S) {tr tr' : Nat → List Tok → PRes X} {deep : Nat} (hd0 : deep ≤ 64) (hf : deep < 64 → ∀ l l', Sim E S R l l' → Qs E S R (tr (deep + 1) l) (tr' (deep + 1 + 1) l')) {l l' : List Tok} (h : Sim E S R l l') :
    Qs E S R (moreR tr deep l) (moreR tr' (deep + 1) l') := fun x r e => by
  unfold moreR at e ⊢
  cases e1 : baseR tr deep l with
  | error z => rw [e1] at e; cases e
  | ok p =>
    obtain ⟨x1, r1⟩ := p
    rw [e1] at e
    dsimp only at e
    rcases base_sim hE hd0 hf h _ _ e1 with ⟨r1', f1, s1⟩ | ⟨p, f1⟩
    · rw [f1]
      dsimp only
      obtain ⟨a1, a2⟩ := plus_sim hE r1.length r1'.length x1 r1 r1' s1 (Nat.le_refl _) (Nat.le_refl _)
      injection e with e
      rw [e] at a1 a2
      dsimp only at a1 a2
      refine .inl ⟨(plusR r1'.length x1 r1').2, ?_, a2⟩
      rw [a1]
    · rw [f1]; exact .inr ⟨p, rfl⟩
theorem tre_sim (hE : EndS E S) : ∀ (d deep : Nat), deep ≤ 64 → 65 ≤ d + deep → ∀ (l l' : List Tok), Sim E S R l l' → Qs E S R (treR (d + 1) deep l) (treR d (deep + 1) l')
  | 0, deep, g, g', l, l', h => by omega
  | d + 1, deep, g, g', l, l', h => by
    rw [treR_succ, treR_succ]
    have hm : ∀ l l', Sim E S R l l' → Qs E S R (moreR (treR (d + 1)) deep l) (moreR (treR d) (deep + 1) l') := fun l l' h =>
      more_sim hE g (fun hlt l l' h => tre_sim hE d (deep + 1) (by omega) (by omega) l l' h) h
    exact chainP_sim hE (by decide) (by decide) (fun l l' h => chainP_sim hE (by decide) (by decide) (fun l l' h => chainP_sim hE (by decide) (by decide) hm (moreR_sh _ _) (moreR_sh _ _) l l' h)
      (fun l => chainP_sh (moreR_sh _ _) l) (fun l => chainP_sh (moreR_sh _ _) l) l l' h)
      (fun l => chainP_sh (fun l => chainP_sh (moreR_sh _ _) l) l) (fun l => chainP_sh (fun l => chainP_sh (moreR_sh _ _) l) l) l l' h
end
theorem chainP_end {α : Type} {sign : List UInt8} (hs : sign ≠ []) {one : List Tok → PRes α} {join : α → α → α} {l : List Tok} {x : α} {e : Tok} (he : e.text.data.toList = []) (h : one l = .ok (x, [e])) : chainP sign one join l = .ok (x, [e]) := by
  unfold chainP
  rw [h]
  show chainR sign one join (0 + 1) x [e] = _
  rw [chainR, isT_no he (fun e => hs e.symm)]
  rfl
theorem chainP_err {α : Type} {sign : List UInt8} {one : List Tok → PRes α} {join : α → α → α} {l : List Tok} {e : Int × Int} (h : one l = .error e) : chainP sign one join l = .error e := by
  unfold chainP
  rw [h]
/-- With brackets around: the same expression, or too deep. -/
theorem wrap_sim {l l' : List Tok} {stop stop' : Int} {x : X} {po pc : Tok} (h : allR l stop = .ok x) (hp : plainT l' = plainT l) (ho : po.kind = 3) (ho' : po.text.data.toList = [40]) (hc : pc.kind = 3) (hc' : pc.text.data.toList = [41]) :
    allR (po :: (l' ++ [pc])) stop' = .ok x ∨ ∃ p, allR (po :: (l' ++ [pc])) stop' = .error (171, p) := by
  unfold allR at h ⊢
  cases e : treR 66 0 (l ++ [⟨0, ⟨#[]⟩, stop⟩]) with
  | error z => rw [e] at h; cases h
  | ok q =>
    obtain ⟨y, r⟩ := q
    rw [e] at h
    dsimp only at h
    split at h
    · cases h
    · rename_i hr
      injection h with h
      subst h
      have hE : EndS ⟨0, ⟨#[]⟩, stop⟩ pc := ⟨rfl, rfl, hc, hc'⟩
      have hS : Sim ⟨0, ⟨#[]⟩, stop⟩ pc [⟨0, ⟨#[]⟩, stop'⟩] (l ++ [⟨0, ⟨#[]⟩, stop⟩]) (l' ++ pc :: [⟨0, ⟨#[]⟩, stop'⟩]) := ⟨l, l', rfl, rfl, hp.symm⟩
      have eL : (po :: (l' ++ [pc])) ++ [(⟨0, ⟨#[]⟩, stop'⟩ : Tok)] = po :: (l' ++ pc :: [⟨0, ⟨#[]⟩, stop'⟩]) := by simp
      rw [eL]
      have hw : isT [40] (po :: (l' ++ pc :: [⟨0, ⟨#[]⟩, stop'⟩])) = true := by
        show (po.kind != 2 && po.text.data.toList == [40]) = true
        rw [ho, ho']; rfl
      rcases tre_sim hE 65 0 (by omega) (by omega) _ _ hS _ _ e with ⟨r', f, b, b', hb, hb', hp2⟩ | ⟨p, f⟩
      · have hb0 : b = [] := by
          subst hb
          simp only [List.length_append, List.length_cons, List.length_nil] at hr
          exact List.length_eq_zero_iff.1 (by omega)
        subst hb0
        obtain rfl : b' = [] := plain_nil (by rw [← hp2]; rfl)
        rw [List.nil_append] at hb'
        subst hb'
        have hin : withinR [40] [41] 0 (treR 65) (po :: (l' ++ pc :: [⟨0, ⟨#[]⟩, stop'⟩])) = some (.ok (y, [⟨0, ⟨#[]⟩, stop'⟩])) := by
          unfold withinR
          rw [if_pos hw, if_neg (by decide)]
          have f' : treR 65 (0 + 1) (po :: (l' ++ pc :: [⟨0, ⟨#[]⟩, stop'⟩])).tail = .ok (y, pc :: [⟨0, ⟨#[]⟩, stop'⟩]) := f
          rw [f']
          dsimp only
          have ht : takeT [41] (pc :: [(⟨0, ⟨#[]⟩, stop'⟩ : Tok)]) = .ok [⟨0, ⟨#[]⟩, stop'⟩] := by
            unfold takeT
            rw [if_pos (by show (pc.kind != 2 && pc.text.data.toList == [41]) = true; rw [hc, hc']; rfl)]
            rfl
          rw [ht]
        have hm : moreR (treR 65) 0 (po :: (l' ++ pc :: [⟨0, ⟨#[]⟩, stop'⟩])) = .ok (y, [⟨0, ⟨#[]⟩, stop'⟩]) := by
          unfold moreR baseR
          rw [hin]
          rfl
        have ht : treR 66 0 (po :: (l' ++ pc :: [⟨0, ⟨#[]⟩, stop'⟩])) = .ok (y, [⟨0, ⟨#[]⟩, stop'⟩]) := by
          rw [treR_succ]
          exact chainP_end (by decide) rfl (chainP_end (by decide) rfl (chainP_end (by decide) rfl hm))
        rw [ht]
        exact .inl rfl
      · have hin : withinR [40] [41] 0 (treR 65) (po :: (l' ++ pc :: [⟨0, ⟨#[]⟩, stop'⟩])) = some (.error (171, p)) := by
          unfold withinR
          rw [if_pos hw, if_neg (by decide)]
          have f' : treR 65 (0 + 1) (po :: (l' ++ pc :: [⟨0, ⟨#[]⟩, stop'⟩])).tail = .error (171, p) := f
          rw [f']
        have ht : treR 66 0 (po :: (l' ++ pc :: [⟨0, ⟨#[]⟩, stop'⟩])) = .error (171, p) := by
          rw [treR_succ]
          refine chainP_err (chainP_err (chainP_err ?_))
          unfold moreR baseR
          rw [hin]
        rw [ht]
        exact .inr ⟨p, rfl⟩
end Go.Proofs.YtpgdplmndnopbaaGreatDoor
