/- A formula with a bracket behind it, one level deeper, is parsed to the same, or lies too deep. No program. -/
import Derived.Test.YtpgdplmndnopbaaGreatDoorPrN
import Derived.Test.YtpgdplmndnopbaaGreatDoorMgK
namespace Go.Proofs.YtpgdplmndnopbaaGreatDoor
open Go.RowKit

/-- The same tokens, the end behind the one, a bracket behind the other. -/
def Sim (E S : Tok) (R l l' : List Tok) : Prop := ∃ b b', l = b ++ [E] ∧ l' = b' ++ S :: R ∧ plainT b = plainT b'
structure EndS (E S : Tok) : Prop where
  ek : E.kind = 0
  et : E.text.data.toList = []
  sk : S.kind = 3
  st : S.text.data.toList = [41]
section
variable {E S : Tok} {R : List Tok}
theorem sim_isT (hE : EndS E S) {l l' : List Tok} (h : Sim E S R l l') {s : List UInt8} (h1 : s ≠ []) (h2 : s ≠ [41]) : isT s l = isT s l' := by
  obtain ⟨b, b', rfl, rfl, hp⟩ := h
  cases b with
  | nil =>
    obtain rfl : b' = [] := plain_nil (by rw [← hp]; rfl)
    rw [List.nil_append, List.nil_append, isT_no hE.et (fun e => h1 e.symm), isT_no hE.st (fun e => h2 e.symm)]
  | cons t b =>
    cases b' with
    | nil => simp [plainT] at hp
    | cons t' b' =>
      simp only [plainT, List.map_cons, List.cons.injEq, Prod.mk.injEq] at hp
      show (t.kind != 2 && t.text.data.toList == s) = (t'.kind != 2 && t'.text.data.toList == s)
      rw [hp.1.1, hp.1.2]
theorem sim_true (hE : EndS E S) {l l' : List Tok} (h : Sim E S R l l') {s : List UInt8} (h1 : s ≠ []) (ht : isT s l = true) : isT s l' = true ∧ Sim E S R l.tail l'.tail := by
  obtain ⟨b, b', rfl, rfl, hp⟩ := h
  cases b with
  | nil => rw [List.nil_append, isT_no hE.et (fun e => h1 e.symm)] at ht; cases ht
  | cons t b =>
    cases b' with
    | nil => simp [plainT] at hp
    | cons t' b' =>
      simp only [plainT, List.map_cons, List.cons.injEq, Prod.mk.injEq] at hp
      refine ⟨?_, b, b', rfl, rfl, hp.2⟩
      have ht' : (t.kind != 2 && t.text.data.toList == s) = true := ht
      show (t'.kind != 2 && t'.text.data.toList == s) = true
      rw [← hp.1.1, ← hp.1.2]
      exact ht'
theorem sim_pos {l l' : List Tok} (h : Sim E S R l l') : 1 ≤ l.length ∧ 1 ≤ l'.length := by
  obtain ⟨b, b', rfl, rfl, _⟩ := h
  simp only [List.length_append, List.length_cons, List.length_nil]
  omega
/-- Where the one is parsed, the other is, or lies too deep. -/
def Qs (E S : Tok) (R : List Tok) {α : Type} (a a' : PRes α) : Prop := ∀ x r, a = .ok (x, r) → (∃ r', a' = .ok (x, r') ∧ Sim E S R r r') ∨ ∃ p, a' = .error (171, p)
theorem chain_sim (hE : EndS E S) {α : Type} {sign : List UInt8} (h1 : sign ≠ []) (h2 : sign ≠ [41]) {one one' : List Tok → PRes α} {join : α → α → α} (ho : ∀ l l', Sim E S R l l' → Qs E S R (one l) (one' l')) (hs : ∀ l, Sh l (one l)) (hs' : ∀ l, Sh l (one' l)) :
    ∀ (k k' : Nat) (x : α) (l l' : List Tok), Sim E S R l l' → l.length ≤ k → l'.length ≤ k' → Qs E S R (chainR sign one join k x l) (chainR sign one' join k' x l')
  | 0, k', x, l, l', h, g, _ => by have := sim_pos h; omega
  | k + 1, 0, x, l, l', h, _, g => by have := sim_pos h; omega
  | k + 1, k' + 1, x, l, l', h, g, g' => fun y r e => by
    rw [chainR] at e ⊢
    rw [← sim_isT hE h h1 h2]
    split at e
    · rename_i ht
      rw [if_pos ht]
      obtain ⟨ht', htl⟩ := sim_true hE h h1 ht
      have p1 := isT_pos ht
      have p2 := isT_pos ht'
      cases e1 : one l.tail with
      | error z => rw [e1] at e; cases e
      | ok p =>
        obtain ⟨z, r1⟩ := p
        rw [e1] at e
        rcases ho _ _ htl _ _ e1 with ⟨r1', e2, hr⟩ | ⟨p, e2⟩
        · rw [e2]
          exact chain_sim hE h1 h2 ho hs hs' k k' (join x z) r1 r1' hr (by have := hs _ _ _ e1; omega) (by have := hs' _ _ _ e2; omega) y r e
        · rw [e2]; exact .inr ⟨p, rfl⟩
    · rename_i ht
      rw [if_neg ht]
      injection e with e
      obtain ⟨rfl, rfl⟩ := Prod.mk.inj e
      exact .inl ⟨l', rfl, h⟩
theorem chainP_sim (hE : EndS E S) {α : Type} {sign : List UInt8} (h1 : sign ≠ []) (h2 : sign ≠ [41]) {one one' : List Tok → PRes α} {join : α → α → α} (ho : ∀ l l', Sim E S R l l' → Qs E S R (one l) (one' l')) (hs : ∀ l, Sh l (one l)) (hs' : ∀ l, Sh l (one' l))
    (l l' : List Tok) (h : Sim E S R l l') : Qs E S R (chainP sign one join l) (chainP sign one' join l') := fun y r e => by
  unfold chainP at e ⊢
  cases e1 : one l with
  | error z => rw [e1] at e; cases e
  | ok p =>
    obtain ⟨x, r1⟩ := p
    rw [e1] at e
    rcases ho _ _ h _ _ e1 with ⟨r1', e2, hr⟩ | ⟨p, e2⟩
    · rw [e2]
      exact chain_sim hE h1 h2 ho hs hs' _ _ x r1 r1' hr (Nat.le_refl _) (Nat.le_refl _) y r e
    · rw [e2]; exact .inr ⟨p, rfl⟩
theorem take_sim (hE : EndS E S) {s : List UInt8} (h1 : s ≠ []) {l l' r : List Tok} (h : Sim E S R l l') (e : takeT s l = .ok r) : ∃ r', takeT s l' = .ok r' ∧ Sim E S R r r' := by
  unfold takeT at e ⊢
  split at e
  · rename_i ht
    obtain ⟨a, b⟩ := sim_true hE h h1 ht
    injection e with e
    subst e
    rw [if_pos a]
    exact ⟨_, rfl, b⟩
  · cases e
/-- Between two signs: the same, or too deep. -/
theorem within_sim (hE : EndS E S) {α : Type} {o c : List UInt8} (h1 : o ≠ []) (h2 : o ≠ [41]) (h3 : c ≠ []) {deep : Nat} (hd0 : deep ≤ 64) {one one' : Nat → List Tok → PRes α} (ho : deep < 64 → ∀ l l', Sim E S R l l' → Qs E S R (one (deep + 1) l) (one' (deep + 1 + 1) l')) {l l' : List Tok} (h : Sim E S R l l') :
    (withinR o c deep one l = none ∧ withinR o c (deep + 1) one' l' = none) ∨ ∃ q q', withinR o c deep one l = some q ∧ withinR o c (deep + 1) one' l' = some q' ∧ Qs E S R q q' := by
  unfold withinR
  rw [← sim_isT hE h h1 h2]
  split
  · rename_i ht
    obtain ⟨_, htl⟩ := sim_true hE h h1 ht
    refine .inr ⟨_, _, rfl, rfl, fun x r e => ?_⟩
    split at e
    · cases e
    · rename_i hd
      split
      · exact .inr ⟨_, rfl⟩
      · rename_i hd'
        cases e1 : one (deep + 1) l.tail with
        | error z => rw [e1] at e; cases e
        | ok p =>
          obtain ⟨x1, r1⟩ := p
          rw [e1] at e
          dsimp only at e
          rcases ho (by omega) _ _ htl _ _ e1 with ⟨r1', e2, hr⟩ | ⟨p, e2⟩
          · rw [e2]
            dsimp only
            cases e3 : takeT c r1 with
            | error z => rw [e3] at e; cases e
            | ok r2 =>
              rw [e3] at e
              injection e with e
              obtain ⟨rfl, rfl⟩ := Prod.mk.inj e
              obtain ⟨r2', e4, hr2⟩ := take_sim hE h3 hr e3
              rw [e4]
              exact .inl ⟨r2', rfl, hr2⟩
          · rw [e2]; exact .inr ⟨p, rfl⟩
  · exact .inl ⟨rfl, rfl⟩
theorem one_sim (hE : EndS E S) {fm fm' : Nat → List Tok → PRes F} {deep : Nat} (hd0 : deep ≤ 64) (hf : deep < 64 → ∀ l l', Sim E S R l l' → Qs E S R (fm (deep + 1) l) (fm' (deep + 1 + 1) l')) : ∀ (k k' : Nat) (l l' : List Tok), l.length < k → l'.length < k' → Sim E S R l l' → Qs E S R (oneR fm deep k l) (oneR fm' (deep + 1) k' l')
  | 0, _, l, l', g, _, h => by omega
  | k + 1, 0, l, l', _, g, h => by omega
  | k + 1, k' + 1, l, l', g, g', h => fun x r e => by
    rw [oneR.eq_def] at e
    rw [oneR.eq_def fm' (deep + 1) (k' + 1) l']
    dsimp only at e ⊢
    rcases within_sim hE (by decide : ([123] : List UInt8) ≠ []) (by decide) (by decide : ([125] : List UInt8) ≠ []) hd0 hf h with ⟨w1, w2⟩ | ⟨q, q', w1, w2, hq⟩
    · rw [w1] at e
      rw [w2]
      dsimp only at e ⊢
      rw [← sim_isT hE h (by decide : ([33] : List UInt8) ≠ []) (by decide), ← sim_isT hE h (by decide : ([116, 114, 117, 101] : List UInt8) ≠ []) (by decide), ← sim_isT hE h (by decide : ([102, 97, 108, 115, 101] : List UInt8) ≠ []) (by decide)]
      split at e
      · rename_i ht
        rw [if_pos ht]
        obtain ⟨ht', htl⟩ := sim_true hE h (by decide : ([33] : List UInt8) ≠ []) ht
        have p1 := isT_pos ht
        have p2 := isT_pos ht'
        cases e1 : oneR fm deep k l.tail with
        | error z => rw [e1] at e; cases e
        | ok p =>
          obtain ⟨x1, r1⟩ := p
          rw [e1] at e
          injection e with e
          obtain ⟨rfl, rfl⟩ := Prod.mk.inj e
          rcases one_sim hE hd0 hf k k' _ _ (by omega) (by omega) htl _ _ e1 with ⟨r1', e2, hr⟩ | ⟨p, e2⟩
          · rw [e2]; exact .inl ⟨r1', rfl, hr⟩
          · rw [e2]; exact .inr ⟨p, rfl⟩
      · rename_i ht
        rw [if_neg ht]
        split at e
        · rename_i ht2
          rw [if_pos ht2]
          injection e with e
          obtain ⟨rfl, rfl⟩ := Prod.mk.inj e
          exact .inl ⟨_, rfl, (sim_true hE h (by decide : ([116, 114, 117, 101] : List UInt8) ≠ []) ht2).2⟩
        · rename_i ht2
          rw [if_neg ht2]
          split at e
          · rename_i ht3
            rw [if_pos ht3]
            injection e with e
            obtain ⟨rfl, rfl⟩ := Prod.mk.inj e
            exact .inl ⟨_, rfl, (sim_true hE h (by decide : ([102, 97, 108, 115, 101] : List UInt8) ≠ []) ht3).2⟩
          · rename_i ht3
            rw [if_neg ht3]
            obtain ⟨b, b', rfl, rfl, hp⟩ := h
            cases b with
            | nil =>
              dsimp only [List.nil_append] at e
              rw [if_neg (by rw [hE.ek]; simp)] at e
              cases e
            | cons t b =>
              cases b' with
              | nil => simp [plainT] at hp
              | cons t' b' =>
                simp only [plainT, List.map_cons, List.cons.injEq, Prod.mk.injEq] at hp
                have ht : t.text = t'.text := by
                  have e : t.text.data = t'.text.data := Array.toList_inj.1 hp.1.2
                  cases h1 : t.text; cases h2 : t'.text; rw [h1, h2] at e; exact congrArg _ e
                dsimp only [List.cons_append] at e ⊢
                rw [← hp.1.1, ← ht]
                split at e
                · rename_i hk
                  rw [if_pos hk]
                  injection e with e
                  obtain ⟨rfl, rfl⟩ := Prod.mk.inj e
                  exact .inl ⟨_, rfl, b, b', rfl, rfl, hp.2⟩
                · cases e
    · rw [w1] at e
      rw [w2]
      exact hq x r e
theorem form_sim (hE : EndS E S) : ∀ (d deep : Nat), deep ≤ 64 → 66 ≤ d + deep → ∀ (l l' : List Tok), Sim E S R l l' → Qs E S R (formR d deep l) (formR d (deep + 1) l')
  | 0, deep, g, g', l, l', h => by omega
  | d + 1, deep, g, g', l, l', h => by
    rw [formR_succ, formR_succ]
    have hs : ∀ dd l, Sh l (oneD d dd l) := fun dd l => one_sh (fun d2 l => form_sh d d2 l) dd _ l
    refine chainP_sim hE (by decide) (by decide) (fun l l' h => chainP_sim hE (by decide) (by decide) (fun l l' h => ?_) (hs _) (hs _) l l' h) (fun l => chainP_sh (hs _) l) (fun l => chainP_sh (hs _) l) l l' h
    exact one_sim hE g (fun hlt l l' h => form_sim hE d (deep + 1) (by omega) (by omega) l l' h) _ _ l l' (by omega) (by omega) h
end
end Go.Proofs.YtpgdplmndnopbaaGreatDoor
