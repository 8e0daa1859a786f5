/- What the parser answers hangs on the tokens alone, but for places. No program. -/
import Derived.Test.YtpgdplmndnopbaaGreatDoorMgG
namespace Go.Proofs.YtpgdplmndnopbaaGreatDoor
open Go.RowKit

/-- The same answer, but for places. -/
inductive Rl {α : Type} : PRes α → PRes α → Prop
  | ok (x : α) (r r' : List Tok) (h : plainT r = plainT r') : Rl (.ok (x, r)) (.ok (x, r'))
  | err (e p p' : Int) : Rl (.error (e, p)) (.error (e, p'))
inductive Rk : Except (Int × Int) (List Tok) → Except (Int × Int) (List Tok) → Prop
  | ok (r r' : List Tok) (h : plainT r = plainT r') : Rk (.ok r) (.ok r')
  | err (e p p' : Int) : Rk (.error (e, p)) (.error (e, p'))
theorem plain_len {l l' : List Tok} (h : plainT l = plainT l') : l.length = l'.length := by
  have := congrArg List.length h
  simpa [plainT] using this
theorem plain_tail {l l' : List Tok} (h : plainT l = plainT l') : plainT l.tail = plainT l'.tail := by
  have := congrArg List.tail h
  simpa [plainT] using this
theorem plain_isT {l l' : List Tok} (h : plainT l = plainT l') (s : List UInt8) : isT s l = isT s l' := by
  cases l with
  | nil => cases l' with
    | nil => rfl
    | cons t l' => simp [plainT] at h
  | cons t l => cases l' with
    | nil => simp [plainT] at h
    | cons t' l' =>
      simp only [plainT, List.map_cons, List.cons.injEq, Prod.mk.injEq] at h
      show (t.kind != 2 && t.text.data.toList == s) = (t'.kind != 2 && t'.text.data.toList == s)
      rw [h.1.1, h.1.2]
theorem fail_rel {α : Type} {l l' : List Tok} (e : Int) : Rl (failR e l : PRes α) (failR e l') := .err _ _ _
theorem take_rel {l l' : List Tok} (h : plainT l = plainT l') (s : List UInt8) : Rk (takeT s l) (takeT s l') := by
  unfold takeT
  rw [plain_isT h]
  split
  · exact .ok _ _ (plain_tail h)
  · exact .err _ _ _
theorem chain_rel {α : Type} {sign : List UInt8} {one : List Tok → PRes α} {join : α → α → α} (ho : ∀ l l', plainT l = plainT l' → Rl (one l) (one l')) : ∀ (k : Nat) (x : α) (l l' : List Tok), plainT l = plainT l' → Rl (chainR sign one join k x l) (chainR sign one join k x l')
  | 0, x, l, l', h => .ok _ _ _ h
  | k + 1, x, l, l', h => by
    rw [chainR, chainR, plain_isT h]
    split
    · have := ho _ _ (plain_tail h)
      generalize one l.tail = a at this ⊢
      generalize one l'.tail = b at this ⊢
      cases this with
      | ok y r r' hr => exact chain_rel ho k _ r r' hr
      | err e p p' => exact .err _ _ _
    · exact .ok _ _ _ h
theorem chainP_rel {α : Type} {sign : List UInt8} {one : List Tok → PRes α} {join : α → α → α} (ho : ∀ l l', plainT l = plainT l' → Rl (one l) (one l')) (l l' : List Tok) (h : plainT l = plainT l') : Rl (chainP sign one join l) (chainP sign one join l') := by
  unfold chainP
  have := ho _ _ h
  generalize one l = a at this ⊢
  generalize one l' = b at this ⊢
  cases this with
  | ok y r r' hr =>
    dsimp only
    rw [plain_len hr]
    exact chain_rel ho _ _ r r' hr
  | err e p p' => exact .err _ _ _
/-- Both none, or both some and the same but for places. -/
inductive Ro {α : Type} : Option (PRes α) → Option (PRes α) → Prop
  | none : Ro none none
  | some (a b : PRes α) (h : Rl a b) : Ro (some a) (some b)
theorem within_rel {α : Type} {o c : List UInt8} {deep : Nat} {one : Nat → List Tok → PRes α} (ho : ∀ d l l', plainT l = plainT l' → Rl (one d l) (one d l')) {l l' : List Tok} (h : plainT l = plainT l') : Ro (withinR o c deep one l) (withinR o c deep one l') := by
  unfold withinR
  rw [plain_isT h]
  split
  · refine .some _ _ ?_
    split
    · exact fail_rel _
    · have := ho (deep + 1) _ _ (plain_tail h)
      generalize one (deep + 1) l.tail = a at this ⊢
      generalize one (deep + 1) l'.tail = b at this ⊢
      cases this with
      | ok y r r' hr =>
        dsimp only
        have := take_rel hr c
        generalize takeT c r = a at this ⊢
        generalize takeT c r' = b at this ⊢
        cases this with
        | ok r2 r2' h2 => exact .ok _ _ _ h2
        | err e p p' => exact .err _ _ _
      | err e p p' => exact .err _ _ _
  · exact .none
theorem one_rel {fm : Nat → List Tok → PRes F} (hf : ∀ d l l', plainT l = plainT l' → Rl (fm d l) (fm d l')) (deep : Nat) : ∀ (k : Nat) (l l' : List Tok), plainT l = plainT l' → Rl (oneR fm deep k l) (oneR fm deep k l')
  | 0, l, l', h => fail_rel _
  | k + 1, l, l', h => by
    rw [oneR.eq_def fm deep (k + 1) l, oneR.eq_def fm deep (k + 1) l']
    dsimp only
    have hw := within_rel (o := [123]) (c := [125]) (deep := deep) hf h
    generalize withinR [123] [125] deep fm l = a at hw ⊢
    generalize withinR [123] [125] deep fm l' = b at hw ⊢
    cases hw with
    | some a b hab => exact hab
    | none =>
      dsimp only
      rw [plain_isT h [33], plain_isT h [116, 114, 117, 101], plain_isT h [102, 97, 108, 115, 101]]
      split
      · have := one_rel hf deep k _ _ (plain_tail h)
        generalize oneR fm deep k l.tail = a at this ⊢
        generalize oneR fm deep k l'.tail = b at this ⊢
        cases this with
        | ok y r r' hr => exact .ok _ _ _ hr
        | err e p p' => exact .err _ _ _
      · split
        · exact .ok _ _ _ (plain_tail h)
        · split
          · exact .ok _ _ _ (plain_tail h)
          · cases l with
            | nil => cases l' with
              | nil => exact fail_rel _
              | cons t l' => simp [plainT] at h
            | cons t l => cases l' with
              | nil => simp [plainT] at h
              | cons t' l' =>
                have h0 := h
                simp only [plainT, List.map_cons, List.cons.injEq, Prod.mk.injEq] at h0
                dsimp only
                have ht : t.text = t'.text := by
                  have e : t.text.data = t'.text.data := Array.toList_inj.1 h0.1.2
                  cases h1 : t.text; cases h2 : t'.text; rw [h1, h2] at e; exact congrArg _ e
                rw [h0.1.1, ht]
                split
                · exact .ok _ _ _ h0.2
                · exact fail_rel _
theorem form_rel : ∀ (d deep : Nat) (l l' : List Tok), plainT l = plainT l' → Rl (formR d deep l) (formR d deep l')
  | 0, deep, l, l', h => fail_rel _
  | d + 1, deep, l, l', h => by
    rw [formR_succ, formR_succ]
    refine chainP_rel (fun l l' h => chainP_rel (fun l l' h => ?_) l l' h) l l' h
    show Rl (oneR (formR d) deep (l.length + 1) l) (oneR (formR d) deep (l'.length + 1) l')
    rw [plain_len h]
    exact one_rel (fun dd l l' h => form_rel d dd l l' h) deep _ l l' h
end Go.Proofs.YtpgdplmndnopbaaGreatDoor
