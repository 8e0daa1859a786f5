/- What the parser answers of a list of tokens, it answers of another one that is the same up to the token where it stands. No program. -/
import Derived.Test.YtpgdplmndnopbaaGreatDoorMgK
import Derived.Test.YtpgdplmndnopbaaGreatDoorMgD
namespace Go.Proofs.YtpgdplmndnopbaaGreatDoor
open Go.RowKit

/-- Two rows of tokens that begin with the same one, but for its place. -/
def Hd (r r' : List Tok) : Prop := ∃ t s t' s', r = t :: s ∧ r' = t' :: s' ∧ t.kind = t'.kind ∧ t.text = t'.text
theorem Hd.app {r r' : List Tok} (h : Hd r r') (a : List Tok) : Hd (a ++ r) (a ++ r') := by
  cases a with
  | nil => exact h
  | cons t a => exact ⟨t, _, t, _, rfl, rfl, rfl, rfl⟩
theorem Hd.isT {r r' : List Tok} (h : Hd r r') (s : List UInt8) : isT s r = isT s r' := by
  obtain ⟨t, s1, t', s1', rfl, rfl, h1, h2⟩ := h
  show (t.kind != 2 && t.text.data.toList == s) = (t'.kind != 2 && t'.text.data.toList == s)
  rw [h1, h2]
theorem Hd.pos {r r' : List Tok} (h : Hd r r') : 1 ≤ r'.length := by
  obtain ⟨t, s1, t', s1', rfl, rfl, h1, h2⟩ := h
  simp
/-- Too deep: at a sign that opens. -/
def Er (c : Int) (r : List Tok) : Prop := c = 170 ∨ c = 171 ∧ (isT [40] r = true ∨ isT [60] r = true ∨ isT [123] r = true)
/-- The answer, and what it hangs on. -/
inductive Lo {α : Type} (P : List Tok → PRes α → Prop) (l : List Tok) : PRes α → Prop
  | ok (x : α) (a r : List Tok) (hl : l = a ++ r) (he : Ends r) (h : ∀ r', Hd r r' → P (a ++ r') (.ok (x, r'))) : Lo P l (.ok (x, r))
  | err (c : Int) (a r : List Tok) (hl : l = a ++ r) (he : Ends r) (hc : Er c r) (h : ∀ r', Hd r r' → P (a ++ r') (.error (c, placeT r'))) : Lo P l (.error (c, placeT r))
theorem Lo.imp {α : Type} {P P' : List Tok → PRes α → Prop} {l : List Tok} {q : PRes α} (h : Lo P l q) (hi : ∀ l' q, Hd l l' → P l' q → P' l' q) : Lo P' l q := by
  cases h with
  | ok x a r hl he h => exact .ok x a r hl he fun r' hh => hi _ _ (by rw [hl]; exact hh.app a) (h r' hh)
  | err c a r hl he hc h => exact .err c a r hl he hc fun r' hh => hi _ _ (by rw [hl]; exact hh.app a) (h r' hh)
/-- A function of tokens, at a list. -/
abbrev LoF {α : Type} (f : List Tok → PRes α) (l : List Tok) : Prop := Lo (fun l' q => f l' = q) l (f l)
def LocA {α : Type} (f : List Tok → PRes α) : Prop := ∀ l, Ends l → LoF f l
def bindR {α β : Type} (a : PRes α) (f : α → List Tok → PRes β) : PRes β :=
  match a with
  | .error e => .error e
  | .ok (x, r) => f x r
theorem Lo.bind {α β : Type} {P : List Tok → PRes α → Prop} {l : List Tok} {q : PRes α} (h : Lo P l q) {Q : α → List Tok → PRes β} (hQ : ∀ x, LocA (Q x)) : Lo (fun l' q' => ∃ q0, P l' q0 ∧ bindR q0 Q = q') l (bindR q Q) := by
  cases h with
  | ok x a r hl he h =>
    show Lo _ l (Q x r)
    have h2 := hQ x r he
    unfold LoF at h2
    generalize Q x r = q2 at h2 ⊢
    cases h2 with
    | ok y b s hl2 he2 h2 =>
      subst hl2
      exact .ok y (a ++ b) s (by rw [hl]; simp) he2 fun s' hh => ⟨.ok (x, b ++ s'), by rw [List.append_assoc]; exact h _ (hh.app b), h2 s' hh⟩
    | err c b s hl2 he2 hc h2 =>
      subst hl2
      exact .err c (a ++ b) s (by rw [hl]; simp) he2 hc fun s' hh => ⟨.ok (x, b ++ s'), by rw [List.append_assoc]; exact h _ (hh.app b), h2 s' hh⟩
  | err c a r hl he hc h => exact .err c a r hl he hc fun r' hh => ⟨_, h r' hh, rfl⟩
theorem Lo.bindF {α β : Type} {f : List Tok → PRes α} {l : List Tok} (h : LoF f l) {Q : α → List Tok → PRes β} (hQ : ∀ x, LocA (Q x)) : LoF (fun l => bindR (f l) Q) l :=
  (Lo.bind h hQ).imp fun l' q _ ⟨q0, h1, h2⟩ => by rw [← h2, ← h1]
theorem LocA.bind {α β : Type} {f : List Tok → PRes α} (h : LocA f) {Q : α → List Tok → PRes β} (hQ : ∀ x, LocA (Q x)) : LocA fun l => bindR (f l) Q := fun l hl => Lo.bindF (h l hl) hQ
theorem LocA.pure {α : Type} (x : α) : LocA fun l => .ok (x, l) := fun l hl => .ok x [] l rfl hl fun _ _ => rfl
theorem LocA.fail {α : Type} : LocA (fun l => failR 170 l : List Tok → PRes α) := fun l hl => .err 170 [] l rfl hl (.inl rfl) fun _ _ => rfl
theorem isT_consT (s : List UInt8) (t : Tok) (l l' : List Tok) : isT s (t :: l) = isT s (t :: l') := rfl
theorem isT_head {s : List UInt8} (hs : s ≠ []) {l : List Tok} (hl : Ends l) (h : isT s l = true) : ∃ t l1, l = t :: l1 ∧ Ends l1 := by
  obtain ⟨t, l1, rfl⟩ := hl.cons
  refine ⟨t, l1, rfl, hl.tail (.inr ?_)⟩
  have h' : (t.kind != 2 && t.text.data.toList == s) = true := h
  simp only [Bool.and_eq_true, beq_iff_eq] at h'
  rw [h'.2]
  exact hs
/-- A step over one token. -/
theorem Lo.step {α : Type} {P : List Tok → PRes α → Prop} {t : Tok} {l1 : List Tok} {q : PRes α} (h : Lo P l1 q) : Lo (fun l' q => ∃ t' l2, l' = t' :: l2 ∧ t' = t ∧ P l2 q) (t :: l1) q := by
  cases h with
  | ok x a r hl he h => exact .ok x (t :: a) r (by rw [hl]; rfl) he fun r' hh => ⟨t, a ++ r', rfl, rfl, h r' hh⟩
  | err c a r hl he hc h => exact .err c (t :: a) r (by rw [hl]; rfl) he hc fun r' hh => ⟨t, a ++ r', rfl, rfl, h r' hh⟩
/-- Where a sign is next: behind it; else here. -/
theorem LoF.tl {α : Type} {s : List UInt8} (hs : s ≠ []) {f g : List Tok → PRes α} {l : List Tok} (hl : Ends l) (hf : LocA f) (hg : isT s l = false → LoF g l) : LoF (fun l => if isT s l then f l.tail else g l) l := by
  unfold LoF
  dsimp only
  by_cases h : isT s l = true
  · rw [if_pos h]
    obtain ⟨t, l1, rfl, h1⟩ := isT_head hs hl h
    refine (Lo.step (hf l1 h1)).imp ?_
    rintro l' q hh ⟨t', l2, rfl, rfl, h2⟩
    rw [if_pos (by rw [← hh.isT]; exact h)]
    exact h2
  · rw [if_neg h]
    refine Lo.imp (hg (by simpa using h)) ?_
    intro l' q hh h2
    rw [if_neg (by rw [← hh.isT]; exact h)]
    exact h2
theorem LocA.tl {α : Type} {s : List UInt8} (hs : s ≠ []) {f g : List Tok → PRes α} (hf : LocA f) (hg : LocA g) : LocA fun l => if isT s l then f l.tail else g l := fun l hl => LoF.tl hs hl hf fun _ => hg l hl
/-- Here, where a sign is next; else something else. -/
theorem LoF.ite {α : Type} {s : List UInt8} {f g : List Tok → PRes α} {l : List Tok} (hf : isT s l = true → LoF f l) (hg : isT s l = false → LoF g l) : LoF (fun l => if isT s l then f l else g l) l := by
  unfold LoF
  dsimp only
  by_cases h : isT s l = true
  · rw [if_pos h]
    refine Lo.imp (hf h) ?_
    intro l' q hh h2
    rw [if_pos (by rw [← hh.isT]; exact h)]
    exact h2
  · rw [if_neg h]
    refine Lo.imp (hg (by simpa using h)) ?_
    intro l' q hh h2
    rw [if_neg (by rw [← hh.isT]; exact h)]
    exact h2
theorem LocA.num : LocA numR := by
  intro l hl
  obtain ⟨t, r, rfl⟩ := hl.cons
  have e : ∀ t r, numR (t :: r) = if t.kind = 2 then .ok (digitsV t.text.data.toList, r) else failR 170 (t :: r) := fun _ _ => rfl
  unfold LoF
  by_cases h : t.kind = 2
  · rw [e, if_pos h]
    refine .ok _ [t] r rfl (hl.tail (.inl (by rw [h]; decide))) fun r' _ => ?_
    show numR (t :: r') = _
    rw [e, if_pos h]
  · rw [e, if_neg h]
    refine .err 170 [] (t :: r) rfl hl (.inl rfl) fun r' hh => ?_
    obtain ⟨t1, s1, t', s1', e1, rfl, h1, h2⟩ := hh
    injection e1 with e1 _
    subst e1
    show numR (t' :: s1') = _
    rw [e, if_neg (by rw [← h1]; exact h)]
    rfl
theorem chain_lo {α : Type} {sign : List UInt8} (hs : sign ≠ []) {one : List Tok → PRes α} {join : α → α → α} (ho : LocA one) : ∀ (k : Nat) (x : α) (l : List Tok), Ends l → l.length ≤ k → Lo (fun l' q => ∀ k', l'.length ≤ k' → chainR sign one join k' x l' = q) l (chainR sign one join k x l)
  | 0, x, l, hl, hk => by obtain ⟨t, r, rfl⟩ := hl.cons; simp at hk
  | k + 1, x, l, hl, hk => by
    rw [chainR]
    by_cases h : isT sign l = true
    · rw [if_pos h]
      obtain ⟨t, l1, rfl, h1⟩ := isT_head hs hl h
      have h2 := ho l1 h1
      unfold LoF at h2
      dsimp only [List.tail_cons]
      generalize one l1 = q at h2 ⊢
      cases h2 with
      | ok y a r hl2 he2 h2 =>
        dsimp only
        have h3 := chain_lo (join := join) hs ho k (join x y) r he2 (by rw [hl2] at hk; simp at hk; omega)
        refine Lo.imp (P := fun l' q => ∃ r', l' = t :: (a ++ r') ∧ one (a ++ r') = .ok (y, r') ∧ ∀ k', r'.length ≤ k' → chainR sign one join k' (join x y) r' = q) ?_ ?_
        · generalize chainR sign one join k (join x y) r = q3 at h3 ⊢
          cases h3 with
          | ok z b s hl3 he3 h3 =>
            subst hl3
            exact .ok z (t :: (a ++ b)) s (by rw [hl2]; simp) he3 fun s' hh => ⟨b ++ s', by simp, h2 _ (hh.app b), h3 s' hh⟩
          | err c b s hl3 he3 hc h3 =>
            subst hl3
            exact .err c (t :: (a ++ b)) s (by rw [hl2]; simp) he3 hc fun s' hh => ⟨b ++ s', by simp, h2 _ (hh.app b), h3 s' hh⟩
        · rintro l' q hh ⟨r', rfl, h4, h5⟩ k' hk'
          cases k' with
          | zero => simp at hk'
          | succ k' =>
            rw [chainR, if_pos (by rw [← hh.isT]; exact h)]
            dsimp only [List.tail_cons]
            rw [h4]
            exact h5 k' (by simp at hk'; omega)
      | err c a r hl2 he2 hc h2 =>
        dsimp only
        refine Lo.imp (P := fun l' q => ∃ r' p, l' = t :: r' ∧ one r' = .error (c, p) ∧ q = .error (c, p)) ?_ ?_
        · exact .err c (t :: a) r (by rw [hl2]; rfl) he2 hc fun r' hh => ⟨a ++ r', _, rfl, h2 r' hh, rfl⟩
        · rintro l' q hh ⟨r', p, rfl, h4, rfl⟩ k' hk'
          cases k' with
          | zero => simp at hk'
          | succ k' =>
            rw [chainR, if_pos (by rw [← hh.isT]; exact h)]
            dsimp only [List.tail_cons]
            rw [h4]
    · rw [if_neg h]
      refine .ok x [] l rfl hl fun r' hh k' hk' => ?_
      have := hh.pos
      cases k' with
      | zero => simp at hk'; subst hk'; simp at this
      | succ k' =>
        rw [List.nil_append, chainR, if_neg (by rw [← hh.isT]; exact h)]
theorem LocA.chn {α : Type} {sign : List UInt8} (hs : sign ≠ []) {one : List Tok → PRes α} {join : α → α → α} (ho : LocA one) : LocA (chainP sign one join) := by
  intro l hl
  have h2 := ho l hl
  unfold LoF at h2 ⊢
  have e : chainP sign one join l = match one l with
    | .error e => .error e
    | .ok (x, r) => chainR sign one join r.length x r := rfl
  rw [e]
  generalize one l = q at h2 ⊢
  cases h2 with
  | ok y a r hl2 he2 h2 =>
    dsimp only
    have h3 := chain_lo (join := join) hs ho r.length y r he2 (Nat.le_refl _)
    generalize chainR sign one join r.length y r = q3 at h3 ⊢
    cases h3 with
    | ok z b s hl3 he3 h3 =>
      subst hl3
      refine .ok z (a ++ b) s (by rw [hl2]; simp) he3 fun s' hh => ?_
      unfold chainP
      rw [List.append_assoc, h2 _ (hh.app b)]
      exact h3 s' hh _ (Nat.le_refl _)
    | err c b s hl3 he3 hc h3 =>
      subst hl3
      refine .err c (a ++ b) s (by rw [hl2]; simp) he3 hc fun s' hh => ?_
      unfold chainP
      rw [List.append_assoc, h2 _ (hh.app b)]
      exact h3 s' hh _ (Nat.le_refl _)
  | err c a r hl2 he2 hc h2 =>
    refine .err c a r hl2 he2 hc fun r' hh => ?_
    unfold chainP
    rw [h2 r' hh]
/-- What stands between two signs, the first one ahead. -/
def wthR {α : Type} (c : List UInt8) (deep : Nat) (one : Nat → List Tok → PRes α) (l : List Tok) : PRes α :=
  if deep = 64 then failR 171 l else bindR (one (deep + 1) l.tail) fun x r => if isT c r then .ok (x, r.tail) else failR 170 r
theorem withinR_eq {α : Type} (o c : List UInt8) (deep : Nat) (one : Nat → List Tok → PRes α) (l : List Tok) : withinR o c deep one l = if isT o l then some (wthR c deep one l) else none := by
  unfold withinR wthR
  split
  · congr 1
    split
    · rfl
    · unfold bindR
      cases one (deep + 1) l.tail with
      | error e => rfl
      | ok p =>
        obtain ⟨x, r⟩ := p
        dsimp only
        unfold takeT failR
        by_cases hc : isT c r = true
        · rw [if_pos hc, if_pos hc]
        · rw [if_neg hc, if_neg hc]
  · rfl
theorem wth_lo {α : Type} {o c : List UInt8} (ho : o = [40] ∨ o = [60] ∨ o = [123]) (hc : c ≠ []) {deep : Nat} {one : Nat → List Tok → PRes α} (hone : deep ≠ 64 → LocA (one (deep + 1))) {l : List Tok} (hl : Ends l) (h : isT o l = true) : LoF (wthR c deep one) l := by
  unfold LoF
  by_cases hd : deep = 64
  · have e : ∀ l, wthR c deep one l = failR 171 l := fun l => by unfold wthR; rw [if_pos hd]
    rw [e]
    refine .err 171 [] l rfl hl (.inr ⟨rfl, ?_⟩) fun r' _ => e _
    rcases ho with rfl | rfl | rfl
    · exact .inl h
    · exact .inr (.inl h)
    · exact .inr (.inr h)
  · have e : ∀ l, wthR c deep one l = bindR (one (deep + 1) l.tail) fun x r => if isT c r then .ok (x, r.tail) else failR 170 r := fun l => by unfold wthR; rw [if_neg hd]
    have ho' : o ≠ [] := by rcases ho with rfl | rfl | rfl <;> decide
    obtain ⟨t, l1, rfl, h1⟩ := isT_head ho' hl h
    rw [e]
    refine (Lo.step (Lo.bindF (hone hd l1 h1) (Q := fun x r => if isT c r then .ok (x, r.tail) else failR 170 r) fun x => LocA.tl hc (LocA.pure x) LocA.fail)).imp ?_
    rintro l' q hh ⟨t', l2, rfl, rfl, h2⟩
    rw [e]
    exact h2
/-- A name, or nothing. -/
def wordR (l : List Tok) : PRes F :=
  match l with
  | [] => failR 170 []
  | t :: r => if t.kind = 1 ∧ nameB t.text.data.toList = true then .ok (.mk 3 t.text [], r) else failR 170 (t :: r)
theorem LocA.word : LocA wordR := by
  intro l hl
  obtain ⟨t, r, rfl⟩ := hl.cons
  have e : ∀ t r, wordR (t :: r) = if t.kind = 1 ∧ nameB t.text.data.toList = true then .ok (.mk 3 t.text [], r) else failR 170 (t :: r) := fun _ _ => rfl
  unfold LoF
  by_cases h : t.kind = 1 ∧ nameB t.text.data.toList = true
  · rw [e, if_pos h]
    refine .ok _ [t] r rfl (hl.tail (.inl (by rw [h.1]; decide))) fun r' _ => ?_
    show wordR (t :: r') = _
    rw [e, if_pos h]
  · rw [e, if_neg h]
    refine .err 170 [] (t :: r) rfl hl (.inl rfl) fun r' hh => ?_
    obtain ⟨t1, s1, t', s1', e1, rfl, h1, h2⟩ := hh
    injection e1 with e1 _
    subst e1
    show wordR (t' :: s1') = _
    rw [e, if_neg (by rw [← h1, ← h2]; exact h)]
    rfl
def restR (l : List Tok) : PRes F :=
  if isT [116, 114, 117, 101] l then .ok (.mk 1 ⟨#[]⟩ [], l.tail) else if isT [102, 97, 108, 115, 101] l then .ok (.mk 2 ⟨#[]⟩ [], l.tail) else wordR l
theorem LocA.rest : LocA restR := LocA.tl (by decide) (LocA.pure _) (LocA.tl (by decide) (LocA.pure _) LocA.word)
theorem oneR_eq (fm : Nat → List Tok → PRes F) (deep k : Nat) (l : List Tok) : oneR fm deep (k + 1) l =
    if isT [123] l then wthR [125] deep fm l else if isT [33] l then bindR (oneR fm deep k l.tail) fun f r => .ok (notI f, r) else restR l := by
  rw [oneR.eq_def]
  dsimp only
  rw [withinR_eq]
  by_cases h : isT [123] l = true
  · rw [if_pos h, if_pos h]
  · rw [if_neg h, if_neg h]
    dsimp only
    split
    · unfold bindR
      cases oneR fm deep k l.tail with
      | error e => rfl
      | ok p => rfl
    · unfold restR wordR
      split
      · rfl
      · split
        · rfl
        · cases l <;> rfl
theorem one_lo {fm : Nat → List Tok → PRes F} {deep : Nat} (hone : deep ≠ 64 → LocA (fm (deep + 1))) : ∀ (k : Nat) (l : List Tok), Ends l → l.length < k → Lo (fun l' q => ∀ k', l'.length < k' → oneR fm deep k' l' = q) l (oneR fm deep k l)
  | 0, l, hl, hk => by omega
  | k + 1, l, hl, hk => by
    rw [oneR_eq]
    by_cases h : isT [123] l = true
    · rw [if_pos h]
      refine (wth_lo (.inr (.inr rfl)) (by decide : ([125] : List UInt8) ≠ []) hone hl h).imp ?_
      rintro l' q hh h2 k' hk'
      cases k' with
      | zero => omega
      | succ k' => rw [oneR_eq, if_pos (by rw [← hh.isT]; exact h)]; exact h2
    · rw [if_neg h]
      by_cases h3 : isT [33] l = true
      · rw [if_pos h3]
        obtain ⟨t, l1, rfl, h1⟩ := isT_head (by decide) hl h3
        dsimp only [List.tail_cons]
        refine (Lo.step (Lo.bind (one_lo hone k l1 h1 (by simp at hk; omega)) (Q := fun f r => .ok (notI f, r)) fun f => LocA.pure _)).imp ?_
        rintro l' q hh ⟨t', l2, rfl, rfl, q0, h4, h5⟩ k' hk'
        cases k' with
        | zero => omega
        | succ k' =>
          rw [oneR_eq, if_neg (by rw [← hh.isT]; exact h), if_pos (by rw [← hh.isT]; exact h3)]
          dsimp only [List.tail_cons]
          rw [h4 k' (by simp at hk'; omega)]
          exact h5
      · rw [if_neg h3]
        refine (LocA.rest l hl).imp ?_
        rintro l' q hh h2 k' hk'
        cases k' with
        | zero => omega
        | succ k' => rw [oneR_eq, if_neg (by rw [← hh.isT]; exact h), if_neg (by rw [← hh.isT]; exact h3)]; exact h2
theorem form_loc : ∀ (d deep : Nat), LocA (formR d deep)
  | 0, deep => LocA.fail
  | d + 1, deep => by
    have e : formR (d + 1) deep = chainP [124, 124] (chainP [38, 38] (fun l => oneR (formR d) deep (l.length + 1) l) fun a b => .mk 5 ⟨#[]⟩ [a, b]) (fun a b => .mk 6 ⟨#[]⟩ [a, b]) := by
      funext l
      rw [formR]
    rw [e]
    refine LocA.chn (by decide) (LocA.chn (by decide) fun l hl => ?_)
    refine (one_lo (fun _ => form_loc d (deep + 1)) (l.length + 1) l hl (by omega)).imp ?_
    rintro l' q _ h
    exact h _ (by omega)
def itvB (ls : Bool) (low : Int) (l : List Tok) : PRes Spn :=
  if isT [111, 111] l then (fun l => if isT [41] l then .ok (⟨low, ls, 0, false, true⟩, l.tail) else failR 170 l) l.tail
  else bindR (numR l) fun high r => if isT [41] r then .ok (⟨low, ls, high, true, false⟩, r.tail) else if isT [93] r then .ok (⟨low, ls, high, false, false⟩, r.tail) else failR 170 r
def itvA (ls : Bool) (l : List Tok) : PRes Spn := bindR (numR l) fun low r => if isT [44] r then itvB ls low r.tail else failR 170 r
theorem LocA.itvB (ls : Bool) (low : Int) : LocA (itvB ls low) :=
  LocA.tl (by decide) (LocA.tl (by decide) (LocA.pure _) LocA.fail) (LocA.bind LocA.num fun high => LocA.tl (by decide) (LocA.pure _) (LocA.tl (by decide) (LocA.pure _) LocA.fail))
theorem LocA.itvA (ls : Bool) : LocA (itvA ls) := LocA.bind LocA.num fun low => LocA.tl (by decide) (LocA.itvB ls low) LocA.fail
theorem interval_eq (l : List Tok) : intervalR l = if isT [40] l then itvA true l.tail else if isT [91] l then itvA false l.tail else failR 170 l := by
  have key : ∀ (ls : Bool) (l1 : List Tok), (match numR l1 with
    | .error e => .error e
    | .ok (low, l2) =>
      match takeT [44] l2 with
      | .error e => .error e
      | .ok l3 =>
        if isT [111, 111] l3 then
          match takeT [41] l3.tail with
          | .error e => .error e
          | .ok l4 => .ok (⟨low, ls, 0, false, true⟩, l4)
        else
          match numR l3 with
          | .error e => .error e
          | .ok (high, l4) =>
            let hs := isT [41] l4
            match (if hs then .ok l4.tail else takeT [93] l4) with
            | .error e => .error e
            | .ok l5 => .ok (⟨low, ls, high, hs, false⟩, l5) : PRes Spn) = Go.Proofs.YtpgdplmndnopbaaGreatDoor.itvA ls l1 := by
    intro ls l1
    unfold Go.Proofs.YtpgdplmndnopbaaGreatDoor.itvA bindR
    cases numR l1 with
    | error e => rfl
    | ok p =>
      obtain ⟨low, l2⟩ := p
      dsimp only
      unfold takeT
      by_cases h : isT [44] l2 = true
      · rw [if_pos h, if_pos h]
        dsimp only
        unfold Go.Proofs.YtpgdplmndnopbaaGreatDoor.itvB bindR
        by_cases h2 : isT [111, 111] l2.tail = true
        · rw [if_pos h2, if_pos h2]
          dsimp only
          by_cases h3 : isT [41] l2.tail.tail = true
          · rw [if_pos h3, if_pos h3]
          · rw [if_neg h3, if_neg h3]; rfl
        · rw [if_neg h2, if_neg h2]
          cases numR l2.tail with
          | error e => rfl
          | ok p =>
            obtain ⟨high, l4⟩ := p
            dsimp only
            by_cases h3 : isT [41] l4 = true
            · rw [if_pos h3, if_pos h3, h3]
            · have h3' : isT [41] l4 = false := by simpa using h3
              rw [if_neg h3, if_neg h3]
              by_cases h4 : isT [93] l4 = true
              · rw [if_pos h4, if_pos h4, h3']
              · rw [if_neg h4, if_neg h4]; rfl
      · rw [if_neg h, if_neg h]; rfl
  unfold intervalR
  dsimp only
  by_cases h : isT [40] l = true
  · rw [if_pos h, if_pos h, h]
    exact key true l.tail
  · have h' : isT [40] l = false := by simpa using h
    rw [if_neg h, if_neg h, h']
    unfold takeT
    by_cases h2 : isT [91] l = true
    · rw [if_pos h2, if_pos h2]
      exact key false l.tail
    · rw [if_neg h2, if_neg h2]; rfl
theorem LocA.interval : LocA intervalR := by
  have e : intervalR = fun l => if isT [40] l then Go.Proofs.YtpgdplmndnopbaaGreatDoor.itvA true l.tail else if isT [91] l then Go.Proofs.YtpgdplmndnopbaaGreatDoor.itvA false l.tail else failR 170 l := funext interval_eq
  rw [e]
  exact LocA.tl (by decide) (LocA.itvA true) (LocA.tl (by decide) (LocA.itvA false) LocA.fail)
def timedR (x : X) (l : List Tok) : PRes X := if isT [95] l then (fun l => bindR (intervalR l) fun i r => .ok (.mk 6 [] [x] i, r)) l.tail else failR 170 l
theorem LocA.timed (x : X) : LocA (timedR x) := LocA.tl (by decide) (LocA.bind LocA.interval fun _ => LocA.pure _) LocA.fail
def atomR (deep : Nat) (l : List Tok) : PRes X := bindR (formR 66 deep l) fun f r => .ok (.mk 1 [f] [] noSpan, r)
theorem baseR_eq (tr : Nat → List Tok → PRes X) (deep : Nat) (l : List Tok) : baseR tr deep l =
    if isT [40] l then wthR [41] deep tr l else if isT [60] l then bindR (wthR [62] deep tr l) timedR else atomR deep l := by
  unfold baseR
  rw [withinR_eq, withinR_eq]
  by_cases h : isT [40] l = true
  · rw [if_pos h, if_pos h]
  · rw [if_neg h, if_neg h]
    dsimp only
    by_cases h2 : isT [60] l = true
    · rw [if_pos h2, if_pos h2]
      unfold bindR
      cases wthR [62] deep tr l with
      | error e => rfl
      | ok p =>
        obtain ⟨x, r1⟩ := p
        dsimp only
        unfold timedR takeT bindR
        by_cases h3 : isT [95] r1 = true
        · rw [if_pos h3, if_pos h3]
          dsimp only
          cases intervalR r1.tail with
          | error e => rfl
          | ok p => rfl
        · rw [if_neg h3, if_neg h3]; rfl
    · rw [if_neg h2, if_neg h2]
      dsimp only
      unfold atomR bindR
      cases formR 66 deep l with
      | error e => rfl
      | ok p => rfl
theorem base_loc {tr : Nat → List Tok → PRes X} {deep : Nat} (hone : deep ≠ 64 → LocA (tr (deep + 1))) : LocA (baseR tr deep) := by
  have e : baseR tr deep = fun l => if isT [40] l then wthR [41] deep tr l else if isT [60] l then bindR (wthR [62] deep tr l) timedR else atomR deep l := funext (baseR_eq tr deep)
  rw [e]
  intro l hl
  refine LoF.ite (fun h => wth_lo (.inl rfl) (by decide) hone hl h) fun _ => ?_
  refine LoF.ite (f := fun l => bindR (wthR [62] deep tr l) timedR) (fun h => Lo.bindF (wth_lo (.inr (.inl rfl)) (by decide) hone hl h) LocA.timed) fun _ => ?_
  exact LocA.bind (form_loc 66 deep) (fun f => LocA.pure _) l hl
theorem plus_lo : ∀ (k : Nat) (x : X) (l : List Tok), Ends l → l.length ≤ k → Lo (fun l' q => ∀ k', l'.length ≤ k' → Except.ok (plusR k' x l') = q) l (.ok (plusR k x l))
  | 0, x, l, hl, hk => by obtain ⟨t, r, rfl⟩ := hl.cons; simp at hk
  | k + 1, x, l, hl, hk => by
    rw [plusR]
    by_cases h : isT [43] l = true
    · rw [if_pos h]
      obtain ⟨t, l1, rfl, h1⟩ := isT_head (by decide) hl h
      dsimp only [List.tail_cons]
      refine (Lo.step (plus_lo k _ l1 h1 (by simp at hk; omega))).imp ?_
      rintro l' q hh ⟨t', l2, rfl, rfl, h4⟩ k' hk'
      cases k' with
      | zero => simp at hk'
      | succ k' =>
        rw [plusR, if_pos (by rw [← hh.isT]; exact h)]
        exact h4 k' (by simp at hk'; omega)
    · rw [if_neg h]
      refine .ok x [] l rfl hl fun r' hh k' hk' => ?_
      have := hh.pos
      cases k' with
      | zero => simp at hk'; subst hk'; simp at this
      | succ k' =>
        rw [List.nil_append, plusR, if_neg (by rw [← hh.isT]; exact h)]
theorem more_loc {tr : Nat → List Tok → PRes X} {deep : Nat} (hone : deep ≠ 64 → LocA (tr (deep + 1))) : LocA (moreR tr deep) := by
  have e : moreR tr deep = fun l => bindR (baseR tr deep l) fun x r => .ok (plusR r.length x r) := by
    funext l
    unfold moreR bindR
    cases baseR tr deep l with
    | error e => rfl
    | ok p => rfl
  rw [e]
  refine LocA.bind (base_loc hone) fun x l hl => ?_
  refine (plus_lo l.length x l hl (Nat.le_refl _)).imp ?_
  rintro l' q _ h
  exact h _ (Nat.le_refl _)
theorem tre_loc : ∀ (d deep : Nat), LocA (treR d deep)
  | 0, deep => LocA.fail
  | d + 1, deep => by
    have e : treR (d + 1) deep = chainP [124] (chainP [38] (chainP [59] (moreR (treR d) deep) (joinX 4)) (joinX 3)) (joinX 2) := by
      funext l
      rw [treR]
    rw [e]
    exact LocA.chn (by decide) (LocA.chn (by decide) (LocA.chn (by decide) (more_loc fun _ => tre_loc d (deep + 1))))
end Go.Proofs.YtpgdplmndnopbaaGreatDoor
