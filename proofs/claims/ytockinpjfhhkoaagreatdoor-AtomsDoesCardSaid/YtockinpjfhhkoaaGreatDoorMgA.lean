/- How a text is cut into tokens, as a plain function of its bytes, and its laws: no program in sight. -/
import Derived.Lib.Strings
import Derived.Shelf.Abstract
import Derived.WalkKit
import Derived.WalkSpells
import Derived.WalkLawsBesides
import Derived.Lib.Hide
import Derived.Test.YtockinpjfhhkoaaGreatDoorRows
import Derived.LoopTactic
namespace Go.Proofs.YtockinpjfhhkoaaGreatDoor

def isLow (b : UInt8) : Bool := decide (97 ≤ b.toNat) && decide (b.toNat ≤ 122)
def isDig (b : UInt8) : Bool := decide (48 ≤ b.toNat) && decide (b.toNat ≤ 57)
def isBlank (b : UInt8) : Bool := b.toNat == 32 || b.toNat == 9 || b.toNat == 10 || b.toNat == 13
def isRow (b : UInt8) : Bool := isLow b || isDig b
def isSign (b : UInt8) : Bool := [124, 38, 59, 43, 60, 62, 95, 91, 93, 40, 41, 44, 33, 123, 125].contains b.toNat
def twin (b : UInt8) : Bool := b.toNat == 124 || b.toNat == 38

/-- The number that digits spell. -/
def digVal (a : Nat) (l : List UInt8) : Nat := l.foldl (fun n b => 10 * n + (b.toNat - 48)) a
theorem digVal_cons (a : Nat) (b : UInt8) (r : List UInt8) : digVal a (b :: r) = digVal (10 * a + (b.toNat - 48)) r := List.foldl_cons ..
/-- Is a row of letters and digits a number? -/
def numOk (l : List UInt8) : Bool := l.all isDig && decide (l.length ≤ 18) && (decide (l.length ≤ 1) || l.head? != some 48) && decide (digVal 0 l < 288230376151711744)
/-- What a row of letters and digits is: its kind (1 a word, 2 a number), or the error. -/
def rowKind : List UInt8 → Except Int Int
  | [] => .error 151
  | b :: r => if isLow b then (if r.length + 1 ≤ 8 then .ok 1 else .error 152) else if numOk (b :: r) then .ok 2 else .error 151

structure Tok where
  kind : Int
  text : ByteArray
  place : Int
deriving DecidableEq

def bsOf (l : List UInt8) : ByteArray := ⟨l.toArray⟩
@[simp] theorem bsOf_list (l : List UInt8) : (bsOf l).data.toList = l := by simp [bsOf]
theorem bsOf_of (s : ByteArray) : bsOf s.data.toList = s := by simp [bsOf]
theorem bsOf_inj {a b : List UInt8} (h : bsOf a = bsOf b) : a = b := by rw [← bsOf_list a, h, bsOf_list]

inductive Res where
  | ok (l : List Tok)
  | bad (at_ : Nat) (e : Int)
deriving DecidableEq
def Res.cons (t : Tok) : Res → Res
  | .ok l => .ok (t :: l)
  | .bad a e => .bad a e
def Res.app (p : List Tok) : Res → Res
  | .ok l => .ok (p ++ l)
  | .bad a e => .bad a e
theorem Res.app_nil (r : Res) : Res.app [] r = r := by cases r <;> rfl
theorem Res.app_cons (p : List Tok) (t : Tok) (r : Res) : Res.app p (Res.cons t r) = Res.app (p ++ [t]) r := by cases r <;> simp [Res.app, Res.cons]

/-- The row of letters and digits that a text begins with. -/
def rowOf (l : List UInt8) : List UInt8 := l.takeWhile isRow

/-- The tokens of a text from a place on; 'skip': how many of its bytes are still of the last token. -/
def cutS : Nat → Nat → List UInt8 → Res
  | _, _, [] => .ok []
  | k + 1, a, _ :: r => cutS k (a + 1) r
  | 0, a, b :: r =>
    if isRow b then
      match rowKind (b :: rowOf r) with
      | .error e => .bad a e
      | .ok k => Res.cons ⟨k, bsOf (b :: rowOf r), a⟩ (cutS (rowOf r).length (a + 1) r)
    else if isBlank b then cutS 0 (a + 1) r
    else if isSign b then
      if twin b && r.head? == some b then Res.cons ⟨3, bsOf [b, b], a⟩ (cutS 1 (a + 1) r)
      else Res.cons ⟨3, bsOf [b], a⟩ (cutS 0 (a + 1) r)
    else .bad a 150
def cut (a : Nat) (l : List UInt8) : Res := cutS 0 a l

theorem cutS_skip : ∀ (k a : Nat) (l : List UInt8), cutS k a l = cut (a + k) (l.drop k)
  | 0, a, l => by simp [cut]
  | k + 1, a, [] => by simp [cut, cutS]
  | k + 1, a, b :: r => by rw [cutS, cutS_skip k (a + 1) r]; simp; congr 1; omega

@[simp] theorem cut_nil (a : Nat) : cut a [] = .ok [] := rfl
theorem cut_row (a : Nat) (b : UInt8) (r : List UInt8) (h : isRow b = true) : cut a (b :: r) = match rowKind (rowOf (b :: r)) with
      | .error e => .bad a e
      | .ok k => Res.cons ⟨k, bsOf (rowOf (b :: r)), a⟩ (cut (a + (rowOf (b :: r)).length) ((b :: r).drop (rowOf (b :: r)).length)) := by
  have h2 : rowOf (b :: r) = b :: rowOf r := by simp [rowOf, h]
  rw [h2, cut, cutS]
  simp only [h, if_true]
  cases rowKind (b :: rowOf r) with
  | error e => rfl
  | ok k => simp only [cutS_skip]; simp; congr 2; omega
theorem cut_blank (a : Nat) (b : UInt8) (r : List UInt8) (h : isRow b = false) (hb : isBlank b = true) : cut a (b :: r) = cut (a + 1) r := by
  simp [cut, cutS, h, hb]
theorem cut_two (a : Nat) (b : UInt8) (r : List UInt8) (hb : twin b = true) : cut a (b :: b :: r) = Res.cons ⟨3, bsOf [b, b], a⟩ (cut (a + 2) r) := by
  have h : isRow b = false ∧ isBlank b = false ∧ isSign b = true := by
    simp only [twin, Bool.or_eq_true, beq_iff_eq] at hb
    rcases hb with hb | hb <;> simp [isRow, isLow, isDig, isBlank, isSign, hb]
  rw [cut, cutS]
  simp [h, hb, cutS_skip]
theorem cut_one (a : Nat) (b : UInt8) (r : List UInt8) (h : isRow b = false) (hb : isBlank b = false) (hs : isSign b = true) (ht : (twin b && r.head? == some b) = false) : cut a (b :: r) = Res.cons ⟨3, bsOf [b], a⟩ (cut (a + 1) r) := by
  rw [cut, cutS, h, hb, hs, ht]
  rfl
theorem cut_wrong (a : Nat) (b : UInt8) (r : List UInt8) (h : isRow b = false) (hb : isBlank b = false) (hs : isSign b = false) : cut a (b :: r) = .bad a 150 := by
  simp [cut, cutS, h, hb, hs]

theorem rowOf_len (l : List UInt8) : (rowOf l).length ≤ l.length := by
  have := (List.takeWhile_prefix isRow (l := l)).length_le
  exact this
theorem rowOf_pos (b : UInt8) (r : List UInt8) (h : isRow b = true) : rowOf (b :: r) = b :: rowOf r := by simp [rowOf, h]

/-- The kind of a text that is one token; 0: it is none. -/
def kindOf : List UInt8 → Int
  | [] => 0
  | b :: r =>
    if isRow b then (if r.all isRow then (match rowKind (b :: r) with | .ok k => k | .error _ => 0) else 0)
    else if isSign b && (r == [] || (twin b && r == [b])) then 3 else 0

/-- May a text begin right behind a token's? -/
def apart (t rest : List UInt8) : Bool :=
  match t, rest with
  | _, [] => true
  | [], _ => true
  | a :: r, h :: _ => if isRow a then !isRow h else !(r == [] && twin a && h == a)

theorem rowOf_append (t rest : List UInt8) (ht : t.all isRow = true) (hr : rest.head?.map isRow ≠ some true) : rowOf (t ++ rest) = t := by
  induction t with
  | nil => cases rest with
    | nil => rfl
    | cons h r => simp at hr; simp [rowOf, hr]
  | cons a t ih =>
    simp only [List.all_cons, Bool.and_eq_true] at ht
    rw [List.cons_append, rowOf_pos _ _ ht.1, ih ht.2]

theorem rowKind_ne0 {l : List UInt8} {k : Int} (h : rowKind l = .ok k) : k = 1 ∨ k = 2 := by
  cases l with
  | nil => simp [rowKind] at h
  | cons b r =>
    simp only [rowKind] at h
    split at h
    · split at h <;> simp at h; exact .inl h.symm
    · split at h <;> simp at h; exact .inr h.symm

/-- A TOKEN'S TEXT, AND WHAT MAY STAND BEHIND IT, IS CUT AS THE TOKEN AND THE REST. -/
theorem cut_tok (a : Nat) (t rest : List UInt8) (hk : kindOf t ≠ 0) (hr : apart t rest = true) : cut a (t ++ rest) = Res.cons ⟨kindOf t, bsOf t, a⟩ (cut (a + t.length) rest) := by
  cases t with
  | nil => exact absurd rfl hk
  | cons b r =>
    by_cases hb : isRow b = true
    · simp only [kindOf, hb, if_true] at hk ⊢
      by_cases hall : r.all isRow = true
      · simp only [hall, if_true] at hk ⊢
        have hro : rowOf ((b :: r) ++ rest) = b :: r := by
          refine rowOf_append _ _ (by simp [hb]; simpa using hall) ?_
          cases rest with
          | nil => simp
          | cons h s => simp [apart, hb] at hr; simp [hr]
        have := cut_row a b (r ++ rest) hb
        rw [← List.cons_append, hro] at this
        rw [this]
        cases hrk : rowKind (b :: r) with
        | error e => rw [hrk] at hk; exact absurd rfl hk
        | ok k => simp
      · simp [hall] at hk
    · have hb' : isRow b = false := by simpa using hb
      simp only [kindOf, hb', Bool.false_eq_true, if_false] at hk ⊢
      by_cases hs : isSign b = true
      · have hbl : isBlank b = false := by
          simp only [isSign, List.contains_eq_mem, List.mem_cons, List.not_mem_nil, or_false, decide_eq_true_eq] at hs
          simp only [isBlank]
          rcases hs with h|h|h|h|h|h|h|h|h|h|h|h|h|h|h <;> simp [h]
        by_cases h1 : r = []
        · subst h1
          simp only [hs, List.singleton_append]
          rw [cut_one a b rest hb' hbl hs ?_]
          · rfl
          · cases rest with
            | nil => simp
            | cons h s => simp [apart, hb'] at hr; by_cases ht : twin b = true <;> simp_all
        · by_cases h2 : (twin b && r == [b]) = true
          · simp only [Bool.and_eq_true, beq_iff_eq] at h2
            obtain ⟨h3, rfl⟩ := h2
            simp only [hs, h3]
            simpa using cut_two a b rest h3
          · exfalso; apply hk; rw [if_neg]; simp [hs, h1]; simpa using h2
      · simp [hs] at hk

theorem kindOf_row {b : UInt8} {r : List UInt8} {k : Int} (hb : isRow b = true) (h : rowKind (rowOf (b :: r)) = .ok k) : kindOf (rowOf (b :: r)) = k := by
  have hall : (rowOf r).all isRow = true := by
    exact List.all_takeWhile
  rw [rowOf_pos b r hb] at h ⊢
  simp [kindOf, hb, hall, h]

theorem rowOf_drop (l : List UInt8) : l = rowOf l ++ l.drop (rowOf l).length := by
  induction l with
  | nil => rfl
  | cons b r ih =>
    by_cases hb : isRow b = true
    · rw [rowOf_pos b r hb]
      simpa using ih
    · simp [rowOf, hb]

theorem rowOf_next (l : List UInt8) : ((l.drop (rowOf l).length).head?.map isRow) ≠ some true := by
  induction l with
  | nil => simp [rowOf]
  | cons b r ih =>
    by_cases hb : isRow b = true
    · rw [rowOf_pos b r hb]
      simpa using ih
    · simp [rowOf, hb]

/-- A cut text's tokens, one by one: each way that a text begins. -/
theorem cut_ways (b : UInt8) (r : List UInt8) :
    (isBlank b = true ∧ isRow b = false ∧ ∀ a, cut a (b :: r) = cut (a + 1) r) ∨
    (∃ e, ∀ a, cut a (b :: r) = .bad a e) ∨
    (∃ t rest, t ≠ [] ∧ b :: r = t ++ rest ∧ kindOf t ≠ 0 ∧ apart t rest = true ∧ ∀ a, cut a (b :: r) = Res.cons ⟨kindOf t, bsOf t, a⟩ (cut (a + t.length) rest)) := by
  by_cases hb : isRow b = true
  · right
    cases hk : rowKind (rowOf (b :: r)) with
    | error e => exact .inl ⟨e, fun a => by rw [cut_row a b r hb, hk]⟩
    | ok k =>
      right
      have h1 := kindOf_row hb hk
      refine ⟨rowOf (b :: r), (b :: r).drop (rowOf (b :: r)).length, by rw [rowOf_pos b r hb]; simp, rowOf_drop _, by rw [h1]; rcases rowKind_ne0 hk with h | h <;> simp [h], ?_, fun a => by rw [cut_row a b r hb, hk, h1]⟩
      have := rowOf_next (b :: r)
      cases hd : (b :: r).drop (rowOf (b :: r)).length with
      | nil => rw [rowOf_pos b r hb]; rfl
      | cons h s =>
        rw [hd] at this
        rw [rowOf_pos b r hb]
        simp at this
        simp [apart, hb, this]
  · have hb' : isRow b = false := by simpa using hb
    by_cases hbl : isBlank b = true
    · exact .inl ⟨hbl, hb', fun a => cut_blank a b r hb' hbl⟩
    · have hbl' : isBlank b = false := by simpa using hbl
      right
      by_cases hs : isSign b = true
      · right
        by_cases ht : (twin b && r.head? == some b) = true
        · simp only [Bool.and_eq_true, beq_iff_eq] at ht
          obtain ⟨ht, hh⟩ := ht
          cases r with
          | nil => simp at hh
          | cons c r =>
            simp at hh
            subst hh
            have hk : kindOf [c, c] = 3 := by simp [kindOf, hb', hs, ht]
            refine ⟨[c, c], r, by simp, rfl, by simp [hk], ?_, fun a => by rw [cut_two a c r ht, hk]; rfl⟩
            cases r <;> simp [apart, hb']
        · have ht' : (twin b && r.head? == some b) = false := by simpa using ht
          have hk : kindOf [b] = 3 := by simp [kindOf, hb', hs]
          refine ⟨[b], r, by simp, rfl, by simp [hk], ?_, fun a => by rw [cut_one a b r hb' hbl' hs ht', hk]; rfl⟩
          cases r with
          | nil => rfl
          | cons c s =>
            simp at ht'
            by_cases ht2 : twin b = true
            · simp [apart, hb', ht2, ht' ht2]
            · simp [apart, hb', ht2]
      · exact .inl ⟨150, fun a => cut_wrong a b r hb' hbl' (by simpa using hs)⟩

/-- What holds of no text, of a blank's text if of the rest, of a wrong one, of a token and what may stand behind it if of the rest, holds of all. -/
theorem cut_ind {P : List UInt8 → Prop} (h0 : P [])
    (h1 : ∀ b r, isBlank b = true → isRow b = false → (∀ a, cut a (b :: r) = cut (a + 1) r) → P r → P (b :: r))
    (h2 : ∀ b r e, (∀ a, cut a (b :: r) = .bad a e) → P (b :: r))
    (h3 : ∀ t rest, t ≠ [] → kindOf t ≠ 0 → apart t rest = true → (∀ a, cut a (t ++ rest) = Res.cons ⟨kindOf t, bsOf t, a⟩ (cut (a + t.length) rest)) → P rest → P (t ++ rest)) (l : List UInt8) : P l := by
  generalize hn : l.length = n
  induction n using Nat.strongRecOn generalizing l with
  | ind n ih =>
    cases l with
    | nil => exact h0
    | cons b r =>
      rcases cut_ways b r with ⟨x, y, z⟩ | ⟨e, z⟩ | ⟨t, rest, x, y, z, u, v⟩
      · exact h1 b r x y z (ih r.length (by simp at hn; omega) r rfl)
      · exact h2 b r e z
      · rw [y] at v ⊢
        refine h3 t rest x z u v (ih rest.length ?_ rest rfl)
        have := congrArg List.length y
        have hp : 0 < t.length := List.length_pos_iff.2 x
        rw [List.length_append] at this
        omega

def Tok.shift (d : Nat) (t : Tok) : Tok := { t with place := t.place + d }
def Res.shift (d : Nat) : Res → Res
  | .ok l => .ok (l.map (Tok.shift d))
  | .bad a e => .bad (a + d) e
theorem Res.shift_cons (d : Nat) (t : Tok) (r : Res) : (Res.cons t r).shift d = Res.cons (t.shift d) (r.shift d) := by cases r <;> rfl
/-- What is cut from a later place on is the same, later. -/
theorem cut_shift (d : Nat) (l : List UInt8) : ∀ a, cut (a + d) l = (cut a l).shift d := by
  induction l using cut_ind with
  | h0 => intro a; rfl
  | h1 b r _ _ h ih => intro a; rw [h, h, ← ih (a + 1)]; congr 1; omega
  | h2 b r e h => intro a; rw [h, h]; rfl
  | h3 t rest _ _ _ h ih =>
    intro a
    rw [h, h, Res.shift_cons, ← ih (a + t.length)]
    have : a + d + t.length = a + t.length + d := by omega
    rw [this]
    simp [Tok.shift]

theorem apart_take (t rest : List UInt8) (m : Nat) (h : apart t rest = true) : apart t (rest.take m) = true := by
  cases m with
  | zero => cases t <;> simp [apart]
  | succ m => cases rest with
    | nil => simpa using h
    | cons a r => cases t with
      | nil => simp [apart]
      | cons b s => simpa [apart] using h

/-- A TEXT MAY BE CUT IN TWO WHERE A TOKEN BEGINS. -/
theorem cut_parts (l : List UInt8) : ∀ a ts, cut a l = .ok ts → ∀ n, (h : n < ts.length) → ∃ k, (ts[n]).place = (a + k : Nat) ∧ k < l.length ∧ cut a (l.take k) = .ok (ts.take n) ∧ cut (a + k) (l.drop k) = .ok (ts.drop n) := by
  induction l using cut_ind with
  | h0 => intro a ts h n hn; simp at h; subst h; simp at hn
  | h1 b r hb hr h ih =>
    intro a ts hc n hn
    rw [h] at hc
    obtain ⟨k, e1, e2, e3, e4⟩ := ih (a + 1) ts hc n hn
    refine ⟨k + 1, by rw [e1]; congr 1; omega, by simp; omega, ?_, ?_⟩
    · rw [List.take_succ_cons, cut_blank a b _ hr hb, e3]
    · rw [List.drop_succ_cons, ← e4]; congr 1; omega
  | h2 b r e h => intro a ts hc; rw [h] at hc; cases hc
  | h3 t rest hne hk hap h ih =>
    intro a ts hc n hn
    rw [h] at hc
    cases hr : cut (a + t.length) rest with
    | bad p e => rw [hr] at hc; cases hc
    | ok us =>
      rw [hr] at hc
      simp only [Res.cons, Res.ok.injEq] at hc
      subst hc
      cases n with
      | zero => exact ⟨0, by simp, by simp; have := List.length_pos_iff.2 hne; omega, by simp, by simp [h, hr, Res.cons]⟩
      | succ n =>
        obtain ⟨k, e1, e2, e3, e4⟩ := ih (a + t.length) us hr n (by simpa using hn)
        refine ⟨t.length + k, by simp only [List.getElem_cons_succ]; rw [e1]; congr 1; omega, by simp; omega, ?_, ?_⟩
        · rw [List.take_append, List.take_of_length_le (by omega), show t.length + k - t.length = k from by omega, cut_tok a t _ hk (apart_take t rest k hap), e3]
          rfl
        · rw [List.drop_append, List.drop_of_length_le (by omega), show t.length + k - t.length = k from by omega, List.nil_append, List.drop_succ_cons, ← e4]
          congr 1; omega

/-- .. AND A TEXT WITH AN ERROR, WHERE THAT STANDS. -/
theorem cut_parts_bad (l : List UInt8) : ∀ a p e, cut a l = .bad p e → ∃ k, p = a + k ∧ k < l.length ∧ (∃ ts, cut a (l.take k) = .ok ts) ∧ cut p (l.drop k) = .bad p e := by
  induction l using cut_ind with
  | h0 => intro a p e h; simp at h
  | h1 b r hb hr h ih =>
    intro a p e hc
    rw [h] at hc
    obtain ⟨k, e1, e2, ⟨ts, e3⟩, e4⟩ := ih (a + 1) p e hc
    exact ⟨k + 1, by omega, by simp; omega, ⟨ts, by rw [List.take_succ_cons, cut_blank a b _ hr hb, e3]⟩, by simpa using e4⟩
  | h2 b r e h =>
    intro a p e' hc
    rw [h] at hc
    cases hc
    exact ⟨0, rfl, by simp, ⟨[], rfl⟩, by simpa using h a⟩
  | h3 t rest hne hk hap h ih =>
    intro a p e hc
    rw [h] at hc
    cases hr : cut (a + t.length) rest with
    | ok us => rw [hr] at hc; cases hc
    | bad p' e' =>
      rw [hr] at hc
      simp only [Res.cons] at hc
      cases hc
      obtain ⟨k, e1, e2, ⟨ts, e3⟩, e4⟩ := ih _ _ _ hr
      refine ⟨t.length + k, by omega, by simp; omega, ⟨⟨kindOf t, bsOf t, a⟩ :: ts, ?_⟩, ?_⟩
      · rw [List.take_append, List.take_of_length_le (by omega), show t.length + k - t.length = k from by omega, cut_tok a t _ hk (apart_take t rest k hap), e3]
        rfl
      · rw [List.drop_append, List.drop_of_length_le (by omega), show t.length + k - t.length = k from by omega, List.nil_append, e4]

/-! ## Gluing -/
/-- The text of tokens behind a text that stands ahead. -/
def glueFrom : List UInt8 → List (List UInt8) → List UInt8
  | _, [] => []
  | p, t :: r => (if apart p t then t else 32 :: t) ++ glueFrom t r
def glue : List (List UInt8) → List UInt8
  | [] => []
  | t :: r => t ++ glueFrom t r

theorem apart_blank (t r : List UInt8) : apart t (32 :: r) = true := by
  cases t with
  | nil => rfl
  | cons a t =>
    simp only [apart]
    have : isRow 32 = false := by decide
    split
    · simp [this]
    · have ha : twin (32 : UInt8) = false := by decide
      by_cases h : (32 : UInt8) = a
      · subst h; simp [ha]
      · simp [h]
theorem apart_append (p t r : List UInt8) (ht : t ≠ []) : apart p (t ++ r) = apart p t := by
  cases t with
  | nil => exact absurd rfl ht
  | cons a t => cases p <;> rfl
theorem kindOf_ne (t : List UInt8) (h : kindOf t ≠ 0) : t ≠ [] := by rintro rfl; exact h rfl
theorem apart_glueFrom (t : List UInt8) (ts : List (List UInt8)) (h : ∀ u ∈ ts, kindOf u ≠ 0) : apart t (glueFrom t ts) = true := by
  cases ts with
  | nil => cases t <;> rfl
  | cons u r =>
    simp only [glueFrom]
    by_cases ha : apart t u = true
    · rw [if_pos ha, apart_append _ _ _ (kindOf_ne _ (h u (by simp)))]; exact ha
    · rw [if_neg ha]; exact apart_blank _ _
def textsOf (l : List Tok) : List (List UInt8) := l.map (·.text.data.toList)

/-- WHAT IS GLUED IS CUT INTO THE SAME TOKENS. -/
theorem cut_glueFrom (ts : List (List UInt8)) (h : ∀ u ∈ ts, kindOf u ≠ 0) : ∀ p a, ∃ l, cut a (glueFrom p ts) = .ok l ∧ l.map (fun t => (t.kind, t.text)) = ts.map (fun u => (kindOf u, bsOf u)) := by
  induction ts with
  | nil => intro p a; exact ⟨[], rfl, rfl⟩
  | cons u r ih =>
    intro p a
    have hu := h u (by simp)
    have hr : ∀ v ∈ r, kindOf v ≠ 0 := fun v hv => h v (by simp [hv])
    have hb : isRow 32 = false := by decide
    have hbl : isBlank 32 = true := by decide
    simp only [glueFrom]
    by_cases ha : apart p u = true
    · obtain ⟨l, e1, e2⟩ := ih hr u (a + u.length)
      rw [if_pos ha, cut_tok a u _ hu (apart_glueFrom u r hr), e1]
      exact ⟨_, rfl, by simp [e2]⟩
    · obtain ⟨l, e1, e2⟩ := ih hr u (a + 1 + u.length)
      rw [if_neg ha, List.cons_append, cut_blank a 32 _ hb hbl, cut_tok (a + 1) u _ hu (apart_glueFrom u r hr), e1]
      exact ⟨_, rfl, by simp [e2]⟩
theorem cut_glue (ts : List (List UInt8)) (h : ∀ u ∈ ts, kindOf u ≠ 0) (a : Nat) : ∃ l, cut a (glue ts) = .ok l ∧ l.map (fun t => (t.kind, t.text)) = ts.map (fun u => (kindOf u, bsOf u)) := by
  cases ts with
  | nil => exact ⟨[], rfl, rfl⟩
  | cons u r =>
    have hr : ∀ v ∈ r, kindOf v ≠ 0 := fun v hv => h v (by simp [hv])
    obtain ⟨l, e1, e2⟩ := cut_glueFrom r hr u (a + u.length)
    rw [glue, cut_tok a u _ (h u (by simp)) (apart_glueFrom u r hr), e1]
    exact ⟨_, rfl, by simp [e2]⟩

/-- The tokens of a text are tokens. -/
theorem cut_kinds (l : List UInt8) : ∀ a ts, cut a l = .ok ts → ∀ t ∈ ts, kindOf t.text.data.toList = t.kind ∧ t.kind ≠ 0 ∧ 0 ≤ t.place := by
  induction l using cut_ind with
  | h0 => intro a ts h; simp at h; subst h; simp
  | h1 b r hb hr h ih => intro a ts hc; rw [h] at hc; exact ih _ _ hc
  | h2 b r e h => intro a ts hc; rw [h] at hc; cases hc
  | h3 t rest hne hk hap h ih =>
    intro a ts hc
    rw [h] at hc
    cases hr : cut (a + t.length) rest with
    | bad p e => rw [hr] at hc; cases hc
    | ok us =>
      rw [hr] at hc
      simp only [Res.cons, Res.ok.injEq] at hc
      subst hc
      intro u hu
      rcases List.mem_cons.1 hu with rfl | hu
      · exact ⟨by simp, hk, by simp⟩
      · exact ih _ _ hr u hu

/-- WHAT IS CUT IS GLUED TO NO LONGER A TEXT. -/
theorem glueFrom_short (l : List UInt8) : ∀ a ts, cut a l = .ok ts → ∀ p, (glueFrom p (textsOf ts)).length ≤ l.length + (if apart p l then 0 else 1) := by
  induction l using cut_ind with
  | h0 => intro a ts h p; simp at h; subst h; simp [textsOf, glueFrom]
  | h1 b r hb hr h ih =>
    intro a ts hc p
    rw [h] at hc
    have := ih _ _ hc p
    simp only [List.length_cons]
    split at this <;> omega
  | h2 b r e h => intro a ts hc; rw [h] at hc; cases hc
  | h3 t rest hne hk hap h ih =>
    intro a ts hc p
    rw [h] at hc
    cases hr : cut (a + t.length) rest with
    | bad p e => rw [hr] at hc; cases hc
    | ok us =>
      rw [hr] at hc
      simp only [Res.cons, Res.ok.injEq] at hc
      subst hc
      have := ih _ _ hr t
      rw [if_pos hap] at this
      simp only [textsOf, List.map_cons, bsOf_list, glueFrom, List.length_append] at this ⊢
      rw [apart_append _ _ _ hne]
      split
      · omega
      · simp only [List.length_cons]; omega
theorem glue_short (l : List UInt8) (a : Nat) (ts : List Tok) (h : cut a l = .ok ts) : (glue (textsOf ts)).length ≤ l.length := by
  have := glueFrom_short l a ts h []
  have hg : glue (textsOf ts) = glueFrom [] (textsOf ts) := by
    cases textsOf ts with
    | nil => rfl
    | cons t r => cases t <;> rfl
  rw [hg]
  cases l <;> simpa [apart] using this

/-- NO BYTE OF WHAT IS GLUED CAN GO. -/
theorem glue_tight (c : Nat) (ts us : List Tok) (s' : List UInt8) (h : cut c s' = .ok us) (hl : s'.length < (glue (textsOf ts)).length) : textsOf us ≠ textsOf ts := by
  intro he
  have := glue_short s' c us h
  rw [he] at this
  omega

/-- WHETHER ONE MAY STAND RIGHT BEHIND ANOTHER ONE: as cutting both tells. -/
theorem cut_pair (a : Nat) (t u : List UInt8) (ht : kindOf t ≠ 0) (hu : kindOf u ≠ 0) : (apart t u = true ∧ cut a (t ++ u) = .ok [⟨kindOf t, bsOf t, a⟩, ⟨kindOf u, bsOf u, (a + t.length : Nat)⟩]) ∨ (apart t u = false ∧ ∀ ts, cut a (t ++ u) = .ok ts → ts.length = 2 → ts.head?.map (·.text) ≠ some (bsOf t)) := by
  by_cases h : apart t u = true
  · left
    refine ⟨h, ?_⟩
    rw [cut_tok a t u ht h]
    have := cut_tok (a + t.length) u [] hu (by cases u <;> rfl)
    rw [List.append_nil] at this
    rw [this]
    rfl
  · right
    refine ⟨by simpa using h, ?_⟩
    intro ts hc _ hh
    have hf : apart t u = false := by simpa using h
    clear h
    cases t with
    | nil => exact absurd rfl ht
    | cons b r => cases u with
      | nil => exact absurd rfl hu
      | cons c s =>
        by_cases hb : isRow b = true
        · simp only [apart, hb, if_true, Bool.not_eq_false'] at hf
          simp only [kindOf, hb, if_true] at ht
          have hall : r.all isRow = true := by
            by_cases hr : r.all isRow = true
            · exact hr
            · rw [if_neg hr] at ht; exact absurd rfl ht
          have hro : rowOf (b :: r ++ c :: s) = b :: r ++ rowOf (c :: s) := by
            have : ∀ l : List UInt8, l.all isRow = true → rowOf (l ++ c :: s) = l ++ rowOf (c :: s) := by
              intro l
              induction l with
              | nil => intro _; rfl
              | cons x l ih =>
                intro hx
                simp only [List.all_cons, Bool.and_eq_true] at hx
                rw [List.cons_append, rowOf_pos _ _ hx.1, ih hx.2]; rfl
            exact this (b :: r) (by simp only [List.all_cons, hb, hall, Bool.and_true])
          have := cut_row a b (r ++ c :: s) hb
          rw [← List.cons_append, hro, hc] at this
          cases hk : rowKind (b :: r ++ rowOf (c :: s)) with
          | error e => rw [hk] at this; cases this
          | ok k =>
            rw [hk] at this
            simp only at this
            cases hq : cut (a + (b :: r ++ rowOf (c :: s)).length) ((b :: r ++ c :: s).drop (b :: r ++ rowOf (c :: s)).length) with
            | bad p e => rw [hq] at this; cases this
            | ok us =>
              rw [hq] at this
              simp only [Res.cons, Res.ok.injEq] at this
              subst this
              simp only [List.head?_cons, Option.map_some, Option.some.injEq] at hh
              have := congrArg List.length (bsOf_inj hh)
              rw [rowOf_pos c s hf] at this
              simp at this
        · have hb' : isRow b = false := by simpa using hb
          simp only [apart, hb', Bool.false_eq_true, if_false, Bool.not_eq_false', Bool.and_eq_true, beq_iff_eq] at hf
          obtain ⟨⟨rfl, htw⟩, rfl⟩ := hf
          have := cut_two a c s htw
          rw [List.singleton_append, this] at hc
          cases hq : cut (a + 2) s with
          | bad p e => rw [hq] at hc; cases hc
          | ok us =>
            rw [hq] at hc
            simp only [Res.cons, Res.ok.injEq] at hc
            subst hc
            simp only [List.head?_cons, Option.map_some, Option.some.injEq] at hh
            have := congrArg List.length (bsOf_inj hh)
            simp at this
theorem cut_single (t : List UInt8) (ts : List Tok) : (cut 0 t = .ok ts ∧ ts.length = 1 ∧ ts.head?.map (·.text) = some (bsOf t)) ↔ (kindOf t ≠ 0 ∧ ts = [⟨kindOf t, bsOf t, 0⟩]) := by
  constructor
  · rintro ⟨h, h1, h2⟩
    obtain ⟨x, rfl⟩ : ∃ x, ts = [x] := List.length_eq_one_iff.1 h1
    simp at h2
    have hk := cut_kinds t 0 [x] h x (by simp)
    rw [h2, bsOf_list] at hk
    have := cut_tok 0 t [] (by rw [hk.1]; exact hk.2.1) (by cases t <;> rfl)
    rw [List.append_nil, h] at this
    simp only [cut_nil, Res.cons, Res.ok.injEq] at this
    exact ⟨by rw [hk.1]; exact hk.2.1, by simpa using this⟩
  · rintro ⟨h, rfl⟩
    have := cut_tok 0 t [] h (by cases t <;> rfl)
    rw [List.append_nil] at this
    exact ⟨by simpa [Res.cons] using this, rfl, by simp⟩
end Go.Proofs.YtockinpjfhhkoaaGreatDoor

/- The small functions of layer 15, and of its book, on bytes and runes. -/
namespace Go.Proofs.YtockinpjfhhkoaaGreatDoor
open Go.RowKit Go.Shelf

theorem ret_bool {a b : Bool} {w : World} (h : a = b) : (Ending.returned (.bool a) = .returned (.bool b) ∧ w = w) := ⟨by rw [h], rfl⟩
theorem ret_int {k : IntKind} {a b : Int} {w : World} (h : a = b) : (Ending.returned (.int k a) = .returned (.int k b) ∧ w = w) := ⟨by rw [h], rfl⟩

/-- What a rune is: 2 a small letter, 3 a digit, 1 a blank, 0 else. -/
def kindR (r : Int) : Int := if 97 ≤ r ∧ r ≤ 122 then 2 else if 48 ≤ r ∧ r ≤ 57 then 3 else if r = 32 ∨ r = 9 ∨ r = 10 ∨ r = 13 then 1 else 0

set_option maxRecDepth 100000 in
set_option maxHeartbeats 2000000 in
theorem kind_any (r : Int) (w : World) : Calls Tryz.prog 195 #[.int .i32 r] w fun e w' => e = .returned (.int .i64 (kindR r)) ∧ w' = w := by
  go_enter Tryz.func195, Tryz.ntmps195
  go_wp2
  all_goals go_ret
  all_goals (refine ret_int ?_; unfold kindR; try omega)
  all_goals (simp only [beq_iff_eq, beq_eq_false_iff_ne, ne_eq] at *; omega)

end Go.Proofs.YtockinpjfhhkoaaGreatDoor

/- The book of layer 15: words, numbers, signs, kinds; rows of letters and digits. -/
namespace Go.Proofs.YtockinpjfhhkoaaGreatDoor
open Go.RowKit Go.Shelf

theorem get_list (s : ByteArray) (k : Nat) (h : k < s.size) : s[k]'h = s.data.toList[k]'(by simpa using h) := by simp; rfl
theorem size_list (s : ByteArray) : s.data.toList.length = s.size := by simp

def wordB (l : List UInt8) : Bool := decide (1 ≤ l.length) && decide (l.length ≤ 8) && (l.head?.map isLow == some true) && (l.drop 1).all isRow

def signB (l : List UInt8) : Bool := [[124], [124, 124], [38], [38, 38], [59], [43], [60], [62], [95], [91], [93], [40], [41], [44], [33], [123], [125]].contains l

/-- How many letters and digits stand from a place on. -/
def rowN (l : List UInt8) : Nat := (rowOf l).length

def nameB (l : List UInt8) : Bool := wordB l && l != [116, 114, 117, 101] && l != [102, 97, 108, 115, 101] && l != [111, 111]
end Go.Proofs.YtockinpjfhhkoaaGreatDoor

/- Formulas and expressions as trees in Lean: what layer 16 computes of them. No program. -/
namespace Go.Proofs.YtockinpjfhhkoaaGreatDoor
open Go.RowKit

/-- A formula of depth at most n: kind, name, parts. -/
def FT : Nat → Type
  | 0 => Empty
  | n + 1 => Int × ByteArray × List (FT n)
structure Spn where
  low : Int
  ls : Bool
  high : Int
  hs : Bool
  op : Bool
  deriving DecidableEq
/-- An expression of depth at most n, its formulas of depth at most m: kind, formulas, parts, interval. -/
def XT (m : Nat) : Nat → Type
  | 0 => Empty
  | n + 1 => Int × List (FT m) × List (XT m n) × Spn

def allF (so : Int → ByteArray → Nat → Bool) : (n : Nat) → FT n → Bool
  | 0, _ => true
  | n + 1, t => so t.1 t.2.1 t.2.2.length && t.2.2.all (allF so n)
def manyOf (k : Int) : Nat := if k = 4 then 1 else if k = 5 ∨ k = 6 then 2 else 0
def rightB (k : Int) (s : ByteArray) (l : Nat) : Bool := decide (1 ≤ k) && decide (k ≤ 6) && (l == manyOf k) && (decide (s.size = 0) || k == 3)
def inN (s : ByteArray) (names : List ByteArray) : Bool := names.any fun x => s.toList == x.toList
def declB (names : List ByteArray) (k : Int) (s : ByteArray) (_ : Nat) : Bool := k != 3 || inN s names

/-- One behind the other: what each adds, as a machine adds. -/
def foldC {α : Type} (f : α → Int) (a : Int) (l : List α) : Int := l.foldl (fun acc x => wrap64 (acc + f x)) a
theorem foldC_succ {α : Type} (f : α → Int) (a : Int) (l : List α) (k : Nat) (h : k < l.length) : foldC f a (l.take (k + 1)) = wrap64 (foldC f a (l.take k) + f l[k]) := by
  unfold foldC
  rw [List.take_succ_eq_append_getElem h, List.foldl_append]
  rfl
theorem foldC_all {α : Type} (f : α → Int) (a : Int) (l : List α) : foldC f a (l.take l.length) = foldC f a l := by rw [List.take_length]

def cntF : (n : Nat) → FT n → Int
  | 0, _ => 1
  | n + 1, t => foldC (cntF n) 1 t.2.2
def fmsC (n : Nat) (l : List (FT n)) : Int := foldC (cntF n) 0 l

def namesGo (seen : List ByteArray) : List ByteArray → Bool
  | [] => true
  | x :: r => !inN x seen && nameB x.data.toList && namesGo (x :: seen) r
def namesR (l : List ByteArray) : Int := if decide (8 < l.length) || !namesGo [] l then 2 else 0

def fmlR (names : List ByteArray) (n : Nat) (f : FT n) : Int :=
  if namesR names ≠ 0 then 2 else if allF rightB n f = false then 8 else if 64 < fmsC n [f] then 160 else if allF (declB names) n f = false then 161 else 0

def belowC (n : Int) : Bool := decide (0 ≤ n) && decide (n < 288230376151711744)
def ivR (i : Spn) : Int :=
  if !belowC i.low || !belowC i.high || (i.op && (i.high != 0 || i.hs)) then 8
  else if !i.op && (decide (i.high < i.low) || (i.low == i.high && (i.ls || i.hs))) then 162 else 0

def allX {m : Nat} (so : Int → List (FT m) → Nat → Spn → Bool) : (n : Nat) → XT m n → Bool
  | 0, _ => true
  | n + 1, t => so t.1 t.2.1 t.2.2.1.length t.2.2.2 && t.2.2.1.all (allX so n)
def noSpan : Spn := ⟨0, false, 0, false, false⟩
def manyOfX (k : Int) : Nat := if k = 5 ∨ k = 6 then 1 else if k = 2 ∨ k = 3 ∨ k = 4 then 2 else 0
def rightX {m : Nat} (k : Int) (is : List (FT m)) (l : Nat) (i : Spn) : Bool :=
  decide (1 ≤ k) && decide (k ≤ 6) && (l == manyOfX k) && !(k == 6 && ivR i == 8) && !(k != 6 && i != noSpan) && (if k = 1 then (is.length == 1) && is.all (allF rightB m) else is.length == 0)
def cntX {m : Nat} (one : Int → List (FT m) → Int) : (n : Nat) → XT m n → Int
  | 0, _ => 1
  | n + 1, t => foldC (cntX one n) (one t.1 t.2.1) t.2.2.1
def oneX {m : Nat} (k : Int) (is : List (FT m)) : Int := if k = 1 then fmsC m is else 1
def manyX {m : Nat} (n : Nat) (x : XT m n) : Int := cntX oneX n x
def namesX {m : Nat} (names : List ByteArray) (_ : Int) (is : List (FT m)) (_ : Nat) (_ : Spn) : Bool := is.all (allF (declB names) m)
def openX {m : Nat} (k : Int) (_ : List (FT m)) (_ : Nat) (i : Spn) : Bool := k != 6 || ivR i == 0
def checkR {m : Nat} (names : List ByteArray) (n : Nat) (x : XT m n) : Int :=
  if namesR names ≠ 0 then 2 else if allX rightX n x = false then 8 else if 64 < manyX n x then 160 else if allX (namesX names) n x = false then 161 else if allX openX n x = false then 162 else 0
def constX {m : Nat} : (n : Nat) → XT m n → Int
  | 0, _ => 0
  | n + 1, t => t.2.2.1.foldl (fun a y => max a (constX n y)) (max (max 0 t.2.2.2.low) t.2.2.2.high)

def szL {α : Type} (f : α → Int → Int) (most : Int) : List α → Int → Int
  | [], n => n
  | x :: r, n => if n ≤ most then szL f most r (wrap64 (n + f x (wrap64 (most - n)))) else n
theorem szL_drop {α : Type} (f : α → Int → Int) (most : Int) (l : List α) (k : Nat) (n : Int) (h : k < l.length) (hn : n ≤ most) : szL f most (l.drop k) n = szL f most (l.drop (k + 1)) (wrap64 (n + f l[k] (wrap64 (most - n)))) := by
  rw [List.drop_eq_getElem_cons h, szL, if_pos hn]
theorem szL_stop {α : Type} (f : α → Int → Int) (most : Int) (l : List α) (n : Int) (hn : ¬ n ≤ most) : szL f most l n = n := by
  cases l with
  | nil => rfl
  | cons x r => rw [szL, if_neg hn]
def sizeF : (n : Nat) → FT n → Int → Int
  | 0, _, _ => 1
  | n + 1, t, most => szL (sizeF n) most t.2.2 (wrap64 (1 + t.2.1.size))
def sizeX {m : Nat} : (n : Nat) → XT m n → Int → Int
  | 0, _, _ => 1
  | n + 1, t, most => szL (sizeX n) most t.2.2.1 (szL (sizeF m) most t.2.1 1)

/-- Names are no longer than memory is. -/
def bndF : (n : Nat) → FT n → Prop
  | 0, _ => True
  | n + 1, t => t.2.1.size ≤ 281474976710656 ∧ ∀ x ∈ t.2.2, bndF n x
def bndX {m : Nat} : (n : Nat) → XT m n → Prop
  | 0, _ => True
  | n + 1, t => (∀ x ∈ t.2.1, bndF m x) ∧ ∀ x ∈ t.2.2.1, bndX n x
end Go.Proofs.YtockinpjfhhkoaaGreatDoor

/- Formulas, expressions and names in memory. -/
namespace Go.Proofs.YtockinpjfhhkoaaGreatDoor
open Go.RowKit

/-- A row of structs in memory, of C cells each, below block B. -/
def RowR (w : World) (B C : Nat) {α : Type} (R : α → Value → Prop) (a : Option Addr) (l : List α) : Prop :=
  l.length ≤ 9223372036854775807 ∧ (l = [] ∨ ∃ b off, a = some ⟨b, off, none⟩ ∧ b < B ∧
    ∀ i (h : i < l.length), ∃ vs : List Value, vs.length = C ∧ (∀ j, j < C → w.cell? ⟨b, off + i * C + j, none⟩ = vs[j]?) ∧ R l[i] (.agg vs.toArray))
theorem RowR.up {w w' : World} {B B' C : Nat} {α : Type} {R R' : α → Value → Prop} {a : Option Addr} {l : List α} (hb : Below B w w') (hB : B ≤ B') (hR : ∀ x ∈ l, ∀ v, R x v → R' x v) (h : RowR w B C R a l) : RowR w' B' C R' a l := by
  obtain ⟨hm, h⟩ := h
  refine ⟨hm, ?_⟩
  rcases h with h | ⟨b, off, ha, hlt, hc⟩
  · exact .inl h
  · refine .inr ⟨b, off, ha, by omega, fun i hi => ?_⟩
    obtain ⟨vs, h1, h2, h3⟩ := hc i hi
    exact ⟨vs, h1, fun j hj => (hb.cell (p := ⟨b, _, none⟩) hlt).trans (h2 j hj), hR _ (List.getElem_mem _) _ h3⟩

def FRep (w : World) (B : Nat) : (n : Nat) → FT n → Value → Prop
  | 0, _, _ => False
  | n + 1, t, v => ∃ a cap, v = .agg #[.int .u8 t.1, .string t.2.1, .slice a t.2.2.length cap] ∧ RowR w B 3 (FRep w B n) a t.2.2
abbrev FRow (w : World) (B n : Nat) (a : Option Addr) (l : List (FT n)) : Prop := RowR w B 3 (FRep w B n) a l
theorem FRep.up {w w' : World} {B B' : Nat} (hb : Below B w w') (hB : B ≤ B') : ∀ {n : Nat} {t : FT n} {v : Value}, FRep w B n t v → FRep w' B' n t v
  | 0, _, _, h => h.elim
  | _ + 1, _, _, ⟨a, cap, hv, h⟩ => ⟨a, cap, hv, h.up hb hB fun _ _ _ hx => FRep.up hb hB hx⟩
theorem FRow.up {w w' : World} {B B' n : Nat} {a : Option Addr} {l : List (FT n)} (h : FRow w B n a l) (hb : Below B w w') (hB : B ≤ B') : FRow w' B' n a l :=
  RowR.up hb hB (fun _ _ _ hx => FRep.up hb hB hx) h
theorem FRep.shape {w : World} {B n : Nat} {t : FT n} {v : Value} (h : FRep w B n t v) : ∃ k s a l c, v = .agg #[.int .u8 k, .string s, .slice a l c] := by
  cases n with
  | zero => exact h.elim
  | succ n => obtain ⟨a, c, hv, _⟩ := h; exact ⟨_, _, a, _, c, hv⟩
/-- The three cells of a formula in a row. -/
theorem FRow.at {w : World} {B n : Nat} {a : Option Addr} {l : List (FT n)} (h : FRow w B n a l) (j : Nat) (hj : j < l.length) :
    ∃ b off k s sa sl sc, a = some ⟨b, off, none⟩ ∧ b < B ∧ w.cell? ⟨b, off + j * 3, none⟩ = some (.int .u8 k) ∧ w.cell? ⟨b, off + j * 3 + 1, none⟩ = some (.string s) ∧
      w.cell? ⟨b, off + j * 3 + 2, none⟩ = some (.slice sa sl sc) ∧ FRep w B n l[j] (.agg #[.int .u8 k, .string s, .slice sa sl sc]) := by
  obtain ⟨_, h | ⟨b, off, ha, hb, hc⟩⟩ := h
  · rw [h] at hj; exact absurd hj (by simp)
  · obtain ⟨vs, h1, h2, h3⟩ := hc j hj
    obtain ⟨k, s, sa, sl, sc, hv⟩ := h3.shape
    match vs, h1 with
    | [x, y, z], _ =>
      have hv' : x = .int .u8 k ∧ y = .string s ∧ z = .slice sa sl sc := by simpa using hv
      obtain ⟨rfl, rfl, rfl⟩ := hv'
      exact ⟨b, off, k, s, sa, sl, sc, ha, hb, by have := h2 0 (by omega); simpa using this, by have := h2 1 (by omega); simpa using this, by have := h2 2 (by omega); simpa using this, h3⟩

def Spn.cells (i : Spn) : List Value := [.int .i64 i.low, .bool i.ls, .int .i64 i.high, .bool i.hs, .bool i.op]
def XRep (w : World) (B m : Nat) : (n : Nat) → XT m n → Value → Prop
  | 0, _, _ => False
  | n + 1, t, v => ∃ a1 c1 a2 c2, v = .agg #[.int .u8 t.1, .slice a1 t.2.1.length c1, .slice a2 t.2.2.1.length c2, .int .i64 t.2.2.2.low, .bool t.2.2.2.ls, .int .i64 t.2.2.2.high, .bool t.2.2.2.hs, .bool t.2.2.2.op] ∧
      FRow w B m a1 t.2.1 ∧ RowR w B 8 (XRep w B m n) a2 t.2.2.1
abbrev XRow (w : World) (B m n : Nat) (a : Option Addr) (l : List (XT m n)) : Prop := RowR w B 8 (XRep w B m n) a l
theorem XRep.up {w w' : World} {B B' m : Nat} (hb : Below B w w') (hB : B ≤ B') : ∀ {n : Nat} {t : XT m n} {v : Value}, XRep w B m n t v → XRep w' B' m n t v
  | 0, _, _, h => h.elim
  | _ + 1, _, _, ⟨a1, c1, a2, c2, hv, h1, h2⟩ => ⟨a1, c1, a2, c2, hv, h1.up hb hB, h2.up hb hB fun _ _ _ hx => XRep.up hb hB hx⟩
theorem XRow.up {w w' : World} {B B' m n : Nat} {a : Option Addr} {l : List (XT m n)} (h : XRow w B m n a l) (hb : Below B w w') (hB : B ≤ B') : XRow w' B' m n a l :=
  RowR.up hb hB (fun _ _ _ hx => XRep.up hb hB hx) h
theorem XRep.shape {w : World} {B m n : Nat} {t : XT m n} {v : Value} (h : XRep w B m n t v) :
    ∃ k a1 l1 c1 a2 l2 c2 lo ls hi hs op, v = .agg #[.int .u8 k, .slice a1 l1 c1, .slice a2 l2 c2, .int .i64 lo, .bool ls, .int .i64 hi, .bool hs, .bool op] := by
  cases n with
  | zero => exact h.elim
  | succ n => obtain ⟨a1, c1, a2, c2, hv, _⟩ := h; exact ⟨_, a1, _, c1, a2, _, c2, _, _, _, _, _, hv⟩
/-- The eight cells of an expression in a row. -/
theorem XRow.at {w : World} {B m n : Nat} {a : Option Addr} {l : List (XT m n)} (h : XRow w B m n a l) (j : Nat) (hj : j < l.length) :
    ∃ b off k a1 l1 c1 a2 l2 c2 lo ls hi hs op, a = some ⟨b, off, none⟩ ∧ b < B ∧ w.cell? ⟨b, off + j * 8, none⟩ = some (.int .u8 k) ∧ w.cell? ⟨b, off + j * 8 + 1, none⟩ = some (.slice a1 l1 c1) ∧
      w.cell? ⟨b, off + j * 8 + 2, none⟩ = some (.slice a2 l2 c2) ∧ w.cell? ⟨b, off + j * 8 + 3, none⟩ = some (.int .i64 lo) ∧ w.cell? ⟨b, off + j * 8 + 4, none⟩ = some (.bool ls) ∧
      w.cell? ⟨b, off + j * 8 + 5, none⟩ = some (.int .i64 hi) ∧ w.cell? ⟨b, off + j * 8 + 6, none⟩ = some (.bool hs) ∧ w.cell? ⟨b, off + j * 8 + 7, none⟩ = some (.bool op) ∧
      XRep w B m n l[j] (.agg #[.int .u8 k, .slice a1 l1 c1, .slice a2 l2 c2, .int .i64 lo, .bool ls, .int .i64 hi, .bool hs, .bool op]) := by
  obtain ⟨_, h | ⟨b, off, ha, hb, hc⟩⟩ := h
  · rw [h] at hj; exact absurd hj (by simp)
  · obtain ⟨vs, h1, h2, h3⟩ := hc j hj
    obtain ⟨k, a1, l1, c1, a2, l2, c2, lo, ls, hi, hs, op, hv⟩ := h3.shape
    match vs, h1 with
    | [v0, v1, v2, v3, v4, v5, v6, v7], _ =>
      have hv' : v0 = .int .u8 k ∧ v1 = .slice a1 l1 c1 ∧ v2 = .slice a2 l2 c2 ∧ v3 = .int .i64 lo ∧ v4 = .bool ls ∧ v5 = .int .i64 hi ∧ v6 = .bool hs ∧ v7 = .bool op := by simpa using hv
      obtain ⟨rfl, rfl, rfl, rfl, rfl, rfl, rfl, rfl⟩ := hv'
      refine ⟨b, off, k, a1, l1, c1, a2, l2, c2, lo, ls, hi, hs, op, ha, hb, ?_, ?_, ?_, ?_, ?_, ?_, ?_, ?_, h3⟩
      · have := h2 0 (by omega); simpa using this
      · have := h2 1 (by omega); simpa using this
      · have := h2 2 (by omega); simpa using this
      · have := h2 3 (by omega); simpa using this
      · have := h2 4 (by omega); simpa using this
      · have := h2 5 (by omega); simpa using this
      · have := h2 6 (by omega); simpa using this
      · have := h2 7 (by omega); simpa using this

/-- Names in memory: a slice value, below block B. -/
def NRep (w : World) (B : Nat) (v : Value) (l : List ByteArray) : Prop :=
  ∃ a cap, v = .slice a l.length cap ∧ l.length ≤ 9223372036854775807 ∧ (l = [] ∨ ∃ b off, a = some ⟨b, off, none⟩ ∧ b < B ∧ ∀ i (h : i < l.length), w.cell? ⟨b, off + i, none⟩ = some (.string l[i]))
theorem NRep.up {w w' : World} {B B' : Nat} {v : Value} {l : List ByteArray} (h : NRep w B v l) (hb : Below B w w') (hB : B ≤ B') : NRep w' B' v l := by
  obtain ⟨a, cap, hv, hm, h⟩ := h
  refine ⟨a, cap, hv, hm, ?_⟩
  rcases h with h | ⟨b, off, ha, hlt, hc⟩
  · exact .inl h
  · exact .inr ⟨b, off, ha, by omega, fun i hi => (hb.cell (p := ⟨b, _, none⟩) hlt).trans (hc i hi)⟩
end Go.Proofs.YtockinpjfhhkoaaGreatDoor
