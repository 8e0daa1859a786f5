/- How a text is cut into tokens, as a plain function of its bytes, and its laws: no program in sight. -/
import Derived.Lib.Strings
import Derived.Shelf.Abstract
import Derived.WalkKit
import Derived.WalkSpells
import Derived.WalkLawsBesides
import Derived.Lib.Hide
import Derived.Test.YtpgdplmndnopbaaGreatDoorRows
import Derived.LoopTactic
namespace Go.Proofs.YtpgdplmndnopbaaGreatDoor
def isLow (b : UInt8) : Bool := decide (97 ≤ b.toNat) && decide (b.toNat ≤ 122)
def isDig (b : UInt8) : Bool := decide (48 ≤ b.toNat) && decide (b.toNat ≤ 57)
def isBlank (b : UInt8) : Bool := b.toNat == 32 || b.toNat == 9 || b.toNat == 10 || b.toNat == 13
def isRow (b : UInt8) : Bool := isLow b || isDig b
def isSign (b : UInt8) : Bool := [124, 38, 59, 43, 60, 62, 95, 91, 93, 40, 41, 44, 33, 123, 125].contains b.toNat
def twin (b : UInt8) : Bool := b.toNat == 124 || b.toNat == 38
def digVal (a : Nat) (l : List UInt8) : Nat := l.foldl (fun n b => 10 * n + (b.toNat - 48)) a
theorem digVal_cons (a : Nat) (b : UInt8) (r : List UInt8) : digVal a (b :: r) = digVal (10 * a + (b.toNat - 48)) r := List.foldl_cons ..
def numOk (l : List UInt8) : Bool := l.all isDig && decide (l.length ≤ 18) && (decide (l.length ≤ 1) || l.head? != some 48) && decide (digVal 0 l < 288230376151711744)
def rowKind : List UInt8 → Except Int Int
 | [] => .error 151
 | b :: r => if isLow b then (if r.length + 1 ≤ 8 then .ok 1 else .error 152) else if numOk (b :: r) then .ok 2 else .error 151
structure Tok where
 kind : Int
 text : ByteArray
 place : Int
deriving DecidableEq
def bsOf (l : List UInt8) : ByteArray := ⟨l.toArray⟩
@[simp] theorem bsOf_list (l : List UInt8) : (bsOf l).data.toList = l := by simp [bsOf]
theorem bsOf_of (s : ByteArray) : bsOf s.data.toList = s := by simp [bsOf]
theorem bsOf_inj {a b : List UInt8} (h : bsOf a = bsOf b) : a = b := by rw [← bsOf_list a, h, bsOf_list]
inductive Res where
 | ok (l : List Tok)
 | bad (at_ : Nat) (e : Int)
deriving DecidableEq
def Res.cons (t : Tok) : Res → Res
 | .ok l => .ok (t :: l)
 | .bad a e => .bad a e
def Res.app (p : List Tok) : Res → Res
 | .ok l => .ok (p ++ l)
 | .bad a e => .bad a e
theorem Res.app_nil (r : Res) : Res.app [] r = r := by cases r <;> rfl
theorem Res.app_cons (p : List Tok) (t : Tok) (r : Res) : Res.app p (Res.cons t r) = Res.app (p ++ [t]) r := by cases r <;> simp [Res.app, Res.cons]
def rowOf (l : List UInt8) : List UInt8 := l.takeWhile isRow
def cutS : Nat → Nat → List UInt8 → Res
 | _, _, [] => .ok []
 | k + 1, a, _ :: r => cutS k (a + 1) r
 | 0, a, b :: r =>
  if isRow b then
   match rowKind (b :: rowOf r) with
   | .error e => .bad a e
   | .ok k => Res.cons ⟨k, bsOf (b :: rowOf r), a⟩ (cutS (rowOf r).length (a + 1) r)
  else if isBlank b then cutS 0 (a + 1) r
  else if isSign b then
   if twin b && r.head? == some b then Res.cons ⟨3, bsOf [b, b], a⟩ (cutS 1 (a + 1) r)
   else Res.cons ⟨3, bsOf [b], a⟩ (cutS 0 (a + 1) r)
  else .bad a 150
def cut (a : Nat) (l : List UInt8) : Res := cutS 0 a l
theorem cutS_skip : ∀ (k a : Nat) (l : List UInt8), cutS k a l = cut (a + k) (l.drop k)
 | 0, a, l => by simp [cut]
 | k + 1, a, [] => by simp [cut, cutS]
 | k + 1, a, b :: r => by rw [cutS, cutS_skip k (a + 1) r]; simp; congr 1; omega
@[simp] theorem cut_nil (a : Nat) : cut a [] = .ok [] := rfl
theorem cut_row (a : Nat) (b : UInt8) (r : List UInt8) (h : isRow b = true) : cut a (b :: r) = match rowKind (rowOf (b :: r)) with
 | .error e => .bad a e
 | .ok k => Res.cons ⟨k, bsOf (rowOf (b :: r)), a⟩ (cut (a + (rowOf (b :: r)).length) ((b :: r).drop (rowOf (b :: r)).length)) := by
 have h2 : rowOf (b :: r) = b :: rowOf r := by simp [rowOf, h]
 rw [h2, cut, cutS]
 simp only [h, if_true]
 cases rowKind (b :: rowOf r) with
 | error e => rfl
 | ok k => simp only [cutS_skip]; simp; congr 2; omega
theorem cut_blank (a : Nat) (b : UInt8) (r : List UInt8) (h : isRow b = false) (hb : isBlank b = true) : cut a (b :: r) = cut (a + 1) r := by
 simp [cut, cutS, h, hb]
theorem cut_two (a : Nat) (b : UInt8) (r : List UInt8) (hb : twin b = true) : cut a (b :: b :: r) = Res.cons ⟨3, bsOf [b, b], a⟩ (cut (a + 2) r) := by
 have h : isRow b = false ∧ isBlank b = false ∧ isSign b = true := by
  simp only [twin, Bool.or_eq_true, beq_iff_eq] at hb
  rcases hb with hb | hb <;> simp [isRow, isLow, isDig, isBlank, isSign, hb]
 rw [cut, cutS]
 simp [h, hb, cutS_skip]
theorem cut_one (a : Nat) (b : UInt8) (r : List UInt8) (h : isRow b = false) (hb : isBlank b = false) (hs : isSign b = true) (ht : (twin b && r.head? == some b) = false) : cut a (b :: r) = Res.cons ⟨3, bsOf [b], a⟩ (cut (a + 1) r) := by
 rw [cut, cutS, h, hb, hs, ht]
 rfl
theorem cut_wrong (a : Nat) (b : UInt8) (r : List UInt8) (h : isRow b = false) (hb : isBlank b = false) (hs : isSign b = false) : cut a (b :: r) = .bad a 150 := by
 simp [cut, cutS, h, hb, hs]
theorem rowOf_pos (b : UInt8) (r : List UInt8) (h : isRow b = true) : rowOf (b :: r) = b :: rowOf r := by simp [rowOf, h]
def kindOf : List UInt8 → Int
 | [] => 0
 | b :: r =>
  if isRow b then (if r.all isRow then (match rowKind (b :: r) with | .ok k => k | .error _ => 0) else 0)
  else if isSign b && (r == [] || (twin b && r == [b])) then 3 else 0
def apart (t rest : List UInt8) : Bool :=
 match t, rest with
 | _, [] => true
 | [], _ => true
 | a :: r, h :: _ => if isRow a then !isRow h else !(r == [] && twin a && h == a)
theorem rowOf_append (t rest : List UInt8) (ht : t.all isRow = true) (hr : rest.head?.map isRow ≠ some true) : rowOf (t ++ rest) = t := by
 induction t with
 | nil => cases rest with
  | nil => rfl
  | cons h r => simp at hr; simp [rowOf, hr]
 | cons a t ih =>
  simp only [List.all_cons, Bool.and_eq_true] at ht
  rw [List.cons_append, rowOf_pos _ _ ht.1, ih ht.2]
theorem rowKind_ne0 {l : List UInt8} {k : Int} (h : rowKind l = .ok k) : k = 1 ∨ k = 2 := by
 cases l with
 | nil => simp [rowKind] at h
 | cons b r =>
  simp only [rowKind] at h
  split at h
  ·split at h <;> simp at h; exact .inl h.symm
  ·split at h <;> simp at h; exact .inr h.symm
theorem cut_tok (a : Nat) (t rest : List UInt8) (hk : kindOf t ≠ 0) (hr : apart t rest = true) : cut a (t ++ rest) = Res.cons ⟨kindOf t, bsOf t, a⟩ (cut (a + t.length) rest) := by
 cases t with
 | nil => exact absurd rfl hk
 | cons b r =>
  by_cases hb : isRow b = true
  ·simp only [kindOf, hb, if_true] at hk ⊢
   by_cases hall : r.all isRow = true
   ·simp only [hall, if_true] at hk ⊢
    have hro : rowOf ((b :: r) ++ rest) = b :: r := by
     refine rowOf_append _ _ (by simp [hb]; simpa using hall) ?_
     cases rest with
     | nil => simp
     | cons h s => simp [apart, hb] at hr; simp [hr]
    have := cut_row a b (r ++ rest) hb
    rw [← List.cons_append, hro] at this
    rw [this]
    cases hrk : rowKind (b :: r) with
    | error e => rw [hrk] at hk; exact absurd rfl hk
    | ok k => simp
   ·simp [hall] at hk
  ·have hb' : isRow b = false := by simpa using hb
   simp only [kindOf, hb', Bool.false_eq_true, if_false] at hk ⊢
   by_cases hs : isSign b = true
   ·have hbl : isBlank b = false := by
     simp only [isSign, List.contains_eq_mem, List.mem_cons, List.not_mem_nil, or_false, decide_eq_true_eq] at hs
     simp only [isBlank]
     rcases hs with h|h|h|h|h|h|h|h|h|h|h|h|h|h|h <;> simp [h]
    by_cases h1 : r = []
    ·subst h1
     simp only [hs, List.singleton_append]
     rw [cut_one a b rest hb' hbl hs ?_]
     ·rfl
     ·cases rest with
      | nil => simp
      | cons h s => simp [apart, hb'] at hr; by_cases ht : twin b = true <;> simp_all
    ·by_cases h2 : (twin b && r == [b]) = true
     ·simp only [Bool.and_eq_true, beq_iff_eq] at h2
      obtain ⟨h3, rfl⟩ := h2
      simp only [hs, h3]
      simpa using cut_two a b rest h3
     ·exfalso; apply hk; rw [if_neg]; simp [hs, h1]; simpa using h2
   ·simp [hs] at hk
theorem kindOf_row {b : UInt8} {r : List UInt8} {k : Int} (hb : isRow b = true) (h : rowKind (rowOf (b :: r)) = .ok k) : kindOf (rowOf (b :: r)) = k := by
 have hall : (rowOf r).all isRow = true := by
  exact List.all_takeWhile
 rw [rowOf_pos b r hb] at h ⊢
 simp [kindOf, hb, hall, h]
theorem rowOf_drop (l : List UInt8) : l = rowOf l ++ l.drop (rowOf l).length := by
 induction l with
 | nil => rfl
 | cons b r ih =>
  by_cases hb : isRow b = true
  ·rw [rowOf_pos b r hb]
   simpa using ih
  ·simp [rowOf, hb]
theorem rowOf_next (l : List UInt8) : ((l.drop (rowOf l).length).head?.map isRow) ≠ some true := by
 induction l with
 | nil => simp [rowOf]
 | cons b r ih =>
  by_cases hb : isRow b = true
  ·rw [rowOf_pos b r hb]
   simpa using ih
  ·simp [rowOf, hb]
theorem cut_ways (b : UInt8) (r : List UInt8) :
 (isBlank b = true ∧ isRow b = false ∧ ∀ a, cut a (b :: r) = cut (a + 1) r) ∨
 (∃ e, ∀ a, cut a (b :: r) = .bad a e) ∨
 (∃ t rest, t ≠ [] ∧ b :: r = t ++ rest ∧ kindOf t ≠ 0 ∧ apart t rest = true ∧ ∀ a, cut a (b :: r) = Res.cons ⟨kindOf t, bsOf t, a⟩ (cut (a + t.length) rest)) := by
 by_cases hb : isRow b = true
 ·right
  cases hk : rowKind (rowOf (b :: r)) with
  | error e => exact .inl ⟨e, fun a => by rw [cut_row a b r hb, hk]⟩
  | ok k =>
   right
   have h1 := kindOf_row hb hk
   refine ⟨rowOf (b :: r), (b :: r).drop (rowOf (b :: r)).length, by rw [rowOf_pos b r hb]; simp, rowOf_drop _, by rw [h1]; rcases rowKind_ne0 hk with h | h <;> simp [h], ?_, fun a => by rw [cut_row a b r hb, hk, h1]⟩
   have := rowOf_next (b :: r)
   cases hd : (b :: r).drop (rowOf (b :: r)).length with
   | nil => rw [rowOf_pos b r hb]; rfl
   | cons h s =>
    rw [hd] at this
    rw [rowOf_pos b r hb]
    simp at this
    simp [apart, hb, this]
 ·have hb' : isRow b = false := by simpa using hb
  by_cases hbl : isBlank b = true
  ·exact .inl ⟨hbl, hb', fun a => cut_blank a b r hb' hbl⟩
  ·have hbl' : isBlank b = false := by simpa using hbl
   right
   by_cases hs : isSign b = true
   ·right
    by_cases ht : (twin b && r.head? == some b) = true
    ·simp only [Bool.and_eq_true, beq_iff_eq] at ht
     obtain ⟨ht, hh⟩ := ht
     cases r with
     | nil => simp at hh
     | cons c r =>
      simp at hh
      subst hh
      have hk : kindOf [c, c] = 3 := by simp [kindOf, hb', hs, ht]
      refine ⟨[c, c], r, by simp, rfl, by simp [hk], ?_, fun a => by rw [cut_two a c r ht, hk]; rfl⟩
      cases r <;> simp [apart, hb']
    ·have ht' : (twin b && r.head? == some b) = false := by simpa using ht
     have hk : kindOf [b] = 3 := by simp [kindOf, hb', hs]
     refine ⟨[b], r, by simp, rfl, by simp [hk], ?_, fun a => by rw [cut_one a b r hb' hbl' hs ht', hk]; rfl⟩
     cases r with
     | nil => rfl
     | cons c s =>
      simp at ht'
      by_cases ht2 : twin b = true
      ·simp [apart, hb', ht2, ht' ht2]
      ·simp [apart, hb', ht2]
   ·exact .inl ⟨150, fun a => cut_wrong a b r hb' hbl' (by simpa using hs)⟩
theorem cut_ind {P : List UInt8 → Prop} (h0 : P [])
 (h1 : ∀ b r, isBlank b = true → isRow b = false → (∀ a, cut a (b :: r) = cut (a + 1) r) → P r → P (b :: r))
 (h2 : ∀ b r e, (∀ a, cut a (b :: r) = .bad a e) → P (b :: r))
 (h3 : ∀ t rest, t ≠ [] → kindOf t ≠ 0 → apart t rest = true → (∀ a, cut a (t ++ rest) = Res.cons ⟨kindOf t, bsOf t, a⟩ (cut (a + t.length) rest)) → P rest → P (t ++ rest)) (l : List UInt8) : P l := by
 generalize hn : l.length = n
 induction n using Nat.strongRecOn generalizing l with
 | ind n ih =>
  cases l with
  | nil => exact h0
  | cons b r =>
   rcases cut_ways b r with ⟨x, y, z⟩ | ⟨e, z⟩ | ⟨t, rest, x, y, z, u, v⟩
   ·exact h1 b r x y z (ih r.length (by simp at hn; omega) r rfl)
   ·exact h2 b r e z
   ·rw [y] at v ⊢
    refine h3 t rest x z u v (ih rest.length ?_ rest rfl)
    have := congrArg List.length y
    have hp : 0 < t.length := List.length_pos_iff.2 x
    rw [List.length_append] at this
    omega
def Tok.shift (d : Nat) (t : Tok) : Tok := { t with place := t.place + d }
def Res.shift (d : Nat) : Res → Res
 | .ok l => .ok (l.map (Tok.shift d))
 | .bad a e => .bad (a + d) e
theorem Res.shift_cons (d : Nat) (t : Tok) (r : Res) : (Res.cons t r).shift d = Res.cons (t.shift d) (r.shift d) := by cases r <;> rfl
theorem cut_shift (d : Nat) (l : List UInt8) : ∀ a, cut (a + d) l = (cut a l).shift d := by
 induction l using cut_ind with
 | h0 => intro a; rfl
 | h1 b r _ _ h ih => intro a; rw [h, h, ← ih (a + 1)]; congr 1; omega
 | h2 b r e h => intro a; rw [h, h]; rfl
 | h3 t rest _ _ _ h ih =>
  intro a
  rw [h, h, Res.shift_cons, ← ih (a + t.length)]
  have : a + d + t.length = a + t.length + d := by omega
  rw [this]
  simp [Tok.shift]
theorem apart_take (t rest : List UInt8) (m : Nat) (h : apart t rest = true) : apart t (rest.take m) = true := by
 cases m with
 | zero => cases t <;> simp [apart]
 | succ m => cases rest with
  | nil => simpa using h
  | cons a r => cases t with
   | nil => simp [apart]
   | cons b s => simpa [apart] using h
theorem cut_parts (l : List UInt8) : ∀ a ts, cut a l = .ok ts → ∀ n, (h : n < ts.length) → ∃ k, (ts[n]).place = (a + k : Nat) ∧ k < l.length ∧ cut a (l.take k) = .ok (ts.take n) ∧ cut (a + k) (l.drop k) = .ok (ts.drop n) := by
 induction l using cut_ind with
 | h0 => intro a ts h n hn; simp at h; subst h; simp at hn
 | h1 b r hb hr h ih =>
  intro a ts hc n hn
  rw [h] at hc
  obtain ⟨k, e1, e2, e3, e4⟩ := ih (a + 1) ts hc n hn
  refine ⟨k + 1, by rw [e1]; congr 1; omega, by simp; omega, ?_, ?_⟩
  ·rw [List.take_succ_cons, cut_blank a b _ hr hb, e3]
  ·rw [List.drop_succ_cons, ← e4]; congr 1; omega
 | h2 b r e h => intro a ts hc; rw [h] at hc; cases hc
 | h3 t rest hne hk hap h ih =>
  intro a ts hc n hn
  rw [h] at hc
  cases hr : cut (a + t.length) rest with
  | bad p e => rw [hr] at hc; cases hc
  | ok us =>
   rw [hr] at hc
   simp only [Res.cons, Res.ok.injEq] at hc
   subst hc
   cases n with
   | zero => exact ⟨0, by simp, by simp; have := List.length_pos_iff.2 hne; omega, by simp, by simp [h, hr, Res.cons]⟩
   | succ n =>
    obtain ⟨k, e1, e2, e3, e4⟩ := ih (a + t.length) us hr n (by simpa using hn)
    refine ⟨t.length + k, by simp only [List.getElem_cons_succ]; rw [e1]; congr 1; omega, by simp; omega, ?_, ?_⟩
    ·rw [List.take_append, List.take_of_length_le (by omega), show t.length + k - t.length = k from by omega, cut_tok a t _ hk (apart_take t rest k hap), e3]
     rfl
    ·rw [List.drop_append, List.drop_of_length_le (by omega), show t.length + k - t.length = k from by omega, List.nil_append, List.drop_succ_cons, ← e4]
     congr 1; omega
theorem cut_parts_bad (l : List UInt8) : ∀ a p e, cut a l = .bad p e → ∃ k, p = a + k ∧ k < l.length ∧ (∃ ts, cut a (l.take k) = .ok ts) ∧ cut p (l.drop k) = .bad p e := by
 induction l using cut_ind with
 | h0 => intro a p e h; simp at h
 | h1 b r hb hr h ih =>
  intro a p e hc
  rw [h] at hc
  obtain ⟨k, e1, e2, ⟨ts, e3⟩, e4⟩ := ih (a + 1) p e hc
  exact ⟨k + 1, by omega, by simp; omega, ⟨ts, by rw [List.take_succ_cons, cut_blank a b _ hr hb, e3]⟩, by simpa using e4⟩
 | h2 b r e h =>
  intro a p e' hc
  rw [h] at hc
  cases hc
  exact ⟨0, rfl, by simp, ⟨[], rfl⟩, by simpa using h a⟩
 | h3 t rest hne hk hap h ih =>
  intro a p e hc
  rw [h] at hc
  cases hr : cut (a + t.length) rest with
  | ok us => rw [hr] at hc; cases hc
  | bad p' e' =>
   rw [hr] at hc
   simp only [Res.cons] at hc
   cases hc
   obtain ⟨k, e1, e2, ⟨ts, e3⟩, e4⟩ := ih _ _ _ hr
   refine ⟨t.length + k, by omega, by simp; omega, ⟨⟨kindOf t, bsOf t, a⟩ :: ts, ?_⟩, ?_⟩
   ·rw [List.take_append, List.take_of_length_le (by omega), show t.length + k - t.length = k from by omega, cut_tok a t _ hk (apart_take t rest k hap), e3]
    rfl
   ·rw [List.drop_append, List.drop_of_length_le (by omega), show t.length + k - t.length = k from by omega, List.nil_append, e4]
/-! ## Gluing -/
theorem cut_kinds (l : List UInt8) : ∀ a ts, cut a l = .ok ts → ∀ t ∈ ts, kindOf t.text.data.toList = t.kind ∧ t.kind ≠ 0 ∧ 0 ≤ t.place := by
 induction l using cut_ind with
 | h0 => intro a ts h; simp at h; subst h; simp
 | h1 b r hb hr h ih => intro a ts hc; rw [h] at hc; exact ih _ _ hc
 | h2 b r e h => intro a ts hc; rw [h] at hc; cases hc
 | h3 t rest hne hk hap h ih =>
  intro a ts hc
  rw [h] at hc
  cases hr : cut (a + t.length) rest with
  | bad p e => rw [hr] at hc; cases hc
  | ok us =>
   rw [hr] at hc
   simp only [Res.cons, Res.ok.injEq] at hc
   subst hc
   intro u hu
   rcases List.mem_cons.1 hu with rfl | hu
   ·exact ⟨by simp, hk, by simp⟩
   ·exact ih _ _ hr u hu
theorem cut_single (t : List UInt8) (ts : List Tok) : (cut 0 t = .ok ts ∧ ts.length = 1 ∧ ts.head?.map (·.text) = some (bsOf t)) ↔ (kindOf t ≠ 0 ∧ ts = [⟨kindOf t, bsOf t, 0⟩]) := by
 constructor
 ·rintro ⟨h, h1, h2⟩
  obtain ⟨x, rfl⟩ : ∃ x, ts = [x] := List.length_eq_one_iff.1 h1
  simp at h2
  have hk := cut_kinds t 0 [x] h x (by simp)
  rw [h2, bsOf_list] at hk
  have := cut_tok 0 t [] (by rw [hk.1]; exact hk.2.1) (by cases t <;> rfl)
  rw [List.append_nil, h] at this
  simp only [cut_nil, Res.cons, Res.ok.injEq] at this
  exact ⟨by rw [hk.1]; exact hk.2.1, by simpa using this⟩
 ·rintro ⟨h, rfl⟩
  have := cut_tok 0 t [] h (by cases t <;> rfl)
  rw [List.append_nil] at this
  exact ⟨by simpa [Res.cons] using this, rfl, by simp⟩
end Go.Proofs.YtpgdplmndnopbaaGreatDoor

/- The small functions of layer 15, and of its book, on bytes and runes. -/
namespace Go.Proofs.YtpgdplmndnopbaaGreatDoor
open Go.RowKit Go.Shelf
theorem ret_bool {a b : Bool} {w : World} (h : a = b) : (Ending.returned (.bool a) = .returned (.bool b) ∧ w = w) := ⟨by rw [h], rfl⟩
theorem ret_int {k : IntKind} {a b : Int} {w : World} (h : a = b) : (Ending.returned (.int k a) = .returned (.int k b) ∧ w = w) := ⟨by rw [h], rfl⟩
def kindR (r : Int) : Int := if 97 ≤ r ∧ r ≤ 122 then 2 else if 48 ≤ r ∧ r ≤ 57 then 3 else if r = 32 ∨ r = 9 ∨ r = 10 ∨ r = 13 then 1 else 0
set_option maxRecDepth 100000 in
set_option maxHeartbeats 2000000 in
theorem kind_any (r : Int) (w : World) : Calls Tryz.prog 61 #[.int .i32 r] w fun e w' => e = .returned (.int .i64 (kindR r)) ∧ w' = w := by
 go_enter Tryz.func61, Tryz.ntmps61
 go_wp2
 all_goals go_ret
 all_goals (refine ret_int ?_; unfold kindR; try omega)
 all_goals (simp only [beq_iff_eq, beq_eq_false_iff_ne, ne_eq] at *; omega)
end Go.Proofs.YtpgdplmndnopbaaGreatDoor

/- The book of layer 15: words, numbers, signs, kinds; rows of letters and digits. -/
namespace Go.Proofs.YtpgdplmndnopbaaGreatDoor
open Go.RowKit Go.Shelf
theorem get_list (s : ByteArray) (k : Nat) (h : k < s.size) : s[k]'h = s.data.toList[k]'(by simpa using h) := by simp; rfl
theorem size_list (s : ByteArray) : s.data.toList.length = s.size := by simp
def wordB (l : List UInt8) : Bool := decide (1 ≤ l.length) && decide (l.length ≤ 8) && (l.head?.map isLow == some true) && (l.drop 1).all isRow
def signB (l : List UInt8) : Bool := [[124], [124, 124], [38], [38, 38], [59], [43], [60], [62], [95], [91], [93], [40], [41], [44], [33], [123], [125]].contains l
def nameB (l : List UInt8) : Bool := wordB l && l != [116, 114, 117, 101] && l != [102, 97, 108, 115, 101] && l != [111, 111]
end Go.Proofs.YtpgdplmndnopbaaGreatDoor

/- Formulas and expressions as trees in Lean: what layer 16 computes of them. No program. -/
namespace Go.Proofs.YtpgdplmndnopbaaGreatDoor
open Go.RowKit
def FT : Nat → Type
 | 0 => Empty
 | n + 1 => Int × ByteArray × List (FT n)
structure Spn where
 low : Int
 ls : Bool
 high : Int
 hs : Bool
 op : Bool
 deriving DecidableEq
def XT (m : Nat) : Nat → Type
 | 0 => Empty
 | n + 1 => Int × List (FT m) × List (XT m n) × Spn
def allF (so : Int → ByteArray → Nat → Bool) : (n : Nat) → FT n → Bool
 | 0, _ => true
 | n + 1, t => so t.1 t.2.1 t.2.2.length && t.2.2.all (allF so n)
def manyOf (k : Int) : Nat := if k = 4 then 1 else if k = 5 ∨ k = 6 then 2 else 0
def rightB (k : Int) (s : ByteArray) (l : Nat) : Bool := decide (1 ≤ k) && decide (k ≤ 6) && (l == manyOf k) && (decide (s.size = 0) || k == 3)
def inN (s : ByteArray) (names : List ByteArray) : Bool := names.any fun x => s.toList == x.toList
def declB (names : List ByteArray) (k : Int) (s : ByteArray) (_ : Nat) : Bool := k != 3 || inN s names
def foldC {α : Type} (f : α → Int) (a : Int) (l : List α) : Int := l.foldl (fun acc x => wrap64 (acc + f x)) a
theorem foldC_succ {α : Type} (f : α → Int) (a : Int) (l : List α) (k : Nat) (h : k < l.length) : foldC f a (l.take (k + 1)) = wrap64 (foldC f a (l.take k) + f l[k]) := by
 unfold foldC
 rw [List.take_succ_eq_append_getElem h, List.foldl_append]
 rfl
theorem foldC_all {α : Type} (f : α → Int) (a : Int) (l : List α) : foldC f a (l.take l.length) = foldC f a l := by rw [List.take_length]
def cntF : (n : Nat) → FT n → Int
 | 0, _ => 1
 | n + 1, t => foldC (cntF n) 1 t.2.2
def fmsC (n : Nat) (l : List (FT n)) : Int := foldC (cntF n) 0 l
def namesGo (seen : List ByteArray) : List ByteArray → Bool
 | [] => true
 | x :: r => !inN x seen && nameB x.data.toList && namesGo (x :: seen) r
def namesR (l : List ByteArray) : Int := if decide (8 < l.length) || !namesGo [] l then 2 else 0
def belowC (n : Int) : Bool := decide (0 ≤ n) && decide (n < 288230376151711744)
def ivR (i : Spn) : Int :=
 if !belowC i.low || !belowC i.high || (i.op && (i.high != 0 || i.hs)) then 8
 else if !i.op && (decide (i.high < i.low) || (i.low == i.high && (i.ls || i.hs))) then 162 else 0
def allX {m : Nat} (so : Int → List (FT m) → Nat → Spn → Bool) : (n : Nat) → XT m n → Bool
 | 0, _ => true
 | n + 1, t => so t.1 t.2.1 t.2.2.1.length t.2.2.2 && t.2.2.1.all (allX so n)
def noSpan : Spn := ⟨0, false, 0, false, false⟩
def manyOfX (k : Int) : Nat := if k = 5 ∨ k = 6 then 1 else if k = 2 ∨ k = 3 ∨ k = 4 then 2 else 0
def rightX {m : Nat} (k : Int) (is : List (FT m)) (l : Nat) (i : Spn) : Bool :=
 decide (1 ≤ k) && decide (k ≤ 6) && (l == manyOfX k) && !(k == 6 && ivR i == 8) && !(k != 6 && i != noSpan) && (if k = 1 then (is.length == 1) && is.all (allF rightB m) else is.length == 0)
def cntX {m : Nat} (one : Int → List (FT m) → Int) : (n : Nat) → XT m n → Int
 | 0, _ => 1
 | n + 1, t => foldC (cntX one n) (one t.1 t.2.1) t.2.2.1
def oneX {m : Nat} (k : Int) (is : List (FT m)) : Int := if k = 1 then fmsC m is else 1
def manyX {m : Nat} (n : Nat) (x : XT m n) : Int := cntX oneX n x
def namesX {m : Nat} (names : List ByteArray) (_ : Int) (is : List (FT m)) (_ : Nat) (_ : Spn) : Bool := is.all (allF (declB names) m)
def openX {m : Nat} (k : Int) (_ : List (FT m)) (_ : Nat) (i : Spn) : Bool := k != 6 || ivR i == 0
def checkR {m : Nat} (names : List ByteArray) (n : Nat) (x : XT m n) : Int :=
 if namesR names ≠ 0 then 2 else if allX rightX n x = false then 8 else if 64 < manyX n x then 160 else if allX (namesX names) n x = false then 161 else if allX openX n x = false then 162 else 0
def constX {m : Nat} : (n : Nat) → XT m n → Int
 | 0, _ => 0
 | n + 1, t => t.2.2.1.foldl (fun a y => max a (constX n y)) (max (max 0 t.2.2.2.low) t.2.2.2.high)
def szL {α : Type} (f : α → Int → Int) (most : Int) : List α → Int → Int
 | [], n => n
 | x :: r, n => if n ≤ most then szL f most r (wrap64 (n + f x (wrap64 (most - n)))) else n
theorem szL_drop {α : Type} (f : α → Int → Int) (most : Int) (l : List α) (k : Nat) (n : Int) (h : k < l.length) (hn : n ≤ most) : szL f most (l.drop k) n = szL f most (l.drop (k + 1)) (wrap64 (n + f l[k] (wrap64 (most - n)))) := by
 rw [List.drop_eq_getElem_cons h, szL, if_pos hn]
theorem szL_stop {α : Type} (f : α → Int → Int) (most : Int) (l : List α) (n : Int) (hn : ¬ n ≤ most) : szL f most l n = n := by
 cases l with
 | nil => rfl
 | cons x r => rw [szL, if_neg hn]
def sizeF : (n : Nat) → FT n → Int → Int
 | 0, _, _ => 1
 | n + 1, t, most => szL (sizeF n) most t.2.2 (wrap64 (1 + t.2.1.size))
def sizeX {m : Nat} : (n : Nat) → XT m n → Int → Int
 | 0, _, _ => 1
 | n + 1, t, most => szL (sizeX n) most t.2.2.1 (szL (sizeF m) most t.2.1 1)
def bndF : (n : Nat) → FT n → Prop
 | 0, _ => True
 | n + 1, t => t.2.1.size ≤ 281474976710656 ∧ ∀ x ∈ t.2.2, bndF n x
def bndX {m : Nat} : (n : Nat) → XT m n → Prop
 | 0, _ => True
 | n + 1, t => (∀ x ∈ t.2.1, bndF m x) ∧ ∀ x ∈ t.2.2.1, bndX n x
end Go.Proofs.YtpgdplmndnopbaaGreatDoor

/- Formulas, expressions and names in memory. -/
namespace Go.Proofs.YtpgdplmndnopbaaGreatDoor
open Go.RowKit
def RowR (w : World) (B C : Nat) {α : Type} (R : α → Value → Prop) (a : Option Addr) (l : List α) : Prop :=
 l.length ≤ 9223372036854775807 ∧ (l = [] ∨ ∃ b off, a = some ⟨b, off, none⟩ ∧ b < B ∧
  ∀ i (h : i < l.length), ∃ vs : List Value, vs.length = C ∧ (∀ j, j < C → w.cell? ⟨b, off + i * C + j, none⟩ = vs[j]?) ∧ R l[i] (.agg vs.toArray))
theorem RowR.up {w w' : World} {B B' C : Nat} {α : Type} {R R' : α → Value → Prop} {a : Option Addr} {l : List α} (hb : Below B w w') (hB : B ≤ B') (hR : ∀ x ∈ l, ∀ v, R x v → R' x v) (h : RowR w B C R a l) : RowR w' B' C R' a l := by
 obtain ⟨hm, h⟩ := h
 refine ⟨hm, ?_⟩
 rcases h with h | ⟨b, off, ha, hlt, hc⟩
 ·exact .inl h
 ·refine .inr ⟨b, off, ha, by omega, fun i hi => ?_⟩
  obtain ⟨vs, h1, h2, h3⟩ := hc i hi
  exact ⟨vs, h1, fun j hj => (hb.cell (p := ⟨b, _, none⟩) hlt).trans (h2 j hj), hR _ (List.getElem_mem _) _ h3⟩
def FRep (w : World) (B : Nat) : (n : Nat) → FT n → Value → Prop
 | 0, _, _ => False
 | n + 1, t, v => ∃ a cap, v = .agg #[.int .u8 t.1, .string t.2.1, .slice a t.2.2.length cap] ∧ RowR w B 3 (FRep w B n) a t.2.2
abbrev FRow (w : World) (B n : Nat) (a : Option Addr) (l : List (FT n)) : Prop := RowR w B 3 (FRep w B n) a l
theorem FRep.up {w w' : World} {B B' : Nat} (hb : Below B w w') (hB : B ≤ B') : ∀ {n : Nat} {t : FT n} {v : Value}, FRep w B n t v → FRep w' B' n t v
 | 0, _, _, h => h.elim
 | _ + 1, _, _, ⟨a, cap, hv, h⟩ => ⟨a, cap, hv, h.up hb hB fun _ _ _ hx => FRep.up hb hB hx⟩
theorem FRow.up {w w' : World} {B B' n : Nat} {a : Option Addr} {l : List (FT n)} (h : FRow w B n a l) (hb : Below B w w') (hB : B ≤ B') : FRow w' B' n a l :=
 RowR.up hb hB (fun _ _ _ hx => FRep.up hb hB hx) h
theorem FRep.shape {w : World} {B n : Nat} {t : FT n} {v : Value} (h : FRep w B n t v) : ∃ k s a l c, v = .agg #[.int .u8 k, .string s, .slice a l c] := by
 cases n with
 | zero => exact h.elim
 | succ n => obtain ⟨a, c, hv, _⟩ := h; exact ⟨_, _, a, _, c, hv⟩
theorem FRow.at {w : World} {B n : Nat} {a : Option Addr} {l : List (FT n)} (h : FRow w B n a l) (j : Nat) (hj : j < l.length) :
 ∃ b off k s sa sl sc, a = some ⟨b, off, none⟩ ∧ b < B ∧ w.cell? ⟨b, off + j * 3, none⟩ = some (.int .u8 k) ∧ w.cell? ⟨b, off + j * 3 + 1, none⟩ = some (.string s) ∧
  w.cell? ⟨b, off + j * 3 + 2, none⟩ = some (.slice sa sl sc) ∧ FRep w B n l[j] (.agg #[.int .u8 k, .string s, .slice sa sl sc]) := by
 obtain ⟨_, h | ⟨b, off, ha, hb, hc⟩⟩ := h
 ·rw [h] at hj; exact absurd hj (by simp)
 ·obtain ⟨vs, h1, h2, h3⟩ := hc j hj
  obtain ⟨k, s, sa, sl, sc, hv⟩ := h3.shape
  match vs, h1 with
  | [x, y, z], _ =>
   have hv' : x = .int .u8 k ∧ y = .string s ∧ z = .slice sa sl sc := by simpa using hv
   obtain ⟨rfl, rfl, rfl⟩ := hv'
   exact ⟨b, off, k, s, sa, sl, sc, ha, hb, by have := h2 0 (by omega); simpa using this, by have := h2 1 (by omega); simpa using this, by have := h2 2 (by omega); simpa using this, h3⟩
def Spn.cells (i : Spn) : List Value := [.int .i64 i.low, .bool i.ls, .int .i64 i.high, .bool i.hs, .bool i.op]
def XRep (w : World) (B m : Nat) : (n : Nat) → XT m n → Value → Prop
 | 0, _, _ => False
 | n
  + 1, t, v => ∃ a1 c1 a2 c2, v = .agg #[.int .u8 t.1, .slice a1 t.2.1.length c1, .slice a2 t.2.2.1.length c2, .int .i64 t.2.2.2.low, .bool t.2.2.2.ls, .int .i64 t.2.2.2.high, .bool t.2.2.2.hs, .bool t.2.2.2.op] ∧
  FRow w B m a1 t.2.1 ∧ RowR w B 8 (XRep w B m n) a2 t.2.2.1
abbrev XRow (w : World) (B m n : Nat) (a : Option Addr) (l : List (XT m n)) : Prop := RowR w B 8 (XRep w B m n) a l
theorem XRep.up {w w' : World} {B B' m : Nat} (hb : Below B w w') (hB : B ≤ B') : ∀ {n : Nat} {t : XT m n} {v : Value}, XRep w B m n t v → XRep w' B' m n t v
 | 0, _, _, h => h.elim
 | _ + 1, _, _, ⟨a1, c1, a2, c2, hv, h1, h2⟩ => ⟨a1, c1, a2, c2, hv, h1.up hb hB, h2.up hb hB fun _ _ _ hx => XRep.up hb hB hx⟩
theorem XRow.up {w w' : World} {B B' m n : Nat} {a : Option Addr} {l : List (XT m n)} (h : XRow w B m n a l) (hb : Below B w w') (hB : B ≤ B') : XRow w' B' m n a l :=
 RowR.up hb hB (fun _ _ _ hx => XRep.up hb hB hx) h
theorem XRep.shape {w : World} {B m n : Nat} {t : XT m n} {v : Value} (h : XRep w B m n t v) :
 ∃ k a1 l1 c1 a2 l2 c2 lo ls hi hs op, v = .agg #[.int .u8 k, .slice a1 l1 c1, .slice a2 l2 c2, .int .i64 lo, .bool ls, .int .i64 hi, .bool hs, .bool op] := by
 cases n with
 | zero => exact h.elim
 | succ n => obtain ⟨a1, c1, a2, c2, hv, _⟩ := h; exact ⟨_, a1, _, c1, a2, _, c2, _, _, _, _, _, hv⟩
theorem XRow.at {w : World} {B m n : Nat} {a : Option Addr} {l : List (XT m n)} (h : XRow w B m n a l) (j : Nat) (hj : j < l.length) :
 ∃ b off k a1 l1 c1 a2 l2 c2 lo ls hi hs op, a = some ⟨b, off, none⟩ ∧ b < B ∧ w.cell? ⟨b, off + j * 8, none⟩ = some (.int .u8 k) ∧ w.cell? ⟨b, off + j * 8 + 1, none⟩ = some (.slice a1 l1 c1) ∧
  w.cell? ⟨b, off + j * 8 + 2, none⟩ = some (.slice a2 l2 c2) ∧ w.cell? ⟨b, off + j * 8 + 3, none⟩ = some (.int .i64 lo) ∧ w.cell? ⟨b, off + j * 8 + 4, none⟩ = some (.bool ls) ∧
  w.cell? ⟨b, off + j * 8 + 5, none⟩ = some (.int .i64 hi) ∧ w.cell? ⟨b, off + j * 8 + 6, none⟩ = some (.bool hs) ∧ w.cell? ⟨b, off + j * 8 + 7, none⟩ = some (.bool op) ∧
  XRep w B m n l[j] (.agg #[.int .u8 k, .slice a1 l1 c1, .slice a2 l2 c2, .int .i64 lo, .bool ls, .int .i64 hi, .bool hs, .bool op]) := by
 obtain ⟨_, h | ⟨b, off, ha, hb, hc⟩⟩ := h
 ·rw [h] at hj; exact absurd hj (by simp)
 ·obtain ⟨vs, h1, h2, h3⟩ := hc j hj
  obtain ⟨k, a1, l1, c1, a2, l2, c2, lo, ls, hi, hs, op, hv⟩ := h3.shape
  match vs, h1 with
  | [v0, v1, v2, v3, v4, v5, v6, v7], _ =>
   have hv' : v0 = .int .u8 k ∧ v1 = .slice a1 l1 c1 ∧ v2 = .slice a2 l2 c2 ∧ v3 = .int .i64 lo ∧ v4 = .bool ls ∧ v5 = .int .i64 hi ∧ v6 = .bool hs ∧ v7 = .bool op := by simpa using hv
   obtain ⟨rfl, rfl, rfl, rfl, rfl, rfl, rfl, rfl⟩ := hv'
   refine ⟨b, off, k, a1, l1, c1, a2, l2, c2, lo, ls, hi, hs, op, ha, hb, ?_, ?_, ?_, ?_, ?_, ?_, ?_, ?_, h3⟩
   ·have := h2 0 (by omega); simpa using this
   ·have := h2 1 (by omega); simpa using this
   ·have := h2 2 (by omega); simpa using this
   ·have := h2 3 (by omega); simpa using this
   ·have := h2 4 (by omega); simpa using this
   ·have := h2 5 (by omega); simpa using this
   ·have := h2 6 (by omega); simpa using this
   ·have := h2 7 (by omega); simpa using this
def NRep (w : World) (B : Nat) (v : Value) (l : List ByteArray) : Prop :=
 ∃ a cap, v = .slice a l.length cap ∧ l.length ≤ 9223372036854775807 ∧ (l = [] ∨ ∃ b off, a = some ⟨b, off, none⟩ ∧ b < B ∧ ∀ i (h : i < l.length), w.cell? ⟨b, off + i, none⟩ = some (.string l[i]))
theorem NRep.up {w w' : World} {B B' : Nat} {v : Value} {l : List ByteArray} (h : NRep w B v l) (hb : Below B w w') (hB : B ≤ B') : NRep w' B' v l := by
 obtain ⟨a, cap, hv, hm, h⟩ := h
 refine ⟨a, cap, hv, hm, ?_⟩
 rcases h with h | ⟨b, off, ha, hlt, hc⟩
 ·exact .inl h
 ·exact .inr ⟨b, off, ha, by omega, fun i hi => (hb.cell (p := ⟨b, _, none⟩) hlt).trans (hc i hi)⟩
end Go.Proofs.YtpgdplmndnopbaaGreatDoor

/- Formulas and expressions of tokens, in Lean: what layer 17 computes of a text's tokens. No program. -/
namespace Go.Proofs.YtpgdplmndnopbaaGreatDoor
open Go.RowKit
inductive F where
 | mk (k : Int) (s : ByteArray) (of : List F)
inductive X where
 | mk (k : Int) (is : List F) (of : List X) (i : Spn)
def toF : (n : Nat) → FT n → F
 | 0, t => nomatch t
 | n + 1, t => .mk t.1 t.2.1 (t.2.2.map (toF n))
def toX {m : Nat} : (n : Nat) → XT m n → X
 | 0, t => nomatch t
 | n + 1, t => .mk t.1 (t.2.1.map (toF m)) (t.2.2.1.map (toX n)) t.2.2.2
def liftF : (n : Nat) → FT n → FT (n + 1)
 | 0, t => nomatch t
 | n + 1, t => (t.1, t.2.1, t.2.2.map (liftF n))
theorem toF_lift : ∀ (n : Nat) (t : FT n), toF (n + 1) (liftF n t) = toF n t
 | 0, t => nomatch t
 | n + 1, t => by
  rw [toF, toF, liftF]
  simp only [List.map_map]
  congr 1
  exact List.map_congr_left fun x _ => toF_lift n x
theorem rep_lift {w : World} {B : Nat} : ∀ {n : Nat} {t : FT n} {v : Value}, FRep w B n t v → FRep w B (n + 1) (liftF n t) v
 | 0, t, _, _ => nomatch t
 | n + 1, t, v, ⟨a, cap, hv, hm, hr⟩ => by
  refine ⟨a, cap, by rw [hv, liftF]; simp, by rw [liftF]; simpa using hm, ?_⟩
  rcases hr with hr | ⟨b, off, ha, hb, hc⟩
  ·exact .inl (by rw [liftF]; simp [hr])
  ·refine .inr ⟨b, off, ha, hb, fun i hi => ?_⟩
   have hi' : i < t.2.2.length := by rw [liftF] at hi; simpa using hi
   obtain ⟨vs, h1, h2, h3⟩ := hc i hi'
   refine ⟨vs, h1, h2, ?_⟩
   have e : (liftF (n + 1) t).2.2[i] = liftF n (t.2.2[i]) := by simp [liftF]
   rw [e]
   exact rep_lift h3
def FRepI (w : World) (B : Nat) (t : F) (v : Value) : Prop := ∃ (n : Nat) (t' : FT n), toF n t' = t ∧ FRep w B n t' v
/-! ### The parser -/
def isT (s : List UInt8) : List Tok → Bool
 | [] => false
 | t :: _ => t.kind != 2 && t.text.data.toList == s
def placeT : List Tok → Int
 | [] => 0
 | t :: _ => t.place
abbrev PRes (α : Type) := Except (Int × Int) (α × List Tok)
def failR {α : Type} (e : Int) (l : List Tok) : PRes α := .error (e, placeT l)
def takeT (s : List UInt8) (l : List Tok) : Except (Int × Int) (List Tok) := if isT s l then .ok l.tail else .error (170, placeT l)
def chainR {α : Type} (sign : List UInt8) (one : List Tok → PRes α) (join : α → α → α) : Nat → α → List Tok → PRes α
 | 0, x, l => .ok (x, l)
 | k + 1, x, l =>
  if isT sign l then
   match one l.tail with
   | .error e => .error e
   | .ok (y, r) => chainR sign one join k (join x y) r
  else .ok (x, l)
def chainP {α : Type} (sign : List UInt8) (one : List Tok → PRes α) (join : α → α → α) (l : List Tok) : PRes α :=
 match one l with
 | .error e => .error e
 | .ok (x, r) => chainR sign one join r.length x r
def withinR {α : Type} (o c : List UInt8) (deep : Nat) (one : Nat → List Tok → PRes α) (l : List Tok) : Option (PRes α) :=
 if isT o l then
  some (if deep = 64 then failR 171 l else
   match one (deep + 1) l.tail with
   | .error e => .error e
   | .ok (x, r) =>
    match takeT c r with
    | .error e => .error e
    | .ok r' => .ok (x, r'))
 else none
def notI (f : F) : F := .mk 4 ⟨#[]⟩ [f]
def oneR (fm : Nat → List Tok → PRes F) (deep : Nat) : Nat → List Tok → PRes F
 | 0, l => failR 170 l
 | k + 1, l =>
  match withinR [123] [125] deep fm l with
  | some r => r
  | none =>
   if isT [33] l then
    match oneR fm deep k l.tail with
    | .error e => .error e
    | .ok (f, r) => .ok (notI f, r)
   else if isT [116, 114, 117, 101] l then .ok (.mk 1 ⟨#[]⟩ [], l.tail)
   else if isT [102, 97, 108, 115, 101] l then .ok (.mk 2 ⟨#[]⟩ [], l.tail)
   else match l with
    | [] => failR 170 l
    | t :: r => if t.kind = 1 ∧ nameB t.text.data.toList = true then .ok (.mk 3 t.text [], r) else failR 170 l
def formR : Nat → Nat → List Tok → PRes F
 | 0, _, l => failR 170 l
 | d + 1, deep, l => chainP [124, 124] (chainP [38, 38] (fun l => oneR (formR d) deep (l.length + 1) l) fun a b => .mk 5 ⟨#[]⟩ [a, b]) (fun a b => .mk 6 ⟨#[]⟩ [a, b]) l
def digitsV (l : List UInt8) : Int := l.foldl (fun n c => 10 * n + ((c.toNat : Int) - 48)) 0
def numR : List Tok → PRes Int
 | [] => failR 170 []
 | t :: r => if t.kind = 2 then .ok (digitsV t.text.data.toList, r) else failR 170 (t :: r)
def intervalR (l : List Tok) : PRes Spn :=
 let ls := isT [40] l
 match (if ls then .ok l.tail else takeT [91] l) with
 | .error e => .error e
 | .ok l1 =>
  match numR l1 with
  | .error e => .error e
  | .ok (low, l2) =>
   match takeT [44] l2 with
   | .error e => .error e
   | .ok l3 =>
    if isT [111, 111] l3 then
     match takeT [41] l3.tail with
     | .error e => .error e
     | .ok l4 => .ok (⟨low, ls, 0, false, true⟩, l4)
    else
     match numR l3 with
     | .error e => .error e
     | .ok (high, l4) =>
      let hs := isT [41] l4
      match (if hs then .ok l4.tail else takeT [93] l4) with
      | .error e => .error e
      | .ok l5 => .ok (⟨low, ls, high, hs, false⟩, l5)
def baseR (tr : Nat → List Tok → PRes X) (deep : Nat) (l : List Tok) : PRes X :=
 match withinR [40] [41] deep tr l with
 | some r => r
 | none =>
  match withinR [60] [62] deep tr l with
  | some (.error e) => .error e
  | some (.ok (x, r1)) =>
   match takeT [95] r1 with
   | .error e => .error e
   | .ok r2 =>
    match intervalR r2 with
    | .error e => .error e
    | .ok (i, r3) => .ok (.mk 6 [] [x] i, r3)
  | none =>
   match formR 66 deep l with
   | .error e => .error e
   | .ok (f, r) => .ok (.mk 1 [f] [] noSpan, r)
def plusR : Nat → X → List Tok → X × List Tok
 | 0, x, l => (x, l)
 | k + 1, x, l => if isT [43] l then plusR k (.mk 5 [] [x] noSpan) l.tail else (x, l)
def moreR (tr : Nat → List Tok → PRes X) (deep : Nat) (l : List Tok) : PRes X :=
 match baseR tr deep l with
 | .error e => .error e
 | .ok (x, r) => .ok (plusR r.length x r)
def joinX (k : Int) (a b : X) : X := .mk k [] [a, b] noSpan
def treR : Nat → Nat → List Tok → PRes X
 | 0, _, l => failR 170 l
 | d + 1, deep, l => chainP [124] (chainP [38] (chainP [59] (moreR (treR d) deep) (joinX 4)) (joinX 3)) (joinX 2) l
def allR (l : List Tok) (stop : Int) : Except (Int × Int) X :=
 match treR 66 0 (l ++ [⟨0, ⟨#[]⟩, stop⟩]) with
 | .error e => .error e
 | .ok (x, r) => if 1 < r.length then .error (170, placeT r) else .ok x
end Go.Proofs.YtpgdplmndnopbaaGreatDoor

/- What a parser builds, in memory: trees of whatever depth, of blocks that are told. No program. -/
namespace Go.Proofs.YtpgdplmndnopbaaGreatDoor
open Go.RowKit
def cutP (p : Nat → Bool) (w : World) : World := { w with heap := w.heap.mapIdx fun i o => if p i then o else .stringIter ⟨#[]⟩ 0 }
theorem cutP_cell {p : Nat → Bool} {w : World} {b off : Nat} {x : Value} (h : (cutP p w).cell? ⟨b, off, none⟩ = some x) : p b = true ∧ w.cell? ⟨b, off, none⟩ = some x := by
 unfold World.cell? cutP at h
 simp only [Array.getElem?_mapIdx] at h
 cases hq : w.heap[b]? with
 | none => rw [hq] at h; simp at h
 | some o =>
  rw [hq] at h
  cases hp : p b with
  | false => rw [hp] at h; simp at h
  | true =>
   rw [hp] at h
   refine ⟨rfl, ?_⟩
   unfold World.cell?
   rw [hq]
   simpa using h
theorem cell_cutP {p : Nat → Bool} {w : World} {b off : Nat} {x : Value} (hp : p b = true) (h : w.cell? ⟨b, off, none⟩ = some x) : (cutP p w).cell? ⟨b, off, none⟩ = some x := by
 unfold World.cell? at h ⊢
 unfold cutP
 simp only [Array.getElem?_mapIdx]
 cases hq : w.heap[b]? with
 | none => rw [hq] at h; simp at h
 | some o =>
  rw [hq] at h
  simpa [hp] using h
def Has (B : Nat) (w w' : World) : Prop := ∀ (b off : Nat) (x : Value), b < B → w.cell? ⟨b, off, none⟩ = some x → w'.cell? ⟨b, off, none⟩ = some x
theorem RowR.le {w w' : World} {B B' C : Nat} {α : Type} {R R' : α → Value → Prop} {a : Option Addr} {l : List α} (hb : Has B w w') (hB : B ≤ B') (hR : ∀ x ∈ l, ∀ v, R x v → R' x v) (h : RowR w B C R a l) : RowR w' B' C R' a l := by
 obtain ⟨hm, h⟩ := h
 refine ⟨hm, ?_⟩
 rcases h with h | ⟨b, off, ha, hlt, hc⟩
 ·exact .inl h
 ·refine .inr ⟨b, off, ha, by omega, fun i hi => ?_⟩
  obtain ⟨vs, h1, h2, h3⟩ := hc i hi
  refine ⟨vs, h1, fun j hj => ?_, hR _ (List.getElem_mem _) _ h3⟩
  have := h2 j hj
  rw [List.getElem?_eq_getElem (by omega)] at this ⊢
  exact hb _ _ _ hlt this
theorem FRep.le {w w' : World} {B B' : Nat} (hb : Has B w w') (hB : B ≤ B') : ∀ {n : Nat} {t : FT n} {v : Value}, FRep w B n t v → FRep w' B' n t v
 | 0, _, _, h => h.elim
 | _ + 1, _, _, ⟨a, cap, hv, h⟩ => ⟨a, cap, hv, h.le hb hB fun _ _ _ hx => FRep.le hb hB hx⟩
theorem XRep.le {w w' : World} {B B' m : Nat} (hb : Has B w w') (hB : B ≤ B') : ∀ {n : Nat} {t : XT m n} {v : Value}, XRep w B m n t v → XRep w' B' m n t v
 | 0, _, _, h => h.elim
 | _ + 1, _, _, ⟨a1, c1, a2, c2, hv, h1, h2⟩ => ⟨a1, c1, a2, c2, hv, h1.le hb hB fun _ _ _ hx => FRep.le hb hB hx, h2.le hb hB fun _ _ _ hx => XRep.le hb hB hx⟩
/-! Of a depth more. -/
def liftM {m : Nat} : (n : Nat) → XT m n → XT (m + 1) n
 | 0, t => nomatch t
 | n + 1, t => (t.1, t.2.1.map (liftF m), t.2.2.1.map (liftM n), t.2.2.2)
def liftX {m : Nat} : (n : Nat) → XT m n → XT m (n + 1)
 | 0, t => nomatch t
 | n + 1, t => (t.1, t.2.1, t.2.2.1.map (liftX n), t.2.2.2)
theorem toX_liftM {m : Nat} : ∀ (n : Nat) (t : XT m n), toX n (liftM n t) = toX n t
 | 0, t => nomatch t
 | n + 1, t => by
  rw [toX, toX, liftM]
  simp only [List.map_map]
  congr 1
  ·exact List.map_congr_left fun x _ => toF_lift m x
  ·exact List.map_congr_left fun x _ => toX_liftM n x
theorem toX_liftX {m : Nat} : ∀ (n : Nat) (t : XT m n), toX (n + 1) (liftX n t) = toX n t
 | 0, t => nomatch t
 | n + 1, t => by
  rw [toX, toX, liftX]
  simp only [List.map_map]
  congr 1
  exact List.map_congr_left fun x _ => toX_liftX n x
theorem RowR.map {w : World} {B C : Nat} {α β : Type} {R : α → Value → Prop} {R' : β → Value → Prop} (f : α → β) {a : Option Addr} {l : List α} (hR : ∀ x ∈ l, ∀ v, R x v → R' (f x) v) (h : RowR w B C R a l) : RowR w B C R' a (l.map f) := by
 obtain ⟨hm, h⟩ := h
 refine ⟨by simpa using hm, ?_⟩
 rcases h with h | ⟨b, off, ha, hlt, hc⟩
 ·exact .inl (by rw [h]; rfl)
 ·refine .inr ⟨b, off, ha, hlt, fun i hi => ?_⟩
  have hi' : i < l.length := by simpa using hi
  obtain ⟨vs, h1, h2, h3⟩ := hc i hi'
  refine ⟨vs, h1, h2, ?_⟩
  rw [List.getElem_map]
  exact hR _ (List.getElem_mem _) _ h3
theorem repX_liftM {w : World} {B m : Nat} : ∀ {n : Nat} {t : XT m n} {v : Value}, XRep w B m n t v → XRep w B (m + 1) n (liftM n t) v
 | 0, t, _, _ => nomatch t
 | n + 1, t, v, ⟨a1, c1, a2, c2, hv, h1, h2⟩ => by
  rw [liftM]
  exact ⟨a1, c1, a2, c2, by rw [hv]; simp, RowR.map (liftF m) (fun x _ v h => rep_lift h) h1, RowR.map (liftM n) (fun x _ v h => repX_liftM h) h2⟩
theorem repX_liftX {w : World} {B m : Nat} : ∀ {n : Nat} {t : XT m n} {v : Value}, XRep w B m n t v → XRep w B m (n + 1) (liftX n t) v
 | 0, t, _, _ => nomatch t
 | n + 1, t, v, ⟨a1, c1, a2, c2, hv, h1, h2⟩ => by
  rw [liftX]
  exact ⟨a1, c1, a2, c2, by rw [hv]; simp, h1, RowR.map (liftX n) (fun x _ v h => repX_liftX h) h2⟩
theorem rep_to {w : World} {B n : Nat} {t : FT n} {v : Value} (h : FRep w B n t v) : ∀ k : Nat, ∃ t' : FT (n + k), toF (n + k) t' = toF n t ∧ FRep w B (n + k) t' v
 | 0 => ⟨t, rfl, h⟩
 | k + 1 => by
  obtain ⟨t', h1, h2⟩ := rep_to h k
  exact ⟨liftF _ t', (toF_lift _ _).trans h1, rep_lift h2⟩
theorem repM_to {w : World} {B m n : Nat} {t : XT m n} {v : Value} (h : XRep w B m n t v) : ∀ k : Nat, ∃ t' : XT (m + k) n, toX n t' = toX n t ∧ XRep w B (m + k) n t' v
 | 0 => ⟨t, rfl, h⟩
 | k + 1 => by
  obtain ⟨t', h1, h2⟩ := repM_to h k
  exact ⟨liftM _ t', (toX_liftM _ _).trans h1, repX_liftM h2⟩
theorem repX_to {w : World} {B m n : Nat} {t : XT m n} {v : Value} (h : XRep w B m n t v) : ∀ k : Nat, ∃ t' : XT m (n + k), toX (n + k) t' = toX n t ∧ XRep w B m (n + k) t' v
 | 0 => ⟨t, rfl, h⟩
 | k + 1 => by
  obtain ⟨t', h1, h2⟩ := repX_to h k
  exact ⟨liftX _ t', (toX_liftX _ _).trans h1, repX_liftX h2⟩
def XRepI (w : World) (B : Nat) (t : X) (v : Value) : Prop := ∃ (m n : Nat) (t' : XT m n), toX n t' = t ∧ XRep w B m n t' v
theorem FRepI.le {w w' : World} {B B' : Nat} {t : F} {v : Value} (hb : Has B w w') (hB : B ≤ B') (h : FRepI w B t v) : FRepI w' B' t v := by
 obtain ⟨n, t', h1, h2⟩ := h; exact ⟨n, t', h1, h2.le hb hB⟩
theorem XRepI.le {w w' : World} {B B' : Nat} {t : X} {v : Value} (hb : Has B w w') (hB : B ≤ B') (h : XRepI w B t v) : XRepI w' B' t v := by
 obtain ⟨m, n, t', h1, h2⟩ := h; exact ⟨m, n, t', h1, h2.le hb hB⟩
/-! What is built of blocks that p names. -/
def FI (p : Nat → Bool) (w : World) (t : F) (v : Value) : Prop := FRepI (cutP p w) w.heap.size t v
def XI (p : Nat → Bool) (w : World) (t : X) (v : Value) : Prop := XRepI (cutP p w) w.heap.size t v
def Goes (p q : Nat → Bool) (w w' : World) : Prop := w.heap.size ≤ w'.heap.size ∧ ∀ b, b < w.heap.size → p b = true → q b = true ∧ w'.heap[b]? = w.heap[b]?
theorem Goes.has {p q : Nat → Bool} {w w' : World} (h : Goes p q w w') : Has w.heap.size (cutP p w) (cutP q w') := by
 intro b off x hb hx
 obtain ⟨hp, hc⟩ := cutP_cell hx
 obtain ⟨hq, he⟩ := h.2 b hb hp
 refine cell_cutP hq ?_
 unfold World.cell? at hc ⊢
 rw [he]; exact hc
theorem FI.go {p q : Nat → Bool} {w w' : World} {t : F} {v : Value} (h : FI p w t v) (hg : Goes p q w w') : FI q w' t v := FRepI.le hg.has hg.1 h
theorem XI.go {p q : Nat → Bool} {w w' : World} {t : X} {v : Value} (h : XI p w t v) (hg : Goes p q w w') : XI q w' t v := XRepI.le hg.has hg.1 h
theorem XI.real {p : Nat → Bool} {w : World} {t : X} {v : Value} (h : XI p w t v) : XRepI w w.heap.size t v := XRepI.le (fun _ _ _ _ hx => (cutP_cell hx).2) (Nat.le_refl _) h
theorem FI.shape {p : Nat → Bool} {w : World} {t : F} {v : Value} (h : FI p w t v) : ∃ k s a l c, v = .agg #[.int .u8 k, .string s, .slice a l c] := by
 obtain ⟨n, t', _, h2⟩ := h; exact h2.shape
theorem XI.shape {p : Nat → Bool} {w : World} {t : X} {v : Value} (h : XI p w t v) :
 ∃ k a1 l1 c1 a2 l2 c2 lo ls hi hs op, v = .agg #[.int .u8 k, .slice a1 l1 c1, .slice a2 l2 c2, .int .i64 lo, .bool ls, .int .i64 hi, .bool hs, .bool op] := by
 obtain ⟨m, n, t', _, h2⟩ := h; exact h2.shape
/-! What is put together. -/
theorem FI.none (p : Nat → Bool) (w : World) (k : Int) (s : ByteArray) (a : Option Addr) (c : Nat) : FI p w (.mk k s []) (.agg #[.int .u8 k, .string s, .slice a 0 c]) :=
 ⟨1, (k, s, []), by simp [toF], a, c, rfl, by simp, .inl rfl⟩
theorem FI.one {p : Nat → Bool} {w : World} {t : F} {k1 : Int} {s1 : ByteArray} {a1 : Option Addr} {l1 c1 : Nat} (h : FI p w t (.agg #[.int .u8 k1, .string s1, .slice a1 l1 c1])) (k : Int) (s : ByteArray) (g c : Nat) (fr : Nat × Nat) (hp : p g = true)
 (hg : w.heap[g]? = some (.cells #[.int .u8 k1, .string s1, .slice a1 l1 c1] 61 fr)) : FI p w (.mk k s [t]) (.agg #[.int .u8 k, .string s, .slice (some ⟨g, 0, Option.none⟩) 1 c]) := by
 obtain ⟨n, t', h1, h2⟩ := h
 refine ⟨n + 1, (k, s, [t']), by simp [toF, h1], _, c, rfl, by simp, .inr ⟨g, 0, rfl, (Array.getElem?_eq_some_iff.1 hg).1, fun i hi => ?_⟩⟩
 have hi0 : i = 0 := by simp at hi; omega
 subst hi0
 refine ⟨[.int .u8 k1, .string s1, .slice a1 l1 c1], rfl, fun j hj => ?_, h2⟩
 rw [List.getElem?_eq_getElem (by simpa using hj)]
 refine cell_cutP hp ?_
 rw [Lib.cell_of_heap hg]
 match j, hj with
 | 0, _ => rfl
 | 1, _ => rfl
 | 2, _ => rfl
theorem FI.two {p : Nat → Bool} {w : World} {t u : F} {k1 k2 : Int} {s1 s2 : ByteArray} {a1 a2 : Option Addr} {l1 c1 l2 c2 : Nat} (h : FI p w t (.agg #[.int .u8 k1, .string s1, .slice a1 l1 c1])) (h' : FI p w u (.agg #[.int .u8 k2, .string s2, .slice a2 l2 c2]))
 (k : Int) (s : ByteArray) (g c : Nat) (fr : Nat × Nat) (hp : p g = true)
 (hg : w.heap[g]? = some (.cells #[.int .u8 k1, .string s1, .slice a1 l1 c1, .int .u8 k2, .string s2, .slice a2 l2 c2] 61 fr)) : FI p w (.mk k s [t, u]) (.agg #[.int .u8 k, .string s, .slice (some ⟨g, 0, Option.none⟩) 2 c]) := by
 obtain ⟨n, t', h1, h2⟩ := h
 obtain ⟨n', u', h1', h2'⟩ := h'
 obtain ⟨t2, e1, e2⟩ := rep_to h2 n'
 obtain ⟨u2, e1', e2'⟩ := rep_to h2' n
 rw [h1] at e1
 rw [h1'] at e1'
 revert u2
 rw [Nat.add_comm n' n]
 intro u2 e1' e2'
 refine ⟨n + n' + 1, (k, s, [t2, u2]), by simp [toF, e1, e1'], _, c, rfl, by simp, .inr ⟨g, 0, rfl, (Array.getElem?_eq_some_iff.1 hg).1, fun i hi => ?_⟩⟩
 have hi2 : i = 0 ∨ i = 1 := by simp at hi; omega
 rcases hi2 with rfl | rfl
 ·refine ⟨[.int .u8 k1, .string s1, .slice a1 l1 c1], rfl, fun j hj => ?_, e2⟩
  rw [List.getElem?_eq_getElem (by simpa using hj)]
  refine cell_cutP hp ?_
  rw [Lib.cell_of_heap hg]
  match j, hj with
  | 0, _ => rfl
  | 1, _ => rfl
  | 2, _ => rfl
 ·refine ⟨[.int .u8 k2, .string s2, .slice a2 l2 c2], rfl, fun j hj => ?_, e2'⟩
  rw [List.getElem?_eq_getElem (by simpa using hj)]
  refine cell_cutP hp ?_
  rw [Lib.cell_of_heap hg]
  match j, hj with
  | 0, _ => rfl
  | 1, _ => rfl
  | 2, _ => rfl
end Go.Proofs.YtpgdplmndnopbaaGreatDoor
