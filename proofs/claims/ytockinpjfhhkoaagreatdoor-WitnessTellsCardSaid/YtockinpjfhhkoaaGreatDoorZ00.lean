/- How a text is cut into tokens, as a plain function of its bytes, and its laws: no program in sight. -/
import Derived.Lib.Strings
import Derived.Shelf.Abstract
import Derived.WalkKit
import Derived.WalkSpells
import Derived.WalkLawsBesides
import Derived.Lib.Hide
import Derived.Test.YtockinpjfhhkoaaGreatDoorProg
import Derived.StillTailTactics
import Derived.Deep.RegionHeld3
import Derived.Deep.DrawnRows
import Derived.Maps.AppendAt
import Derived.Deep.RegionLaw
import Derived.Deep.AppendLies
import Derived.WalkSmall
import Derived.Deep.QuietTactic
import Derived.BigQuiet
import Derived.LoopTactic
set_option maxRecDepth 100000
set_option maxHeartbeats 16000000
namespace Go.Proofs.YtockinpjfhhkoaaGreatDoor
def z3p (b : UInt8) : Bool:=decide (97 ≤ b.toNat) && decide (b.toNat ≤ 122)
def z33 (b : UInt8) : Bool:=decide (48 ≤ b.toNat) && decide (b.toNat ≤ 57)
def z0l (b : UInt8) : Bool:=b.toNat == 32 || b.toNat == 9 || b.toNat == 10 || b.toNat == 13
def z0a (b : UInt8) : Bool:=z3p b || z33 b
def z0n (b : UInt8) : Bool:=[124,38,59,43,60,62,95,91,93,40,41,44,33,123,125].contains b.toNat
def twin (b : UInt8) : Bool:=b.toNat == 124 || b.toNat == 38
def z1a (a : Nat) (l : List UInt8) : Nat:=l.foldl (fun n b => 10 * n + (b.toNat - 48)) a
theorem z0w (a : Nat) (b : UInt8) (r : List UInt8) : z1a a (b :: r) = z1a (10 * a + (b.toNat - 48)) r:=List.foldl_cons ..
def z32 (l : List UInt8) : Bool:=l.all z33 && decide (l.length ≤ 18) && (decide (l.length ≤ 1) || l.head? != some 48) && decide (z1a 0 l < 288230376151711744)
def z0k : List UInt8 → Except Int Int
 | [] => .error 151
 | b :: r => if z3p b then (if r.length + 1 ≤ 8 then .ok 1 else .error 152) else if z32 (b :: r) then .ok 2 else .error 151
structure Tok where
 kind : Int
 text : ByteArray
 place : Int
deriving DecidableEq
def bsOf (l : List UInt8) : ByteArray:=⟨l.toArray⟩
@[simp] theorem z3g (l : List UInt8) : (bsOf l).data.toList = l:=by simp [bsOf]
theorem bsOf_of (s : ByteArray) : bsOf s.data.toList = s:=by simp [bsOf]
theorem bsOf_inj {a b : List UInt8} (h : bsOf a = bsOf b) : a = b:=by rw [← z3g a,h,z3g]
inductive Res where
 | ok (l : List Tok)
 | bad (at_ : Nat) (e : Int)
deriving DecidableEq
def Res.cons (t : Tok) : Res → Res
 | .ok l => .ok (t :: l)
 | .bad a e => .bad a e
def Res.app (p : List Tok) : Res → Res
 | .ok l => .ok (p ++ l)
 | .bad a e => .bad a e
theorem Res.app_nil (r : Res) : Res.app [] r = r:=by cases r <;> rfl
theorem Res.app_cons (p : List Tok) (t : Tok) (r : Res) : Res.app p (Res.cons t r) = Res.app (p ++ [t]) r:=by cases r <;> simp [Res.app,Res.cons]
def z0y (l : List UInt8) : List UInt8:=l.takeWhile z0a
def cutS : Nat → Nat → List UInt8 → Res
 | _,_,[] => .ok []
 | k + 1,a,_ :: r => cutS k (a + 1) r
 | 0,a,b :: r =>
  if z0a b then
   match z0k (b :: z0y r) with
   | .error e => .bad a e
   | .ok k => Res.cons ⟨k,bsOf (b :: z0y r),a⟩ (cutS (z0y r).length (a + 1) r)
  else if z0l b then cutS 0 (a + 1) r
  else if z0n b then
   if twin b && r.head? == some b then Res.cons ⟨3,bsOf [b,b],a⟩ (cutS 1 (a + 1) r)
   else Res.cons ⟨3,bsOf [b],a⟩ (cutS 0 (a + 1) r)
  else .bad a 150
def cut (a : Nat) (l : List UInt8) : Res:=cutS 0 a l
theorem z6x : ∀ (k a : Nat) (l : List UInt8),cutS k a l = cut (a + k) (l.drop k)
 | 0,a,l => by simp [cut]
 | k + 1,a,[] => by simp [cut,cutS]
 | k + 1,a,b :: r => by rw [cutS,z6x k (a + 1) r]; simp; congr 1; omega
@[simp] theorem cut_nil (a : Nat) : cut a [] = .ok []:=rfl
theorem cut_row (a : Nat) (b : UInt8) (r : List UInt8) (h : z0a b = true) : cut a (b :: r) = match z0k (z0y (b :: r)) with
 | .error e => .bad a e
 | .ok k => Res.cons ⟨k,bsOf (z0y (b :: r)),a⟩ (cut (a + (z0y (b :: r)).length) ((b :: r).drop (z0y (b :: r)).length)):=by
 have h2 : z0y (b :: r) = b :: z0y r:=by simp [z0y,h]
 rw [h2,cut,cutS]
 simp only [h,if_true]
 cases z0k (b :: z0y r) with
 | error e => rfl
 | ok k => simp only [z6x]; simp; congr 2; omega
theorem z4p (a : Nat) (b : UInt8) (r : List UInt8) (h : z0a b = false) (hb : z0l b = true) : cut a (b :: r) = cut (a + 1) r:=by
 simp [cut,cutS,h,hb]
theorem cut_two (a : Nat) (b : UInt8) (r : List UInt8) (hb : twin b = true) : cut a (b :: b :: r) = Res.cons ⟨3,bsOf [b,b],a⟩ (cut (a + 2) r):=by
 have h : z0a b = false ∧ z0l b = false ∧ z0n b = true:=by
  simp only [twin,Bool.or_eq_true,beq_iff_eq] at hb
  rcases hb with hb | hb <;> simp [z0a,z3p,z33,z0l,z0n,hb]
 rw [cut,cutS]
 simp [h,hb,z6x]
theorem z5d (a : Nat) (b : UInt8) (r : List UInt8) (h : z0a b = false) (hb : z0l b = false) (hs : z0n b = true) (ht : (twin b && r.head? == some b) = false) : cut a (b :: r) = Res.cons ⟨3,bsOf [b],a⟩ (cut (a + 1) r):=by
 rw [cut,cutS,h,hb,hs,ht]
 rfl
theorem z6w (a : Nat) (b : UInt8) (r : List UInt8) (h : z0a b = false) (hb : z0l b = false) (hs : z0n b = false) : cut a (b :: r) = .bad a 150:=by
 simp [cut,cutS,h,hb,hs]
theorem z1z (b : UInt8) (r : List UInt8) (h : z0a b = true) : z0y (b :: r) = b :: z0y r:=by simp [z0y,h]
def z0o : List UInt8 → Int
 | [] => 0
 | b :: r =>
  if z0a b then (if r.all z0a then (match z0k (b :: r) with | .ok k => k | .error _ => 0) else 0)
  else if z0n b && (r == [] || (twin b && r == [b])) then 3 else 0
def apart (t rest : List UInt8) : Bool :=
 match t,rest with
 | _,[] => true
 | [],_ => true
 | a :: r,h :: _ => if z0a a then !z0a h else !(r == [] && twin a && h == a)
theorem z5j (t rest : List UInt8) (ht : t.all z0a = true) (hr : rest.head?.map z0a ≠ some true) : z0y (t ++ rest) = t:=by
 induction t with
 | nil => cases rest with
  | nil => rfl
  | cons h r => simp at hr; simp [z0y,hr]
 | cons a t ih =>
  simp only [List.all_cons,Bool.and_eq_true] at ht
  rw [List.cons_append,z1z _ _ ht.1,ih ht.2]
theorem z6g {l : List UInt8} {k : Int} (h : z0k l = .ok k) : k = 1 ∨ k = 2:=by
 cases l with
 | nil => simp [z0k] at h
 | cons b r =>
  simp only [z0k] at h
  split at h
  ·split at h <;> simp at h; exact .inl h.symm
  ·split at h <;> simp at h; exact .inr h.symm
theorem cut_tok (a : Nat) (t rest : List UInt8) (hk : z0o t ≠ 0) (hr : apart t rest = true) : cut a (t ++ rest) = Res.cons ⟨z0o t,bsOf t,a⟩ (cut (a + t.length) rest):=by
 cases t with
 | nil => exact absurd rfl hk
 | cons b r =>
  by_cases hb : z0a b = true
  ·simp only [z0o,hb,if_true] at hk ⊢
   by_cases hall : r.all z0a = true
   ·simp only [hall,if_true] at hk ⊢
    have hro : z0y ((b :: r) ++ rest) = b :: r:=by
     refine z5j _ _ (by simp [hb]; simpa using hall) ?_
     cases rest with
     | nil => simp
     | cons h s => simp [apart,hb] at hr; simp [hr]
    have:=cut_row a b (r ++ rest) hb
    rw [← List.cons_append,hro] at this
    rw [this]
    cases hrk : z0k (b :: r) with
    | error e => rw [hrk] at hk; exact absurd rfl hk
    | ok k => simp
   ·simp [hall] at hk
  ·have hb' : z0a b = false:=by simpa using hb
   simp only [z0o,hb',Bool.false_eq_true,if_false] at hk ⊢
   by_cases hs : z0n b = true
   ·have hbl : z0l b = false:=by
     simp only [z0n,List.contains_eq_mem,List.mem_cons,List.not_mem_nil,or_false,decide_eq_true_eq] at hs
     simp only [z0l]
     rcases hs with h|h|h|h|h|h|h|h|h|h|h|h|h|h|h <;> simp [h]
    by_cases h1 : r = []
    ·subst h1
     simp only [hs,List.singleton_append]
     rw [z5d a b rest hb' hbl hs ?_]
     ·rfl
     ·cases rest with
      | nil => simp
      | cons h s => simp [apart,hb'] at hr; by_cases ht : twin b = true <;> simp_all
    ·by_cases h2 : (twin b && r == [b]) = true
     ·simp only [Bool.and_eq_true,beq_iff_eq] at h2
      obtain ⟨h3,rfl⟩:=h2
      simp only [hs,h3]
      simpa using cut_two a b rest h3
     ·exfalso; apply hk; rw [if_neg]; simp [hs,h1]; simpa using h2
   ·simp [hs] at hk
theorem kindOf_row {b : UInt8} {r : List UInt8} {k : Int} (hb : z0a b = true) (h : z0k (z0y (b :: r)) = .ok k) : z0o (z0y (b :: r)) = k:=by
 have hall : (z0y r).all z0a = true:=by
  exact List.all_takeWhile
 rw [z1z b r hb] at h ⊢
 simp [z0o,hb,hall,h]
theorem rowOf_drop (l : List UInt8) : l = z0y l ++ l.drop (z0y l).length:=by
 induction l with
 | nil => rfl
 | cons b r ih =>
  by_cases hb : z0a b = true
  ·rw [z1z b r hb]
   simpa using ih
  ·simp [z0y,hb]
theorem rowOf_next (l : List UInt8) : ((l.drop (z0y l).length).head?.map z0a) ≠ some true:=by
 induction l with
 | nil => simp [z0y]
 | cons b r ih =>
  by_cases hb : z0a b = true
  ·rw [z1z b r hb]
   simpa using ih
  ·simp [z0y,hb]
theorem cut_ways (b : UInt8) (r : List UInt8) :
 (z0l b = true ∧ z0a b = false ∧ ∀ a,cut a (b :: r) = cut (a + 1) r) ∨
 (∃ e,∀ a,cut a (b :: r) = .bad a e) ∨
 (∃ t rest,t ≠ [] ∧ b :: r = t ++ rest ∧ z0o t ≠ 0 ∧ apart t rest = true ∧ ∀ a,cut a (b :: r) = Res.cons ⟨z0o t,bsOf t,a⟩ (cut (a + t.length) rest)):=by
 by_cases hb : z0a b = true
 ·right
  cases hk : z0k (z0y (b :: r)) with
  | error e => exact .inl ⟨e,fun a => by rw [cut_row a b r hb,hk]⟩
  | ok k =>
   right
   have h1:=kindOf_row hb hk
   refine ⟨z0y (b :: r),(b :: r).drop (z0y (b :: r)).length,by rw [z1z b r hb]; simp,rowOf_drop _,by rw [h1]; rcases z6g hk with h | h <;> simp [h],?_,fun a => by rw [cut_row a b r hb,hk,h1]⟩
   have:=rowOf_next (b :: r)
   cases hd : (b :: r).drop (z0y (b :: r)).length with
   | nil => rw [z1z b r hb]; rfl
   | cons h s =>
    rw [hd] at this
    rw [z1z b r hb]
    simp at this
    simp [apart,hb,this]
 ·have hb' : z0a b = false:=by simpa using hb
  by_cases hbl : z0l b = true
  ·exact .inl ⟨hbl,hb',fun a => z4p a b r hb' hbl⟩
  ·have hbl' : z0l b = false:=by simpa using hbl
   right
   by_cases hs : z0n b = true
   ·right
    by_cases ht : (twin b && r.head? == some b) = true
    ·simp only [Bool.and_eq_true,beq_iff_eq] at ht
     obtain ⟨ht,hh⟩:=ht
     cases r with
     | nil => simp at hh
     | cons c r =>
      simp at hh
      subst hh
      have hk : z0o [c,c] = 3:=by simp [z0o,hb',hs,ht]
      refine ⟨[c,c],r,by simp,rfl,by simp [hk],?_,fun a => by rw [cut_two a c r ht,hk]; rfl⟩
      cases r <;> simp [apart,hb']
    ·have ht' : (twin b && r.head? == some b) = false:=by simpa using ht
     have hk : z0o [b] = 3:=by simp [z0o,hb',hs]
     refine ⟨[b],r,by simp,rfl,by simp [hk],?_,fun a => by rw [z5d a b r hb' hbl' hs ht',hk]; rfl⟩
     cases r with
     | nil => rfl
     | cons c s =>
      simp at ht'
      by_cases ht2 : twin b = true
      ·simp [apart,hb',ht2,ht' ht2]
      ·simp [apart,hb',ht2]
   ·exact .inl ⟨150,fun a => z6w a b r hb' hbl' (by simpa using hs)⟩
theorem cut_ind {P : List UInt8 → Prop} (h0 : P [])
 (h1 : ∀ b r,z0l b = true → z0a b = false → (∀ a,cut a (b :: r) = cut (a + 1) r) → P r → P (b :: r))
 (h2 : ∀ b r e,(∀ a,cut a (b :: r) = .bad a e) → P (b :: r))
 (h3 : ∀ t rest,t ≠ [] → z0o t ≠ 0 → apart t rest = true → (∀ a,cut a (t ++ rest) = Res.cons ⟨z0o t,bsOf t,a⟩ (cut (a + t.length) rest)) → P rest → P (t ++ rest)) (l : List UInt8) : P l:=by
 generalize hn : l.length = n
 induction n using Nat.strongRecOn generalizing l with
 | ind n ih =>
  cases l with
  | nil => exact h0
  | cons b r =>
   rcases cut_ways b r with ⟨x,y,z⟩ | ⟨e,z⟩ | ⟨t,rest,x,y,z,u,v⟩
   ·exact h1 b r x y z (ih r.length (by simp at hn; omega) r rfl)
   ·exact h2 b r e z
   ·rw [y] at v ⊢
    refine h3 t rest x z u v (ih rest.length ?_ rest rfl)
    have:=congrArg List.length y
    have hp : 0 < t.length:=List.length_pos_iff.2 x
    rw [List.length_append] at this
    omega
def Tok.shift (d : Nat) (t : Tok) : Tok:={ t with place:=t.place + d }
def Res.shift (d : Nat) : Res → Res
 | .ok l => .ok (l.map (Tok.shift d))
 | .bad a e => .bad (a + d) e
theorem Res.shift_cons (d : Nat) (t : Tok) (r : Res) : (Res.cons t r).shift d = Res.cons (t.shift d) (r.shift d):=by cases r <;> rfl
theorem cut_shift (d : Nat) (l : List UInt8) : ∀ a,cut (a + d) l = (cut a l).shift d:=by
 induction l using cut_ind with
 | h0 => intro a; rfl
 | h1 b r _ _ h ih => intro a; rw [h,h,← ih (a + 1)]; congr 1; omega
 | h2 b r e h => intro a; rw [h,h]; rfl
 | h3 t rest _ _ _ h ih =>
  intro a
  rw [h,h,Res.shift_cons,← ih (a + t.length)]
  have : a + d + t.length = a + t.length + d:=by omega
  rw [this]
  simp [Tok.shift]
theorem apart_take (t rest : List UInt8) (m : Nat) (h : apart t rest = true) : apart t (rest.take m) = true:=by
 cases m with
 | zero => cases t <;> simp [apart]
 | succ m => cases rest with
  | nil => simpa using h
  | cons a r => cases t with
   | nil => simp [apart]
   | cons b s => simpa [apart] using h
theorem z1q (l : List UInt8) : ∀ a p e,cut a l = .bad p e → ∃ k,p = a + k ∧ k < l.length ∧ (∃ ts,cut a (l.take k) = .ok ts) ∧ cut p (l.drop k) = .bad p e:=by
 induction l using cut_ind with
 | h0 => intro a p e h; simp at h
 | h1 b r hb hr h ih =>
  intro a p e hc
  rw [h] at hc
  obtain ⟨k,e1,e2,⟨ts,e3⟩,e4⟩:=ih (a + 1) p e hc
  exact ⟨k + 1,by omega,by simp; omega,⟨ts,by rw [List.take_succ_cons,z4p a b _ hr hb,e3]⟩,by simpa using e4⟩
 | h2 b r e h =>
  intro a p e' hc
  rw [h] at hc
  cases hc
  exact ⟨0,rfl,by simp,⟨[],rfl⟩,by simpa using h a⟩
 | h3 t rest hne hk hap h ih =>
  intro a p e hc
  rw [h] at hc
  cases hr : cut (a + t.length) rest with
  | ok us => rw [hr] at hc; cases hc
  | bad p' e' =>
   rw [hr] at hc
   simp only [Res.cons] at hc
   cases hc
   obtain ⟨k,e1,e2,⟨ts,e3⟩,e4⟩:=ih _ _ _ hr
   refine ⟨t.length + k,by omega,by simp; omega,⟨⟨z0o t,bsOf t,a⟩ :: ts,?_⟩,?_⟩
   ·rw [List.take_append,List.take_of_length_le (by omega),show t.length + k - t.length = k from by omega,cut_tok a t _ hk (apart_take t rest k hap),e3]
    rfl
   ·rw [List.drop_append,List.drop_of_length_le (by omega),show t.length + k - t.length = k from by omega,List.nil_append,e4]
/-! ## Gluing -/
theorem cut_kinds (l : List UInt8) : ∀ a ts,cut a l = .ok ts → ∀ t ∈ ts,z0o t.text.data.toList = t.kind ∧ t.kind ≠ 0 ∧ 0 ≤ t.place:=by
 induction l using cut_ind with
 | h0 => intro a ts h; simp at h; subst h; simp
 | h1 b r hb hr h ih => intro a ts hc; rw [h] at hc; exact ih _ _ hc
 | h2 b r e h => intro a ts hc; rw [h] at hc; cases hc
 | h3 t rest hne hk hap h ih =>
  intro a ts hc
  rw [h] at hc
  cases hr : cut (a + t.length) rest with
  | bad p e => rw [hr] at hc; cases hc
  | ok us =>
   rw [hr] at hc
   simp only [Res.cons,Res.ok.injEq] at hc
   subst hc
   intro u hu
   rcases List.mem_cons.1 hu with rfl | hu
   ·exact ⟨by simp,hk,by simp⟩
   ·exact ih _ _ hr u hu
theorem cut_single (t : List UInt8) (ts : List Tok) : (cut 0 t = .ok ts ∧ ts.length = 1 ∧ ts.head?.map (·.text) = some (bsOf t)) ↔ (z0o t ≠ 0 ∧ ts = [⟨z0o t,bsOf t,0⟩]):=by
 constructor
 ·rintro ⟨h,h1,h2⟩
  obtain ⟨x,rfl⟩ : ∃ x,ts = [x]:=List.length_eq_one_iff.1 h1
  simp at h2
  have hk:=cut_kinds t 0 [x] h x (by simp)
  rw [h2,z3g] at hk
  have:=cut_tok 0 t [] (by rw [hk.1]; exact hk.2.1) (by cases t <;> rfl)
  rw [List.append_nil,h] at this
  simp only [cut_nil,Res.cons,Res.ok.injEq] at this
  exact ⟨by rw [hk.1]; exact hk.2.1,by simpa using this⟩
 ·rintro ⟨h,rfl⟩
  have:=cut_tok 0 t [] h (by cases t <;> rfl)
  rw [List.append_nil] at this
  exact ⟨by simpa [Res.cons] using this,rfl,by simp⟩
open Go.RowKit Go.Shelf
theorem z2b {a b : Bool} {w : World} (h : a = b) : (Ending.returned (.bool a) = .returned (.bool b) ∧ w = w):=⟨by rw [h],rfl⟩
theorem ret_int {k : IntKind} {a b : Int} {w : World} (h : a = b) : (Ending.returned (.int k a) = .returned (.int k b) ∧ w = w):=⟨by rw [h],rfl⟩
def z43 (r : Int) : Int:=if 97 ≤ r ∧ r ≤ 122 then 2 else if 48 ≤ r ∧ r ≤ 57 then 3 else if r = 32 ∨ r = 9 ∨ r = 10 ∨ r = 13 then 1 else 0
theorem z3m (r : Int) (w : World) : Calls Tryz.prog 195 #[.int .i32 r] w fun e w' => e = .returned (.int .i64 (z43 r)) ∧ w' = w:=by
 go_enter Tryz.func195,Tryz.ntmps195
 go_wp2
 all_goals go_ret
 all_goals (refine ret_int ?_; unfold z43; try omega)
 all_goals (simp only [beq_iff_eq,beq_eq_false_iff_ne,ne_eq] at *; omega)
open Go.RowKit Go.Shelf
attribute [local go_sem ↓] Go.wp_at_zero Go.wp_at_succ
def Tok.cells (t : Tok) : List Value:=[.int .u8 t.kind,.string t.text,.int .i64 t.place]
def Tok.val (t : Tok) : Value:=.agg #[.int .u8 t.kind,.string t.text,.int .i64 t.place]
def z58 : Tok:=⟨0,.empty,0⟩
def TokC (w : World) (b off : Nat) (l : List Tok) : Prop :=
 ∀ i,(h : i < l.length) → w.cell? ⟨b,off + i * 3,none⟩ = some (.int .u8 l[i].kind) ∧ w.cell? ⟨b,off + i * 3 + 1,none⟩ = some (.string l[i].text) ∧ w.cell? ⟨b,off + i * 3 + 2,none⟩ = some (.int .i64 l[i].place)
def Toks (w : World) (B : Nat) (v : Value) (l : List Tok) : Prop :=
 ∃ a cap,v = .slice a l.length cap ∧ l.length ≤ 9223372036854775807 ∧ (l = [] ∨ ∃ b off,a = some ⟨b,off,none⟩ ∧ b < B ∧ TokC w b off l)
def z2o (l : List Tok) : List Value:=l.flatMap Tok.cells
theorem z29 (a b : List Tok) : z2o (a ++ b) = z2o a ++ z2o b:=by simp [z2o]
theorem z6t (s : Tok) : z2o [s] = s.cells:=by simp [z2o]
theorem z3f : ∀ l : List Tok,(z2o l).length = l.length * 3
 | [] => rfl
 | s :: l => by
  have:=z3f l
  show (z2o ([s] ++ l)).length = _
  rw [z29,List.length_append,this]
  simp [z6t,Tok.cells]; omega
theorem z5c : ∀ (l : List Tok) (i : Nat),(h : i < l.length) → (z2o l)[i * 3]? = some (.int .u8 l[i].kind) ∧ (z2o l)[i * 3 + 1]? = some (.string l[i].text) ∧ (z2o l)[i * 3 + 2]? = some (.int .i64 l[i].place)
 | [],i,h => by simp at h
 | s :: l,0,_ => by simp [z2o,Tok.cells]
 | s :: l,i + 1,h => by
  have:=z5c l i (by simpa using h)
  have h2 : z2o (s :: l) = s.cells ++ z2o l:=by simp [z2o]
  have h3 : s.cells.length = 3:=rfl
  rw [h2,List.getElem?_append_right (by rw [h3]; omega),List.getElem?_append_right (by rw [h3]; omega),List.getElem?_append_right (by rw [h3]; omega),h3]
  rw [show (i + 1) * 3 - 3 = i * 3 by omega,show (i + 1) * 3 + 1 - 3 = i * 3 + 1 by omega,show (i + 1) * 3 + 2 - 3 = i * 3 + 2 by omega]
  simpa using this
def OwnT (w : World) (B : Nat) (v : Value) (l : List Tok) : Prop:=w.ownsRow B 194 3 v l.length (z2o l)
theorem OwnT.shape {w : World} {B : Nat} {v : Value} {l : List Tok} (h : OwnT w B v l) : ∃ a c,v = .slice a l.length c:=by
 rcases h.2 with ⟨rfl,h0⟩ | ⟨g,cap,cur,hv,_⟩
 ·exact ⟨none,0,by rw [h0]⟩
 ·exact ⟨_,_,hv⟩
theorem OwnT.below {w w' : World} {B : Nat} {v : Value} {l : List Tok} (h : OwnT w B v l) (hb : Below w.heap.size w w') : OwnT w' B v l :=
 World.ownsRow.kept h (row:=none) ⟨hb.os,hb.tape,hb.output,hb.size,fun j hj _ => hb.block j hj⟩ (by cases hv : v.ownBlock <;> simp)
theorem OwnT.toks {w : World} {B : Nat} {v : Value} {l : List Tok} (h : OwnT w B v l) (hm : l.length ≤ 9223372036854775807) : Toks w w.heap.size v l:=by
 have h':=h
 obtain ⟨_,hh⟩:=h
 rcases hh with ⟨rfl,h0⟩ | ⟨g,cap,cur,rfl,hg,hb,_,_,_,_⟩
 ·exact ⟨none,0,by rw [h0],hm,.inl (List.eq_nil_of_length_eq_zero h0)⟩
 ·refine ⟨_,cap,rfl,hm,.inr ⟨g,0,rfl,(Array.getElem?_eq_some_iff.1 hb).1,fun i hi => ?_⟩⟩
  have h3:=z5c l i hi
  refine ⟨?_,?_,?_⟩
  ·rw [Nat.zero_add,h'.cellAt _ (by omega)]; exact h3.1
  ·rw [Nat.zero_add,h'.cellAt _ (by omega)]; exact h3.2.1
  ·rw [Nat.zero_add,h'.cellAt _ (by omega)]; exact h3.2.2
theorem OwnT.at {w : World} {B : Nat} {v : Value} {l : List Tok} (h : OwnT w B v l) (h0 : l ≠ []) :
 ∃ g cap,v = .slice (some ⟨g,0,none⟩) l.length cap ∧ B ≤ g ∧ g < w.heap.size ∧ TokC w g 0 l ∧ (∀ j,w.frozen? ⟨g,j,none⟩ = false) ∧
  ∀ j x,w.ownsRow B 194 3 v l.length (z2o l) → (w.setCell ⟨g,j,none⟩ x).ownsRow B 194 3 v l.length ((z2o l).set j x):=by
 have h':=h
 obtain ⟨_,hh⟩:=h
 rcases hh with ⟨_,h0'⟩ | ⟨g,cap,cur,hv,hg,hb,hn,hm,hs,ht⟩
 ·exact absurd (List.eq_nil_of_length_eq_zero h0') h0
 ·subst hv
  refine ⟨g,cap,rfl,hg,(Array.getElem?_eq_some_iff.1 hb).1,?_,fun j => h'.frozenAt _,fun j x ho => (ho.stored j x).1⟩
  intro i hi
  have h3:=z5c l i hi
  refine ⟨?_,?_,?_⟩
  ·rw [Nat.zero_add,World.ownsRow.cellAt h' _ (by omega)]; exact h3.1
  ·rw [Nat.zero_add,World.ownsRow.cellAt h' _ (by omega)]; exact h3.2.1
  ·rw [Nat.zero_add,World.ownsRow.cellAt h' _ (by omega)]; exact h3.2.2
theorem z0i (w : World) (x y z : Value) (t : TypeId) : ∀ j u,[x,y,z][j]? = some u → (w.alloc (.cells #[x,y,z] t)).cell? ((⟨w.heap.size,0,none⟩ : Addr).add j) = some u:=by
 intro j u hj
 match j,hj with
 | 0,hj => simp at hj; subst hj; simp [Addr.add]
 | 1,hj => simp at hj; subst hj; simp [Addr.add]
 | 2,hj => simp at hj; subst hj; simp [Addr.add]
theorem Tryz.info194 : (Tryz.prog.info? 194).map (fun i => (i.zero,i.size,i.bytes)) = some (some (.agg #[.int .u8 0,.string .empty,.int .i64 0]),3,32):=by kernel_rfl
@[local go_sem] theorem eq27 (a d : Int) (b e : ByteArray) (c f : Int) (w : World) : (Op.equalIn 10000 194 (.agg #[.int .u8 a,.string b,.int .i64 c]) (.agg #[.int .u8 d,.string e,.int .i64 f])).run Tryz.prog w = .ok (a == d && (b.toList == e.toList) && c == f) w:=by
 have u3:=Tryz.underlying3
 have a3:=Tryz.isAgg3
 have z3:=Tryz.sizeOf3
 have u5:=Tryz.underlying5
 have a5:=Tryz.isAgg5
 have z5:=Tryz.sizeOf5
 have u9:=Tryz.underlying9
 have a9:=Tryz.isAgg9
 have z9:=Tryz.sizeOf9
 have hS : Tryz.prog.underlying 194 = some (.struct (Tryz.prog.fieldsOf 194)):=by kernel_rfl
 have hp : Tryz.prog.stoodInHeld 194 = false:=by kernel_rfl
 rw [show (10000 : Nat) = 9999 + 1 from rfl,run_equalIn_agg w 9999 194 _ _ hS hp]
 simp only [Program.fieldsOf,Tryz.underlying194]
 go_simp
 by_cases h1 : a = d <;> by_cases h2 : b.toList = e.toList <;> by_cases h3 : c = f <;> simp [h1,h2,h3]
theorem z54 {a b : ByteArray} (h : a.toList = b.toList) : a = b:=by
 rw [ByteArray.toList_eq,ByteArray.toList_eq] at h
 cases a; cases b; simp_all
theorem z1k {B : Nat} {a w : World} (h : Below B a w) (n : Nat) : Below B a (w.drewN n):=h.trans ⟨rfl,rfl,rfl,Nat.le_refl _,fun _ _ => rfl⟩
theorem z01 {a b : Bool} (h : a = b) : Ending.returned (.bool a) = .returned (.bool b):=by rw [h]
open Go.RowKit Go.Shelf
theorem z2l (s : ByteArray) (k : Nat) (h : k < s.size) : s[k]'h = s.data.toList[k]'(by simpa using h):=by simp; rfl
theorem z3b (s : ByteArray) : s.data.toList.length = s.size:=by simp
def z2v (l : List UInt8) : Bool:=decide (1 ≤ l.length) && decide (l.length ≤ 8) && (l.head?.map z3p == some true) && (l.drop 1).all z0a
def signB (l : List UInt8) : Bool:=[[124],[124,124],[38],[38,38],[59],[43],[60],[62],[95],[91],[93],[40],[41],[44],[33],[123],[125]].contains l
def z4g (l : List UInt8) : Bool:=z2v l && l != [116,114,117,101] && l != [102,97,108,115,101] && l != [111,111]
open Go.RowKit
def FT : Nat → Type
 | 0 => Empty
 | n + 1 => Int × ByteArray × List (FT n)
structure Spn where
 low : Int
 ls : Bool
 high : Int
 hs : Bool
 op : Bool
 deriving DecidableEq
def XT (m : Nat) : Nat → Type
 | 0 => Empty
 | n + 1 => Int × List (FT m) × List (XT m n) × Spn
def allF (so : Int → ByteArray → Nat → Bool) : (n : Nat) → FT n → Bool
 | 0,_ => true
 | n + 1,t => so t.1 t.2.1 t.2.2.length && t.2.2.all (allF so n)
def z0h (k : Int) : Nat:=if k = 4 then 1 else if k = 5 ∨ k = 6 then 2 else 0
def z04 (k : Int) (s : ByteArray) (l : Nat) : Bool:=decide (1 ≤ k) && decide (k ≤ 6) && (l == z0h k) && (decide (s.size = 0) || k == 3)
def inN (s : ByteArray) (names : List ByteArray) : Bool:=names.any fun x => s.toList == x.toList
def z0g (names : List ByteArray) (k : Int) (s : ByteArray) (_ : Nat) : Bool:=k != 3 || inN s names
def z1h {α : Type} (f : α → Int) (a : Int) (l : List α) : Int:=l.foldl (fun acc x => wrap64 (acc + f x)) a
theorem z2d {α : Type} (f : α → Int) (a : Int) (l : List α) (k : Nat) (h : k < l.length) : z1h f a (l.take (k + 1)) = wrap64 (z1h f a (l.take k) + f l[k]):=by
 unfold z1h
 rw [List.take_succ_eq_append_getElem h,List.foldl_append]
 rfl
theorem z6s {α : Type} (f : α → Int) (a : Int) (l : List α) : z1h f a (l.take l.length) = z1h f a l:=by rw [List.take_length]
def cntF : (n : Nat) → FT n → Int
 | 0,_ => 1
 | n + 1,t => z1h (cntF n) 1 t.2.2
def fmsC (n : Nat) (l : List (FT n)) : Int:=z1h (cntF n) 0 l
def z1c (seen : List ByteArray) : List ByteArray → Bool
 | [] => true
 | x :: r => !inN x seen && z4g x.data.toList && z1c (x :: seen) r
def z0r (l : List ByteArray) : Int:=if decide (8 < l.length) || !z1c [] l then 2 else 0
def fmlR (names : List ByteArray) (n : Nat) (f : FT n) : Int :=
 if z0r names ≠ 0 then 2 else if allF z04 n f = false then 8 else if 64 < fmsC n [f] then 160 else if allF (z0g names) n f = false then 161 else 0
def z2u (n : Int) : Bool:=decide (0 ≤ n) && decide (n < 288230376151711744)
def ivR (i : Spn) : Int :=
 if !z2u i.low || !z2u i.high || (i.op && (i.high != 0 || i.hs)) then 8
 else if !i.op && (decide (i.high < i.low) || (i.low == i.high && (i.ls || i.hs))) then 162 else 0
def allX {m : Nat} (so : Int → List (FT m) → Nat → Spn → Bool) : (n : Nat) → XT m n → Bool
 | 0,_ => true
 | n + 1,t => so t.1 t.2.1 t.2.2.1.length t.2.2.2 && t.2.2.1.all (allX so n)
def noSpan : Spn:=⟨0,false,0,false,false⟩
def z0m (k : Int) : Nat:=if k = 5 ∨ k = 6 then 1 else if k = 2 ∨ k = 3 ∨ k = 4 then 2 else 0
def z02 {m : Nat} (k : Int) (is : List (FT m)) (l : Nat) (i : Spn) : Bool :=
 decide (1 ≤ k) && decide (k ≤ 6) && (l == z0m k) && !(k == 6 && ivR i == 8) && !(k != 6 && i != noSpan) && (if k = 1 then (is.length == 1) && is.all (allF z04 m) else is.length == 0)
def cntX {m : Nat} (one : Int → List (FT m) → Int) : (n : Nat) → XT m n → Int
 | 0,_ => 1
 | n + 1,t => z1h (cntX one n) (one t.1 t.2.1) t.2.2.1
def oneX {m : Nat} (k : Int) (is : List (FT m)) : Int:=if k = 1 then fmsC m is else 1
def z1m {m : Nat} (n : Nat) (x : XT m n) : Int:=cntX oneX n x
def z12 {m : Nat} (names : List ByteArray) (_ : Int) (is : List (FT m)) (_ : Nat) (_ : Spn) : Bool:=is.all (allF (z0g names) m)
def z11 {m : Nat} (k : Int) (_ : List (FT m)) (_ : Nat) (i : Spn) : Bool:=k != 6 || ivR i == 0
def z0z {m : Nat} (names : List ByteArray) (n : Nat) (x : XT m n) : Int :=
 if z0r names ≠ 0 then 2 else if allX z02 n x = false then 8 else if 64 < z1m n x then 160 else if allX (z12 names) n x = false then 161 else if allX z11 n x = false then 162 else 0
def szL {α : Type} (f : α → Int → Int) (most : Int) : List α → Int → Int
 | [],n => n
 | x :: r,n => if n ≤ most then szL f most r (wrap64 (n + f x (wrap64 (most - n)))) else n
theorem z62 {α : Type} (f : α → Int → Int) (most : Int) (l : List α) (k : Nat) (n : Int) (h : k < l.length) (hn : n ≤ most) : szL f most (l.drop k) n = szL f most (l.drop (k + 1)) (wrap64 (n + f l[k] (wrap64 (most - n)))):=by
 rw [List.drop_eq_getElem_cons h,szL,if_pos hn]
theorem z5z {α : Type} (f : α → Int → Int) (most : Int) (l : List α) (n : Int) (hn : ¬ n ≤ most) : szL f most l n = n:=by
 cases l with
 | nil => rfl
 | cons x r => rw [szL,if_neg hn]
def z1x : (n : Nat) → FT n → Int → Int
 | 0,_,_ => 1
 | n + 1,t,most => szL (z1x n) most t.2.2 (wrap64 (1 + t.2.1.size))
def z2x {m : Nat} : (n : Nat) → XT m n → Int → Int
 | 0,_,_ => 1
 | n + 1,t,most => szL (z2x n) most t.2.2.1 (szL (z1x m) most t.2.1 1)
def bndF : (n : Nat) → FT n → Prop
 | 0,_ => True
 | n + 1,t => t.2.1.size ≤ 281474976710656 ∧ ∀ x ∈ t.2.2,bndF n x
def bndX {m : Nat} : (n : Nat) → XT m n → Prop
 | 0,_ => True
 | n + 1,t => (∀ x ∈ t.2.1,bndF m x) ∧ ∀ x ∈ t.2.2.1,bndX n x
open Go.RowKit Go.Shelf
def numB (l : List UInt8) : Bool:=decide (1 ≤ l.length) && z32 l
open Go.RowKit Go.Shelf
def kindB (l : List UInt8) : Int:=if z2v l then 1 else if numB l then 2 else if signB l then 3 else 0
open Go.RowKit Go.Shelf
theorem sign_row_fin : ∀ i : Fin 256,(z0n (UInt8.ofNat i.val) = true → z0a (UInt8.ofNat i.val) = false) ∧ signB [UInt8.ofNat i.val] = z0n (UInt8.ofNat i.val) ∧ (twin (UInt8.ofNat i.val) = (UInt8.ofNat i.val == 124 || UInt8.ofNat i.val == 38)) ∧ (twin (UInt8.ofNat i.val) = true → z0n (UInt8.ofNat i.val) = true) ∧ (z0n (UInt8.ofNat i.val) = true → z0l (UInt8.ofNat i.val) = false) ∧ (z0a (UInt8.ofNat i.val) = true → z0l (UInt8.ofNat i.val) = false):=by decide +kernel
theorem sign_row (b : UInt8) : (z0n b = true → z0a b = false) ∧ signB [b] = z0n b ∧ (twin b = (b == 124 || b == 38)) ∧ (twin b = true → z0n b = true) ∧ (z0n b = true → z0l b = false) ∧ (z0a b = true → z0l b = false):=by
 have:=sign_row_fin ⟨b.toNat,b.toNat_lt⟩
 simpa using this
theorem signB_two (b c : UInt8) : signB [b,c] = (twin b && c == b):=by
 rw [(sign_row b).2.2.1,Bool.eq_iff_iff]
 simp [signB]
 constructor
 ·rintro (⟨rfl,rfl⟩ | ⟨rfl,rfl⟩) <;> simp
 ·rintro ⟨rfl | rfl,rfl⟩ <;> simp
theorem signB_long (b c d : UInt8) (r : List UInt8) : signB (b :: c :: d :: r) = false:=by simp [signB]
theorem signB_cons (b : UInt8) (r : List UInt8) : signB (b :: r) = (z0n b && (r == [] || (twin b && r == [b]))):=by
 cases r with
 | nil => rw [(sign_row b).2.1]; simp
 | cons c r => cases r with
  | nil =>
   rw [signB_two]
   cases ht : twin b with
   | false => simp
   | true => rw [(sign_row b).2.2.2.1 ht]; simp
  | cons d r =>
   rw [signB_long]
   simp
theorem kindB_eq (l : List UInt8) : kindB l = z0o l:=by
 cases l with
 | nil => rfl
 | cons b r =>
  simp only [kindB,z0o]
  by_cases hb : z0a b = true
  ·have hs : signB (b :: r) = false:=by
    rw [signB_cons]
    cases h : z0n b with
    | false => rfl
    | true => rw [(sign_row b).1 h] at hb; cases hb
   rw [hs,if_pos hb]
   by_cases hl : z3p b = true
   ·have hn : numB (b :: r) = false:=by
     have : z33 b = false:=by
      simp only [z3p,z33,Bool.and_eq_true,decide_eq_true_eq] at hl ⊢
      rw [Bool.and_eq_false_iff]
      right; simp; omega
     simp [numB,z32,this]
    have hw : z2v (b :: r) = (decide (r.length + 1 ≤ 8) && r.all z0a):=by simp [z2v,hl]
    rw [hw,hn]
    simp only [z0k,hl,if_true]
    by_cases h8 : r.length + 1 ≤ 8
    ·simp [h8]
    ·simp [h8]
   ·have hl' : z3p b = false:=by simpa using hl
    have hw : z2v (b :: r) = false:=by simp [z2v,hl']
    rw [hw]
    simp only [z0k,hl',Bool.false_eq_true,if_false]
    have hnB : numB (b :: r) = z32 (b :: r):=by simp [numB]
    rw [hnB]
    cases hn : z32 (b :: r) with
    | false => simp
    | true =>
     have hall : r.all z0a = true:=by
      simp only [z32,Bool.and_eq_true,List.all_cons] at hn
      have h1:=hn.1.1.1.2
      rw [List.all_eq_true] at h1 ⊢
      intro x hx
      simp [z0a,h1 x hx]
     simp [hall]
  ·have hb' : z0a b = false:=by simpa using hb
   have hl' : z3p b = false:=by simp only [z0a,Bool.or_eq_false_iff] at hb'; exact hb'.1
   have hd' : z33 b = false:=by simp only [z0a,Bool.or_eq_false_iff] at hb'; exact hb'.2
   have hw : z2v (b :: r) = false:=by simp [z2v,hl']
   have hn : numB (b :: r) = false:=by simp [numB,z32,hd']
   rw [hw,hn,signB_cons,hb']
   rfl
open Go.RowKit Go.Shelf
attribute [local go_sem ↓] Go.wp_at_zero Go.wp_at_succ
open Go.RowKit Go.Shelf
attribute [local go_sem ↓] Go.wp_at_zero Go.wp_at_succ
def cutR (s : ByteArray) : List Tok × Int × Int :=
 if 4096 < s.size then ([],0,3) else match cut 0 s.data.toList with
  | .ok l => (l,0,0)
  | .bad a e => ([],a,e)
end Go.Proofs.YtockinpjfhhkoaaGreatDoor
