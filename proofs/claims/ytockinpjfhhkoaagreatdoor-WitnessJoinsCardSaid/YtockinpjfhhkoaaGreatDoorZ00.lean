/- How a text is cut into tokens, as a plain function of its bytes, and its laws: no program in sight. -/
import Derived.Lib.Strings
import Derived.Lib.ParseIntB
import Derived.Lib.ItoaNum
import Derived.Lib.ItoaLen
set_option maxRecDepth 100000
set_option maxHeartbeats 16000000
open List renaming getElem_cons_succ → J6
namespace Go.Proofs.YtockinpjfhhkoaaGreatDoor
def z7q (b : UInt8) : Bool:=decide (97 ≤ b.toNat) && decide (b.toNat ≤ 122)
def z5g (b : UInt8) : Bool:=decide (48 ≤ b.toNat) && decide (b.toNat ≤ 57)
def z14 (b : UInt8) : Bool:=b.toNat == 32 || b.toNat == 9 || b.toNat == 10 || b.toNat == 13
def z0o (b : UInt8) : Bool:=z7q b || z5g b
def z17 (b : UInt8) : Bool:=[124,38,59,43,60,62,95,91,93,40,41,44,33,123,125].contains b.toNat
def twin (b : UInt8) : Bool:=b.toNat == 124 || b.toNat == 38
def z2b (a : Nat) (l : List UInt8) : Nat:=l.foldl (fun n b => 10 * n + (b.toNat - 48)) a
theorem z1h (a : Nat) (b : UInt8) (r : List UInt8) : z2b a (b :: r) = z2b (10 * a + (b.toNat - 48)) r:=List.foldl_cons ..
def z4g (l : List UInt8) : Bool:=l.all z5g && decide (l.length ≤ 18) && (decide (l.length ≤ 1) || l.head? != some 48) && decide (z2b 0 l < 288230376151711744)
def z0y : List UInt8 → Except Int Int
 | [] => .error 151
 | b :: r => if z7q b then (if r.length + 1 ≤ 8 then .ok 1 else .error 152) else if z4g (b :: r) then .ok 2 else .error 151
structure Tok where
 kind : Int
 text : ByteArray
 place : Int
deriving DecidableEq
def bsOf (l : List UInt8) : ByteArray:=⟨l.toArray⟩
@[simp] theorem z5y (l : List UInt8) : (bsOf l).data.toList = l:=by simp [bsOf]
theorem bsOf_of (s : ByteArray) : bsOf s.data.toList = s:=by simp [bsOf]
theorem bsOf_inj {a b : List UInt8} (h : bsOf a = bsOf b) : a = b:=by rw [← z5y a,h,z5y]
inductive Res where
 | ok (l : List Tok)
 | bad (at_ : Nat) (e : Int)
deriving DecidableEq
def Res.cons (t : Tok) : Res → Res
 | .ok l => .ok (t :: l)
 | .bad a e => .bad a e
def Res.app (p : List Tok) : Res → Res
 | .ok l => .ok (p ++ l)
 | .bad a e => .bad a e
theorem Res.app_nil (r : Res) : Res.app [] r = r:=by cases r <;> rfl
theorem Res.app_cons (p : List Tok) (t : Tok) (r : Res) : Res.app p (Res.cons t r) = Res.app (p ++ [t]) r:=by cases r <;> simp [Res.app,Res.cons]
def z1k (l : List UInt8) : List UInt8:=l.takeWhile z0o
def cutS : Nat → Nat → List UInt8 → Res
 | _,_,[] => .ok []
 | k + 1,a,_ :: r => cutS k (a + 1) r
 | 0,a,b :: r =>
  if z0o b then
   match z0y (b :: z1k r) with
   | .error e => .bad a e
   | .ok k => Res.cons ⟨k,bsOf (b :: z1k r),a⟩ (cutS (z1k r).length (a + 1) r)
  else if z14 b then cutS 0 (a + 1) r
  else if z17 b then
   if twin b && r.head? == some b then Res.cons ⟨3,bsOf [b,b],a⟩ (cutS 1 (a + 1) r)
   else Res.cons ⟨3,bsOf [b],a⟩ (cutS 0 (a + 1) r)
  else .bad a 150
def cut (a : Nat) (l : List UInt8) : Res:=cutS 0 a l
theorem zas : ∀ (k a : Nat) (l : List UInt8),cutS k a l = cut (a + k) (l.drop k)
 | 0,a,l => by simp [cut]
 | k + 1,a,[] => by simp [cut,cutS]
 | k + 1,a,b :: r => by rw [cutS,zas k (a + 1) r]; simp; congr 1; omega
@[simp] theorem cut_nil (a : Nat) : cut a [] = .ok []:=rfl
theorem cut_row (a : Nat) (b : UInt8) (r : List UInt8) (h : z0o b = true) : cut a (b :: r) = match z0y (z1k (b :: r)) with
 | .error e => .bad a e
 | .ok k => Res.cons ⟨k,bsOf (z1k (b :: r)),a⟩ (cut (a + (z1k (b :: r)).length) ((b :: r).drop (z1k (b :: r)).length)):=by
 have h2 : z1k (b :: r) = b :: z1k r:=by simp [z1k,h]
 rw [h2,cut,cutS]
 simp only [h,if_true]
 cases z0y (b :: z1k r) with
 | error e => rfl
 | ok k => simp only [zas]; simp; congr 2; omega
theorem z5u (a : Nat) (b : UInt8) (r : List UInt8) (h : z0o b = false) (hb : z14 b = true) : cut a (b :: r) = cut (a + 1) r:=by
 simp [cut,cutS,h,hb]
theorem cut_two (a : Nat) (b : UInt8) (r : List UInt8) (hb : twin b = true) : cut a (b :: b :: r) = Res.cons ⟨3,bsOf [b,b],a⟩ (cut (a + 2) r):=by
 have h : z0o b = false ∧ z14 b = false ∧ z17 b = true:=by
  simp only [twin,Bool.or_eq_true,beq_iff_eq] at hb
  rcases hb with hb | hb <;> simp [z0o,z7q,z5g,z14,z17,hb]
 rw [cut,cutS]
 simp [h,hb,zas]
theorem z93 (a : Nat) (b : UInt8) (r : List UInt8) (h : z0o b = false) (hb : z14 b = false) (hs : z17 b = true) (ht : (twin b && r.head? == some b) = false) : cut a (b :: r) = Res.cons ⟨3,bsOf [b],a⟩ (cut (a + 1) r):=by
 rw [cut,cutS,h,hb,hs,ht]
 rfl
theorem zao (a : Nat) (b : UInt8) (r : List UInt8) (h : z0o b = false) (hb : z14 b = false) (hs : z17 b = false) : cut a (b :: r) = .bad a 150:=by
 simp [cut,cutS,h,hb,hs]
theorem z3b (b : UInt8) (r : List UInt8) (h : z0o b = true) : z1k (b :: r) = b :: z1k r:=by simp [z1k,h]
def z16 : List UInt8 → Int
 | [] => 0
 | b :: r =>
  if z0o b then (if r.all z0o then (match z0y (b :: r) with | .ok k => k | .error _ => 0) else 0)
  else if z17 b && (r == [] || (twin b && r == [b])) then 3 else 0
def apart (t rest : List UInt8) : Bool :=
 match t,rest with
 | _,[] => true
 | [],_ => true
 | a :: r,h :: _ => if z0o a then !z0o h else !(r == [] && twin a && h == a)
theorem z9d (t rest : List UInt8) (ht : t.all z0o = true) (hr : rest.head?.map z0o ≠ some true) : z1k (t ++ rest) = t:=by
 induction t with
 | nil => cases rest with
  | nil => rfl
  | cons h r => simp at hr; simp [z1k,hr]
 | cons a t ih =>
  simp only [List.all_cons,Bool.and_eq_true] at ht
  rw [List.cons_append,z3b _ _ ht.1,ih ht.2]
theorem za7 {l : List UInt8} {k : Int} (h : z0y l = .ok k) : k = 1 ∨ k = 2:=by
 cases l with
 | nil => simp [z0y] at h
 | cons b r =>
  simp only [z0y] at h
  split at h
  ·split at h <;> simp at h; exact .inl h.symm
  ·split at h <;> simp at h; exact .inr h.symm
theorem cut_tok (a : Nat) (t rest : List UInt8) (hk : z16 t ≠ 0) (hr : apart t rest = true) : cut a (t ++ rest) = Res.cons ⟨z16 t,bsOf t,a⟩ (cut (a + t.length) rest):=by
 cases t with
 | nil => exact absurd rfl hk
 | cons b r =>
  by_cases hb : z0o b = true
  ·simp only [z16,hb,if_true] at hk ⊢
   by_cases hall : r.all z0o = true
   ·simp only [hall,if_true] at hk ⊢
    have hro : z1k ((b :: r) ++ rest) = b :: r:=by
     refine z9d _ _ (by simp [hb]; simpa using hall) ?_
     cases rest with
     | nil => simp
     | cons h s => simp [apart,hb] at hr; simp [hr]
    have:=cut_row a b (r ++ rest) hb
    rw [← List.cons_append,hro] at this
    rw [this]
    cases hrk : z0y (b :: r) with
    | error e => rw [hrk] at hk; exact absurd rfl hk
    | ok k => simp
   ·simp [hall] at hk
  ·have hb' : z0o b = false:=by simpa using hb
   simp only [z16,hb',Bool.false_eq_true,if_false] at hk ⊢
   by_cases hs : z17 b = true
   ·have hbl : z14 b = false:=by
     simp only [z17,List.contains_eq_mem,List.mem_cons,List.not_mem_nil,or_false,decide_eq_true_eq] at hs
     simp only [z14]
     rcases hs with h|h|h|h|h|h|h|h|h|h|h|h|h|h|h <;> simp [h]
    by_cases h1 : r = []
    ·subst h1
     simp only [hs,List.singleton_append]
     rw [z93 a b rest hb' hbl hs ?_]
     ·rfl
     ·cases rest with
      | nil => simp
      | cons h s => simp [apart,hb'] at hr; by_cases ht : twin b = true <;> simp_all
    ·by_cases h2 : (twin b && r == [b]) = true
     ·simp only [Bool.and_eq_true,beq_iff_eq] at h2
      obtain ⟨h3,rfl⟩:=h2
      simp only [hs,h3]
      simpa using cut_two a b rest h3
     ·exfalso; apply hk; rw [if_neg]; simp [hs,h1]; simpa using h2
   ·simp [hs] at hk
theorem kindOf_row {b : UInt8} {r : List UInt8} {k : Int} (hb : z0o b = true) (h : z0y (z1k (b :: r)) = .ok k) : z16 (z1k (b :: r)) = k:=by
 have hall : (z1k r).all z0o = true:=by
  exact List.all_takeWhile
 rw [z3b b r hb] at h ⊢
 simp [z16,hb,hall,h]
theorem rowOf_drop (l : List UInt8) : l = z1k l ++ l.drop (z1k l).length:=by
 induction l with
 | nil => rfl
 | cons b r ih =>
  by_cases hb : z0o b = true
  ·rw [z3b b r hb]
   simpa using ih
  ·simp [z1k,hb]
theorem rowOf_next (l : List UInt8) : ((l.drop (z1k l).length).head?.map z0o) ≠ some true:=by
 induction l with
 | nil => simp [z1k]
 | cons b r ih =>
  by_cases hb : z0o b = true
  ·rw [z3b b r hb]
   simpa using ih
  ·simp [z1k,hb]
theorem cut_ways (b : UInt8) (r : List UInt8) :
 (z14 b = true ∧ z0o b = false ∧ ∀ a,cut a (b :: r) = cut (a + 1) r) ∨
 (∃ e,∀ a,cut a (b :: r) = .bad a e) ∨
 (∃ t rest,t ≠ [] ∧ b :: r = t ++ rest ∧ z16 t ≠ 0 ∧ apart t rest = true ∧ ∀ a,cut a (b :: r) = Res.cons ⟨z16 t,bsOf t,a⟩ (cut (a + t.length) rest)):=by
 by_cases hb : z0o b = true
 ·right
  cases hk : z0y (z1k (b :: r)) with
  | error e => exact .inl ⟨e,fun a => by rw [cut_row a b r hb,hk]⟩
  | ok k =>
   right
   have h1:=kindOf_row hb hk
   refine ⟨z1k (b :: r),(b :: r).drop (z1k (b :: r)).length,by rw [z3b b r hb]; simp,rowOf_drop _,by rw [h1]; rcases za7 hk with h | h <;> simp [h],?_,fun a => by rw [cut_row a b r hb,hk,h1]⟩
   have:=rowOf_next (b :: r)
   cases hd : (b :: r).drop (z1k (b :: r)).length with
   | nil => rw [z3b b r hb]; rfl
   | cons h s =>
    rw [hd] at this
    rw [z3b b r hb]
    simp at this
    simp [apart,hb,this]
 ·have hb' : z0o b = false:=by simpa using hb
  by_cases hbl : z14 b = true
  ·exact .inl ⟨hbl,hb',fun a => z5u a b r hb' hbl⟩
  ·have hbl' : z14 b = false:=by simpa using hbl
   right
   by_cases hs : z17 b = true
   ·right
    by_cases ht : (twin b && r.head? == some b) = true
    ·simp only [Bool.and_eq_true,beq_iff_eq] at ht
     obtain ⟨ht,hh⟩:=ht
     cases r with
     | nil => simp at hh
     | cons c r =>
      simp at hh
      subst hh
      have hk : z16 [c,c] = 3:=by simp [z16,hb',hs,ht]
      refine ⟨[c,c],r,by simp,rfl,by simp [hk],?_,fun a => by rw [cut_two a c r ht,hk]; rfl⟩
      cases r <;> simp [apart,hb']
    ·have ht' : (twin b && r.head? == some b) = false:=by simpa using ht
     have hk : z16 [b] = 3:=by simp [z16,hb',hs]
     refine ⟨[b],r,by simp,rfl,by simp [hk],?_,fun a => by rw [z93 a b r hb' hbl' hs ht',hk]; rfl⟩
     cases r with
     | nil => rfl
     | cons c s =>
      simp at ht'
      by_cases ht2 : twin b = true
      ·simp [apart,hb',ht2,ht' ht2]
      ·simp [apart,hb',ht2]
   ·exact .inl ⟨150,fun a => zao a b r hb' hbl' (by simpa using hs)⟩
theorem zaq {P : List UInt8 → Prop} (h0 : P [])
 (h1 : ∀ b r,z14 b = true → z0o b = false → (∀ a,cut a (b :: r) = cut (a + 1) r) → P r → P (b :: r))
 (h2 : ∀ b r e,(∀ a,cut a (b :: r) = .bad a e) → P (b :: r))
 (h3 : ∀ t rest,t ≠ [] → z16 t ≠ 0 → apart t rest = true → (∀ a,cut a (t ++ rest) = Res.cons ⟨z16 t,bsOf t,a⟩ (cut (a + t.length) rest)) → P rest → P (t ++ rest)) (l : List UInt8) : P l:=by
 generalize hn : l.length = n
 induction n using Nat.strongRecOn generalizing l with
 | ind n ih =>
  cases l with
  | nil => exact h0
  | cons b r =>
   rcases cut_ways b r with ⟨x,y,z⟩ | ⟨e,z⟩ | ⟨t,rest,x,y,z,u,v⟩
   ·exact h1 b r x y z (ih r.length (by simp at hn; omega) r rfl)
   ·exact h2 b r e z
   ·rw [y] at v ⊢
    refine h3 t rest x z u v (ih rest.length ?_ rest rfl)
    have:=congrArg List.length y
    have hp : 0 < t.length:=List.length_pos_iff.2 x
    rw [List.length_append] at this
    omega
def Tok.shift (d : Nat) (t : Tok) : Tok:={ t with place:=t.place + d }
def Res.shift (d : Nat) : Res → Res
 | .ok l => .ok (l.map (Tok.shift d))
 | .bad a e => .bad (a + d) e
theorem Res.shift_cons (d : Nat) (t : Tok) (r : Res) : (Res.cons t r).shift d = Res.cons (t.shift d) (r.shift d):=by cases r <;> rfl
theorem cut_shift (d : Nat) (l : List UInt8) : ∀ a,cut (a + d) l = (cut a l).shift d:=by
 induction l using zaq with
 | h0 => intro a; rfl
 | h1 b r _ _ h ih => intro a; rw [h,h,← ih (a + 1)]; congr 1; omega
 | h2 b r e h => intro a; rw [h,h]; rfl
 | h3 t rest _ _ _ h ih =>
  intro a
  rw [h,h,Res.shift_cons,← ih (a + t.length)]
  have : a + d + t.length = a + t.length + d:=by omega
  rw [this]
  simp [Tok.shift]
theorem apart_take (t rest : List UInt8) (m : Nat) (h : apart t rest = true) : apart t (rest.take m) = true:=by
 cases m with
 | zero => cases t <;> simp [apart]
 | succ m => cases rest with
  | nil => simpa using h
  | cons a r => cases t with
   | nil => simp [apart]
   | cons b s => simpa [apart] using h
theorem zap (l : List UInt8) : ∀ a ts,cut a l = .ok ts → ∀ n,(h : n < ts.length) → ∃ k,(ts[n]).place = (a + k : Nat) ∧ k < l.length ∧ cut a (l.take k) = .ok (ts.take n) ∧ cut (a + k) (l.drop k) = .ok (ts.drop n):=by
 induction l using zaq with
 | h0 => intro a ts h n hn; simp at h; subst h; simp at hn
 | h1 b r hb hr h ih =>
  intro a ts hc n hn
  rw [h] at hc
  obtain ⟨k,e1,e2,e3,e4⟩:=ih (a + 1) ts hc n hn
  refine ⟨k + 1,by rw [e1]; congr 1; omega,by simp; omega,?_,?_⟩
  ·rw [List.take_succ_cons,z5u a b _ hr hb,e3]
  ·rw [List.drop_succ_cons,← e4]; congr 1; omega
 | h2 b r e h => intro a ts hc; rw [h] at hc; cases hc
 | h3 t rest hne hk hap h ih =>
  intro a ts hc n hn
  rw [h] at hc
  cases hr : cut (a + t.length) rest with
  | bad p e => rw [hr] at hc; cases hc
  | ok us =>
   rw [hr] at hc
   simp only [Res.cons,Res.ok.injEq] at hc
   subst hc
   cases n with
   | zero => exact ⟨0,by simp,by simp; have:=List.length_pos_iff.2 hne; omega,by simp,by simp [h,hr,Res.cons]⟩
   | succ n =>
    obtain ⟨k,e1,e2,e3,e4⟩:=ih (a + t.length) us hr n (by simpa using hn)
    refine ⟨t.length + k,by simp only [J6]; rw [e1]; congr 1; omega,by simp; omega,?_,?_⟩
    ·rw [List.take_append,List.take_of_length_le (by omega),show t.length + k - t.length = k from by omega,cut_tok a t _ hk (apart_take t rest k hap),e3]
     rfl
    ·rw [List.drop_append,List.drop_of_length_le (by omega),show t.length + k - t.length = k from by omega,List.nil_append,List.drop_succ_cons,← e4]
     congr 1; omega
theorem z2w (l : List UInt8) : ∀ a p e,cut a l = .bad p e → ∃ k,p = a + k ∧ k < l.length ∧ (∃ ts,cut a (l.take k) = .ok ts) ∧ cut p (l.drop k) = .bad p e:=by
 induction l using zaq with
 | h0 => intro a p e h; simp at h
 | h1 b r hb hr h ih =>
  intro a p e hc
  rw [h] at hc
  obtain ⟨k,e1,e2,⟨ts,e3⟩,e4⟩:=ih (a + 1) p e hc
  exact ⟨k + 1,by omega,by simp; omega,⟨ts,by rw [List.take_succ_cons,z5u a b _ hr hb,e3]⟩,by simpa using e4⟩
 | h2 b r e h =>
  intro a p e' hc
  rw [h] at hc
  cases hc
  exact ⟨0,rfl,by simp,⟨[],rfl⟩,by simpa using h a⟩
 | h3 t rest hne hk hap h ih =>
  intro a p e hc
  rw [h] at hc
  cases hr : cut (a + t.length) rest with
  | ok us => rw [hr] at hc; cases hc
  | bad p' e' =>
   rw [hr] at hc
   simp only [Res.cons] at hc
   cases hc
   obtain ⟨k,e1,e2,⟨ts,e3⟩,e4⟩:=ih _ _ _ hr
   refine ⟨t.length + k,by omega,by simp; omega,⟨⟨z16 t,bsOf t,a⟩ :: ts,?_⟩,?_⟩
   ·rw [List.take_append,List.take_of_length_le (by omega),show t.length + k - t.length = k from by omega,cut_tok a t _ hk (apart_take t rest k hap),e3]
    rfl
   ·rw [List.drop_append,List.drop_of_length_le (by omega),show t.length + k - t.length = k from by omega,List.nil_append,e4]
/-! ## Gluing -/
theorem cut_kinds (l : List UInt8) : ∀ a ts,cut a l = .ok ts → ∀ t ∈ ts,z16 t.text.data.toList = t.kind ∧ t.kind ≠ 0 ∧ 0 ≤ t.place:=by
 induction l using zaq with
 | h0 => intro a ts h; simp at h; subst h; simp
 | h1 b r hb hr h ih => intro a ts hc; rw [h] at hc; exact ih _ _ hc
 | h2 b r e h => intro a ts hc; rw [h] at hc; cases hc
 | h3 t rest hne hk hap h ih =>
  intro a ts hc
  rw [h] at hc
  cases hr : cut (a + t.length) rest with
  | bad p e => rw [hr] at hc; cases hc
  | ok us =>
   rw [hr] at hc
   simp only [Res.cons,Res.ok.injEq] at hc
   subst hc
   intro u hu
   rcases List.mem_cons.1 hu with rfl | hu
   ·exact ⟨by simp,hk,by simp⟩
   ·exact ih _ _ hr u hu
theorem cut_single (t : List UInt8) (ts : List Tok) : (cut 0 t = .ok ts ∧ ts.length = 1 ∧ ts.head?.map (·.text) = some (bsOf t)) ↔ (z16 t ≠ 0 ∧ ts = [⟨z16 t,bsOf t,0⟩]):=by
 constructor
 ·rintro ⟨h,h1,h2⟩
  obtain ⟨x,rfl⟩ : ∃ x,ts = [x]:=List.length_eq_one_iff.1 h1
  simp at h2
  have hk:=cut_kinds t 0 [x] h x (by simp)
  rw [h2,z5y] at hk
  have:=cut_tok 0 t [] (by rw [hk.1]; exact hk.2.1) (by cases t <;> rfl)
  rw [List.append_nil,h] at this
  simp only [cut_nil,Res.cons,Res.ok.injEq] at this
  exact ⟨by rw [hk.1]; exact hk.2.1,by simpa using this⟩
 ·rintro ⟨h,rfl⟩
  have:=cut_tok 0 t [] h (by cases t <;> rfl)
  rw [List.append_nil] at this
  exact ⟨by simpa [Res.cons] using this,rfl,by simp⟩
theorem digVal_snoc' (l : List UInt8) (c : UInt8) : ∀ a,z2b a (l ++ [c]) = 10 * z2b a l + (c.toNat - 48):=by
 induction l with
 | nil => intro a; rfl
 | cons b r ih => intro a; rw [List.cons_append,z1h,z1h,ih]
theorem digVal_ge (l : List UInt8) : ∀ a,a ≤ z2b a l:=by
 induction l with
 | nil => intro a; exact Nat.le_refl _
 | cons b r ih =>
  intro a
  rw [z1h]
  have:=ih (10 * a + (b.toNat - 48))
  omega
theorem parse_ok (M : Nat) (l : List UInt8) : ∀ a n,Lib.parseUintM M a l = .ok n → l.all z5g = true ∧ n = z2b a l:=by
 induction l with
 | nil => intro a n h; simp only [Lib.parseUintM,Lib.NumEnd.ok.injEq] at h; exact ⟨rfl,h.symm⟩
 | cons b r ih =>
  intro a n h
  simp only [Lib.parseUintM] at h
  split at h
  ·rename_i hd
   split at h
   ·cases h
   ·split at h
    ·cases h
    ·obtain ⟨h1,h2⟩:=ih _ _ h
     refine ⟨?_,?_⟩
     ·simp only [List.all_cons,h1,z5g,hd.1,hd.2]; rfl
     ·rw [h2,z1h]; congr 1; omega
  ·cases h
theorem parse_small (l : List UInt8) : ∀ a,l.all z5g = true → z2b a l < 288230376151711744 → Lib.parseUintM 4611686018427387903 a l = .ok (z2b a l):=by
 induction l with
 | nil => intro a _ _; rfl
 | cons b r ih =>
  intro a h hv
  simp only [List.all_cons,Bool.and_eq_true] at h
  have hd:=h.1
  simp only [z5g,Bool.and_eq_true,decide_eq_true_eq] at hd
  rw [z1h] at hv ⊢
  have h1:=digVal_ge r (10 * a + (b.toNat - 48))
  simp only [Lib.parseUintM]
  rw [if_pos hd,if_neg (by omega),if_neg (by omega),show a * 10 + (b.toNat - 48) = 10 * a + (b.toNat - 48) by omega]
  exact ih _ h.2 hv
theorem digVal_lt' (l : List UInt8) (h : l.all z5g = true) : ∀ a,z2b a l < (a + 1) * 10 ^ l.length:=by
 induction l with
 | nil => intro a; simp [z2b]
 | cons b r ih =>
  intro a
  simp only [List.all_cons,Bool.and_eq_true] at h
  have h1:=h.1
  simp only [z5g,Bool.and_eq_true,decide_eq_true_eq] at h1
  have:=ih h.2 (10 * a + (b.toNat - 48))
  rw [z1h,List.length_cons,Nat.pow_succ]
  refine Nat.lt_of_lt_of_le this ?_
  calc (10 * a + (b.toNat - 48) + 1) * 10 ^ r.length ≤ ((a + 1) * 10) * 10 ^ r.length:=Nat.mul_le_mul_right _ (by omega)
   _ = (a + 1) * (10 ^ r.length * 10):=by rw [Nat.mul_assoc,Nat.mul_comm 10]
theorem digVal_lead (l : List UInt8) : ∀ a,a * 10 ^ l.length ≤ z2b a l:=by
 induction l with
 | nil => intro a; simp [z2b]
 | cons b r ih =>
  intro a
  rw [z1h,List.length_cons,Nat.pow_succ]
  refine Nat.le_trans ?_ (ih _)
  calc a * (10 ^ r.length * 10) = (10 * a) * 10 ^ r.length:=by rw [Nat.mul_comm (10 ^ r.length),← Nat.mul_assoc,Nat.mul_comm a]
   _ ≤ _:=Nat.mul_le_mul_right _ (by omega)
theorem dec_of_digits (l : List UInt8) (hne : l ≠ []) (h : l.all z5g = true) (hz : l.length ≤ 1 ∨ l.head? ≠ some 48) : Lib.decDigits (z2b 0 l) = l:=by
 generalize hn : l.length = n
 induction n using Nat.strongRecOn generalizing l with
 | ind n ih =>
  rcases List.eq_nil_or_concat l with rfl | ⟨p,c,rfl⟩
  ·exact absurd rfl hne
  ·rw [List.concat_eq_append] at *
   rw [digVal_snoc']
   simp only [List.all_append,List.all_cons,List.all_nil,Bool.and_true,Bool.and_eq_true] at h
   have hc:=h.2
   simp only [z5g,Bool.and_eq_true,decide_eq_true_eq] at hc
   have hb : UInt8.ofNat (48 + (c.toNat - 48)) = c:=by
    have : 48 + (c.toNat - 48) = c.toNat:=by omega
    rw [this]; simp
   cases p with
   | nil =>
    have : z2b 0 [] = 0:=rfl
    rw [this,Nat.mul_zero,Nat.zero_add,Lib.decDigits,dif_pos (by omega),hb]
    rfl
   | cons b r =>
    have hh : b ≠ 48:=by
     rcases hz with hz | hz
     ·simp at hz
     ·simpa using hz
    have hbd:=h.1
    simp only [List.all_cons,Bool.and_eq_true] at hbd
    have hbd1:=hbd.1
    simp only [z5g,Bool.and_eq_true,decide_eq_true_eq] at hbd1
    have hb48 : b.toNat ≠ 48:=fun e => hh (UInt8.toNat.inj e)
    have hpos : 1 ≤ z2b 0 (b :: r):=by
     rw [z1h]
     have:=digVal_ge r (10 * 0 + (b.toNat - 48))
     omega
    have hi:=ih (b :: r).length (by rw [← hn]; simp) (b :: r) (by simp) h.1 (.inr (by simpa using hh)) rfl
    rw [Lib.decDigits,dif_neg (by omega),show (10 * z2b 0 (b :: r) + (c.toNat - 48)) / 10 = z2b 0 (b :: r) by omega,show (10 * z2b 0 (b :: r) + (c.toNat - 48)) % 10 = c.toNat - 48 by omega,hi,hb]
theorem numOk_iff (l : List UInt8) (hne : l ≠ []) : z4g l = true ↔ ∃ n,Lib.parseUintM 4611686018427387903 0 l = .ok n ∧ n < 288230376151711744 ∧ Lib.decDigits n = l:=by
 constructor
 ·intro h
  simp only [z4g,Bool.and_eq_true,Bool.or_eq_true,decide_eq_true_eq,bne_iff_ne] at h
  obtain ⟨⟨⟨h1,_⟩,h3⟩,h4⟩:=h
  exact ⟨_,parse_small l 0 h1 h4,h4,dec_of_digits l hne h1 h3⟩
 ·rintro ⟨n,h1,h2,h3⟩
  obtain ⟨hall,rfl⟩:=parse_ok _ _ _ _ h1
  have hz : l.length ≤ 1 ∨ l.head? ≠ some 48:=by
   cases l with
   | nil => exact absurd rfl hne
   | cons b r =>
    by_cases h : r = []
    ·subst h; left; simp
    ·right
     intro hb
     simp only [List.head?_cons,Option.some.injEq] at hb
     subst hb
     have e : z2b 0 (48 :: r) = z2b 0 r:=by rw [z1h]; rfl
     rw [e] at h3
     simp only [List.all_cons,Bool.and_eq_true] at hall
     have hlt:=digVal_lt' r hall.2 0
     have hr : 1 ≤ r.length:=List.length_pos_iff.2 h
     have hl:=congrArg List.length h3
     rw [Lib.decDigits_length,List.length_cons] at hl
     -- a number below 10 ^ r.length has at most r.length digits
     have hnd : Lib.nDigits (z2b 0 r) ≤ r.length:=by
      rw [Nat.zero_add,Nat.one_mul] at hlt
      have : ∀ k u,1 ≤ k → u < 10 ^ k → Lib.nDigits u ≤ k:=by
       intro k
       induction k with
       | zero => intro u h; omega
       | succ k ih =>
        intro u _ hu
        by_cases h10 : u < 10
        ·rw [Lib.nDigits_small h10]; omega
        ·rw [Lib.nDigits_big h10]
         have hk : 1 ≤ k:=by
          rcases Nat.eq_zero_or_pos k with rfl | hk
          ·simp at hu; omega
          ·exact hk
         have:=ih (u / 10) hk (by rw [Nat.pow_succ] at hu; omega)
         omega
      exact this _ _ hr hlt
     omega
  have hlen : l.length ≤ 18:=by
   rcases hz with hz | hz
   ·omega
   ·cases l with
    | nil => simp
    | cons b r =>
     have hb48 : b ≠ 48:=by simpa using hz
     have hbt : b.toNat ≠ 48:=fun e => hb48 (UInt8.toNat.inj e)
     simp only [List.all_cons,Bool.and_eq_true] at hall
     have hd:=hall.1
     simp only [z5g,Bool.and_eq_true,decide_eq_true_eq] at hd
     rw [z1h] at h2
     have h5:=digVal_lead r (10 * 0 + (b.toNat - 48))
     have h6 : 10 ^ r.length ≤ (10 * 0 + (b.toNat - 48)) * 10 ^ r.length:=Nat.le_mul_of_pos_left _ (by omega)
     have h7 : 10 ^ r.length < 10 ^ 18:=by
      refine Nat.lt_of_le_of_lt (Nat.le_trans h6 h5) (Nat.lt_of_lt_of_le h2 (by decide))
     have h8:=(Nat.pow_lt_pow_iff_right (by decide : 1 < 10)).1 h7
     simp only [List.length_cons]; omega
  simp only [z4g,Bool.and_eq_true,Bool.or_eq_true,decide_eq_true_eq,bne_iff_ne]
  exact ⟨⟨⟨hall,hlen⟩,hz⟩,h2⟩
end Go.Proofs.YtockinpjfhhkoaaGreatDoor
