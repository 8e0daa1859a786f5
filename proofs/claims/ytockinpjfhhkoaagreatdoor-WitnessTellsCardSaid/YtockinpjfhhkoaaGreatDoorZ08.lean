/- Formulas and expressions of tokens, in Lean: what layer 17 computes of a text's tokens. No program. -/
import Derived.Test.YtockinpjfhhkoaaGreatDoorZ01
import Derived.Test.YtockinpjfhhkoaaGreatDoorZ00
import Derived.Test.YtockinpjfhhkoaaGreatDoorZ03
import Derived.Test.YtockinpjfhhkoaaGreatDoorZ06
import Derived.Test.YtockinpjfhhkoaaGreatDoorZ07
set_option maxRecDepth 100000
set_option maxHeartbeats 16000000
namespace Go.Proofs.YtockinpjfhhkoaaGreatDoor
open Go.RowKit
inductive F where
 | mk (k : Int) (s : ByteArray) (of : List F)
inductive X where
 | mk (k : Int) (is : List F) (of : List X) (i : Spn)
def toF : (n : Nat) → FT n → F
 | 0,t => nomatch t
 | n + 1,t => .mk t.1 t.2.1 (t.2.2.map (toF n))
def toX {m : Nat} : (n : Nat) → XT m n → X
 | 0,t => nomatch t
 | n + 1,t => .mk t.1 (t.2.1.map (toF m)) (t.2.2.1.map (toX n)) t.2.2.2
/-! ### The parser -/
open Go.RowKit
def mayP (a : Int × Int) : Bool:=mayQ a.1 a.2
def z0f (a b : Int × Int) : Bool:=mayP a && mayP b && ltQ a.1 a.2 b.1 b.2
def z1i (n : Int) : Int × Int:=(n,1)
def z1l (hold : Int → Bool) (t u : Int × Int) : Int → List (Int × Int) → Option Int
 | at_,[] => some at_
 | at_,s :: r => if z0f (z1i at_) u && z0f t (z1i (at_ + s.1)) && !hold s.2 then none else z1l hold t u (at_ + s.1) r
def z5f (hold : Int → Bool) (l : List (Int × Int)) (t u : Int × Int) : Bool :=
 z0f t u && !z0f t (z1i 0) && (match z1l hold t u 0 l with | none => false | some e => !z0f (z1i e) u)
def z1r (hold : Int → Bool) (t u : Int × Int) : Int → List (Int × Int) → Bool
 | _,[] => true
 | at_,s :: r => !(ltQ at_ 1 u.1 u.2 && ltQ t.1 t.2 (at_ + s.1) 1 && !hold s.2) && z1r hold t u (at_ + s.1) r
def sumG (at_ : Int) (l : List (Int × Int)) : Int:=l.foldl (fun a s => a + s.1) at_
def z5x (hold : Int → Bool) (l : List (Int × Int)) (t u : Int × Int) : Bool :=
 ltQ t.1 t.2 u.1 u.2 && !ltQ t.1 t.2 0 1 && z1r hold t u 0 l && !ltQ (sumG 0 l) 1 u.1 u.2
theorem z26 {n : Int} (h : -2305843009213693952 ≤ n ∧ n ≤ 2305843009213693952) : mayP (z1i n) = true:=by
 unfold mayP mayQ z1i
 dsimp only
 rw [Int.ediv_one,Int.emod_one]
 have h1 : (Nat.gcd n.natAbs (1 : Int).natAbs == 1) = true:=by simp
 rw [h1]
 simp
 omega
theorem atom_go (hold : Int → Bool) {t u : Int × Int} (ht : mayP t = true) (hu : mayP u = true) : ∀ (l : List (Int × Int)) (at_ : Int),(∀ s ∈ l,0 ≤ s.1) → 0 ≤ at_ → sumG at_ l ≤ 2305843009213693952 →
 (z1l hold t u at_ l = if z1r hold t u at_ l then some (sumG at_ l) else none)
 | [],at_,_,_,_ => rfl
 | s :: r,at_,hp,h0,hs => by
  have h1:=hp s (by simp)
  have hr : ∀ x ∈ r,0 ≤ x.1:=fun x hx => hp x (by simp [hx])
  have hs' : sumG (at_ + s.1) r ≤ 2305843009213693952:=hs
  have mono : ∀ (l : List (Int × Int)) (a : Int),(∀ x ∈ l,0 ≤ x.1) → a ≤ sumG a l:=by
   intro l
   induction l with
   | nil => intro a _; exact Int.le_refl a
   | cons x l ih =>
    intro a h
    have:=ih (a + x.1) fun y hy => h y (by simp [hy])
    have hx:=h x (by simp)
    show a ≤ sumG (a + x.1) l
    omega
  have hm:=mono r (at_ + s.1) hr
  have m1 : mayP (z1i at_) = true:=z26 (by omega)
  have m2 : mayP (z1i (at_ + s.1)) = true:=z26 (by omega)
  have e1 : z0f (z1i at_) u = ltQ at_ 1 u.1 u.2:=by unfold z0f; rw [m1,hu]; rfl
  have e2 : z0f t (z1i (at_ + s.1)) = ltQ t.1 t.2 (at_ + s.1) 1:=by unfold z0f; rw [m2,ht]; rfl
  rw [z1l,z1r,e1,e2,atom_go hold ht hu r (at_ + s.1) hr (by omega) hs']
  show _ = if _ then some (sumG (at_ + s.1) r) else none
  cases ltQ at_ 1 u.1 u.2 <;> cases ltQ t.1 t.2 (at_ + s.1) 1 <;> cases hold s.2 <;> simp
theorem atom_same (hold : Int → Bool) {t u : Int × Int} (ht : mayP t = true) (hu : mayP u = true) (l : List (Int × Int)) (hp : ∀ s ∈ l,0 ≤ s.1) (h0 : 0 ≤ sumG 0 l) (hs : sumG 0 l ≤ 2305843009213693952) : z5f hold l t u = z5x hold l t u:=by
 have e1 : z0f t u = ltQ t.1 t.2 u.1 u.2:=by unfold z0f; rw [ht,hu]; rfl
 have e2 : z0f t (z1i 0) = ltQ t.1 t.2 0 1:=by unfold z0f; rw [z26 (by omega),ht]; rfl
 have e3 : z0f (z1i (sumG 0 l)) u = ltQ (sumG 0 l) 1 u.1 u.2:=by unfold z0f; rw [z26 (by omega),hu]; rfl
 unfold z5f z5x
 rw [atom_go hold ht hu l 0 hp (by omega) hs,e1,e2]
 cases z1r hold t u 0 l
 ·simp
 ·simp [e3]
def z40 {α : Type} (shows : Int × Int → Int × Int → α → Bool) (u : Int × Int) : Int × Int → List (Int × Int) → List α → Bool
 | t,[],[y] => z0f t u && shows t u y
 | t,a :: r,y :: z => z0f t a && shows t a y && z40 shows u a r z
 | _,_,_ => false
def z23 : List (Int × Int) → Bool
 | [] => true
 | [a] => mayP a
 | a :: b :: r => mayP a && ltQ a.1 a.2 b.1 b.2 && z23 (b :: r)
def rowD {α : Type} (shows : Int × Int → Int × Int → α → Bool) : List (Int × Int) → List α → Bool
 | a :: b :: r,y :: z => shows a b y && rowD shows (b :: r) z
 | _,[] => true
 | _,_ => true
theorem z3j : ∀ {l : List (Int × Int)},z23 l = true → ∀ a ∈ l,mayP a = true
 | [],_,a,ha => by simp at ha
 | [b],h,a,ha => by simp at ha; rw [ha]; exact h
 | b :: c :: r,h,a,ha => by
  rw [z23] at h
  simp only [Bool.and_eq_true] at h
  rcases List.mem_cons.1 ha with rfl | ha
  ·exact h.1.1
  ·exact z3j h.2 a ha
theorem plus_same {α : Type} (shows : Int × Int → Int × Int → α → Bool) (u : Int × Int) (hu : mayP u = true) : ∀ (l : List (Int × Int)) (t : Int × Int) (of : List α),mayP t = true → of.length = l.length + 1 →
 z40 shows u t l of = (z23 (t :: (l ++ [u])) && rowD shows (t :: (l ++ [u])) of)
 | [],t,of,ht,hl => by
  match of,hl with
  | [y],_ =>
   show (z0f t u && shows t u y) = ((mayP t && ltQ t.1 t.2 u.1 u.2 && mayP u) && (shows t u y && true))
   unfold z0f
   rw [ht,hu]
   cases ltQ t.1 t.2 u.1 u.2 <;> simp
 | a :: r,t,of,ht,hl => by
  match of,hl with
  | y :: z,hl =>
   have hz : z.length = r.length + 1:=by simpa using hl
   show (z0f t a && shows t a y && z40 shows u a r z) = ((mayP t && ltQ t.1 t.2 a.1 a.2 && z23 (a :: (r ++ [u]))) && (shows t a y && rowD shows (a :: (r ++ [u])) z))
   by_cases ha : mayP a = true
   ·rw [plus_same shows u hu r a z ha hz]
    unfold z0f
    rw [ht,ha]
    cases ltQ t.1 t.2 a.1 a.2 <;> cases shows t a y <;> simp
   ·have hr : z23 (a :: (r ++ [u])) = false:=by
     cases h : z23 (a :: (r ++ [u])) with
     | false => rfl
     | true => exact absurd (z3j h a (by simp)) ha
    have h1 : z0f t a = false:=by
     unfold z0f
     have : mayP a = false:=by simpa using ha
     rw [this]; simp
    rw [h1,hr]; simp
open Go.RowKit
def z2k (t u : Int × Int) (i : Spn) : Bool :=
 z0s t.1 t.2 u.1 u.2 (2 * (-i.low) + if i.ls then 0 else 1) && (i.op || z0s u.1 u.2 t.1 t.2 (2 * i.high + if i.hs then 0 else 1))
def
 z6a {α : Type} (hold : F → Int → Bool) (l : List (Int × Int)) (shows : X → Int × Int → Int × Int → α → Bool) (k : Int) (is : List F) (xs : List X) (i : Spn) (t u : Int × Int) (wk side : Int) (at_ : List (Int × Int)) (of : List α) : Bool:=wk == k && (
 if k = 1 then side == 0 && at_.isEmpty && of.isEmpty && (match is with | f :: _ => z5f (hold f) l t u | [] => false)
 else if k = 2 then decide (1 ≤ side) && decide (side ≤ 2) && at_.isEmpty && (match of,xs with | [w],[x,y] => shows (if side = 1 then x else y) t u w | _,_ => false)
 else if k = 3 then side == 0 && at_.isEmpty && (match of,xs with | [v,w],[x,y] => shows x t u v && shows y t u w | _,_ => false)
 else if k = 4 then side == 0 && (match at_,of,xs with | [s],[v,w],[x,y] => z0f t s && z0f s u && shows x t s v && shows y s u w | _,_,_ => false)
 else if k = 5 then side == 0 && of.length == at_.length + 1 && (match xs with | [x] => z40 (shows x) u t at_ of | _ => false)
 else if k = 6 then side == 0 && at_.isEmpty && (match of,xs with | [w],[x] => z2k t u i && shows x t u w | _,_ => false)
 else false)
def z08 (hold : F → Int → Bool) (l : List (Int × Int)) : (n : Nat) → X → Int × Int → Int × Int → PT n → Bool
 | 0,_,_,_,_ => false
 | n + 1,.mk k is xs i,t,u,w => z6a hold l (z08 hold l n) k is xs i t u w.1 w.2.1 w.2.2.1 w.2.2.2
theorem z6c (hold : F → Int → Bool) (l : List (Int × Int)) (n : Nat) (k : Int) (is : List F) (xs : List X) (i : Spn) (t u : Int × Int) (wk side : Int) (at_ : List (Int × Int)) (of : List (PT n)) :
 z08 hold l (n + 1) (.mk k is xs i) t u (wk,side,at_,of) = z6a hold l (z08 hold l n) k is xs i t u wk side at_ of:=rfl
def
 z6b {α : Type} (hold : F → Int → Bool) (l : List (Int × Int)) (shows : X → Int × Int → Int × Int → α → Bool) (k : Int) (is : List F) (xs : List X) (i : Spn) (t u : Int × Int) (wk side : Int) (at_ : List (Int × Int)) (of : List α) : Bool:=wk == k && (
 if k = 1 then side == 0 && at_.isEmpty && of.isEmpty && (match is with | f :: _ => z5x (hold f) l t u | [] => false)
 else if k = 2 then decide (1 ≤ side) && decide (side ≤ 2) && at_.isEmpty && (match of,xs with | [w],[x,y] => shows (if side = 1 then x else y) t u w | _,_ => false)
 else if k = 3 then side == 0 && at_.isEmpty && (match of,xs with | [v,w],[x,y] => shows x t u v && shows y t u w | _,_ => false)
 else if k = 4 then side == 0 && (match at_,of,xs with | [s],[v,w],[x,y] => z23 [t,s,u] && shows x t s v && shows y s u w | _,_,_ => false)
 else if k = 5 then side == 0 && of.length == at_.length + 1 && (match xs with | [x] => (at_.isEmpty || z23 (t :: (at_ ++ [u]))) && rowD (shows x) (t :: (at_ ++ [u])) of | _ => false)
 else if k = 6 then side == 0 && at_.isEmpty && (match of,xs with | [w],[x] => z2k t u i && shows x t u w | _,_ => false)
 else false)
def z0q (hold : F → Int → Bool) (l : List (Int × Int)) : (n : Nat) → X → Int × Int → Int × Int → PT n → Bool
 | 0,_,_,_,_ => false
 | n + 1,.mk k is xs i,t,u,w => z6b hold l (z0q hold l n) k is xs i t u w.1 w.2.1 w.2.2.1 w.2.2.2
theorem z6d (hold : F → Int → Bool) (l : List (Int × Int)) (n : Nat) (k : Int) (is : List F) (xs : List X) (i : Spn) (t u : Int × Int) (wk side : Int) (at_ : List (Int × Int)) (of : List (PT n)) :
 z0q hold l (n + 1) (.mk k is xs i) t u (wk,side,at_,of) = z6b hold l (z0q hold l n) k is xs i t u wk side at_ of:=rfl
theorem z41 {a : Int × Int} (h : mayP a = true) : 0 < a.2:=by
 unfold mayP mayQ at h
 simp only [Bool.and_eq_true,decide_eq_true_eq] at h
 omega
theorem ltQ_trans {a b c : Int × Int} (ha : 0 < a.2) (hb : 0 < b.2) (hc : 0 < c.2) (h : ltQ a.1 a.2 b.1 b.2 = true) (h' : ltQ b.1 b.2 c.1 c.2 = true) : ltQ a.1 a.2 c.1 c.2 = true:=by
 unfold ltQ at h h' ⊢
 simp only [decide_eq_true_eq] at h h' ⊢
 have h1 : a.1 * b.2 * c.2 < b.1 * a.2 * c.2:=Int.mul_lt_mul_of_pos_right h hc
 have h2 : b.1 * c.2 * a.2 < c.1 * b.2 * a.2:=Int.mul_lt_mul_of_pos_right h' ha
 have e1 : b.1 * a.2 * c.2 = b.1 * c.2 * a.2:=Int.mul_right_comm _ _ _
 have h3 : a.1 * b.2 * c.2 < c.1 * b.2 * a.2:=by omega
 have e2 : a.1 * b.2 * c.2 = (a.1 * c.2) * b.2:=Int.mul_right_comm _ _ _
 have e3 : c.1 * b.2 * a.2 = (c.1 * a.2) * b.2:=Int.mul_right_comm _ _ _
 rw [e2,e3] at h3
 exact Int.lt_of_mul_lt_mul_right h3 (Int.le_of_lt hb)
theorem rise_lt : ∀ (l : List (Int × Int)) (t u : Int × Int),z23 (t :: (l ++ [u])) = true → ltQ t.1 t.2 u.1 u.2 = true
 | [],t,u,h => by
  have h' : (mayP t && ltQ t.1 t.2 u.1 u.2 && mayP u) = true:=h
  simp only [Bool.and_eq_true] at h'
  exact h'.1.2
 | a :: r,t,u,h => by
  have hm:=z3j h
  have h' : (mayP t && ltQ t.1 t.2 a.1 a.2 && z23 (a :: (r ++ [u]))) = true:=h
  simp only [Bool.and_eq_true] at h'
  exact ltQ_trans (z41 (hm t (by simp))) (z41 (hm a (by simp))) (z41 (hm u (by simp))) h'.1.2 (rise_lt r a u h'.2)
theorem z4f (hold : F → Int → Bool) (l : List (Int × Int)) : ∀ (n : Nat) (x : X) (t u : Int × Int) (w : PT n),z0q hold l n x t u w = true → ltQ t.1 t.2 u.1 u.2 = true
 | 0,_,_,_,_,h => by cases h
 | n + 1,.mk k is xs i,t,u,(wk,side,at_,of),h => by
  rw [z6d] at h
  unfold z6b at h
  simp only [Bool.and_eq_true] at h
  obtain ⟨_,h⟩:=h
  split at h
  ·cases is with
   | nil => simp at h
   | cons f r =>
    simp only [Bool.and_eq_true,z5x] at h
    exact h.2.1.1.1
  split at h
  ·simp only [Bool.and_eq_true] at h
   obtain ⟨_,h⟩:=h
   split at h
   ·exact z4f hold l n _ t u _ h
   ·cases h
  split at h
  ·simp only [Bool.and_eq_true] at h
   obtain ⟨_,h⟩:=h
   split at h
   ·simp only [Bool.and_eq_true] at h
    exact z4f hold l n _ t u _ h.1
   ·cases h
  split at h
  ·simp only [Bool.and_eq_true] at h
   obtain ⟨_,h⟩:=h
   split at h
   ·rename_i s v w x y
    simp only [Bool.and_eq_true] at h
    exact rise_lt [s] t u h.1.1
   ·cases h
  split at h
  ·simp only [Bool.and_eq_true] at h
   obtain ⟨hl,h⟩:=h
   split at h
   ·rename_i x
    simp only [Bool.and_eq_true,Bool.or_eq_true] at h
    obtain ⟨h1,h2⟩:=h
    cases at_ with
    | nil =>
     have hl' : of.length = 1:=by simpa using hl.2
     match of,hl',h2 with
     | [y],_,h2 =>
      have h3 : (z0q hold l n x t u y && true) = true:=h2
      rw [Bool.and_true] at h3
      exact z4f hold l n x t u y h3
    | cons a r =>
     rcases h1 with h1 | h1
     ·simp at h1
     ·exact rise_lt (a :: r) t u h1
   ·cases h
  split at h
  ·simp only [Bool.and_eq_true] at h
   obtain ⟨_,h⟩:=h
   split at h
   ·simp only [Bool.and_eq_true] at h
    exact z4f hold l n _ t u _ h.2
   ·cases h
  ·cases h
theorem row_same {α : Type} {f g : Int × Int → Int × Int → α → Bool} : ∀ (r : List (Int × Int)) (of : List α),(∀ a ∈ r,∀ b ∈ r,∀ y,f a b y = g a b y) → rowD f r of = rowD g r of
 | [],of,_ => by cases of <;> rfl
 | [a],of,_ => by cases of <;> rfl
 | a :: b :: r,[],_ => rfl
 | a :: b :: r,y :: z,h => by
  show (f a b y && rowD f (b :: r) z) = (g a b y && rowD g (b :: r) z)
  rw [h a (by simp) b (by simp) y,row_same (b :: r) z fun c hc d hd => h c (by simp only [List.mem_cons] at hc ⊢; exact .inr hc) d (by simp only [List.mem_cons] at hd ⊢; exact .inr hd)]
theorem shows_same (hold : F → Int → Bool) (l : List (Int × Int)) (hp : ∀ s ∈ l,0 ≤ s.1) (h0 : 0 ≤ sumG 0 l) (hs : sumG 0 l ≤ 2305843009213693952) : ∀ (n : Nat) (x : X) (t u : Int × Int) (w : PT n),mayP t = true → mayP u = true → z08 hold l n x t u w = z0q hold l n x t u w
 | 0,_,_,_,_,_,_ => rfl
 | n + 1,.mk k is xs i,t,u,(wk,side,at_,of),ht,hu => by
  have ih:=fun x t u w ht hu => shows_same hold l hp h0 hs n x t u w ht hu
  rw [z6c,z6d]
  unfold z6a z6b
  congr 1
  split
  ·cases is with
   | nil => rfl
   | cons f r => dsimp only; rw [atom_same (hold f) ht hu l hp h0 hs]
  split
  ·congr 1
   split
   ·exact ih _ t u _ ht hu
   ·rfl
  split
  ·congr 1
   split
   ·rw [ih _ t u _ ht hu,ih _ t u _ ht hu]
   ·rfl
  split
  ·congr 1
   split
   ·rename_i s v w x y
    show (z0f t s && z0f s u && z08 hold l n x t s v && z08 hold l n y s u w) = ((mayP t && ltQ t.1 t.2 s.1 s.2 && (mayP s && ltQ s.1 s.2 u.1 u.2 && mayP u)) && z0q hold l n x t s v && z0q hold l n y s u w)
    cases hm : mayP s with
    | false => simp [z0f,hm]
    | true => rw [ih x t s v ht hm,ih y s u w hm hu]; simp [z0f,hm,ht,hu]
   ·rfl
  split
  ·cases hl : (side == 0 && of.length == at_.length + 1) with
   | false => simp
   | true =>
    simp only [Bool.and_eq_true,beq_iff_eq] at hl
    congr 1
    split
    ·rename_i x
     rw [plus_same (z08 hold l n x) u hu at_ t of ht hl.2]
     cases hr : z23 (t :: (at_ ++ [u])) with
     | true =>
      have hm:=z3j hr
      rw [row_same (f:=z08 hold l n x) (g:=z0q hold l n x) _ _ fun a ha b hb y => ih x a b y (hm a ha) (hm b hb)]
      simp
     | false =>
      cases at_ with
      | cons a r => simp
      | nil =>
       have hl' : of.length = 1:=by simpa using hl.2
       match of,hl' with
       | [y],_ =>
        show (false && _) = ((true || false) && (z0q hold l n x t u y && true))
        cases hq : z0q hold l n x t u y with
        | false => rfl
        | true =>
         have h1:=z4f hold l n x t u y hq
         have h2 : z23 [t,u] = (mayP t && ltQ t.1 t.2 u.1 u.2 && mayP u):=rfl
         have h3 : z23 [t,u] = false:=hr
         rw [h2,ht,h1,hu] at h3
         cases h3
    ·rfl
  split
  ·congr 1
   split
   ·rw [ih _ t u _ ht hu]
   ·rfl
  ·rfl
open Go.RowKit
end Go.Proofs.YtockinpjfhhkoaaGreatDoor
