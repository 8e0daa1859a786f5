/- Proofs (the struct witness.Proof) as trees in Lean: what Many and Same compute. No program. -/
import Derived.WalkKit
import Derived.Test.YtockinpjfhhkoaaGreatDoorZ05
import Derived.Test.YtockinpjfhhkoaaGreatDoorProg
import Derived.WalkSpells
import Derived.WalkLawsBesides
import Derived.Lib.Hide
import Derived.Deep.QuietTactic
import Derived.BigQuiet
set_option maxRecDepth 100000
set_option maxHeartbeats 16000000
open Go.Lib renaming hid → Jh
namespace Go.Proofs.YtockinpjfhhkoaaGreatDoor
open Go.RowKit
def PT : Nat → Type
 | 0 => Unit
 | n + 1 => Int × Int × List (Int × Int) × List (PT n)
def z0t : (n : Nat) → PT n → Int
 | 0,_ => 1
 | n + 1,t => t.2.2.2.foldl (fun acc x => wrap64 (acc + z0t n x)) 1
def manyTo (n : Nat) (of : List (PT n)) (k : Nat) : Int:=(of.take k).foldl (fun acc x => wrap64 (acc + z0t n x)) 1
theorem manyTo_succ (n : Nat) (of : List (PT n)) (k : Nat) (h : k < of.length) : manyTo n of (k + 1) = wrap64 (manyTo n of k + z0t n of[k]):=by
 unfold manyTo
 rw [List.take_succ_eq_append_getElem h,List.foldl_append]
 rfl
theorem manyTo_all (n : Nat) (k s : Int) (ats : List (Int × Int)) (of : List (PT n)) : manyTo n of of.length = z0t (n + 1) (k,s,ats,of):=by
 unfold manyTo
 rw [List.take_length]
 rfl
def z3n (a b : Int) : Int:=if b < a then b else a
def z33 {α : Type} (f : α → Int → Int) : List α → Int → Int
 | [],l => l
 | x :: r,l => if 0 ≤ l then z33 f r (f x l) else l
def z18 : (n : Nat) → PT n → Int → Int
 | 0,_,l => l
 | n + 1,t,l => z33 (z18 n) t.2.2.2 (wrap64 (wrap64 (l - 1) - z3n t.2.2.1.length 10000))
theorem roomL_drop {α : Type} (f : α → Int → Int) (l : List α) (k : Nat) (m : Int) (h : k < l.length) (hm : 0 ≤ m) : z33 f (l.drop k) m = z33 f (l.drop (k + 1)) (f l[k] m):=by
 rw [List.drop_eq_getElem_cons h,z33,if_pos hm]
theorem roomL_stop {α : Type} (f : α → Int → Int) (l : List α) (m : Int) (hm : ¬ 0 ≤ m) : z33 f l m = m:=by
 cases l with
 | nil => rfl
 | cons x r => rw [z33,if_neg hm]
def RatsRep (w : World) (B : Nat) (v : Value) (l : List (Int × Int)) : Prop :=
 ∃ a cap,v = .slice a l.length cap ∧ l.length ≤ 9223372036854775807 ∧ (l = [] ∨ ∃ b off,a = some ⟨b,off,none⟩ ∧ b < B ∧
  ∀ i (h : i < l.length),w.cell? ⟨b,off + i * 2,none⟩ = some (.int .i64 l[i].1) ∧ w.cell? ⟨b,off + i * 2 + 1,none⟩ = some (.int .i64 l[i].2))
def PRep (w : World) (B : Nat) : (n : Nat) → PT n → Value → Prop
 | 0,_,_ => False
 | n
  + 1,t,v => ∃ va a cap,v = .agg #[.int .u8 t.1,.int .u8 t.2.1,va,.slice a t.2.2.2.length cap] ∧ t.2.2.2.length ≤ 9223372036854775807 ∧ RatsRep w B va t.2.2.1 ∧
  (t.2.2.2 = [] ∨ ∃ b off,a = some ⟨b,off,none⟩ ∧ b < B ∧
   ∀ i (h : i < t.2.2.2.length),∃ v0 v1 v2 v3,w.cell? ⟨b,off + i * 4,none⟩ = some v0 ∧ w.cell? ⟨b,off + i * 4 + 1,none⟩ = some v1 ∧
    w.cell? ⟨b,off + i * 4 + 2,none⟩ = some v2 ∧ w.cell? ⟨b,off + i * 4 + 3,none⟩ = some v3 ∧ PRep w B n t.2.2.2[i] (.agg #[v0,v1,v2,v3]))
theorem RatsRep.below {w w' : World} {B : Nat} (hb : Below B w w') {v : Value} {l : List (Int × Int)} (h : RatsRep w B v l) : RatsRep w' B v l:=by
 obtain ⟨a,cap,hv,hm,h⟩:=h
 refine ⟨a,cap,hv,hm,?_⟩
 rcases h with h | ⟨b,off,ha,hlt,hc⟩
 ·exact .inl h
 ·exact .inr ⟨b,off,ha,hlt,fun i hi => ⟨(hb.cell (p:=⟨b,_,none⟩) hlt).trans (hc i hi).1,(hb.cell (p:=⟨b,_,none⟩) hlt).trans (hc i hi).2⟩⟩
theorem PRep.below {w w' : World} {B : Nat} (hb : Below B w w') : ∀ (n : Nat) {t : PT n} {v : Value},PRep w B n t v → PRep w' B n t v
 | 0,_,_,h => h.elim
 | n + 1,t,v,h => by
  obtain ⟨va,a,cap,hv,hm,hr,h⟩:=h
  refine ⟨va,a,cap,hv,hm,hr.below hb,?_⟩
  rcases h with h | ⟨b,off,ha,hlt,hc⟩
  ·exact .inl h
  ·refine .inr ⟨b,off,ha,hlt,fun i hi => ?_⟩
   obtain ⟨v0,v1,v2,v3,c0,c1,c2,c3,hp⟩:=hc i hi
   exact ⟨v0,v1,v2,v3,(hb.cell (p:=⟨b,_,none⟩) hlt).trans c0,(hb.cell (p:=⟨b,_,none⟩) hlt).trans c1,(hb.cell (p:=⟨b,_,none⟩) hlt).trans c2,(hb.cell (p:=⟨b,_,none⟩) hlt).trans c3,PRep.below hb n hp⟩
theorem PRep.shape {w : World} {B n : Nat} {t : PT n} {v : Value} (h : PRep w B n t v) :
 ∃ k s a1 l1 c1 a2 l2 c2,v = .agg #[.int .u8 k,.int .u8 s,.slice a1 l1 c1,.slice a2 l2 c2]:=by
 cases n with
 | zero => exact h.elim
 | succ n =>
  obtain ⟨va,a,cap,hv,_,⟨a',cap',hr,_⟩,_⟩:=h
  exact ⟨_,_,a',_,cap',a,_,cap,by rw [hv,hr]⟩
theorem z8t {w wr : World} {B n b off : Nat} {of : List (PT n)} (hB : B ≤ w.heap.size) (hbw : Below w.heap.size w wr) (hbl : b < B)
 (hc :
  ∀ i (h : i < of.length),∃ v0 v1 v2 v3,w.cell? ⟨b,off + i * 4,none⟩ = some v0 ∧ w.cell? ⟨b,off + i * 4 + 1,none⟩ = some v1 ∧
  w.cell? ⟨b,off + i * 4 + 2,none⟩ = some v2 ∧ w.cell? ⟨b,off + i * 4 + 3,none⟩ = some v3 ∧ PRep w B n of[i] (.agg #[v0,v1,v2,v3])) (j : Nat) (hlt : j < of.length) :
 ∃ k s
  a1 l1 c1 a2 l2 c2,wr.cell? ⟨b,off + j * 4,none⟩ = some (.int .u8 k) ∧ wr.cell? ⟨b,off + j * 4 + 1,none⟩ = some (.int .u8 s) ∧
  wr.cell? ⟨b,off + j * 4 + 2,none⟩ = some (.slice a1 l1 c1) ∧ wr.cell? ⟨b,off + j * 4 + 3,none⟩ = some (.slice a2 l2 c2) ∧
  PRep wr B n of[j] (.agg #[.int .u8 k,.int .u8 s,.slice a1 l1 c1,.slice a2 l2 c2]):=by
 obtain ⟨v0,v1,v2,v3,c0,c1,c2,c3,hp⟩:=hc j hlt
 obtain ⟨k,s,a1,l1,e1,a2,l2,e2,hv⟩:=hp.shape
 simp only [Value.agg.injEq,Array.mk.injEq,List.cons.injEq,and_true] at hv
 obtain ⟨rfl,rfl,rfl,rfl⟩:=hv
 exact ⟨k,s,a1,l1,e1,a2,l2,e2,(hbw.cell (p:=⟨b,_,none⟩) (by show b < _; omega)).trans c0,(hbw.cell (p:=⟨b,_,none⟩) (by show b < _; omega)).trans c1,
  (hbw.cell (p:=⟨b,_,none⟩) (by show b < _; omega)).trans c2,(hbw.cell (p:=⟨b,_,none⟩) (by show b < _; omega)).trans c3,PRep.below (hbw.mono hB) n hp⟩
open Go.RowKit
def zag (t u : Int × Int) (i : Spn) : Bool :=
 z2y t.1 t.2 u.1 u.2 (2 * (-i.low) + if i.ls then 0 else 1) && (i.op || z2y u.1 u.2 t.1 t.2 (2 * i.high + if i.hs then 0 else 1))
def
 z4t {α : Type} (hold : F → Int → Bool) (l : List (Int × Int)) (shows : X → Int × Int → Int × Int → α → Bool) (k : Int) (is : List F) (xs : List X) (i : Spn) (t u : Int × Int) (wk side : Int) (at_ : List (Int × Int)) (of : List α) : Bool:=wk == k && (
 if k = 1 then side == 0 && at_.isEmpty && of.isEmpty && (match is with | f :: _ => z5h (hold f) l t u | [] => false)
 else if k = 2 then decide (1 ≤ side) && decide (side ≤ 2) && at_.isEmpty && (match of,xs with | [w],[x,y] => shows (if side = 1 then x else y) t u w | _,_ => false)
 else if k = 3 then side == 0 && at_.isEmpty && (match of,xs with | [v,w],[x,y] => shows x t u v && shows y t u w | _,_ => false)
 else if k = 4 then side == 0 && (match at_,of,xs with | [s],[v,w],[x,y] => z07 t s && z07 s u && shows x t s v && shows y s u w | _,_,_ => false)
 else if k = 5 then side == 0 && of.length == at_.length + 1 && (match xs with | [x] => z5j (shows x) u t at_ of | _ => false)
 else if k = 6 then side == 0 && at_.isEmpty && (match of,xs with | [w],[x] => zag t u i && shows x t u w | _,_ => false)
 else false)
def z05 (hold : F → Int → Bool) (l : List (Int × Int)) : (n : Nat) → X → Int × Int → Int × Int → PT n → Bool
 | 0,_,_,_,_ => false
 | n + 1,.mk k is xs i,t,u,w => z4t hold l (z05 hold l n) k is xs i t u w.1 w.2.1 w.2.2.1 w.2.2.2
theorem z1f (hold : F → Int → Bool) (l : List (Int × Int)) (n : Nat) (k : Int) (is : List F) (xs : List X) (i : Spn) (t u : Int × Int) (wk side : Int) (at_ : List (Int × Int)) (of : List (PT n)) :
 z05 hold l (n + 1) (.mk k is xs i) t u (wk,side,at_,of) = z4t hold l (z05 hold l n) k is xs i t u wk side at_ of:=rfl
def
 stepD' {α : Type} (hold : F → Int → Bool) (l : List (Int × Int)) (shows : X → Int × Int → Int × Int → α → Bool) (k : Int) (is : List F) (xs : List X) (i : Spn) (t u : Int × Int) (wk side : Int) (at_ : List (Int × Int)) (of : List α) : Bool:=wk == k && (
 if k = 1 then side == 0 && at_.isEmpty && of.isEmpty && (match is with | f :: _ => z97 (hold f) l t u | [] => false)
 else if k = 2 then decide (1 ≤ side) && decide (side ≤ 2) && at_.isEmpty && (match of,xs with | [w],[x,y] => shows (if side = 1 then x else y) t u w | _,_ => false)
 else if k = 3 then side == 0 && at_.isEmpty && (match of,xs with | [v,w],[x,y] => shows x t u v && shows y t u w | _,_ => false)
 else if k = 4 then side == 0 && (match at_,of,xs with | [s],[v,w],[x,y] => z7g [t,s,u] && shows x t s v && shows y s u w | _,_,_ => false)
 else if k = 5 then side == 0 && of.length == at_.length + 1 && (match xs with | [x] => (at_.isEmpty || z7g (t :: (at_ ++ [u]))) && rowD (shows x) (t :: (at_ ++ [u])) of | _ => false)
 else if k = 6 then side == 0 && at_.isEmpty && (match of,xs with | [w],[x] => zag t u i && shows x t u w | _,_ => false)
 else false)
def z2x (hold : F → Int → Bool) (l : List (Int × Int)) : (n : Nat) → X → Int × Int → Int × Int → PT n → Bool
 | 0,_,_,_,_ => false
 | n + 1,.mk k is xs i,t,u,w => stepD' hold l (z2x hold l n) k is xs i t u w.1 w.2.1 w.2.2.1 w.2.2.2
theorem z4v (hold : F → Int → Bool) (l : List (Int × Int)) (n : Nat) (k : Int) (is : List F) (xs : List X) (i : Spn) (t u : Int × Int) (wk side : Int) (at_ : List (Int × Int)) (of : List (PT n)) :
 z2x hold l (n + 1) (.mk k is xs i) t u (wk,side,at_,of) = stepD' hold l (z2x hold l n) k is xs i t u wk side at_ of:=rfl
theorem z6v {a : Int × Int} (h : mayP a = true) : 0 < a.2:=by
 unfold mayP mayQ at h
 simp only [Bool.and_eq_true,decide_eq_true_eq] at h
 omega
theorem ltQ_trans {a b c : Int × Int} (ha : 0 < a.2) (hb : 0 < b.2) (hc : 0 < c.2) (h : ltQ a.1 a.2 b.1 b.2 = true) (h' : ltQ b.1 b.2 c.1 c.2 = true) : ltQ a.1 a.2 c.1 c.2 = true:=by
 unfold ltQ at h h' ⊢
 simp only [decide_eq_true_eq] at h h' ⊢
 have h1 : a.1 * b.2 * c.2 < b.1 * a.2 * c.2:=Int.mul_lt_mul_of_pos_right h hc
 have h2 : b.1 * c.2 * a.2 < c.1 * b.2 * a.2:=Int.mul_lt_mul_of_pos_right h' ha
 have e1 : b.1 * a.2 * c.2 = b.1 * c.2 * a.2:=Int.mul_right_comm _ _ _
 have h3 : a.1 * b.2 * c.2 < c.1 * b.2 * a.2:=by omega
 have e2 : a.1 * b.2 * c.2 = (a.1 * c.2) * b.2:=Int.mul_right_comm _ _ _
 have e3 : c.1 * b.2 * a.2 = (c.1 * a.2) * b.2:=Int.mul_right_comm _ _ _
 rw [e2,e3] at h3
 exact Int.lt_of_mul_lt_mul_right h3 (Int.le_of_lt hb)
theorem rise_lt : ∀ (l : List (Int × Int)) (t u : Int × Int),z7g (t :: (l ++ [u])) = true → ltQ t.1 t.2 u.1 u.2 = true
 | [],t,u,h => by
  have h' : (mayP t && ltQ t.1 t.2 u.1 u.2 && mayP u) = true:=h
  simp only [Bool.and_eq_true] at h'
  exact h'.1.2
 | a :: r,t,u,h => by
  have hm:=z49 h
  have h' : (mayP t && ltQ t.1 t.2 a.1 a.2 && z7g (a :: (r ++ [u]))) = true:=h
  simp only [Bool.and_eq_true] at h'
  exact ltQ_trans (z6v (hm t (by simp))) (z6v (hm a (by simp))) (z6v (hm u (by simp))) h'.1.2 (rise_lt r a u h'.2)
theorem z7d (hold : F → Int → Bool) (l : List (Int × Int)) : ∀ (n : Nat) (x : X) (t u : Int × Int) (w : PT n),z2x hold l n x t u w = true → ltQ t.1 t.2 u.1 u.2 = true
 | 0,_,_,_,_,h => by cases h
 | n + 1,.mk k is xs i,t,u,(wk,side,at_,of),h => by
  rw [z4v] at h
  unfold stepD' at h
  simp only [Bool.and_eq_true] at h
  obtain ⟨_,h⟩:=h
  split at h
  ·cases is with
   | nil => simp at h
   | cons f r =>
    simp only [Bool.and_eq_true,z97] at h
    exact h.2.1.1.1
  split at h
  ·simp only [Bool.and_eq_true] at h
   obtain ⟨_,h⟩:=h
   split at h
   ·exact z7d hold l n _ t u _ h
   ·cases h
  split at h
  ·simp only [Bool.and_eq_true] at h
   obtain ⟨_,h⟩:=h
   split at h
   ·simp only [Bool.and_eq_true] at h
    exact z7d hold l n _ t u _ h.1
   ·cases h
  split at h
  ·simp only [Bool.and_eq_true] at h
   obtain ⟨_,h⟩:=h
   split at h
   ·rename_i s v w x y
    simp only [Bool.and_eq_true] at h
    exact rise_lt [s] t u h.1.1
   ·cases h
  split at h
  ·simp only [Bool.and_eq_true] at h
   obtain ⟨hl,h⟩:=h
   split at h
   ·rename_i x
    simp only [Bool.and_eq_true,Bool.or_eq_true] at h
    obtain ⟨h1,h2⟩:=h
    cases at_ with
    | nil =>
     have hl' : of.length = 1:=by simpa using hl.2
     match of,hl',h2 with
     | [y],_,h2 =>
      have h3 : (z2x hold l n x t u y && true) = true:=h2
      rw [Bool.and_true] at h3
      exact z7d hold l n x t u y h3
    | cons a r =>
     rcases h1 with h1 | h1
     ·simp at h1
     ·exact rise_lt (a :: r) t u h1
   ·cases h
  split at h
  ·simp only [Bool.and_eq_true] at h
   obtain ⟨_,h⟩:=h
   split at h
   ·simp only [Bool.and_eq_true] at h
    exact z7d hold l n _ t u _ h.2
   ·cases h
  ·cases h
theorem row_same {α : Type} {f g : Int × Int → Int × Int → α → Bool} : ∀ (r : List (Int × Int)) (of : List α),(∀ a ∈ r,∀ b ∈ r,∀ y,f a b y = g a b y) → rowD f r of = rowD g r of
 | [],of,_ => by cases of <;> rfl
 | [a],of,_ => by cases of <;> rfl
 | a :: b :: r,[],_ => rfl
 | a :: b :: r,y :: z,h => by
  show (f a b y && rowD f (b :: r) z) = (g a b y && rowD g (b :: r) z)
  rw [h a (by simp) b (by simp) y,row_same (b :: r) z fun c hc d hd => h c (by simp only [List.mem_cons] at hc ⊢; exact .inr hc) d (by simp only [List.mem_cons] at hd ⊢; exact .inr hd)]
theorem z3p (hold : F → Int → Bool) (l : List (Int × Int)) (hp : ∀ s ∈ l,0 ≤ s.1) (h0 : 0 ≤ sumG 0 l) (hs : sumG 0 l ≤ 2305843009213693952) : ∀ (n : Nat) (x : X) (t u : Int × Int) (w : PT n),mayP t = true → mayP u = true → z05 hold l n x t u w = z2x hold l n x t u w
 | 0,_,_,_,_,_,_ => rfl
 | n + 1,.mk k is xs i,t,u,(wk,side,at_,of),ht,hu => by
  have ih:=fun x t u w ht hu => z3p hold l hp h0 hs n x t u w ht hu
  rw [z1f,z4v]
  unfold z4t stepD'
  congr 1
  split
  ·cases is with
   | nil => rfl
   | cons f r => dsimp only; rw [atom_same (hold f) ht hu l hp h0 hs]
  split
  ·congr 1
   split
   ·exact ih _ t u _ ht hu
   ·rfl
  split
  ·congr 1
   split
   ·rw [ih _ t u _ ht hu,ih _ t u _ ht hu]
   ·rfl
  split
  ·congr 1
   split
   ·rename_i s v w x y
    show (z07 t s && z07 s u && z05 hold l n x t s v && z05 hold l n y s u w) = ((mayP t && ltQ t.1 t.2 s.1 s.2 && (mayP s && ltQ s.1 s.2 u.1 u.2 && mayP u)) && z2x hold l n x t s v && z2x hold l n y s u w)
    cases hm : mayP s with
    | false => simp [z07,hm]
    | true => rw [ih x t s v ht hm,ih y s u w hm hu]; simp [z07,hm,ht,hu]
   ·rfl
  split
  ·cases hl : (side == 0 && of.length == at_.length + 1) with
   | false => simp
   | true =>
    simp only [Bool.and_eq_true,beq_iff_eq] at hl
    congr 1
    split
    ·rename_i x
     rw [plus_same (z05 hold l n x) u hu at_ t of ht hl.2]
     cases hr : z7g (t :: (at_ ++ [u])) with
     | true =>
      have hm:=z49 hr
      rw [row_same (f:=z05 hold l n x) (g:=z2x hold l n x) _ _ fun a ha b hb y => ih x a b y (hm a ha) (hm b hb)]
      simp
     | false =>
      cases at_ with
      | cons a r => simp
      | nil =>
       have hl' : of.length = 1:=by simpa using hl.2
       match of,hl' with
       | [y],_ =>
        show (false && _) = ((true || false) && (z2x hold l n x t u y && true))
        cases hq : z2x hold l n x t u y with
        | false => rfl
        | true =>
         have h1:=z7d hold l n x t u y hq
         have h2 : z7g [t,u] = (mayP t && ltQ t.1 t.2 u.1 u.2 && mayP u):=rfl
         have h3 : z7g [t,u] = false:=hr
         rw [h2,ht,h1,hu] at h3
         cases h3
    ·rfl
  split
  ·congr 1
   split
   ·rw [ih _ t u _ ht hu]
   ·rfl
  ·rfl
open Go.RowKit
theorem z4x {k : IntKind} {a b : Int} (h : a = b) : Ending.returned (.int k a) = .returned (.int k b):=by rw [h]
theorem z7l (n : Nat) : ∀ (t : PT n) (v : Value) (w : World) (B : Nat),PRep w B n t v → B ≤ w.heap.size →
 Calls Tryz.prog 31 #[v] w fun e w' => e = .returned (.int .i64 (z0t n t)) ∧ Below w.heap.size w w':=by
 induction n with
 | zero => intro t v w B h; exact h.elim
 | succ n ih =>
  intro t v w B h hB
  obtain ⟨k,s,ats,of⟩:=t
  obtain ⟨va,a,cap,rfl,hm,hr,h⟩:=h
  dsimp only at h hr hm ⊢
  clear hr
  go_enter Tryz.func31,Tryz.ntmps31
  go_wp2_with fail
  go_loopw [3,9] (fun m i wr => ∃ j : Nat,j ≤ of.length ∧ i = .int .i64 j ∧ m = .int .i64 (manyTo n of j) ∧ Below w.heap.size w wr ∧ w.heap.size < wr.heap.size) (fun _ i _ => of.length - (intOf i).toNat)
  case atStart => exact ⟨0,Nat.zero_le _,rfl,rfl,(Below.refl _ _).alloc (Nat.le_refl _) _,by simp⟩
  case round =>
   obtain ⟨j,hj,rfl,rfl,hbw,hsz⟩:=hrel
   have hb0 : Below w.heap.size w wr:=hbw
   by_cases hlt : j < of.length
   ·rcases h with h | ⟨b,off,rfl,hbl,hc⟩
    ·rw [h] at hlt; exact absurd hlt (by simp)
    ·obtain ⟨k1,s1,a1,l1,e1,a2,l2,e2,d0,d1,d2,d3,hp'⟩:=z8t hB hbw hbl hc j hlt
     have hS:=Jh (manyTo_succ n of j hlt)
     have HC:=Jh hc
     clear hc
     go_wp2_with fail
     refine (ih _ _ _ B (PRep.below ((Below.refl B wr).alloc (by omega) _) n hp') (by simp; omega)).mono ?_
     rintro e w1 ⟨rfl,hb1⟩
     clear hp'
     have hb2 : Below w.heap.size w w1:=hbw.trans (((Below.refl w.heap.size wr).alloc (by omega) _).trans (hb1.mono (by simp; omega)))
     have hz : w.heap.size < w1.heap.size:=by have:=hb1.size; simp at this; omega
     go_wp2_with fail
     go_roundw
     case rel => exact ⟨j + 1,by omega,by go_num,by rw [hS.out],hb2,hz⟩
     case measure => simp [intOf]; omega
   ·have hje : j = of.length:=by omega
    have hA:=Jh (manyTo_all n k s ats of)
    clear h
    go_wp2_with fail
    go_ret
    exact ⟨z4x (by rw [hje,hA.out]),hbw⟩
theorem room_any (n : Nat) : ∀ (t : PT n) (v : Value) (l : Int) (w : World) (B : Nat),PRep w B n t v → B ≤ w.heap.size →
 Calls Tryz.prog 50 #[v,.int .i64 l] w fun e w' => e = .returned (.int .i64 (z18 n t l)) ∧ Below w.heap.size w w':=by
 induction n with
 | zero => intro t v l w B h; exact h.elim
 | succ n ih =>
  intro t v l w B h hB
  obtain ⟨k,s,ats,of⟩:=t
  obtain ⟨va,a,cap,rfl,hm,⟨va1,va2,rfl,hm2,hr⟩,h⟩:=h
  dsimp only at h hr hm hm2 ⊢
  clear hr
  by_cases hlen : 10000 < (ats.length : Int)
  ·have H0 : Hid (z18 (n + 1) (k,s,ats,of) l = z33 (z18 n) (of.drop 0) (wrap64 (wrap64 (l - 1) - 10000))):=by
    show z33 _ _ (wrap64 (wrap64 (l - 1) - z3n _ _)) = _
    rw [z3n,if_pos hlen]; rfl
   go_enter Tryz.func50,Tryz.ntmps50
   go_wp2_with fail
   go_loopw [1,5] (fun m i wr => ∃ (j : Nat) (q : Int),j ≤ of.length ∧ i = .int .i64 j ∧ m = .int .i64 q ∧ Hid (z18 (n + 1) (k,s,ats,of) l = z33 (z18 n) (of.drop j) q) ∧ Below w.heap.size w wr ∧ w.heap.size < wr.heap.size ∧ wr.cell? ⟨w.heap.size,3,none⟩ = some (.slice a of.length cap)) (fun _ i _ => of.length - (intOf i).toNat)
   case atStart => exact ⟨0,_,Nat.zero_le _,rfl,rfl,H0,(Below.refl _ _).alloc (Nat.le_refl _) _,by simp,by simp [World.cell?_alloc_at]⟩
   case round =>
    obtain ⟨j,q,hj,rfl,rfl,hR,hbw,hsz,hbox⟩:=hrel
    by_cases hlt : j < of.length
    ·by_cases hq : 0 ≤ q
     ·rcases h with h | ⟨b,off,rfl,hbl,hc⟩
      ·rw [h] at hlt; exact absurd hlt (by simp)
      ·obtain ⟨k1,s1,a1,l1,e1,a2,l2,e2,d0,d1,d2,d3,hp'⟩:=z8t hB hbw hbl hc j hlt
       have hS:=Jh (roomL_drop (z18 n) of j q hlt hq)
       have HC:=Jh hc
       clear hc
       go_wp2_with fail
       refine (ih _ _ _ _ B hp' (by omega)).mono ?_
       rintro e w1 ⟨rfl,hb1⟩
       clear hp'
       have hb2 : Below w.heap.size w w1:=hbw.trans (hb1.mono (by omega))
       have hz : w.heap.size < w1.heap.size:=by have:=hb1.size; omega
       have hx:=(hb1.cell (p:=⟨w.heap.size,3,none⟩) hsz).trans hbox
       go_wp2_with fail
       go_roundw
       case rel => exact ⟨j + 1,_,by omega,by go_num,rfl,hR.out.trans hS.out,hb2,hz,hx⟩
       case measure => simp [intOf]; omega
     ·have hS:=Jh (roomL_stop (z18 n) (of.drop j) q hq)
      clear h
      go_wp2_with fail
      go_ret
      exact ⟨z4x (by rw [hR.out,hS.out]),hbw⟩
    ·have hS : Hid (z33 (z18 n) (of.drop j) q = q):=by
      rw [show j = of.length by omega,List.drop_length]; rfl
     clear h
     go_wp2_with fail
     go_ret
     exact ⟨z4x (by rw [hR.out,hS.out]),hbw⟩
  ·have H0 : Hid (z18 (n + 1) (k,s,ats,of) l = z33 (z18 n) (of.drop 0) (wrap64 (wrap64 (l - 1) - ats.length))):=by
    show z33 _ _ (wrap64 (wrap64 (l - 1) - z3n _ _)) = _
    rw [z3n,if_neg hlen]; rfl
   go_enter Tryz.func50,Tryz.ntmps50
   go_wp2_with fail
   go_loopw [1,5] (fun m i wr => ∃ (j : Nat) (q : Int),j ≤ of.length ∧ i = .int .i64 j ∧ m = .int .i64 q ∧ Hid (z18 (n + 1) (k,s,ats,of) l = z33 (z18 n) (of.drop j) q) ∧ Below w.heap.size w wr ∧ w.heap.size < wr.heap.size ∧ wr.cell? ⟨w.heap.size,3,none⟩ = some (.slice a of.length cap)) (fun _ i _ => of.length - (intOf i).toNat)
   case atStart => exact ⟨0,_,Nat.zero_le _,rfl,rfl,H0,(Below.refl _ _).alloc (Nat.le_refl _) _,by simp,by simp [World.cell?_alloc_at]⟩
   case round =>
    obtain ⟨j,q,hj,rfl,rfl,hR,hbw,hsz,hbox⟩:=hrel
    by_cases hlt : j < of.length
    ·by_cases hq : 0 ≤ q
     ·rcases h with h | ⟨b,off,rfl,hbl,hc⟩
      ·rw [h] at hlt; exact absurd hlt (by simp)
      ·obtain ⟨k1,s1,a1,l1,e1,a2,l2,e2,d0,d1,d2,d3,hp'⟩:=z8t hB hbw hbl hc j hlt
       have hS:=Jh (roomL_drop (z18 n) of j q hlt hq)
       have HC:=Jh hc
       clear hc
       go_wp2_with fail
       refine (ih _ _ _ _ B hp' (by omega)).mono ?_
       rintro e w1 ⟨rfl,hb1⟩
       clear hp'
       have hb2 : Below w.heap.size w w1:=hbw.trans (hb1.mono (by omega))
       have hz : w.heap.size < w1.heap.size:=by have:=hb1.size; omega
       have hx:=(hb1.cell (p:=⟨w.heap.size,3,none⟩) hsz).trans hbox
       go_wp2_with fail
       go_roundw
       case rel => exact ⟨j + 1,_,by omega,by go_num,rfl,hR.out.trans hS.out,hb2,hz,hx⟩
       case measure => simp [intOf]; omega
     ·have hS:=Jh (roomL_stop (z18 n) (of.drop j) q hq)
      clear h
      go_wp2_with fail
      go_ret
      exact ⟨z4x (by rw [hR.out,hS.out]),hbw⟩
    ·have hS : Hid (z33 (z18 n) (of.drop j) q = q):=by
      rw [show j = of.length by omega,List.drop_length]; rfl
     clear h
     go_wp2_with fail
     go_ret
     exact ⟨z4x (by rw [hR.out,hS.out]),hbw⟩
theorem z7s (n : Nat) (t : PT n) (v : Value) (w : World) (B : Nat) (h : PRep w B n t v) (hB : B ≤ w.heap.size) :
 Calls Tryz.prog 20 #[v] w fun e w' => e = .returned (.bool (decide (z18 n t 6000 < 0))) ∧ Below w.heap.size w w':=by
 obtain ⟨k1,s1,a1,l1,e1,a2,l2,e2,rfl⟩:=h.shape
 go_enter Tryz.func20,Tryz.ntmps20
 go_wp2_with fail
 refine (room_any n t _ _ _ B (PRep.below ((Below.refl B w).alloc (by omega) _) n h) (by simp; omega)).mono ?_
 rintro e w1 ⟨rfl,hb1⟩
 clear h
 go_wp2_with fail
 go_ret
 exact ⟨rfl,((Below.refl w.heap.size w).alloc (Nat.le_refl _) _).trans (hb1.mono (by simp))⟩
end Go.Proofs.YtockinpjfhhkoaaGreatDoor
