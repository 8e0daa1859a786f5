/- Seven and eight arguments that came in, a run and a span among them, read. -/
import Derived.Test.YtockinpjfhhkoaaGreatDoorZ11
import Derived.Test.YtockinpjfhhkoaaGreatDoorZ33
import Derived.Test.YtockinpjfhhkoaaGreatDoorZ52
import Derived.Test.YtockinpjfhhkoaaGreatDoorZ48
import Derived.Deep.RegionHeld
import Derived.Deep.Cut
import Derived.LoopTactic
import Derived.Test.YtockinpjfhhkoaaGreatDoorZ12
import Derived.Test.YtockinpjfhhkoaaGreatDoorZ13
import Derived.Test.YtockinpjfhhkoaaGreatDoorZ15
set_option maxRecDepth 100000
set_option maxHeartbeats 16000000
open List renaming getElem?_cons_zero → J7, getElem?_cons_succ → J8, getElem?_toArray → J9
open Go.Lib renaming cell_of_heap → Jc, hid → Jh
namespace Go.Proofs.YtockinpjfhhkoaaGreatDoor
open Go.ChangeShapes Go.WideShapes Go.ChangeAt Go.RowKit Go.Joins
theorem trodAll_seven {H : Type} {enc : TypeId × Value → H} {P : Program} {w : World} {base : Nat} {spare : Nat → Bool} {held : Bool} {t0 t1 t2 t3 t4 t5 t6 : TypeId} {args : Array Value} {ds : List (DataW H)} {ps : List MemPlace} (h : DataW.TrodAll enc P w base spare held [t0,t1,t2,t3,t4,t5,t6] args.toList ds ps) :
 ∃ v0 v1 v2 v3 v4 v5 v6 d0 d1 d2 d3 d4 d5 d6 p0 p1 p2 p3 p4 p5 p6,args = #[v0,v1,v2,v3,v4,v5,v6] ∧ ds = [d0,d1,d2,d3,d4,d5,d6] ∧ ps = p0 ++ p1 ++ p2 ++ p3 ++ p4 ++ p5 ++ p6 ∧ DataW.Trod enc P w base spare held t0 v0 d0 p0 ∧ DataW.Trod enc P w base spare held t1 v1 d1 p1 ∧ DataW.Trod enc P w base spare held t2 v2 d2 p2 ∧ DataW.Trod enc P w base spare held t3 v3 d3 p3 ∧ DataW.Trod enc P w base spare held t4 v4 d4 p4 ∧ DataW.Trod enc P w base spare held t5 v5 d5 p5 ∧ DataW.Trod enc P w base spare held t6 v6 d6 p6:=by
 obtain ⟨v0,r0,d0,s0,p0,q0,hargs,rfl,rfl,h0,h⟩:=trodAll_cons h
 obtain ⟨v1,r1,d1,s1,p1,q1,rfl,rfl,rfl,h1,h⟩:=trodAll_cons h
 obtain ⟨v2,r2,d2,s2,p2,q2,rfl,rfl,rfl,h2,h⟩:=trodAll_cons h
 obtain ⟨v3,r3,d3,s3,p3,q3,rfl,rfl,rfl,h3,h⟩:=trodAll_cons h
 obtain ⟨v4,r4,d4,s4,p4,q4,rfl,rfl,rfl,h4,h⟩:=trodAll_cons h
 obtain ⟨v5,r5,d5,s5,p5,q5,rfl,rfl,rfl,h5,h⟩:=trodAll_cons h
 obtain ⟨v6,r6,d6,s6,p6,q6,rfl,rfl,rfl,h6,h⟩:=trodAll_cons h
 obtain ⟨rfl,rfl,rfl⟩:=trodAll_nil h
 exact ⟨v0,v1,v2,v3,v4,v5,v6,d0,d1,d2,d3,d4,d5,d6,p0,p1,p2,p3,p4,p5,p6,by cases args; simp_all,rfl,by simp,h0,h1,h2,h3,h4,h5,h6⟩
section
variable {H : Type} {enc : TypeId × Value → H} {w : World} {base : Nat} {spare : Nat → Bool} {held : Bool}
end
open Go.RowKit Go.Shelf
def valF : List (Int × Int) → Int → Int
 | [],_ => 0
 | x :: r,m => if m < x.1 then x.2 else valF r (m - x.1)
theorem ofF_val : ∀ (l : List (Int × Int)) (m : Int),0 ≤ m → m ≤ 9223372036854775807 → Long1 l → ofF l m = valF l m
 | [],_,_,_,_ => rfl
 | x :: r,m,h0,h1,hl => by
  have hx:=hl x (by simp)
  simp only [ofF,valF]
  split
  ·rfl
  ·rw [IntWalk.wrap64_in _ (by omega),ofF_val r _ (by omega) (by omega) hl.tail]
theorem z1o : ∀ (a b : List (Int × Int)),sumL (a ++ b) = sumL a + sumL b
 | [],b => by simp [sumL]
 | x :: a,b => by simp only [List.cons_append,sumL,z1o a b]; omega
theorem Long1.append {a b : List (Int × Int)} (ha : Long1 a) (hb : Long1 b) : Long1 (a ++ b):=fun s hs => by
 rw [List.mem_append] at hs
 exact hs.elim (ha s) (hb s)
theorem Long1.left {a b : List (Int × Int)} (h : Long1 (a ++ b)) : Long1 a:=fun s hs => h s (by simp [hs])
theorem Long1.right {a b : List (Int × Int)} (h : Long1 (a ++ b)) : Long1 b:=fun s hs => h s (by simp [hs])
theorem valF_congr {q q' : List (Int × Int)} (h : ∀ m,0 ≤ m → valF q m = valF q' m) : ∀ (pre : List (Int × Int)),Long1 pre → ∀ m,0 ≤ m → valF (pre ++ q) m = valF (pre ++ q') m
 | [],_,m,hm => h m hm
 | x :: pre,hl,m,hm => by
  have hx:=hl x (by simp)
  simp only [List.cons_append,valF]
  split
  ·rfl
  ·exact valF_congr h pre hl.tail _ (by omega)
theorem mstep_val (out : List (Int × Int)) (s : Int × Int) (r : List (Int × Int)) (hl : Long1 (out ++ s :: r)) (hs : sumL (out ++ s :: r) < 288230376151711744) :
 sumL (z3w out s ++ r) = sumL (out ++ s :: r) ∧ Long1 (z3w out s ++ r) ∧ ∀ m,0 ≤ m → valF (z3w out s ++ r) m = valF (out ++ s :: r) m:=by
 rcases List.eq_nil_or_concat out with rfl | ⟨pre,t,rfl⟩
 ·rw [z3v]
  exact ⟨rfl,hl,fun _ _ => rfl⟩
 ·rw [List.concat_eq_append] at hl hs ⊢
  have ht:=hl t (by simp)
  have hx:=hl s (by simp)
  have hp : Long1 pre:=hl.left.left
  have hr : Long1 r:=(hl.right).tail
  have h1:=z0q hp
  have h2:=z0q hr
  simp only [z1o,sumL] at hs
  by_cases h : t.2 = s.2
  ·rw [z1x _ _ _ h,IntWalk.wrap64_in _ (by omega)]
   refine ⟨?_,?_,?_⟩
   ·simp only [z1o,sumL]; omega
   ·refine Long1.append (Long1.append hp ?_) hr
    intro x hx'
    rw [List.mem_singleton] at hx'
    subst hx'
    show 1 ≤ t.1 + s.1 ∧ t.1 + s.1 ≤ _
    omega
   ·intro m hm
    rw [List.append_assoc,List.append_assoc]
    refine valF_congr (fun m hm => ?_) pre hp m hm
    simp only [List.cons_append,List.nil_append,valF]
    by_cases h3 : m < t.1
    ·rw [if_pos (by omega),if_pos h3]
    ·rw [if_neg h3]
     by_cases h4 : m - t.1 < s.1
     ·rw [if_pos (by omega),if_pos h4,h]
     ·rw [if_neg (by omega),if_neg h4]
      congr 1
      omega
  ·rw [z2m _ _ _ h]
   have e : pre ++ [t] ++ [s] ++ r = pre ++ [t] ++ s :: r:=by simp
   rw [e]
   exact ⟨rfl,hl,fun _ _ => rfl⟩
theorem foldl_val : ∀ (l out : List (Int × Int)),Long1 (out ++ l) → sumL (out ++ l) < 288230376151711744 →
 sumL (l.foldl z3w out) = sumL (out ++ l) ∧ Long1 (l.foldl z3w out) ∧ ∀ m,0 ≤ m → valF (l.foldl z3w out) m = valF (out ++ l) m
 | [],out,hl,_ => by
  rw [List.append_nil] at hl ⊢
  exact ⟨rfl,hl,fun _ _ => rfl⟩
 | s :: r,out,hl,hs => by
  obtain ⟨h1,h2,h3⟩:=mstep_val out s r hl hs
  obtain ⟨g1,g2,g3⟩:=foldl_val r (z3w out s) h2 (by rw [h1]; exact hs)
  exact ⟨g1.trans h1,g2,fun m hm => (g3 m hm).trans (h3 m hm)⟩
theorem z68 {l : List (Int × Int)} (hl : Long1 l) (hs : sumL l < 288230376151711744) : sumL (z2n l) = sumL l ∧ Long1 (z2n l) ∧ ∀ m,0 ≤ m → valF (z2n l) m = valF l m :=
 foldl_val l [] hl hs
theorem z86 {l : List (Int × Int)} (hl : Long1 l) (hs : sumL l < 288230376151711744) : ∀ k,k ≤ l.length → atOf l k = sumL (l.take k) ∧ 0 ≤ atOf l k ∧ atOf l k ≤ sumL l
 | 0,_ => by
  have:=z0q hl
  simp [atOf,sumL]; omega
 | k + 1,h => by
  obtain ⟨h1,h2,h3⟩:=z86 hl hs k (by omega)
  have e : sumL l = sumL (l.take (k + 1)) + sumL (l.drop (k + 1)):=by rw [← z1o,List.take_append_drop]
  have hd : 0 ≤ sumL (l.drop (k + 1)):=z0q fun s hs => hl s (List.mem_of_mem_drop hs)
  have hk:=hl l[k] (List.getElem_mem (by omega))
  have ht : sumL (l.take (k + 1)) = sumL (l.take k) + l[k].1:=by
   rw [List.take_succ_eq_append_getElem (by omega),z1o]
   simp [sumL]
  have hw : atOf l (k + 1) = sumL (l.take (k + 1)):=by
   rw [atOf,List.getElem?_eq_getElem (by omega),Option.getD_some,IntWalk.wrap64_in _ (by omega)]
   omega
  exact ⟨hw,by omega,by omega⟩
def OnP (p : Int) (l : List (Int × Int)) : Prop:=∀ s ∈ l,s.2 < 2 ^ p.toNat
theorem mstep_on {p : Int} {out : List (Int × Int)} {s : Int × Int} (ho : OnP p out) (hs : s.2 < 2 ^ p.toNat) : OnP p (z3w out s):=by
 rcases List.eq_nil_or_concat out with rfl | ⟨pre,t,rfl⟩
 ·rw [z3v]; intro x hx; rw [List.mem_singleton] at hx; rw [hx]; exact hs
 ·rw [List.concat_eq_append] at ho ⊢
  by_cases h : t.2 = s.2
  ·rw [z1x _ _ _ h]
   intro x hx
   rw [List.mem_append,List.mem_singleton] at hx
   rcases hx with hx | rfl
   ·exact ho x (by simp [hx])
   ·exact ho t (by simp)
  ·rw [z2m _ _ _ h]
   intro x hx
   rw [List.mem_append,List.mem_singleton] at hx
   rcases hx with hx | rfl
   ·exact ho x hx
   ·exact hs
theorem foldl_on {p : Int} : ∀ (l out : List (Int × Int)),OnP p out → OnP p l → OnP p (l.foldl z3w out)
 | [],_,h,_ => h
 | s :: r,out,h,hl => foldl_on r _ (mstep_on h (hl s (by simp))) (fun x hx => hl x (by simp [hx]))
theorem check_ok {p : Int} {L : List (Int × Int)} (hp : ¬(p < 0 ∨ 8 < p)) (h2 : L.length ≤ 1024) (hl : Long1 L) (ho : OnP p L) (hs : sumL L < 288230376151711744) : z0k p L = 0:=by
 have hb : L.any (badB p) = false:=by
  rw [List.any_eq_false]
  intro s hs
  have:=hl s hs
  have:=ho s hs
  simp [badB]; omega
 rw [checkP_far hp (by omega) hb,farE,z5q,anyFar L 0 (by omega) (by omega) hl,Int.zero_add,decide_eq_false (by omega)]
 rfl
theorem check_inv {p : Int} {l : List (Int × Int)} (hc : z0k p l = 0) : ¬(p < 0 ∨ 8 < p) ∧ l.length ≤ 1024 ∧ OnP p l:=by
 refine ⟨fun h => by rw [z95 h] at hc; simp at hc,z4d hc,fun s hs => ?_⟩
 have h1 : ¬(p < 0 ∨ 8 < p):=fun h => by rw [z95 h] at hc; simp at hc
 cases hb : l.any (badB p)
 ·have:=List.any_eq_false.1 hb s hs
  simp [badB] at this
  omega
 ·rw [checkP_bad h1 (by have:=z4d hc; omega) hb] at hc; simp at hc
theorem check_merged {p : Int} {l : List (Int × Int)} (hr : ∀ s ∈ l,InR s) (hc : z0k p l = 0) : z0k p (z2n l) = 0:=by
 obtain ⟨hp,hn,ho⟩:=check_inv hc
 obtain ⟨hl,hs,_⟩:=z5a hr hc
 obtain ⟨h1,h2,_⟩:=z68 hl hs
 exact check_ok hp (by have:=z6g l; omega) h2 (foldl_on l [] (fun x hx => by cases hx) ho) (by omega)
theorem wrap_split (U y : Int) (h : -9223372036854775808 ≤ y ∧ y ≤ 9223372036854775807) : wrap64 (U + wrap64 (y - U)) = y:=by unfold wrap64; omega
theorem wrap_add (a b c : Int) : wrap64 (wrap64 (a + b) + wrap64 (c - b)) = wrap64 (a + c):=by unfold wrap64; omega
theorem mstep_split (O : List (Int × Int)) (U y z : Int) (h : -9223372036854775808 ≤ y ∧ y ≤ 9223372036854775807) : z3w (z3w O (U,z)) (wrap64 (y - U),z) = z3w O (y,z):=by
 rcases List.eq_nil_or_concat O with rfl | ⟨pre,t,rfl⟩
 ·rw [z3v,z3v]
  have:=z1x [] (U,z) (wrap64 (y - U),z) rfl
  simp only [List.nil_append] at this
  rw [this,wrap_split U y h]
 ·rw [List.concat_eq_append]
  by_cases hz : t.2 = z
  ·rw [z1x pre t (U,z) hz,z1x pre (wrap64 (t.1 + U),t.2) (wrap64 (y - U),z) hz,z1x pre t (y,z) hz]
   simp only [wrap_add]
  ·rw [z2m pre t (U,z) hz,z2m pre t (y,z) hz,z1x (pre ++ [t]) (U,z) (wrap64 (y - U),z) rfl]
   simp only [wrap_split U y h]
theorem itemOf_get {l : List (Int × Int)} {k : Nat} (h : k < l.length) : z2z l k = (atOf l k,l[k].1,l[k].2):=by rw [z2z,List.getElem?_eq_getElem h,Option.getD_some]
theorem merged_cut {l : List (Int × Int)} (hr : ∀ s ∈ l,InR s) (m : Int) : ∀ k,k ≤ l.length → z2n (z2c m l k) = mTo l k
 | 0,_ => by simp [z2c,z1a,z2n,mTo]
 | k + 1,h => by
  have ih:=merged_cut hr m k (by omega)
  have hk:=hr l[k] (List.getElem_mem (by omega))
  rw [mTo_succ l k (by omega),← ih,z4p,itemOf_get (by omega),z5w]
  unfold z2n
  split
  ·rw [List.foldl_append,List.foldl_append]
   exact mstep_split _ _ _ _ ⟨hk.1,hk.2.1⟩
  ·rw [List.foldl_append]; rfl
theorem cut_good {p m : Int} {l : List (Int × Int)} (hl : Long1 l) (hs : sumL l < 288230376151711744) (ho : OnP p l) (hm1 : m ≤ sumL l) : ∀ k,k ≤ l.length → Long1 (z2c m l k) ∧ sumL (z2c m l k) = atOf l k ∧ OnP p (z2c m l k)
 | 0,_ => by simp [z2c,z1a,sumL,atOf,Long1,OnP]
 | k + 1,h => by
  obtain ⟨h1,h2,h3⟩:=cut_good (p:=p) hl hs ho hm1 k (by omega)
  obtain ⟨e1,a0,a1⟩:=z86 hl hs k (by omega)
  obtain ⟨e2,b0,b1⟩:=z86 hl hs (k + 1) h
  have hk:=hl l[k] (List.getElem_mem (by omega))
  have hok:=ho l[k] (List.getElem_mem (by omega))
  have hat : atOf l (k + 1) = wrap64 (atOf l k + l[k].1):=by rw [atOf,List.getElem?_eq_getElem (by omega),Option.getD_some]
  have hwr : atOf l (k + 1) = atOf l k + l[k].1:=by
   rw [e2,e1,List.take_succ_eq_append_getElem (by omega),z1o]
   simp [sumL]
  rw [z4p,itemOf_get (by omega),z5w]
  simp only
  rw [← hat]
  by_cases hc : atOf l k < m ∧ m < atOf l (k + 1)
  ·rw [if_pos hc,IntWalk.wrap64_in (m - atOf l k) (by omega),IntWalk.wrap64_in (l[k].1 - (m - atOf l k)) (by omega)]
   refine ⟨?_,?_,?_⟩
   ·intro s hs
    simp only [List.mem_append,List.mem_singleton] at hs
    rcases hs with (hs | rfl) | rfl
    ·exact h1 s hs
    ·simp only; omega
    ·simp only; omega
   ·simp only [z1o,sumL]; omega
   ·intro s hs
    simp only [List.mem_append,List.mem_singleton] at hs
    rcases hs with (hs | rfl) | rfl
    ·exact h3 s hs
    ·exact hok
    ·exact hok
  ·rw [if_neg hc]
   refine ⟨?_,?_,?_⟩
   ·intro s hs
    simp only [List.mem_append,List.mem_singleton] at hs
    rcases hs with hs | rfl
    ·exact h1 s hs
    ·exact hk
   ·simp only [z1o,sumL]; omega
   ·intro s hs
    simp only [List.mem_append,List.mem_singleton] at hs
    rcases hs with hs | rfl
    ·exact h3 s hs
    ·exact hok
theorem check_cut {p m : Int} {l : List (Int × Int)} (hr : ∀ s ∈ l,InR s) (hc : z0k p l = 0) (hd : (cutA 0 l m).2 = 0) : z0k p (cutA 0 l m).1 = 0 ∧ z2n (cutA 0 l m).1 = z2n l:=by
 rw [cutA,if_pos rfl] at hd ⊢
 unfold zat at hd ⊢
 split
 ·rename_i h; rw [if_pos h] at hd; simp at hd
 rename_i hm
 rw [if_neg hm] at hd
 split
 ·rename_i h; rw [if_pos h] at hd; simp at hd
 rename_i hn
 obtain ⟨hp,_,ho⟩:=check_inv hc
 obtain ⟨hl,hs,hf⟩:=z5a hr hc
 have ht : z3h l = sumL l:=by rw [z4s hl hf,if_pos hs]
 obtain ⟨h1,h2,h3⟩:=cut_good (p:=p) (m:=m) hl hs ho (by omega) l.length (Nat.le_refl _)
 obtain ⟨e1,_,e3⟩:=z86 hl hs l.length (Nat.le_refl _)
 refine ⟨check_ok hp (by simp only; omega) h1 h3 (by simp only; omega),?_⟩
 rw [merged_cut hr m l.length (Nat.le_refl _),mTo_all]
theorem z5o {c : Int} {l : List (Int × Int)} (hl : ∀ x ∈ l,InR x) : ∀ x ∈ z4m c l,InR x:=by
 unfold z4m
 split
 ·exact mergedL_range hl
 ·simp
theorem z54 (c : Int) (l : List (Int × Int)) : (z4m c l).length ≤ l.length:=by
 unfold z4m
 split
 ·exact z6g l
 ·simp
theorem z42 (n : Int) : -9223372036854775808 ≤ wrap64 n ∧ wrap64 n ≤ 9223372036854775807:=by unfold wrap64; omega
theorem itemOf_range {l : List (Int × Int)} (hl : ∀ x ∈ l,InR x) (k : Nat) : InR ((z2z l k).2.1,(z2z l k).2.2):=by
 simp only [z2z]
 by_cases h : k < l.length
 ·rw [List.getElem?_eq_getElem h]; exact hl _ (List.getElem_mem h)
 ·rw [List.getElem?_eq_none (by omega)]; simp [InR]
theorem zar {m : Int} {l : List (Int × Int)} (hl : ∀ x ∈ l,InR x) : ∀ k,∀ x ∈ z2c m l k,InR x
 | 0 => by simp [z2c,z1a]
 | k + 1 => by
  have ih:=zar (m:=m) hl k
  have hi:=itemOf_range hl k
  rw [z4p,z5w]
  intro x hx
  split at hx
  ·simp only [List.mem_append,List.mem_singleton] at hx
   rcases hx with (hx | rfl) | rfl
   ·exact ih x hx
   ·exact ⟨(z42 _).1,(z42 _).2,hi.2.2.1,hi.2.2.2⟩
   ·exact ⟨(z42 _).1,(z42 _).2,hi.2.2.1,hi.2.2.2⟩
  ·simp only [List.mem_append,List.mem_singleton] at hx
   rcases hx with hx | rfl
   ·exact ih x hx
   ·exact hi
theorem z94 {c m : Int} {l : List (Int × Int)} (hl : ∀ x ∈ l,InR x) : ∀ x ∈ (cutA c l m).1,InR x:=by
 unfold cutA zat
 split
 ·split
  ·simp
  ·split
   ·simp
   ·exact zar hl _
 ·simp
theorem z6z (c m : Int) (l : List (Int × Int)) : (cutA c l m).1.length ≤ 2 * l.length:=by
 unfold cutA zat
 split
 ·split
  ·simp
  ·split
   ·simp
   ·exact z5v m l _
 ·simp
open Go.RowKit Go.Shelf
theorem onG_val : ∀ (l : List (Int × Int)) (a m : Int),onG a l m = valF l (m - a)
 | [],_,_ => rfl
 | s :: r,a,m => by
  rw [onG,valF,onG_val r]
  by_cases h : m < a + s.1
  ·rw [if_pos h,if_pos (by omega)]
  ·rw [if_neg h,if_neg (by omega)]
   congr 1
   omega
theorem wCheck_err {names : List ByteArray} {m d n : Nat} {x : XT m d} {l : List (Int × Int)} {t u : Int × Int} {w : PT n} {is : Bool} {e : Int} (h : z0a names d x l t u n w = (is,e)) (he : e ≠ 0) : is = false:=by
 unfold z0a at h
 split at h
 ·exact (congrArg Prod.fst h).symm
 split at h
 ·exact (congrArg Prod.fst h).symm
 split at h
 ·exact (congrArg Prod.fst h).symm
 split at h
 ·exact (congrArg Prod.fst h).symm
 exact absurd (congrArg Prod.snd h).symm he
theorem wCheck_on {names : List ByteArray} {m d n : Nat} {x : XT m d} {l l' : List (Int × Int)} {t u : Int × Int} {w : PT n} {is : Bool} (h : z0a names d x l t u n w = (is,0)) (hl : Long1 l) (hs : sumL l < 288230376151711744) (hl' : Long1 l')
 (he : sumL l' = sumL l) (hv : ∀ m,0 ≤ m → valF l' m = valF l m) (hc : z0k names.length l' = 0) : z0a names d x l' t u n w = (is,0):=by
 obtain ⟨c1,c2,c3,c4,c5,c6⟩:=z15 h
 rw [z2d c1 hc c3 c4 c5,← c6]
 have e1:=z2e l 0
 have e2:=z2e l' 0
 have p1:=z0q hl
 have p2:=z0q hl'
 have k1 : ∀ s ∈ l,1 ≤ s.1:=fun s h => (hl s h).1
 have k2 : ∀ s ∈ l',1 ≤ s.1:=fun s h => (hl' s h).1
 rw [z3p _ l (fun s h => by have:=k1 s h; omega) (by omega) (by omega) n _ t u w c3 c4,z3p _ l' (fun s h => by have:=k2 s h; omega) (by omega) (by omega) n _ t u w c3 c4]
 rw [shows_on (z0v names m) k2 k1 (by omega) (fun m h0 _ => by rw [onG_val,onG_val]; exact hv _ (by omega)) n (toX d x) t u w c3 c4]
theorem z5i {names : List ByteArray} {m d n : Nat} {x : XT m d} {l : List (Int × Int)} {t u : Int × Int} {w : PT n} {is : Bool} (hr : ∀ s ∈ l,InR s) (h : z0a names d x l t u n w = (is,0)) : z0a names d x (z4m 0 l) t u n w = (is,0):=by
 have c2:=(z15 h).2.1
 obtain ⟨hl,hs,_⟩:=z5a hr c2
 obtain ⟨h1,h2,h3⟩:=z68 hl hs
 exact wCheck_on h hl hs h2 h1 h3 (check_merged hr c2)
theorem za5 {names : List ByteArray} {m d n : Nat} {x : XT m d} {l : List (Int × Int)} {t u : Int × Int} {w : PT n} {is : Bool} {at_ : Int} (hr : ∀ s ∈ l,InR s) (hr' : ∀ s ∈ (cutA 0 l at_).1,InR s) (h : z0a names d x l t u n w = (is,0)) (hk : (cutA 0 l at_).2 = 0) :
 z0a names d x (cutA 0 l at_).1 t u n w = (is,0):=by
 have c2:=(z15 h).2.1
 obtain ⟨hl,hs,_⟩:=z5a hr c2
 obtain ⟨k1,k2⟩:=check_cut hr c2 hk
 obtain ⟨gl,gs,_⟩:=z5a hr' k1
 obtain ⟨h1,h2,h3⟩:=z68 hl hs
 obtain ⟨g1,g2,g3⟩:=z68 gl gs
 rw [k2] at g1 g3
 exact wCheck_on h hl hs gl (by omega) (fun m hm => (g3 m hm).symm.trans (h3 m hm)) k1
theorem z5z {names : List ByteArray} {m d n : Nat} {x : XT m d} {l r : List (Int × Int)} {t u : Int × Int} {w : PT n} {b : Bool} (hr : ∀ s ∈ l ++ r,InR s) (h : z0a names d x l t u n w = (true,0)) (h' : z0a names d x (l ++ r) t u n w = (b,0)) : b = true:=by
 obtain ⟨c1,c2,c3,c4,c5,c6⟩:=z15 h
 obtain ⟨_,d2,_,_,_,d6⟩:=z15 h'
 obtain ⟨gl,gs,_⟩:=z5a hr d2
 have hl:=gl.left
 have hl2:=gl.right
 have e:=z1o l r
 have p1:=z0q hl
 have p2:=z0q hl2
 have e1:=z2e l 0
 have e2:=z2e (l ++ r) 0
 have k1 : ∀ s ∈ l,1 ≤ s.1:=fun s h => (hl s h).1
 have k2 : ∀ s ∈ r,1 ≤ s.1:=fun s h => (hl2 s h).1
 have k3 : ∀ s ∈ l ++ r,1 ≤ s.1:=fun s h => (gl s h).1
 rw [z3p _ l (fun s h => by have:=k1 s h; omega) (by omega) (by omega) n _ t u w c3 c4] at c6
 rw [z3p _ (l ++ r) (fun s h => by have:=k3 s h; omega) (by omega) (by omega) n _ t u w c3 c4] at d6
 rw [← d6]
 exact shows_more _ k1 k2 n _ t u w c3 c4 c6
theorem stays_within {names : List ByteArray} {m d n : Nat} {x : XT m d} {l : List (Int × Int)} {t u : Int × Int} {w : PT n} (hr : ∀ s ∈ l,InR s) (h : z0a names d x l t u n w = (true,0)) :
 0 ≤ t.1 / t.2 ∧ u.1 / u.2 ≤ z6h 0 l ∧ (u.1 / u.2 = z6h 0 l → u.1 % u.2 = 0):=by
 obtain ⟨c1,c2,c3,c4,c5,c6⟩:=z15 h
 obtain ⟨hl,hs,hf⟩:=z5a hr c2
 have p1:=z0q hl
 have e1:=z2e l 0
 have k1 : ∀ s ∈ l,1 ≤ s.1:=fun s h => (hl s h).1
 rw [z3p _ l (fun s h => by have:=k1 s h; omega) (by omega) (by omega) n _ t u w c3 c4] at c6
 obtain ⟨h1,h2⟩:=z9c _ l n _ t u w c3 c4 c6
 have q1:=z9x c3
 have q2:=z9x c4
 unfold ltQ at h1 h2
 simp only [decide_eq_false_iff_not,Int.mul_one,Int.zero_mul] at h1 h2
 have e3 : z6h 0 l = sumL l:=by rw [z6h,if_pos rfl,z4s hl hf,if_pos hs]
 have hdm:=Int.mul_ediv_add_emod u.1 u.2
 have hm0:=Int.emod_nonneg u.1 (show u.2 ≠ 0 by omega)
 rw [e1] at h2
 have e0 : (0 : Int) + sumL l = sumL l:=by omega
 rw [e0] at h2
 refine ⟨Int.ediv_nonneg (by omega) (by omega),?_,fun he => ?_⟩
 ·rw [e3]
  exact Int.le_of_lt_add_one ((Int.ediv_lt_iff_lt_mul q2).2 (by rw [Int.add_mul]; omega))
 ·rw [e3] at he
  rw [he,Int.mul_comm] at hdm
  omega
open Go.RowKit
theorem zal (a p : Int) (w : World) (ia : in64 a) (hm : mayP (a,p) = true) : Calls Tryz.prog 36 #[.agg #[.int .i64 a,.int .i64 p]] w fun e w' => e = .returned (.tuple #[.int .i64 (a / p),.bool (a % p == 0),.int .i64 0]) ∧ Below w.heap.size w w':=by
 obtain ⟨W1,hW1⟩ : ∃ W1,W1 = w.alloc (.cells #[.int .i64 a,.int .i64 p] 50):=⟨_,rfl⟩
 have hb1 : Below w.heap.size w W1:=by rw [hW1]; exact z08 _ _
 have hz1 : W1.heap.size = w.heap.size + 1:=by rw [hW1]; simp
 have hx1 : W1.heap[w.heap.size]? = some (.cells #[.int .i64 a,.int .i64 p] 50 (0,0)):=by rw [hW1]; exact z01 rfl
 have hp : 1 ≤ p ∧ p ≤ 1048576:=by
  unfold mayP mayQ at hm
  simp only [Bool.and_eq_true,decide_eq_true_eq] at hm
  exact ⟨hm.1.1.1.1,hm.1.1.1.2⟩
 have he : ratE a p = 0:=by
  have e : ratE a p = if mayP (a,p) = true then 0 else 8:=rfl
  rw [e,if_pos hm]
 have HC:=fun W => Jh (z1p a p W ia)
 rw [he] at HC
 have HF:=fun W => Jh (z5b a p W hp.1 hp.2 ia.1 ia.2)
 obtain ⟨q,hq⟩ : ∃ q,a / p = q:=⟨_,rfl⟩
 obtain ⟨r,hr⟩ : ∃ r,a % p = r:=⟨_,rfl⟩
 rw [hq,hr] at HF ⊢
 have HB1:=Jh hb1
 have HX:=Jh hx1
 have HZ:=Jh hz1
 have HW:=Jh hW1.symm
 clear hm he hp ia hq hr hb1 hx1 hz1 hW1
 go_enter Tryz.func36,Tryz.ntmps36
 go_upto_region 1 with fail
 rw [HW.out]
 have xa:=Jc HX.out 0
 have xb:=Jc HX.out 1
 have xc : w.heap.size < W1.heap.size:=by have:=HZ.out; omega
 simp only [J9,J7,J8] at xa xb
 go_upto_region 2 with fail
 clear xa xb xc
 refine (HC W1).out.mono ?_
 rintro e w2 ⟨rfl,hb2⟩
 have hx2:=(hb2.block _ (Array.getElem?_eq_some_iff.1 HX.out).1).trans HX.out
 have xa:=Jc hx2 0
 have xb:=Jc hx2 1
 have xc : w.heap.size < w2.heap.size:=(Array.getElem?_eq_some_iff.1 hx2).1
 simp only [J9,J7,J8] at xa xb
 have HB2:=Jh (belS HB1.out (hb2.mono (by have:=HZ.out; omega)))
 clear hb2 hx2 HC HW
 go_upto_region 4 with fail
 clear xa xb xc
 refine (HF w2).out.mono ?_
 rintro e w3 ⟨rfl,hb3⟩
 have HB3:=Jh (belS HB2.out hb3)
 clear hb3 HF
 go_wp2_with fail
 exact bodyPost_ret (results_tmp3 rfl _ _ _) rfl ⟨rfl,HB3.out⟩
theorem z2k (w : World) (B : Nat) (v sv : Value) (L r : List (Int × Int)) (ho : OwnS w B v L) (hB : B ≤ w.heap.size) (hs : Segs w w.heap.size sv r) (hz : L.length + r.length ≤ 100000) :
 ∃ v' w',(Builtin.append_ #[48,48] 48 #[v,sv]).run Tryz.prog w = .ok v' w' ∧ OwnS w' B v' (L ++ r) ∧ Below B w w':=by
 obtain ⟨a,cap,rfl,hm,hc,hr⟩:=hs
 obtain ⟨i0,hi,hz0,hz1,hz2⟩:=info_parts Tryz.info29
 by_cases h0 : r = []
 ·subst h0
  have ho':=ho
  obtain ⟨_,hh⟩:=ho
  rw [List.append_nil]
  rcases hh with ⟨rfl,h0⟩ | ⟨g,cp,cur,rfl,hg,hb,_,_,_,_⟩
  ·refine ⟨.slice none 0 0,w,?_,ho',Below.refl _ _⟩
   cases a <;> simp [Builtin.append_,run_underlying Tryz.underlying48,sizeOf,typeInfo,hi,Builtin.lenOf,Builtin.firstCells,loadCells,loadCellsFrom]
  ·have hle : L.length ≤ cp:=by assumption
   refine ⟨.slice (some ⟨g,0,none⟩) L.length cp,w,?_,ho',Below.refl _ _⟩
   cases a <;> simp [Builtin.append_,run_underlying Tryz.underlying48,sizeOf,typeInfo,hi,Builtin.lenOf,Builtin.firstCells,loadCells,loadCellsFrom,storeCells,hle]
 ·rcases hc with hc | ⟨b,off,rfl,hbl,hc⟩
  ·exact absurd hc h0
  obtain ⟨v',w',h1,h2,h3,h4,h5⟩:=run_append_own_at (P:=Tryz.prog) w B 48 48 29 i0 _ 2 16 Tryz.underlying48 hi hz0 hz1 hz2 rfl (by decide) v L.length (z3k L) ho ⟨b,off,none⟩ r.length cap (z3k r) (z1d r) (by
   intro j u hj
   have hjl : j < r.length * 2:=by rw [← z1d]; exact (List.getElem?_eq_some_iff.1 hj).1
   have h2:=hc (j / 2) (by omega)
   have h3:=z6y r (j / 2) (by omega)
   rw [Addr.add_lit]
   rcases Nat.mod_two_eq_zero_or_one j with e | e
   ·have ej : j / 2 * 2 = j:=by omega
    rw [ej] at h2 h3
    rw [h2.1,← h3.1,hj]
   ·have ej : j / 2 * 2 + 1 = j:=by omega
    have ek : off + j / 2 * 2 + 1 = off + j:=by omega
    rw [ej] at h3
    rw [ek] at h2
    rw [h2.2,← h3.2,hj]) (by
   intro u hu
   obtain ⟨y,_,hy⟩:=List.mem_flatMap.1 hu
   simp at hy
   rcases hy with rfl | rfl <;> rfl) (by simp only [maxLen]; omega) (by omega) hB
  refine ⟨v',w',h1,?_,(Below.refl B w).grown h3 hB (fun k hk => (World.ownsRow.lt ho k hk).1)⟩
  show w'.ownsRow B 29 2 v' (L ++ r).length (z3k (L ++ r))
  rw [List.length_append,z1m]
  exact h2
end Go.Proofs.YtockinpjfhhkoaaGreatDoor
