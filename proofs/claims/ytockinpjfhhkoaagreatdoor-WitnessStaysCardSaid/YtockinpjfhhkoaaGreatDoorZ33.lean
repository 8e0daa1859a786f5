/- rallentandoref22.Merged: the book's merged. -/
import Derived.Test.YtockinpjfhhkoaaGreatDoorZ32
set_option maxRecDepth 100000
set_option maxHeartbeats 16000000
open List renaming getElem?_cons_succ → J8
open Go.Lib renaming hid → Jh
namespace Go.Proofs.YtockinpjfhhkoaaGreatDoor
open Go.RowKit Go.Shelf
attribute [local go_sem ↓] Go.wp_at_zero Go.wp_at_succ
open Go.RowKit Go.Shelf
attribute [local go_sem ↓] Go.wp_at_zero Go.wp_at_succ
def totF : List (Int × Int) → Int → Int
 | [],n => n
 | x :: r,n => if n < 288230376151711744 then totF r (wrap64 (n + x.1)) else n
def z3h (l : List (Int × Int)) : Int:=if 288230376151711744 < totF l 0 then 288230376151711744 else totF l 0
def ofF : List (Int × Int) → Int → Int
 | [],_ => 0
 | x :: r,n => if n < x.1 then x.2 else ofF r (wrap64 (n - x.1))
@[local go_sem] theorem eq39 (a b c d : Int) (w : World) : (Op.equalIn 10000 29 (.agg #[.int .i64 a,.int .u8 b]) (.agg #[.int .i64 c,.int .u8 d])).run Tryz.prog w = .ok (a == c && b == d) w:=by
 have u3:=Tryz.underlying3
 have a3:=Tryz.isAgg3
 have z3:=Tryz.sizeOf3
 have u5:=Tryz.underlying5
 have a5:=Tryz.isAgg5
 have z5:=Tryz.sizeOf5
 have hS : Tryz.prog.underlying 29 = some (.struct (Tryz.prog.fieldsOf 29)):=by kernel_rfl
 have hp : Tryz.prog.stoodInHeld 29 = false:=by kernel_rfl
 rw [show (10000 : Nat) = 9999 + 1 from rfl,run_equalIn_agg w 9999 29 _ _ hS hp]
 simp only [Program.fieldsOf,Tryz.underlying29]
 go_simp
 by_cases h1 : a = c <;> by_cases h2 : b = d <;> simp [h1,h2]
open Go.RowKit Go.Shelf
attribute [local go_sem ↓] Go.wp_at_zero Go.wp_at_succ
attribute [local go_sem] eq39
def farB (s : Int × Int) : Bool:=decide (288230376151711744 ≤ s.1)
def check22P (p : Int) (l : List (Int × Int)) : Int :=
 if p < 0 ∨ 8 < p then 2 else if 1024 < l.length then 4 else if l.any (badB p) then 8 else if l.any farB then 220 else if 288230376151711744 ≤ z3h l then 220 else 0
open Go.RowKit Go.Shelf
attribute [local go_sem ↓] Go.wp_at_zero Go.wp_at_succ
def InR (s : Int × Int) : Prop:=-9223372036854775808 ≤ s.1 ∧ s.1 ≤ 9223372036854775807 ∧ 0 ≤ s.2 ∧ s.2 ≤ 255
theorem mstep_range {out : List (Int × Int)} {s : Int × Int} (ho : ∀ x ∈ out,InR x) (hs : InR s) : ∀ x ∈ z3w out s,InR x:=by
 rcases List.eq_nil_or_concat out with rfl | ⟨pre,t,rfl⟩
 ·rw [z3v]; simpa using hs
 ·rw [List.concat_eq_append] at ho ⊢
  have ht:=ho t (by simp)
  by_cases h : t.2 = s.2
  ·rw [z1x _ _ _ h]
   intro x hx
   simp only [List.mem_append,List.mem_singleton] at hx
   rcases hx with hx | rfl
   ·exact ho x (by simp [hx])
   ·refine ⟨?_,?_,ht.2.2.1,ht.2.2.2⟩ <;> (unfold wrap64; omega)
  ·rw [z2m _ _ _ h]
   intro x hx
   rw [List.mem_append] at hx
   rcases hx with hx | hx
   ·exact ho x hx
   ·rw [List.mem_singleton] at hx; rw [hx]; exact hs
theorem z90 (l : List (Int × Int)) : ∀ (out : List (Int × Int)),(∀ x ∈ out,InR x) → (∀ x ∈ l,InR x) → ∀ x ∈ l.foldl z3w out,InR x:=by
 induction l with
 | nil => intro out ho _; exact ho
 | cons s r ih => intro out ho hl; exact ih _ (mstep_range ho (hl s (by simp))) (fun x hx => hl x (by simp [hx]))
theorem mergedL_range {l : List (Int × Int)} (hl : ∀ x ∈ l,InR x) : ∀ x ∈ z2n l,InR x:=z90 l [] (by simp) hl
theorem z6g (l : List (Int × Int)) : (z2n l).length ≤ l.length:=by rw [← mTo_all]; exact z8x l _ (Nat.le_refl _)
theorem z6y : ∀ (l : List (Int × Int)) (i : Nat),i < l.length → (z3k l)[i * 2]? = some (.int .i64 (l[i]?.getD (0,0)).1) ∧ (z3k l)[i * 2 + 1]? = some (.int .u8 (l[i]?.getD (0,0)).2)
 | [],i,h => by simp at h
 | s :: l,0,_ => by simp [z3k]
 | s :: l,i + 1,h => by
  have:=z6y l i (by simpa using h)
  have h2 : z3k (s :: l) = [.int .i64 s.1,.int .u8 s.2] ++ z3k l:=by simp [z3k]
  rw [h2,List.getElem?_append_right (by simp; omega),List.getElem?_append_right (by simp; omega)]
  simp only [List.length_cons,List.length_nil]
  rw [show (i + 1) * 2 - (0 + 1 + 1) = i * 2 by omega,show (i + 1) * 2 + 1 - (0 + 1 + 1) = i * 2 + 1 by omega]
  simpa using this
theorem OwnS.segs {w : World} {B : Nat} {v : Value} {l : List (Int × Int)} (h : OwnS w B v l) (hm : l.length ≤ 9223372036854775807) (hr : ∀ s ∈ l,InR s) : Segs w w.heap.size v l:=by
 have h':=h
 obtain ⟨_,hh⟩:=h
 rcases hh with ⟨rfl,h0⟩ | ⟨g,cap,cur,rfl,hg,hb,_,_,_,_⟩
 ·exact ⟨none,0,by rw [h0],hm,.inl (List.eq_nil_of_length_eq_zero h0),hr⟩
 ·refine ⟨_,cap,rfl,hm,.inr ⟨g,0,rfl,(Array.getElem?_eq_some_iff.1 hb).1,fun i hi => ?_⟩,hr⟩
  have h3:=z6y l i hi
  refine ⟨?_,?_⟩
  ·rw [Nat.zero_add,h'.cellAt _ (by omega)]; exact h3.1
  ·rw [Nat.zero_add,h'.cellAt _ (by omega)]; exact h3.2
theorem OwnS.mono {w : World} {B B' : Nat} {v : Value} {l : List (Int × Int)} (h : OwnS w B v l) (hb : B' ≤ B) : OwnS w B' v l:=by
 obtain ⟨h1,hh⟩:=h
 refine ⟨h1,?_⟩
 rcases hh with h2 | ⟨g,cap,cur,h2,hg,hr⟩
 ·exact .inl h2
 ·exact .inr ⟨g,cap,cur,h2,by omega,hr⟩
def z4m (c : Int) (l : List (Int × Int)) : List (Int × Int):=if c = 0 then z2n l else []
theorem z4d {p : Int} {l : List (Int × Int)} (h : z0k p l = 0) : l.length ≤ 1024:=by
 unfold z0k at h
 split at h
 ·simp at h
 ·split at h
  ·simp at h
  ·omega
theorem zad (p : Int) (v : Value) (l : List (Int × Int)) (w : World) (hs : Segs w w.heap.size v l) :
 Calls Tryz.prog 37 #[.int .i64 p,v] w fun e w' => (∃ v',e = .returned (.tuple #[v',.int .i64 (z0k p l)]) ∧ OwnS w' w.heap.size v' (z4m (z0k p l) l)) ∧ Below w.heap.size w w':=by
 have HC:=z82 p v l w hs
 have HS:=Jh hs
 obtain ⟨c,hc⟩ : ∃ c,z0k p l = c:=⟨_,rfl⟩
 rw [hc] at HC ⊢
 have HK:=Jh hc
 clear hc
 obtain ⟨a,cap,rfl,hm,h,hr⟩:=hs
 clear h hr
 by_cases h0 : c = 0
 ·subst h0
  have hlen : l.length ≤ 1024:=z4d HK.out
  go_enter Tryz.func37,Tryz.ntmps37
  go_wp2_with fail
  refine HC.mono ?_
  rintro e w1 ⟨rfl,hb1⟩
  clear HC
  have HM:=merged_any _ l w1 ((HS.out.below hb1).mono hb1.size) (by omega)
  go_wp2_with fail
  refine HM.mono ?_
  rintro e w2 ⟨⟨v',rfl,ho⟩,hb2⟩
  clear HM
  have hn : z4m 0 l = z2n l:=by rw [z4m,if_pos rfl]
  have HN:=Jh hn
  clear hn
  go_wp2_with fail
  go_ret2
  exact ⟨⟨v',rfl,by rw [HN.out]; exact ho.mono hb1.size⟩,hb1.trans (hb2.mono hb1.size)⟩
 ·have d0 : (c != 0) = true:=by simpa using h0
  have HN : Hid (z4m c l = []):=by rw [Hid,z4m,if_neg h0]
  clear h0
  go_enter Tryz.func37,Tryz.ntmps37
  go_wp2_with fail
  refine HC.mono ?_
  rintro e w1 ⟨rfl,hb1⟩
  clear HC
  go_wp2_with fail
  go_ret2
  exact ⟨⟨_,rfl,by rw [HN.out]; exact World.ownsRow_nil _ _ _ _⟩,hb1⟩
def z6h (c : Int) (l : List (Int × Int)) : Int:=if c = 0 then z3h l else 0
open Go.RowKit Go.Shelf
attribute [local go_sem ↓] Go.wp_at_zero Go.wp_at_succ
open Go.RowKit Go.Shelf
def z2f : Int → List (Int × Int) → List (Int × Int × Int)
 | _,[] => []
 | a,x :: r => (a,x.1,x.2) :: z2f (wrap64 (a + x.1)) r
def z3g : Int → List (Int × Int) → Nat → Int
 | a,_,0 => a
 | a,[],k + 1 => z3g (wrap64 (a + 0)) [] k
 | a,x :: r,k + 1 => z3g (wrap64 (a + x.1)) r k
theorem z77 : ∀ (l : List (Int × Int)) (a : Int) (k : Nat),z3g a l (k + 1) = wrap64 (z3g a l k + (l[k]?.getD (0,0)).1)
 | [],a,0 => by simp [z3g]
 | [],a,k + 1 => by rw [z3g,z77 [] _ k,z3g]; simp
 | x :: r,a,0 => by simp [z3g]
 | x :: r,a,k + 1 => by rw [z3g,z77 r _ k,z3g]; simp
theorem zay (l : List (Int × Int)) : ∀ k,atOf l k = z3g 0 l k
 | 0 => by cases l <;> rfl
 | k + 1 => by rw [z77,← zay l k]; rfl
theorem z5e : ∀ (l : List (Int × Int)) (a : Int),(z2f a l).length = l.length
 | [],_ => rfl
 | x :: r,a => by simp [z2f,z5e r]
theorem z7p : ∀ (l : List (Int × Int)) (a : Int) (k : Nat),k < l.length → (z2f a l)[k]? = some (z3g a l k,(l[k]?.getD (0,0)).1,(l[k]?.getD (0,0)).2)
 | [],_,_,h => by simp at h
 | x :: r,a,0,_ => by simp [z2f,z3g]
 | x :: r,a,k + 1,h => by
  rw [z2f,J8,z7p r _ k (by simpa using h),z3g]
  simp
theorem z5q (l : List (Int × Int)) : z1a l l.length = z2f 0 l:=by
 apply List.ext_getElem?
 intro k
 by_cases hk : k < l.length
 ·rw [z7p l 0 k hk,← zay]
  simp [z1a,hk,z2z]
 ·rw [List.getElem?_eq_none (by rw [z6i]; omega),List.getElem?_eq_none (by rw [z5e]; omega)]
def sumL : List (Int × Int) → Int
 | [] => 0
 | x :: r => x.1 + sumL r
def Long1 (l : List (Int × Int)) : Prop:=∀ s ∈ l,1 ≤ s.1 ∧ s.1 ≤ 9223372036854775807
theorem Long1.tail {x : Int × Int} {r : List (Int × Int)} (h : Long1 (x :: r)) : Long1 r:=fun s hs => h s (by simp [hs])
theorem z0q : ∀ {l : List (Int × Int)},Long1 l → 0 ≤ sumL l
 | [],_ => by simp [sumL]
 | x :: r,h => by
  have:=z0q h.tail
  have:=h x (by simp)
  simp only [sumL]; omega
theorem sumL_far {l : List (Int × Int)} (h : Long1 l) (hf : l.any farB = true) : 288230376151711744 ≤ sumL l:=by
 induction l with
 | nil => simp at hf
 | cons x r ih =>
  have h1:=z0q h.tail
  have h2:=h x (by simp)
  simp only [List.any_cons,Bool.or_eq_true] at hf
  simp only [sumL]
  rcases hf with hf | hf
  ·simp [farB] at hf; omega
  ·have:=ih h.tail hf; omega
theorem anyFar : ∀ (l : List (Int × Int)) (a : Int),0 ≤ a → a < 288230376151711744 → Long1 l → (z2f a l).any farI = decide (288230376151711744 ≤ a + sumL l)
 | [],a,_,h,_ => by simp [z2f,sumL]; omega
 | x :: r,a,h0,h,hl => by
  have h1:=z0q hl.tail
  have h2:=hl x (by simp)
  have hw : wrap64 (288230376151711744 - a) = 288230376151711744 - a:=IntWalk.wrap64_in _ (by omega)
  have hf : farI (a,x.1,x.2) = decide (288230376151711744 - a ≤ x.1):=by simp only [farI,hw]
  simp only [z2f,List.any_cons,hf,sumL]
  by_cases hx : 288230376151711744 - a ≤ x.1
  ·rw [decide_eq_true hx,Bool.true_or]
   symm
   exact decide_eq_true (by omega)
  ·rw [decide_eq_false hx,Bool.false_or,IntWalk.wrap64_in _ (by omega),anyFar r (a + x.1) (by omega) (by omega) hl.tail]
   exact decide_eq_decide.2 (by omega)
theorem totF_ge (l : List (Int × Int)) (n : Int) (h : 288230376151711744 ≤ n) : totF l n = n:=by
 cases l with
 | nil => rfl
 | cons x r => rw [totF,if_neg (by omega)]
theorem totF_sum : ∀ (l : List (Int × Int)) (a : Int),0 ≤ a → a < 288230376151711744 → Long1 l → l.any farB = false → (a + sumL l < 288230376151711744 → totF l a = a + sumL l) ∧ (288230376151711744 ≤ a + sumL l → 288230376151711744 ≤ totF l a)
 | [],a,_,h,_,_ => by simp [totF,sumL]
 | x :: r,a,h0,h,hl,hf => by
  have h1:=z0q hl.tail
  have h2:=hl x (by simp)
  simp only [List.any_cons,Bool.or_eq_false_iff] at hf
  obtain ⟨hx,hf⟩:=hf
  simp only [farB,decide_eq_false_iff_not] at hx
  simp only [totF,sumL,if_pos h]
  rw [IntWalk.wrap64_in _ (by omega)]
  by_cases hb : a + x.1 < 288230376151711744
  ·have:=totF_sum r (a + x.1) (by omega) hb hl.tail hf
   refine ⟨fun h => ?_,fun h => this.2 (by omega)⟩
   rw [this.1 (by omega)]; omega
  ·rw [totF_ge _ _ (by omega)]
   exact ⟨fun h => by omega,fun h => by omega⟩
theorem z4s {l : List (Int × Int)} (hl : Long1 l) (hf : l.any farB = false) : z3h l = if sumL l < 288230376151711744 then sumL l else 288230376151711744:=by
 have:=totF_sum l 0 (by omega) (by omega) hl hf
 rw [Int.zero_add] at this
 unfold z3h
 by_cases h : sumL l < 288230376151711744
 ·rw [if_pos h,this.1 h,if_neg (by omega)]
 ·rw [if_neg h]
  have h2:=this.2 (by omega)
  split <;> omega
theorem long1_of {l : List (Int × Int)} {p : Int} (hr : ∀ s ∈ l,InR s) (hb : l.any (badB p) = false) : Long1 l:=fun s hs => by
 have h1:=List.any_eq_false.1 hb s hs
 simp only [badB,Bool.or_eq_true,decide_eq_true_eq,not_or] at h1
 have:=(hr s hs).2.1
 omega
theorem check_eq {p : Int} {l : List (Int × Int)} (hr : ∀ s ∈ l,InR s) : z0k p l = check22P p l:=by
 unfold z0k check22P
 by_cases h1 : p < 0 ∨ 8 < p
 ·rw [if_pos h1,if_pos h1]
 rw [if_neg h1,if_neg h1]
 by_cases h2 : 1024 < l.length
 ·rw [if_pos h2,if_pos h2]
 rw [if_neg h2,if_neg h2]
 cases h3 : l.any (badB p)
 ·have hl:=long1_of hr h3
  simp only [Bool.false_eq_true,if_false]
  rw [farE,z5q,anyFar l 0 (by omega) (by omega) hl,Int.zero_add]
  cases h4 : l.any farB
  ·rw [z4s hl h4]
   by_cases h5 : 288230376151711744 ≤ sumL l
   ·simp [h5,show ¬ sumL l < 288230376151711744 by omega]
   ·simp [h5,show sumL l < 288230376151711744 by omega]
  ·simp [sumL_far hl h4]
 ·simp
theorem z5a {p : Int} {l : List (Int × Int)} (hr : ∀ s ∈ l,InR s) (hc : z0k p l = 0) : Long1 l ∧ sumL l < 288230376151711744 ∧ l.any farB = false:=by
 unfold z0k at hc
 split at hc
 ·simp at hc
 split at hc
 ·simp at hc
 cases h3 : l.any (badB p)
 ·have hl:=long1_of hr h3
  rw [h3] at hc
  simp only [Bool.false_eq_true,if_false] at hc
  rw [farE,z5q,anyFar l 0 (by omega) (by omega) hl,Int.zero_add] at hc
  have hs : sumL l < 288230376151711744:=by
   by_cases h5 : 288230376151711744 ≤ sumL l
   ·simp [h5] at hc
   ·omega
  refine ⟨hl,hs,?_⟩
  cases h4 : l.any farB
  ·rfl
  ·have:=sumL_far hl h4; omega
 ·rw [h3] at hc; simp at hc
theorem atFrom_sum : ∀ (l : List (Int × Int)) (a : Int),0 ≤ a → a + sumL l < 288230376151711744 → Long1 l → z3g a l l.length = a + sumL l
 | [],a,_,_,_ => by simp [z3g,sumL]
 | x :: r,a,h0,h,hl => by
  have h1:=z0q hl.tail
  have h2:=hl x (by simp)
  simp only [sumL] at h ⊢
  rw [List.length_cons,z3g,IntWalk.wrap64_in _ (by omega),atFrom_sum r _ (by omega) (by omega) hl.tail]
  omega
theorem long_eq {p : Int} {l : List (Int × Int)} (hr : ∀ s ∈ l,InR s) (hc : z0k p l = 0) : atOf l l.length = z3h l:=by
 obtain ⟨hl,hs,hf⟩:=z5a hr hc
 rw [zay,atFrom_sum l 0 (by omega) (by omega) hl,z4s hl hf,if_pos hs,Int.zero_add]
end Go.Proofs.YtockinpjfhhkoaaGreatDoor
