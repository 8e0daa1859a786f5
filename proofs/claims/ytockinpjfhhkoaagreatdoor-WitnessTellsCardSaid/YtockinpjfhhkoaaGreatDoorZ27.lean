/- Proofs that are not great have short rows: plain. -/
import Derived.Test.YtockinpjfhhkoaaGreatDoorZ22
import Derived.Test.YtockinpjfhhkoaaGreatDoorZ06
import Derived.Test.YtockinpjfhhkoaaGreatDoorZ26
import Derived.Test.YtockinpjfhhkoaaGreatDoorZ25
import Derived.Lib.SmallJoins
import Derived.Maps.OwnIn
import Derived.Deep.RegionHeld
import Derived.Deep.Cut
import Derived.LoopTactic
import Derived.Test.YtockinpjfhhkoaaGreatDoorZ03
import Derived.Test.YtockinpjfhhkoaaGreatDoorZ04
import Derived.Test.YtockinpjfhhkoaaGreatDoorZ05
import Derived.Test.YtockinpjfhhkoaaGreatDoorZ09
set_option maxRecDepth 100000
set_option maxHeartbeats 16000000
open List renaming getElem?_cons_succ → J8
namespace Go.Proofs.YtockinpjfhhkoaaGreatDoor
open Go.RowKit
def lenT : (n : Nat) → PT n → Prop
 | 0,_ => True
 | n + 1,t => t.2.2.1.length ≤ 6000 ∧ ∀ y ∈ t.2.2.2,lenT n y
def rngT : (n : Nat) → PT n → Prop
 | 0,_ => True
 | n + 1,t => (∀ s ∈ t.2.2.1,in64 s.1) ∧ ∀ y ∈ t.2.2.2,rngT n y
theorem z2s {α : Type} (f : α → Int → Int) (m : Int) (h : m < 0) : ∀ (l : List α),z1g f l m = m
 | [] => rfl
 | x :: r => by rw [z1g,if_neg (by omega)]
theorem room_row {n : Nat} (ih : ∀ (t : PT n) (l : Int),0 ≤ l → l ≤ 6000 → 0 ≤ z0j n t l → z0j n t l ≤ l ∧ lenT n t) :
 ∀ (r : List (PT n)) (m : Int),0 ≤ m → m ≤ 6000 → 0 ≤ z1g (z0j n) r m → z1g (z0j n) r m ≤ m ∧ ∀ y ∈ r,lenT n y
 | [],m,_,_,_ => ⟨Int.le_refl _,fun y hy => by cases hy⟩
 | x :: r,m,h0,h1,h => by
  rw [z1g,if_pos h0] at h ⊢
  have hx : 0 ≤ z0j n x m:=by
   rcases Int.lt_or_le (z0j n x m) 0 with hn | hn
   ·rw [z2s _ _ hn] at h; omega
   ·exact hn
  obtain ⟨h2,h3⟩:=ih x m h0 h1 hx
  obtain ⟨h4,h5⟩:=room_row ih r (z0j n x m) hx (by omega) h
  refine ⟨by omega,fun y hy => ?_⟩
  cases hy with
  | head => exact h3
  | tail _ hy => exact h5 y hy
theorem room_ok : ∀ (n : Nat) (t : PT n) (l : Int),0 ≤ l → l ≤ 6000 → 0 ≤ z0j n t l → z0j n t l ≤ l ∧ lenT n t
 | 0,_,l,_,_,_ => ⟨Int.le_refl _,trivial⟩
 | n + 1,t,l,h0,h1,h => by
  have hw1 : wrap64 (l - 1) = l - 1:=IntWalk.wrap64_in _ (by omega)
  have hm : 0 ≤ z1d t.2.2.1.length 10000 ∧ z1d t.2.2.1.length 10000 ≤ 10000:=by unfold z1d; split <;> omega
  have hw2 : wrap64 (wrap64 (l - 1) - z1d t.2.2.1.length 10000) = l - 1 - z1d t.2.2.1.length 10000:=by rw [hw1]; exact IntWalk.wrap64_in _ (by omega)
  have h' : 0 ≤ z1g (z0j n) t.2.2.2 (l - 1 - z1d t.2.2.1.length 10000):=by rw [← hw2]; exact h
  have hpos : 0 ≤ l - 1 - z1d t.2.2.1.length 10000:=by
   rcases Int.lt_or_le (l - 1 - z1d t.2.2.1.length 10000) 0 with hn | hn
   ·rw [z2s _ _ hn] at h'; omega
   ·exact hn
  obtain ⟨h4,h5⟩:=room_row (room_ok n) t.2.2.2 _ hpos (by omega) h'
  refine ⟨?_,?_,h5⟩
  ·show z1g (z0j n) t.2.2.2 (wrap64 (wrap64 (l - 1) - z1d t.2.2.1.length 10000)) ≤ l
   rw [hw2]; omega
  ·have : z1d t.2.2.1.length 10000 ≤ 6000:=by omega
   unfold z1d at this
   split at this <;> omega
theorem okT_of : ∀ (n : Nat) (t : PT n),rngT n t → lenT n t → okT n t
 | 0,_,_,_ => trivial
 | n + 1,_,h,k => ⟨h.1,by have:=k.1; omega,fun y hy => okT_of n y (h.2 y hy) (k.2 y hy)⟩
theorem okT_small {n : Nat} {t : PT n} (h : rngT n t) (k : ¬ z0j n t 6000 < 0) : okT n t:=okT_of n t h (room_ok n t 6000 (by decide) (by decide) (by omega)).2
open Go.RowKit Go.Shelf
attribute [local go_sem ↓] Go.wp_at_zero Go.wp_at_succ
def InR (s : Int × Int) : Prop:=-9223372036854775808 ≤ s.1 ∧ s.1 ≤ 9223372036854775807 ∧ 0 ≤ s.2 ∧ s.2 ≤ 255
theorem z5q {p : Int} {l : List (Int × Int)} (h : z0p p l = 0) : l.length ≤ 1024:=by
 unfold z0p at h
 split at h
 ·simp at h
 ·split at h
  ·simp at h
  ·omega
open Go.ChangeShapes Go.WideShapes Go.ChangeAt Go.RowKit Go.Joins
theorem Tryz.cells29w : Tryz.prog.cellsOf 29 = 2:=by kernel_rfl
theorem Tryz.cells50 : Tryz.prog.cellsOf 50 = 2:=by kernel_rfl
theorem Tryz.cells52 : Tryz.prog.cellsOf 52 = 4:=by kernel_rfl
theorem Tryz.cells53 : Tryz.prog.cellsOf 53 = 1:=by kernel_rfl
theorem Tryz.cells54 : Tryz.prog.cellsOf 54 = 1:=by kernel_rfl
theorem Tryz.cells56 : Tryz.prog.cellsOf 56 = 4:=by kernel_rfl
theorem wf64w {n : Int} (h : (Lit.int .i64 n).wf = true) : in64 n:=by
 simp only [Lit.wf,Bool.and_eq_true,decide_eq_true_eq] at h
 have h5 : IntKind.min .i64 = -9223372036854775808:=by decide
 have h6 : IntKind.max .i64 = 9223372036854775807:=by decide
 exact ⟨by omega,by omega⟩
theorem wf8w {n : Int} (h : (Lit.int .u8 n).wf = true) : 0 ≤ n ∧ n ≤ 255:=by
 simp only [Lit.wf,Bool.and_eq_true,decide_eq_true_eq] at h
 have h5 : IntKind.min .u8 = 0:=by decide
 have h6 : IntKind.max .u8 = 255:=by decide
 omega
section
variable {H : Type} {enc : TypeId × Value → H} {w : World} {base : Nat} {spare : Nat → Bool} {held : Bool}
theorem open_rat {fuel : Nat} {cs : List Value} {x : DataW H × List MemPlace} (h : DataW.trod enc Tryz.prog w base spare held fuel 50 cs = some x) : ∃ a b,cs = [.int .i64 a,.int .i64 b] ∧ in64 a:=by
 obtain ⟨xs,n,_,_,hl,hx,hf⟩:=DataW.trod_struct Tryz.underlying50 h
 rw [Tryz.cells50] at hl
 match cs,hl with
 | [c0,c1],_ =>
  have h0:=hf 0 _ rfl
  have h1:=hf 1 _ rfl
  match xs,hx with
  | [y0,y1],_ =>
   obtain ⟨a,e0,_,wa⟩:=DataW.trod_int (k:=.i64) Tryz.underlying3 (by simpa [Tryz.cells3] using h0)
   obtain ⟨b,e1,_⟩:=DataW.trod_int (k:=.i64) Tryz.underlying3 (by simpa [Tryz.cells3] using h1)
   simp at e0 e1
   exact ⟨a,b,by rw [e0,e1],wf64w wa⟩
theorem open_point {v : Value} {d : DataW H} {ps : List MemPlace} {W : World} {r : Reach} {b0 : Nat} (hval : Value.okWide Tryz.prog W r b0 52 v) (h : DataW.Trod enc Tryz.prog w base spare held 52 v d ps) :
 ∃ a p b q,v = .agg #[.int .i64 a,.int .i64 p,.int .i64 b,.int .i64 q] ∧ in64 a ∧ in64 b:=by
 obtain ⟨fuel,h⟩:=h
 obtain ⟨cs,rfl,_⟩:=okWide_struct Tryz.underlying52 hval
 obtain ⟨xs,n,_,hx0,hl,hx,hf⟩:=DataW.trod_struct Tryz.underlying52 h
 rw [Tryz.cells52] at hl
 obtain ⟨l⟩:=cs
 replace hl : l.length = 4:=hl
 match l,hl with
 | [c0,c1,c2,c3],_ =>
  match xs,hx with
  | [y0,y1],_ =>
   obtain ⟨a,p,e0,i0⟩:=open_rat (by simpa [Tryz.cells50,Value.cells] using hf 0 _ rfl)
   obtain ⟨b,q,e1,i1⟩:=open_rat (by simpa [Tryz.cells50,Value.cells] using hf 1 _ rfl)
   simp at e0 e1
   exact ⟨a,p,b,q,by rw [e0.1,e0.2,e1.1,e1.2],i0,i1⟩
theorem open_rats {fuel : Nat} {cs : List Value} {x : DataW H × List MemPlace} (h : DataW.trod enc Tryz.prog w base spare held fuel 53 cs = some x) : ∃ v l,cs = [v] ∧ RatsRep w w.heap.size v l ∧ ∀ s ∈ l,in64 s.1:=by
 obtain ⟨a,len,cap,rfl,hm,hc⟩:=z2r Tryz.underlying53 Tryz.cells50 (by omega) h
 rcases hc with rfl | ⟨b,off,rfl,hb,hc⟩
 ·exact ⟨_,[],rfl,⟨a,cap,rfl,by simp,.inl rfl⟩,by simp⟩
 ·have key : ∀ i : Fin len,∃ p : Int × Int,w.cell? ⟨b,off + i.1 * 2,none⟩ = some (.int .i64 p.1) ∧ w.cell? ⟨b,off + i.1 * 2 + 1,none⟩ = some (.int .i64 p.2) ∧ in64 p.1:=fun i => by
   obtain ⟨cs',y,h1,h2,h3⟩:=hc i.1 i.2
   obtain ⟨p,q,rfl,hi⟩:=open_rat h3
   exact ⟨(p,q),h2 0 (by omega),h2 1 (by omega),hi⟩
  refine ⟨_,List.ofFn fun i => Classical.choose (key i),rfl,⟨some ⟨b,off,none⟩,cap,by simp,by simpa using hm,.inr ⟨b,off,rfl,hb,fun i hi => ?_⟩⟩,?_⟩
  ·have:=Classical.choose_spec (key ⟨i,by simpa using hi⟩)
   exact ⟨by simpa using this.1,by simpa using this.2.1⟩
  ·intro s hs
   rw [List.mem_ofFn] at hs
   obtain ⟨i,rfl⟩:=hs
   exact (Classical.choose_spec (key i)).2.2
theorem open_proof (n : Nat) : ∀ (fuel : Nat) (cs : List Value) (x : DataW H × List MemPlace),fuel ≤ 2 * n → DataW.trod enc Tryz.prog w base spare held fuel 56 cs = some x → ∃ t : PT n,PRep w w.heap.size n t (.agg cs.toArray) ∧ rngT n t:=by
 induction n with
 | zero =>
  intro fuel cs x hf h
  obtain rfl : fuel = 0:=by omega
  simp [DataW.trod] at h
 | succ n ih =>
  intro fuel cs x hfu h
  obtain ⟨xs,m,rfl,_,hl,hx,hf⟩:=DataW.trod_struct Tryz.underlying56 h
  rw [Tryz.cells56] at hl
  match cs,hl with
  | [c0,c1,c2,c3],_ =>
   match xs,hx with
   | [y0,y1,y2,y3],_ =>
    have h0:=hf 0 _ rfl
    have h1:=hf 1 _ rfl
    have h2:=hf 2 _ rfl
    have h3:=hf 3 _ rfl
    simp [Tryz.cells5,Tryz.cells53,Tryz.cells54] at h0 h1 h2 h3
    obtain ⟨a,e0,_⟩:=DataW.trod_int (k:=.u8) Tryz.underlying5 h0
    obtain ⟨b,e1,_⟩:=DataW.trod_int (k:=.u8) Tryz.underlying5 h1
    obtain ⟨v2,ats,e2,hr,hg⟩:=open_rats h2
    obtain ⟨sa,len,cap,e3,hm,hc⟩:=z2r Tryz.underlying54 Tryz.cells56 (by omega) h3
    simp at e0 e1 e2 e3
    subst e0 e1 e2 e3
    rcases hc with rfl | ⟨bb,off,rfl,hb,hc⟩
    ·exact ⟨(a,b,ats,[]),⟨_,sa,cap,rfl,by simp,hr,.inl rfl⟩,hg,fun y hy => by cases hy⟩
    ·have key : ∀ i : Fin len,∃ t : PT n,(∃ v0 v1 v2 v3,w.cell? ⟨bb,off + i.1 * 4,none⟩ = some v0 ∧ w.cell? ⟨bb,off + i.1 * 4 + 1,none⟩ = some v1 ∧
      w.cell? ⟨bb,off + i.1 * 4 + 2,none⟩ = some v2 ∧ w.cell? ⟨bb,off + i.1 * 4 + 3,none⟩ = some v3 ∧ PRep w w.heap.size n t (.agg #[v0,v1,v2,v3])) ∧ rngT n t:=fun i => by
      obtain ⟨cs',y,g1,g2,g3⟩:=hc i.1 i.2
      obtain ⟨t,ht,hrt⟩:=ih _ _ _ (by omega) g3
      match cs',g1 with
      | [z0,z1,z2,z3],_ => exact ⟨t,⟨z0,z1,z2,z3,g2 0 (by omega),g2 1 (by omega),g2 2 (by omega),g2 3 (by omega),ht⟩,hrt⟩
     refine ⟨(a,b,ats,List.ofFn fun i => Classical.choose (key i)),⟨_,some ⟨bb,off,none⟩,cap,by simp,by simpa using hm,hr,.inr ⟨bb,off,rfl,hb,fun i hi => ?_⟩⟩,hg,fun y hy => ?_⟩
     ·have:=(Classical.choose_spec (key ⟨i,by simpa using hi⟩)).1
      simpa using this
     ·obtain ⟨i,rfl⟩:=List.mem_ofFn.1 hy
      exact (Classical.choose_spec (key i)).2
theorem open_seg {fuel : Nat} {cs : List Value} {x : DataW H × List MemPlace} (h : DataW.trod enc Tryz.prog w base spare held fuel 29 cs = some x) : ∃ s : Int × Int,cs = [.int .i64 s.1,.int .u8 s.2] ∧ InR s:=by
 obtain ⟨xs,n,_,_,hl,hx,hf⟩:=DataW.trod_struct Tryz.underlying29 h
 rw [Tryz.cells29w] at hl
 match cs,hl with
 | [c0,c1],_ =>
  have h0:=hf 0 _ rfl
  have h1:=hf 1 _ rfl
  match xs,hx with
  | [y0,y1],_ =>
   obtain ⟨a,e0,_,wa⟩:=DataW.trod_int (k:=.i64) Tryz.underlying3 (by simpa [Tryz.cells3] using h0)
   obtain ⟨b,e1,_,wb⟩:=DataW.trod_int (k:=.u8) Tryz.underlying5 (by simpa [Tryz.cells3,Tryz.cells5] using h1)
   simp at e0 e1
   exact ⟨(a,b),by rw [e0,e1],(wf64w wa).1,(wf64w wa).2,(wf8w wb).1,(wf8w wb).2⟩
theorem open_segs {v : Value} {d : DataW H} {ps : List MemPlace} {W : World} {r : Reach} {b0 : Nat} (hval : Value.okWide Tryz.prog W r b0 48 v) (h : DataW.Trod enc Tryz.prog w base spare held 48 v d ps) : ∃ l,Segs w w.heap.size v l:=by
 obtain ⟨fuel,h⟩:=h
 obtain ⟨a,len,cap,hv,hm,hc⟩:=z2r Tryz.underlying48 Tryz.cells29w (by omega) h
 have hv' : v = .slice a len cap:=by
  obtain ⟨a',len',cap',rfl⟩:=okWide_slice Tryz.underlying48 hval
  simpa [Value.cells] using hv
 subst hv'
 rcases hc with rfl | ⟨b,off,rfl,hb,hc⟩
 ·exact ⟨[],a,cap,rfl,by simp,.inl rfl,by simp⟩
 ·have key : ∀ i : Fin len,∃ p : Int × Int,w.cell? ⟨b,off + i.1 * 2,none⟩ = some (.int .i64 p.1) ∧ w.cell? ⟨b,off + i.1 * 2 + 1,none⟩ = some (.int .u8 p.2) ∧ InR p:=fun i => by
   obtain ⟨cs',y,h1,h2,h3⟩:=hc i.1 i.2
   obtain ⟨p,rfl,hp⟩:=open_seg h3
   exact ⟨p,h2 0 (by omega),h2 1 (by omega),hp⟩
  refine ⟨List.ofFn fun i => Classical.choose (key i),some ⟨b,off,none⟩,cap,by simp,by simpa using hm,.inr ⟨b,off,rfl,hb,fun i hi => ?_⟩,?_⟩
  ·have:=Classical.choose_spec (key ⟨i,by simpa using hi⟩)
   have hi' : i < len:=by simpa using hi
   exact ⟨by simpa [hi'] using this.1,by simpa [hi'] using this.2.1⟩
  ·intro s hs
   rw [List.mem_ofFn] at hs
   obtain ⟨i,rfl⟩:=hs
   exact (Classical.choose_spec (key i)).2.2
end
theorem z3h {v : Value} {cs : Array Value} (h : v = .agg cs) : Value.agg v.cells.toList.toArray = v:=by subst h; simp [Value.cells]
open Go.RowKit Go.Shelf
attribute [local go_sem ↓] Go.wp_at_zero Go.wp_at_succ
open Go.RowKit Go.Shelf
def z1e : Int → List (Int × Int) → List (Int × Int × Int)
 | _,[] => []
 | a,x :: r => (a,x.1,x.2) :: z1e (wrap64 (a + x.1)) r
def z2m : Int → List (Int × Int) → Nat → Int
 | a,_,0 => a
 | a,[],k + 1 => z2m (wrap64 (a + 0)) [] k
 | a,x :: r,k + 1 => z2m (wrap64 (a + x.1)) r k
theorem z4d : ∀ (l : List (Int × Int)) (a : Int) (k : Nat),z2m a l (k + 1) = wrap64 (z2m a l k + (l[k]?.getD (0,0)).1)
 | [],a,0 => by simp [z2m]
 | [],a,k + 1 => by rw [z2m,z4d [] _ k,z2m]; simp
 | x :: r,a,0 => by simp [z2m]
 | x :: r,a,k + 1 => by rw [z2m,z4d r _ k,z2m]; simp
theorem atOf_from (l : List (Int × Int)) : ∀ k,atOf l k = z2m 0 l k
 | 0 => by cases l <;> rfl
 | k + 1 => by rw [z4d,← atOf_from l k]; rfl
theorem z30 : ∀ (l : List (Int × Int)) (a : Int),(z1e a l).length = l.length
 | [],_ => rfl
 | x :: r,a => by simp [z1e,z30 r]
theorem z4l : ∀ (l : List (Int × Int)) (a : Int) (k : Nat),k < l.length → (z1e a l)[k]? = some (z2m a l k,(l[k]?.getD (0,0)).1,(l[k]?.getD (0,0)).2)
 | [],_,_,h => by simp at h
 | x :: r,a,0,_ => by simp [z1e,z2m]
 | x :: r,a,k + 1,h => by
  rw [z1e,J8,z4l r _ k (by simpa using h),z2m]
  simp
theorem z3e (l : List (Int × Int)) : z17 l l.length = z1e 0 l:=by
 apply List.ext_getElem?
 intro k
 by_cases hk : k < l.length
 ·rw [z4l l 0 k hk,← atOf_from]
  simp [z17,hk,itemOf]
 ·rw [List.getElem?_eq_none (by rw [z3s]; omega),List.getElem?_eq_none (by rw [z30]; omega)]
def sumL : List (Int × Int) → Int
 | [] => 0
 | x :: r => x.1 + sumL r
def Long1 (l : List (Int × Int)) : Prop:=∀ s ∈ l,1 ≤ s.1 ∧ s.1 ≤ 9223372036854775807
theorem Long1.tail {x : Int × Int} {r : List (Int × Int)} (h : Long1 (x :: r)) : Long1 r:=fun s hs => h s (by simp [hs])
theorem z1s : ∀ {l : List (Int × Int)},Long1 l → 0 ≤ sumL l
 | [],_ => by simp [sumL]
 | x :: r,h => by
  have:=z1s h.tail
  have:=h x (by simp)
  simp only [sumL]; omega
theorem sumL_far {l : List (Int × Int)} (h : Long1 l) (hf : l.any farB = true) : 288230376151711744 ≤ sumL l:=by
 induction l with
 | nil => simp at hf
 | cons x r ih =>
  have h1:=z1s h.tail
  have h2:=h x (by simp)
  simp only [List.any_cons,Bool.or_eq_true] at hf
  simp only [sumL]
  rcases hf with hf | hf
  ·simp [farB] at hf; omega
  ·have:=ih h.tail hf; omega
theorem anyFar : ∀ (l : List (Int × Int)) (a : Int),0 ≤ a → a < 288230376151711744 → Long1 l → (z1e a l).any farI = decide (288230376151711744 ≤ a + sumL l)
 | [],a,_,h,_ => by simp [z1e,sumL]; omega
 | x :: r,a,h0,h,hl => by
  have h1:=z1s hl.tail
  have h2:=hl x (by simp)
  have hw : wrap64 (288230376151711744 - a) = 288230376151711744 - a:=IntWalk.wrap64_in _ (by omega)
  have hf : farI (a,x.1,x.2) = decide (288230376151711744 - a ≤ x.1):=by simp only [farI,hw]
  simp only [z1e,List.any_cons,hf,sumL]
  by_cases hx : 288230376151711744 - a ≤ x.1
  ·rw [decide_eq_true hx,Bool.true_or]
   symm
   exact decide_eq_true (by omega)
  ·rw [decide_eq_false hx,Bool.false_or,IntWalk.wrap64_in _ (by omega),anyFar r (a + x.1) (by omega) (by omega) hl.tail]
   exact decide_eq_decide.2 (by omega)
theorem totF_ge (l : List (Int × Int)) (n : Int) (h : 288230376151711744 ≤ n) : totF l n = n:=by
 cases l with
 | nil => rfl
 | cons x r => rw [totF,if_neg (by omega)]
theorem totF_sum : ∀ (l : List (Int × Int)) (a : Int),0 ≤ a → a < 288230376151711744 → Long1 l → l.any farB = false → (a + sumL l < 288230376151711744 → totF l a = a + sumL l) ∧ (288230376151711744 ≤ a + sumL l → 288230376151711744 ≤ totF l a)
 | [],a,_,h,_,_ => by simp [totF,sumL]
 | x :: r,a,h0,h,hl,hf => by
  have h1:=z1s hl.tail
  have h2:=hl x (by simp)
  simp only [List.any_cons,Bool.or_eq_false_iff] at hf
  obtain ⟨hx,hf⟩:=hf
  simp only [farB,decide_eq_false_iff_not] at hx
  simp only [totF,sumL,if_pos h]
  rw [IntWalk.wrap64_in _ (by omega)]
  by_cases hb : a + x.1 < 288230376151711744
  ·have:=totF_sum r (a + x.1) (by omega) hb hl.tail hf
   refine ⟨fun h => ?_,fun h => this.2 (by omega)⟩
   rw [this.1 (by omega)]; omega
  ·rw [totF_ge _ _ (by omega)]
   exact ⟨fun h => by omega,fun h => by omega⟩
theorem total22_sum {l : List (Int × Int)} (hl : Long1 l) (hf : l.any farB = false) : z2e l = if sumL l < 288230376151711744 then sumL l else 288230376151711744:=by
 have:=totF_sum l 0 (by omega) (by omega) hl hf
 rw [Int.zero_add] at this
 unfold z2e
 by_cases h : sumL l < 288230376151711744
 ·rw [if_pos h,this.1 h,if_neg (by omega)]
 ·rw [if_neg h]
  have h2:=this.2 (by omega)
  split <;> omega
theorem long1_of {l : List (Int × Int)} {p : Int} (hr : ∀ s ∈ l,InR s) (hb : l.any (badB p) = false) : Long1 l:=fun s hs => by
 have h1:=List.any_eq_false.1 hb s hs
 simp only [badB,Bool.or_eq_true,decide_eq_true_eq,not_or] at h1
 have:=(hr s hs).2.1
 omega
theorem check_eq {p : Int} {l : List (Int × Int)} (hr : ∀ s ∈ l,InR s) : z0p p l = z0t p l:=by
 unfold z0p z0t
 by_cases h1 : p < 0 ∨ 8 < p
 ·rw [if_pos h1,if_pos h1]
 rw [if_neg h1,if_neg h1]
 by_cases h2 : 1024 < l.length
 ·rw [if_pos h2,if_pos h2]
 rw [if_neg h2,if_neg h2]
 cases h3 : l.any (badB p)
 ·have hl:=long1_of hr h3
  simp only [Bool.false_eq_true,if_false]
  rw [farE,z3e,anyFar l 0 (by omega) (by omega) hl,Int.zero_add]
  cases h4 : l.any farB
  ·rw [total22_sum hl h4]
   by_cases h5 : 288230376151711744 ≤ sumL l
   ·simp [h5,show ¬ sumL l < 288230376151711744 by omega]
   ·simp [h5,show sumL l < 288230376151711744 by omega]
  ·simp [sumL_far hl h4]
 ·simp
theorem good_of {p : Int} {l : List (Int × Int)} (hr : ∀ s ∈ l,InR s) (hc : z0p p l = 0) : Long1 l ∧ sumL l < 288230376151711744 ∧ l.any farB = false:=by
 unfold z0p at hc
 split at hc
 ·simp at hc
 split at hc
 ·simp at hc
 cases h3 : l.any (badB p)
 ·have hl:=long1_of hr h3
  rw [h3] at hc
  simp only [Bool.false_eq_true,if_false] at hc
  rw [farE,z3e,anyFar l 0 (by omega) (by omega) hl,Int.zero_add] at hc
  have hs : sumL l < 288230376151711744:=by
   by_cases h5 : 288230376151711744 ≤ sumL l
   ·simp [h5] at hc
   ·omega
  refine ⟨hl,hs,?_⟩
  cases h4 : l.any farB
  ·rfl
  ·have:=sumL_far hl h4; omega
 ·rw [h3] at hc; simp at hc
open Go.RowKit Go.Shelf
open Go.RowKit Go.Shelf
attribute [local go_sem] Oper.semAt_some
open Go.RowKit Go.Shelf
def OnP (p : Int) (l : List (Int × Int)) : Prop:=∀ s ∈ l,s.2 < 2 ^ p.toNat
theorem check_ok {p : Int} {L : List (Int × Int)} (hp : ¬(p < 0 ∨ 8 < p)) (h2 : L.length ≤ 1024) (hl : Long1 L) (ho : OnP p L) (hs : sumL L < 288230376151711744) : z0p p L = 0:=by
 have hb : L.any (badB p) = false:=by
  rw [List.any_eq_false]
  intro s hs
  have:=hl s hs
  have:=ho s hs
  simp [badB]; omega
 rw [checkP_far hp (by omega) hb,farE,z3e,anyFar L 0 (by omega) (by omega) hl,Int.zero_add,decide_eq_false (by omega)]
 rfl
theorem check_inv {p : Int} {l : List (Int × Int)} (hc : z0p p l = 0) : ¬(p < 0 ∨ 8 < p) ∧ l.length ≤ 1024 ∧ OnP p l:=by
 refine ⟨fun h => by rw [z5e h] at hc; simp at hc,z5q hc,fun s hs => ?_⟩
 have h1 : ¬(p < 0 ∨ 8 < p):=fun h => by rw [z5e h] at hc; simp at hc
 cases hb : l.any (badB p)
 ·have:=List.any_eq_false.1 hb s hs
  simp [badB] at this
  omega
 ·rw [checkP_bad h1 (by have:=z5q hc; omega) hb] at hc; simp at hc
open Go.RowKit
end Go.Proofs.YtockinpjfhhkoaaGreatDoor
