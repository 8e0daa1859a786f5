/- Proofs that are not great have short rows: plain. -/
import Derived.Test.YtockinpjfhhkoaaGreatDoorZ24
import Derived.Test.YtockinpjfhhkoaaGreatDoorZ14
import Derived.Test.YtockinpjfhhkoaaGreatDoorZ11
import Derived.Test.YtockinpjfhhkoaaGreatDoorZ33
import Derived.Lib.SmallJoins
import Derived.Test.YtockinpjfhhkoaaGreatDoorZ47
set_option maxRecDepth 100000
set_option maxHeartbeats 16000000
namespace Go.Proofs.YtockinpjfhhkoaaGreatDoor
open Go.RowKit
def lenT : (n : Nat) → PT n → Prop
 | 0,_ => True
 | n + 1,t => t.2.2.1.length ≤ 6000 ∧ ∀ y ∈ t.2.2.2,lenT n y
def rngT : (n : Nat) → PT n → Prop
 | 0,_ => True
 | n + 1,t => (∀ s ∈ t.2.2.1,in64 s.1) ∧ ∀ y ∈ t.2.2.2,rngT n y
theorem z7f {α : Type} (f : α → Int → Int) (m : Int) (h : m < 0) : ∀ (l : List α),z33 f l m = m
 | [] => rfl
 | x :: r => by rw [z33,if_neg (by omega)]
theorem room_row {n : Nat} (ih : ∀ (t : PT n) (l : Int),0 ≤ l → l ≤ 6000 → 0 ≤ z18 n t l → z18 n t l ≤ l ∧ lenT n t) :
 ∀ (r : List (PT n)) (m : Int),0 ≤ m → m ≤ 6000 → 0 ≤ z33 (z18 n) r m → z33 (z18 n) r m ≤ m ∧ ∀ y ∈ r,lenT n y
 | [],m,_,_,_ => ⟨Int.le_refl _,fun y hy => by cases hy⟩
 | x :: r,m,h0,h1,h => by
  rw [z33,if_pos h0] at h ⊢
  have hx : 0 ≤ z18 n x m:=by
   rcases Int.lt_or_le (z18 n x m) 0 with hn | hn
   ·rw [z7f _ _ hn] at h; omega
   ·exact hn
  obtain ⟨h2,h3⟩:=ih x m h0 h1 hx
  obtain ⟨h4,h5⟩:=room_row ih r (z18 n x m) hx (by omega) h
  refine ⟨by omega,fun y hy => ?_⟩
  cases hy with
  | head => exact h3
  | tail _ hy => exact h5 y hy
theorem room_ok : ∀ (n : Nat) (t : PT n) (l : Int),0 ≤ l → l ≤ 6000 → 0 ≤ z18 n t l → z18 n t l ≤ l ∧ lenT n t
 | 0,_,l,_,_,_ => ⟨Int.le_refl _,trivial⟩
 | n + 1,t,l,h0,h1,h => by
  have hw1 : wrap64 (l - 1) = l - 1:=IntWalk.wrap64_in _ (by omega)
  have hm : 0 ≤ z3n t.2.2.1.length 10000 ∧ z3n t.2.2.1.length 10000 ≤ 10000:=by unfold z3n; split <;> omega
  have hw2 : wrap64 (wrap64 (l - 1) - z3n t.2.2.1.length 10000) = l - 1 - z3n t.2.2.1.length 10000:=by rw [hw1]; exact IntWalk.wrap64_in _ (by omega)
  have h' : 0 ≤ z33 (z18 n) t.2.2.2 (l - 1 - z3n t.2.2.1.length 10000):=by rw [← hw2]; exact h
  have hpos : 0 ≤ l - 1 - z3n t.2.2.1.length 10000:=by
   rcases Int.lt_or_le (l - 1 - z3n t.2.2.1.length 10000) 0 with hn | hn
   ·rw [z7f _ _ hn] at h'; omega
   ·exact hn
  obtain ⟨h4,h5⟩:=room_row (room_ok n) t.2.2.2 _ hpos (by omega) h'
  refine ⟨?_,?_,h5⟩
  ·show z33 (z18 n) t.2.2.2 (wrap64 (wrap64 (l - 1) - z3n t.2.2.1.length 10000)) ≤ l
   rw [hw2]; omega
  ·have : z3n t.2.2.1.length 10000 ≤ 6000:=by omega
   unfold z3n at this
   split at this <;> omega
theorem okT_of : ∀ (n : Nat) (t : PT n),rngT n t → lenT n t → okT n t
 | 0,_,_,_ => trivial
 | n + 1,_,h,k => ⟨h.1,by have:=k.1; omega,fun y hy => okT_of n y (h.2 y hy) (k.2 y hy)⟩
theorem z7j {n : Nat} {t : PT n} (h : rngT n t) (k : ¬ z18 n t 6000 < 0) : okT n t:=okT_of n t h (room_ok n t 6000 (by decide) (by decide) (by omega)).2
open Go.ChangeShapes Go.WideShapes Go.ChangeAt Go.RowKit Go.Joins
theorem trodAll_six {H : Type} {enc : TypeId × Value → H} {P : Program} {w : World} {base : Nat} {spare : Nat → Bool} {held : Bool} {t0 t1 t2 t3 t4 t5 : TypeId} {args : Array Value} {ds : List (DataW H)} {ps : List MemPlace} (h : DataW.TrodAll enc P w base spare held [t0,t1,t2,t3,t4,t5] args.toList ds ps) :
 ∃ v0 v1 v2 v3 v4 v5 d0 d1 d2 d3 d4 d5 p0 p1 p2 p3 p4 p5,args = #[v0,v1,v2,v3,v4,v5] ∧ ds = [d0,d1,d2,d3,d4,d5] ∧ ps = p0 ++ p1 ++ p2 ++ p3 ++ p4 ++ p5 ∧ DataW.Trod enc P w base spare held t0 v0 d0 p0 ∧ DataW.Trod enc P w base spare held t1 v1 d1 p1 ∧ DataW.Trod enc P w base spare held t2 v2 d2 p2 ∧ DataW.Trod enc P w base spare held t3 v3 d3 p3 ∧ DataW.Trod enc P w base spare held t4 v4 d4 p4 ∧ DataW.Trod enc P w base spare held t5 v5 d5 p5:=by
 obtain ⟨v0,r0,d0,s0,p0,q0,hargs,rfl,rfl,h0,h⟩:=trodAll_cons h
 obtain ⟨v1,r1,d1,s1,p1,q1,rfl,rfl,rfl,h1,h⟩:=trodAll_cons h
 obtain ⟨v2,r2,d2,s2,p2,q2,rfl,rfl,rfl,h2,h⟩:=trodAll_cons h
 obtain ⟨v3,r3,d3,s3,p3,q3,rfl,rfl,rfl,h3,h⟩:=trodAll_cons h
 obtain ⟨v4,r4,d4,s4,p4,q4,rfl,rfl,rfl,h4,h⟩:=trodAll_cons h
 obtain ⟨v5,r5,d5,s5,p5,q5,rfl,rfl,rfl,h5,h⟩:=trodAll_cons h
 obtain ⟨rfl,rfl,rfl⟩:=trodAll_nil h
 exact ⟨v0,v1,v2,v3,v4,v5,d0,d1,d2,d3,d4,d5,p0,p1,p2,p3,p4,p5,by cases args; simp_all,rfl,by simp,h0,h1,h2,h3,h4,h5⟩
theorem trodAll_nine {H : Type} {enc : TypeId × Value → H} {P : Program} {w : World} {base : Nat} {spare : Nat → Bool} {held : Bool} {t0 t1 t2 t3 t4 t5 t6 t7 t8 : TypeId} {args : Array Value} {ds : List (DataW H)} {ps : List MemPlace} (h : DataW.TrodAll enc P w base spare held [t0,t1,t2,t3,t4,t5,t6,t7,t8] args.toList ds ps) :
 ∃ v0 v1 v2 v3 v4 v5 v6 v7 v8 d0 d1 d2 d3 d4 d5 d6 d7 d8 p0 p1 p2 p3 p4 p5 p6 p7 p8,args = #[v0,v1,v2,v3,v4,v5,v6,v7,v8] ∧ ds = [d0,d1,d2,d3,d4,d5,d6,d7,d8] ∧ ps = p0 ++ p1 ++ p2 ++ p3 ++ p4 ++ p5 ++ p6 ++ p7 ++ p8 ∧ DataW.Trod enc P w base spare held t0 v0 d0 p0 ∧ DataW.Trod enc P w base spare held t1 v1 d1 p1 ∧ DataW.Trod enc P w base spare held t2 v2 d2 p2 ∧ DataW.Trod enc P w base spare held t3 v3 d3 p3 ∧ DataW.Trod enc P w base spare held t4 v4 d4 p4 ∧ DataW.Trod enc P w base spare held t5 v5 d5 p5 ∧ DataW.Trod enc P w base spare held t6 v6 d6 p6 ∧ DataW.Trod enc P w base spare held t7 v7 d7 p7 ∧ DataW.Trod enc P w base spare held t8 v8 d8 p8:=by
 obtain ⟨v0,r0,d0,s0,p0,q0,hargs,rfl,rfl,h0,h⟩:=trodAll_cons h
 obtain ⟨v1,r1,d1,s1,p1,q1,rfl,rfl,rfl,h1,h⟩:=trodAll_cons h
 obtain ⟨v2,r2,d2,s2,p2,q2,rfl,rfl,rfl,h2,h⟩:=trodAll_cons h
 obtain ⟨v3,r3,d3,s3,p3,q3,rfl,rfl,rfl,h3,h⟩:=trodAll_cons h
 obtain ⟨v4,r4,d4,s4,p4,q4,rfl,rfl,rfl,h4,h⟩:=trodAll_cons h
 obtain ⟨v5,r5,d5,s5,p5,q5,rfl,rfl,rfl,h5,h⟩:=trodAll_cons h
 obtain ⟨v6,r6,d6,s6,p6,q6,rfl,rfl,rfl,h6,h⟩:=trodAll_cons h
 obtain ⟨v7,r7,d7,s7,p7,q7,rfl,rfl,rfl,h7,h⟩:=trodAll_cons h
 obtain ⟨v8,r8,d8,s8,p8,q8,rfl,rfl,rfl,h8,h⟩:=trodAll_cons h
 obtain ⟨rfl,rfl,rfl⟩:=trodAll_nil h
 exact ⟨v0,v1,v2,v3,v4,v5,v6,v7,v8,d0,d1,d2,d3,d4,d5,d6,d7,d8,p0,p1,p2,p3,p4,p5,p6,p7,p8,by cases args; simp_all,rfl,by simp,h0,h1,h2,h3,h4,h5,h6,h7,h8⟩
theorem Tryz.cells29w : Tryz.prog.cellsOf 29 = 2:=by kernel_rfl
theorem Tryz.cells50 : Tryz.prog.cellsOf 50 = 2:=by kernel_rfl
theorem Tryz.cells52 : Tryz.prog.cellsOf 52 = 4:=by kernel_rfl
theorem Tryz.cells53 : Tryz.prog.cellsOf 53 = 1:=by kernel_rfl
theorem Tryz.cells54 : Tryz.prog.cellsOf 54 = 1:=by kernel_rfl
theorem Tryz.cells56 : Tryz.prog.cellsOf 56 = 4:=by kernel_rfl
theorem wf64w {n : Int} (h : (Lit.int .i64 n).wf = true) : in64 n:=by
 simp only [Lit.wf,Bool.and_eq_true,decide_eq_true_eq] at h
 have h5 : IntKind.min .i64 = -9223372036854775808:=by decide
 have h6 : IntKind.max .i64 = 9223372036854775807:=by decide
 exact ⟨by omega,by omega⟩
theorem wf8w {n : Int} (h : (Lit.int .u8 n).wf = true) : 0 ≤ n ∧ n ≤ 255:=by
 simp only [Lit.wf,Bool.and_eq_true,decide_eq_true_eq] at h
 have h5 : IntKind.min .u8 = 0:=by decide
 have h6 : IntKind.max .u8 = 255:=by decide
 omega
section
variable {H : Type} {enc : TypeId × Value → H} {w : World} {base : Nat} {spare : Nat → Bool} {held : Bool}
theorem z9w {fuel : Nat} {cs : List Value} {x : DataW H × List MemPlace} (h : DataW.trod enc Tryz.prog w base spare held fuel 50 cs = some x) : ∃ a b,cs = [.int .i64 a,.int .i64 b] ∧ in64 a:=by
 obtain ⟨xs,n,_,_,hl,hx,hf⟩:=DataW.trod_struct Tryz.underlying50 h
 rw [Tryz.cells50] at hl
 match cs,hl with
 | [c0,c1],_ =>
  have h0:=hf 0 _ rfl
  have h1:=hf 1 _ rfl
  match xs,hx with
  | [y0,y1],_ =>
   obtain ⟨a,e0,_,wa⟩:=DataW.trod_int (k:=.i64) Tryz.underlying3 (by simpa [Tryz.cells3] using h0)
   obtain ⟨b,e1,_⟩:=DataW.trod_int (k:=.i64) Tryz.underlying3 (by simpa [Tryz.cells3] using h1)
   simp at e0 e1
   exact ⟨a,b,by rw [e0,e1],wf64w wa⟩
theorem za8 {v : Value} {d : DataW H} {ps : List MemPlace} {W : World} {r : Reach} {b0 : Nat} (hval : Value.okWide Tryz.prog W r b0 50 v) (h : DataW.Trod enc Tryz.prog w base spare held 50 v d ps) : ∃ a b,v = .agg #[.int .i64 a,.int .i64 b] ∧ in64 a:=by
 obtain ⟨fuel,h⟩:=h
 obtain ⟨cs,rfl,_⟩:=okWide_struct Tryz.underlying50 hval
 obtain ⟨a,b,e,i⟩:=z9w h
 obtain ⟨l⟩:=cs
 have e' : l = [.int .i64 a,.int .i64 b]:=e
 exact ⟨a,b,by rw [e'],i⟩
theorem open_point {v : Value} {d : DataW H} {ps : List MemPlace} {W : World} {r : Reach} {b0 : Nat} (hval : Value.okWide Tryz.prog W r b0 52 v) (h : DataW.Trod enc Tryz.prog w base spare held 52 v d ps) :
 ∃ a p b q,v = .agg #[.int .i64 a,.int .i64 p,.int .i64 b,.int .i64 q] ∧ in64 a ∧ in64 b:=by
 obtain ⟨fuel,h⟩:=h
 obtain ⟨cs,rfl,_⟩:=okWide_struct Tryz.underlying52 hval
 obtain ⟨xs,n,_,hx0,hl,hx,hf⟩:=DataW.trod_struct Tryz.underlying52 h
 rw [Tryz.cells52] at hl
 obtain ⟨l⟩:=cs
 replace hl : l.length = 4:=hl
 match l,hl with
 | [c0,c1,c2,c3],_ =>
  match xs,hx with
  | [y0,y1],_ =>
   obtain ⟨a,p,e0,i0⟩:=z9w (by simpa [Tryz.cells50,Value.cells] using hf 0 _ rfl)
   obtain ⟨b,q,e1,i1⟩:=z9w (by simpa [Tryz.cells50,Value.cells] using hf 1 _ rfl)
   simp at e0 e1
   exact ⟨a,p,b,q,by rw [e0.1,e0.2,e1.1,e1.2],i0,i1⟩
theorem open_rats {fuel : Nat} {cs : List Value} {x : DataW H × List MemPlace} (h : DataW.trod enc Tryz.prog w base spare held fuel 53 cs = some x) : ∃ v l,cs = [v] ∧ RatsRep w w.heap.size v l ∧ ∀ s ∈ l,in64 s.1:=by
 obtain ⟨a,len,cap,rfl,hm,hc⟩:=z8s Tryz.underlying53 Tryz.cells50 (by omega) h
 rcases hc with rfl | ⟨b,off,rfl,hb,hc⟩
 ·exact ⟨_,[],rfl,⟨a,cap,rfl,by simp,.inl rfl⟩,by simp⟩
 ·have key : ∀ i : Fin len,∃ p : Int × Int,w.cell? ⟨b,off + i.1 * 2,none⟩ = some (.int .i64 p.1) ∧ w.cell? ⟨b,off + i.1 * 2 + 1,none⟩ = some (.int .i64 p.2) ∧ in64 p.1:=fun i => by
   obtain ⟨cs',y,h1,h2,h3⟩:=hc i.1 i.2
   obtain ⟨p,q,rfl,hi⟩:=z9w h3
   exact ⟨(p,q),h2 0 (by omega),h2 1 (by omega),hi⟩
  refine ⟨_,List.ofFn fun i => Classical.choose (key i),rfl,⟨some ⟨b,off,none⟩,cap,by simp,by simpa using hm,.inr ⟨b,off,rfl,hb,fun i hi => ?_⟩⟩,?_⟩
  ·have:=Classical.choose_spec (key ⟨i,by simpa using hi⟩)
   exact ⟨by simpa using this.1,by simpa using this.2.1⟩
  ·intro s hs
   rw [List.mem_ofFn] at hs
   obtain ⟨i,rfl⟩:=hs
   exact (Classical.choose_spec (key i)).2.2
theorem z64 (n : Nat) : ∀ (fuel : Nat) (cs : List Value) (x : DataW H × List MemPlace),fuel ≤ 2 * n → DataW.trod enc Tryz.prog w base spare held fuel 56 cs = some x → ∃ t : PT n,PRep w w.heap.size n t (.agg cs.toArray) ∧ rngT n t:=by
 induction n with
 | zero =>
  intro fuel cs x hf h
  obtain rfl : fuel = 0:=by omega
  simp [DataW.trod] at h
 | succ n ih =>
  intro fuel cs x hfu h
  obtain ⟨xs,m,rfl,_,hl,hx,hf⟩:=DataW.trod_struct Tryz.underlying56 h
  rw [Tryz.cells56] at hl
  match cs,hl with
  | [c0,c1,c2,c3],_ =>
   match xs,hx with
   | [y0,y1,y2,y3],_ =>
    have h0:=hf 0 _ rfl
    have h1:=hf 1 _ rfl
    have h2:=hf 2 _ rfl
    have h3:=hf 3 _ rfl
    simp [Tryz.cells5,Tryz.cells53,Tryz.cells54] at h0 h1 h2 h3
    obtain ⟨a,e0,_⟩:=DataW.trod_int (k:=.u8) Tryz.underlying5 h0
    obtain ⟨b,e1,_⟩:=DataW.trod_int (k:=.u8) Tryz.underlying5 h1
    obtain ⟨v2,ats,e2,hr,hg⟩:=open_rats h2
    obtain ⟨sa,len,cap,e3,hm,hc⟩:=z8s Tryz.underlying54 Tryz.cells56 (by omega) h3
    simp at e0 e1 e2 e3
    subst e0 e1 e2 e3
    rcases hc with rfl | ⟨bb,off,rfl,hb,hc⟩
    ·exact ⟨(a,b,ats,[]),⟨_,sa,cap,rfl,by simp,hr,.inl rfl⟩,hg,fun y hy => by cases hy⟩
    ·have key : ∀ i : Fin len,∃ t : PT n,(∃ v0 v1 v2 v3,w.cell? ⟨bb,off + i.1 * 4,none⟩ = some v0 ∧ w.cell? ⟨bb,off + i.1 * 4 + 1,none⟩ = some v1 ∧
      w.cell? ⟨bb,off + i.1 * 4 + 2,none⟩ = some v2 ∧ w.cell? ⟨bb,off + i.1 * 4 + 3,none⟩ = some v3 ∧ PRep w w.heap.size n t (.agg #[v0,v1,v2,v3])) ∧ rngT n t:=fun i => by
      obtain ⟨cs',y,g1,g2,g3⟩:=hc i.1 i.2
      obtain ⟨t,ht,hrt⟩:=ih _ _ _ (by omega) g3
      match cs',g1 with
      | [z0,z1,z2,z3],_ => exact ⟨t,⟨z0,z1,z2,z3,g2 0 (by omega),g2 1 (by omega),g2 2 (by omega),g2 3 (by omega),ht⟩,hrt⟩
     refine ⟨(a,b,ats,List.ofFn fun i => Classical.choose (key i)),⟨_,some ⟨bb,off,none⟩,cap,by simp,by simpa using hm,hr,.inr ⟨bb,off,rfl,hb,fun i hi => ?_⟩⟩,hg,fun y hy => ?_⟩
     ·have:=(Classical.choose_spec (key ⟨i,by simpa using hi⟩)).1
      simpa using this
     ·obtain ⟨i,rfl⟩:=List.mem_ofFn.1 hy
      exact (Classical.choose_spec (key i)).2
theorem open_seg {fuel : Nat} {cs : List Value} {x : DataW H × List MemPlace} (h : DataW.trod enc Tryz.prog w base spare held fuel 29 cs = some x) : ∃ s : Int × Int,cs = [.int .i64 s.1,.int .u8 s.2] ∧ InR s:=by
 obtain ⟨xs,n,_,_,hl,hx,hf⟩:=DataW.trod_struct Tryz.underlying29 h
 rw [Tryz.cells29w] at hl
 match cs,hl with
 | [c0,c1],_ =>
  have h0:=hf 0 _ rfl
  have h1:=hf 1 _ rfl
  match xs,hx with
  | [y0,y1],_ =>
   obtain ⟨a,e0,_,wa⟩:=DataW.trod_int (k:=.i64) Tryz.underlying3 (by simpa [Tryz.cells3] using h0)
   obtain ⟨b,e1,_,wb⟩:=DataW.trod_int (k:=.u8) Tryz.underlying5 (by simpa [Tryz.cells3,Tryz.cells5] using h1)
   simp at e0 e1
   exact ⟨(a,b),by rw [e0,e1],(wf64w wa).1,(wf64w wa).2,(wf8w wb).1,(wf8w wb).2⟩
theorem z7i {v : Value} {d : DataW H} {ps : List MemPlace} {W : World} {r : Reach} {b0 : Nat} (hval : Value.okWide Tryz.prog W r b0 48 v) (h : DataW.Trod enc Tryz.prog w base spare held 48 v d ps) : ∃ l,Segs w w.heap.size v l:=by
 obtain ⟨fuel,h⟩:=h
 obtain ⟨a,len,cap,hv,hm,hc⟩:=z8s Tryz.underlying48 Tryz.cells29w (by omega) h
 have hv' : v = .slice a len cap:=by
  obtain ⟨a',len',cap',rfl⟩:=okWide_slice Tryz.underlying48 hval
  simpa [Value.cells] using hv
 subst hv'
 rcases hc with rfl | ⟨b,off,rfl,hb,hc⟩
 ·exact ⟨[],a,cap,rfl,by simp,.inl rfl,by simp⟩
 ·have key : ∀ i : Fin len,∃ p : Int × Int,w.cell? ⟨b,off + i.1 * 2,none⟩ = some (.int .i64 p.1) ∧ w.cell? ⟨b,off + i.1 * 2 + 1,none⟩ = some (.int .u8 p.2) ∧ InR p:=fun i => by
   obtain ⟨cs',y,h1,h2,h3⟩:=hc i.1 i.2
   obtain ⟨p,rfl,hp⟩:=open_seg h3
   exact ⟨p,h2 0 (by omega),h2 1 (by omega),hp⟩
  refine ⟨List.ofFn fun i => Classical.choose (key i),some ⟨b,off,none⟩,cap,by simp,by simpa using hm,.inr ⟨b,off,rfl,hb,fun i hi => ?_⟩,?_⟩
  ·have:=Classical.choose_spec (key ⟨i,by simpa using hi⟩)
   have hi' : i < len:=by simpa using hi
   exact ⟨by simpa [hi'] using this.1,by simpa [hi'] using this.2.1⟩
  ·intro s hs
   rw [List.mem_ofFn] at hs
   obtain ⟨i,rfl⟩:=hs
   exact (Classical.choose_spec (key i)).2.2
end
theorem z1e {v : Value} {cs : Array Value} (h : v = .agg cs) : Value.agg v.cells.toList.toArray = v:=by subst h; simp [Value.cells]
open Go.RowKit
def solidT : (n : Nat) → PT n → Prop
 | 0,_ => False
 | n + 1,t => ∀ y ∈ t.2.2.2,solidT n y
theorem solid_of {w : World} {B : Nat} : ∀ {n : Nat} {t : PT n} {v : Value},PRep w B n t v → solidT n t
 | 0,_,_,h => h.elim
 | n + 1,t,v,h => by
  obtain ⟨va,a,cap,hv,hm,_,h⟩:=h
  intro y hy
  rcases h with h | ⟨b,off,ha,hlt,hc⟩
  ·rw [h] at hy; cases hy
  ·obtain ⟨i,hi,rfl⟩:=List.mem_iff_getElem.1 hy
   obtain ⟨v0,v1,v2,v3,c0,c1,c2,c3,hp⟩:=hc i hi
   exact solid_of hp
theorem many_row {n : Nat} (ih : ∀ (t : PT n) (l : Int),solidT n t → 0 ≤ l → l ≤ 6000 → 0 ≤ z18 n t l → z18 n t l ≤ l ∧ 1 ≤ z0t n t ∧ z0t n t ≤ l - z18 n t l) :
 ∀ (r : List (PT n)) (m acc : Int),(∀ y ∈ r,solidT n y) → 0 ≤ m → m ≤ 6000 → 1 ≤ acc → acc + m ≤ 20000 → 0 ≤ z33 (z18 n) r m →
  z33 (z18 n) r m ≤ m ∧ 1 ≤ r.foldl (fun acc x => wrap64 (acc + z0t n x)) acc ∧ r.foldl (fun acc x => wrap64 (acc + z0t n x)) acc ≤ acc + (m - z33 (z18 n) r m)
 | [],m,acc,_,_,_,h1,_,_ => ⟨Int.le_refl _,h1,by show acc ≤ acc + (m - m); omega⟩
 | x :: r,m,acc,hs,h0,h6,h1,h2,h => by
  rw [z33,if_pos h0] at h ⊢
  have hx : 0 ≤ z18 n x m:=by
   rcases Int.lt_or_le (z18 n x m) 0 with hn | hn
   ·rw [z7f _ _ hn] at h; omega
   ·exact hn
  obtain ⟨a1,a2,a3⟩:=ih x m (hs x (by simp)) h0 h6 hx
  have hw : wrap64 (acc + z0t n x) = acc + z0t n x:=IntWalk.wrap64_in _ (by omega)
  obtain ⟨b0,b1,b2⟩:=many_row ih r (z18 n x m) (acc + z0t n x) (fun y hy => hs y (by simp [hy])) hx (by omega) (by omega) (by omega) h
  rw [List.foldl_cons,hw]
  exact ⟨by omega,b1,by omega⟩
theorem many_room : ∀ (n : Nat) (t : PT n) (l : Int),solidT n t → 0 ≤ l → l ≤ 6000 → 0 ≤ z18 n t l → z18 n t l ≤ l ∧ 1 ≤ z0t n t ∧ z0t n t ≤ l - z18 n t l
 | 0,_,_,h,_,_,_ => h.elim
 | n + 1,t,l,hs,h0,h1,h => by
  have hw1 : wrap64 (l - 1) = l - 1:=IntWalk.wrap64_in _ (by omega)
  have hm : 0 ≤ z3n t.2.2.1.length 10000 ∧ z3n t.2.2.1.length 10000 ≤ 10000:=by unfold z3n; split <;> omega
  have hw2 : wrap64 (wrap64 (l - 1) - z3n t.2.2.1.length 10000) = l - 1 - z3n t.2.2.1.length 10000:=by rw [hw1]; exact IntWalk.wrap64_in _ (by omega)
  have e : z18 (n + 1) t l = z33 (z18 n) t.2.2.2 (l - 1 - z3n t.2.2.1.length 10000):=by rw [← hw2]; rfl
  rw [e] at h ⊢
  have hpos : 0 ≤ l - 1 - z3n t.2.2.1.length 10000:=by
   rcases Int.lt_or_le (l - 1 - z3n t.2.2.1.length 10000) 0 with hn | hn
   ·rw [z7f _ _ hn] at h; omega
   ·exact hn
  obtain ⟨b0,b1,b2⟩:=many_row (many_room n) t.2.2.2 _ 1 hs hpos (by omega) (by decide) (by omega) h
  refine ⟨by omega,b1,?_⟩
  show t.2.2.2.foldl (fun acc x => wrap64 (acc + z0t n x)) 1 ≤ _
  omega
theorem z8w {w : World} {B n : Nat} {t : PT n} {v : Value} (h : PRep w B n t v) (k : ¬ z18 n t 6000 < 0) : 1 ≤ z0t n t ∧ z0t n t ≤ 6000:=by
 obtain ⟨h1,h2,h3⟩:=many_room n t 6000 (solid_of h) (by decide) (by decide) (by omega)
 exact ⟨h2,by omega⟩
theorem z56 {m d : Nat} {names : List ByteArray} {x : XT m d} (hb : bndX d x) (hg : ¬ 2000 < z3i d x 2000) (hc : z0r names d x = 0) : 1 ≤ z10 d x ∧ z10 d x ≤ 64:=by
 cases d with
 | zero => exact nomatch x
 | succ d => exact (parts_plain names x hb (by omega) hc).1
theorem z15 {names : List ByteArray} {m d n : Nat} {x : XT m d} {l : List (Int × Int)} {t u : Int × Int} {w : PT n} {is : Bool} (h : z0a names d x l t u n w = (is,0)) :
 z0r names d x = 0 ∧ z0k names.length l = 0 ∧ mayP t = true ∧ mayP u = true ∧ z0t n w ≤ 4096 ∧ z05 (z0v names m) l n (toX d x) t u w = is:=by
 unfold z0a at h
 split at h
 ·rename_i h1; exact absurd (congrArg Prod.snd h) h1
 split at h
 ·rename_i h1; exact absurd (congrArg Prod.snd h) h1
 split at h
 ·exact absurd (congrArg Prod.snd h) (show ¬ ((2 : Int) = 0) by decide)
 split at h
 ·exact absurd (congrArg Prod.snd h) (show ¬ ((4 : Int) = 0) by decide)
 rename_i h1 h2 h3 h4
 rw [not_or] at h3
 exact ⟨by simpa using h1,by simpa using h2,by simpa using h3.1,by simpa using h3.2,by omega,congrArg Prod.fst h⟩
theorem z2d {names : List ByteArray} {m d n : Nat} {x : XT m d} {l : List (Int × Int)} {t u : Int × Int} {w : PT n} (h1 : z0r names d x = 0) (h2 : z0k names.length l = 0) (h3 : mayP t = true) (h4 : mayP u = true) (h5 : z0t n w ≤ 4096) :
 z0a names d x l t u n w = (z05 (z0v names m) l n (toX d x) t u w,0):=by
 unfold z0a
 rw [if_neg (by simp [h1]),if_neg (by simp [h2]),if_neg (by simp [h3,h4]),if_neg (by omega)]
theorem manyT_one {n : Nat} (k s : Int) (l : List (Int × Int)) (w : PT n) (h : 1 ≤ z0t n w ∧ z0t n w ≤ 6000) : z0t (n + 1) ((k,s,l,[w]) : PT (n + 1)) = 1 + z0t n w:=by
 show wrap64 (1 + z0t n w) = _
 exact IntWalk.wrap64_in _ (by omega)
theorem manyT_two {n : Nat} (k s : Int) (l : List (Int × Int)) (v w : PT n) (h : 1 ≤ z0t n v ∧ z0t n v ≤ 6000) (h' : 1 ≤ z0t n w ∧ z0t n w ≤ 6000) : z0t (n + 1) ((k,s,l,[v,w]) : PT (n + 1)) = 1 + z0t n v + z0t n w:=by
 show wrap64 (wrap64 (1 + z0t n v) + z0t n w) = _
 rw [IntWalk.wrap64_in (1 + z0t n v) (by omega)]
 exact IntWalk.wrap64_in _ (by omega)
theorem foldX_one {m d : Nat} (x : XT m d) (h : 1 ≤ z10 d x ∧ z10 d x ≤ 64) : z1l (cntX oneX d) 1 [x] = 1 + z10 d x:=by
 show wrap64 (1 + z10 d x) = _
 exact IntWalk.wrap64_in _ (by omega)
theorem z7t {m d : Nat} (x y : XT m d) (h : 1 ≤ z10 d x ∧ z10 d x ≤ 64) (h' : 1 ≤ z10 d y ∧ z10 d y ≤ 64) : z1l (cntX oneX d) 1 [x,y] = 1 + z10 d x + z10 d y:=by
 show wrap64 (wrap64 (1 + z10 d x) + z10 d y) = _
 rw [IntWalk.wrap64_in (1 + z10 d x) (by omega)]
 exact IntWalk.wrap64_in _ (by omega)
theorem z9x {a : Int × Int} (h : mayP a = true) : 0 < a.2:=by
 unfold mayP mayQ at h
 simp only [Bool.and_eq_true,decide_eq_true_eq] at h
 omega
theorem cmp_less {t u : Int × Int} (ht : mayP t = true) (hu : mayP u = true) : decide (cmpE t u < 0) = z07 t u ∧ decide (cmpE t u ≤ 0) = z2y t.1 t.2 u.1 u.2 1:=by
 have h1:=z9x ht
 have h2:=z9x hu
 rw [keeps_zero h1 h2]
 unfold cmpE z07
 rw [ht,hu]
 simp only [Bool.and_self,if_true,Bool.true_and]
 unfold ltQ cmpI
 refine ⟨?_,?_⟩ <;> (apply Bool.eq_iff_iff.2; simp only [decide_eq_true_eq,Bool.not_eq_true',decide_eq_false_iff_not]; split <;> (try split) <;> omega)
theorem makes_plain {names : List ByteArray} {m d n : Nat} {x y : XT m d} {l : List (Int × Int)} {t u : Int × Int} {w : PT n} {is : Bool} (hW : z0a names d x l t u n w = (is,0)) (hm : 1 ≤ z0t n w ∧ z0t n w ≤ 2000)
 (hy : z0r names d y = 0) (hx1 : 1 ≤ z10 d x ∧ z10 d x ≤ 64) (hy1 : 1 ≤ z10 d y ∧ z10 d y ≤ 64) (hs : ¬ 64 ≤ wrap64 (z10 d x + max (z10 d x) (z10 d y))) :
 z0a names (d + 1) ((2,[],[x,y],z06) : XT m (d + 1)) l t u (n + 1) ((2,1,[],[w]) : PT (n + 1)) = (is,0) ∧
 z0a names (d + 1) ((2,[],[y,x],z06) : XT m (d + 1)) l t u (n + 1) ((2,2,[],[w]) : PT (n + 1)) = (is,0) ∧
 z0a names (d + 1) ((3,[],[x,x],z06) : XT m (d + 1)) l t u (n + 1) ((3,0,[],[w,w]) : PT (n + 1)) = (is,0) ∧
 z0a names (d + 1) ((5,[],[x],z06) : XT m (d + 1)) l t u (n + 1) ((5,0,[],[w]) : PT (n + 1)) = (is && decide (cmpE t u < 0),0) ∧
 z0a names (d + 1) ((6,[],[x],z98) : XT m (d + 1)) l t u (n + 1) ((6,0,[],[w]) : PT (n + 1)) = (is && decide (cmpE t u ≤ 0),0) ∧
 z0a names (d + 1) ((5,[],[x],z06) : XT m (d + 1)) l t u (n + 1) ((6,0,[],[w]) : PT (n + 1)) = (false,0) ∧ z4f [t,u] = 0:=by
 obtain ⟨c1,c2,c3,c4,c5,c6⟩:=z15 hW
 obtain ⟨k1,k2⟩:=cmp_less c3 c4
 have hs' : z10 d x + max (z10 d x) (z10 d y) < 64:=by
  rw [IntWalk.wrap64_in _ (by omega)] at hs; omega
 have o1 : ∀ k s,z0t (n + 1) ((k,s,[],[w]) : PT (n + 1)) ≤ 4096:=fun k s => by rw [manyT_one k s [] w (by omega)]; omega
 have o2 : z0t (n + 1) ((3,0,[],[w,w]) : PT (n + 1)) ≤ 4096:=by rw [manyT_two 3 0 [] w w (by omega) (by omega)]; omega
 have f1 : z1l (cntX oneX d) 1 [x] ≤ 64:=by rw [foldX_one x hx1]; omega
 have fxy : z1l (cntX oneX d) 1 [x,y] ≤ 64:=by rw [z7t x y hx1 hy1]; omega
 have fyx : z1l (cntX oneX d) 1 [y,x] ≤ 64:=by rw [z7t y x hy1 hx1]; omega
 have fxx : z1l (cntX oneX d) 1 [x,x] ≤ 64:=by rw [z7t x x hx1 hx1]; omega
 refine ⟨?_,?_,?_,?_,?_,?_,?_⟩
 ·rw [z2d (z6d c1 hy 2 (.inl rfl) fxy) c2 c3 c4 (o1 _ _)]
  exact congrArg (·,0) ((make_left _ l n (toX d x) (toX d y) t u w).trans c6)
 ·rw [z2d (z6d hy c1 2 (.inl rfl) fyx) c2 c3 c4 (o1 _ _)]
  exact congrArg (·,0) ((make_right _ l n (toX d x) (toX d y) t u w).trans c6)
 ·rw [z2d (z6d c1 c1 3 (.inr (.inl rfl)) fxx) c2 c3 c4 o2]
  exact congrArg (·,0) ((make_both _ l n (toX d x) (toX d x) t u w w).trans (by rw [c6,Bool.and_self]))
 ·rw [z2d (z81 c1 5 z06 (.inl ⟨rfl,rfl⟩) f1) c2 c3 c4 (o1 _ _)]
  exact congrArg (·,0) ((make_plus _ l n (toX d x) t u w).trans (by rw [c6,k1,Bool.and_comm]))
 ·rw [z2d (z81 c1 6 z98 (.inr ⟨rfl,rfl⟩) f1) c2 c3 c4 (o1 _ _)]
  exact congrArg (·,0) ((make_timed _ l n (toX d x) t u w).trans (by rw [c6,k2,Bool.and_comm]))
 ·rw [z2d (z81 c1 5 z06 (.inl ⟨rfl,rfl⟩) f1) c2 c3 c4 (o1 _ _)]
  exact congrArg (·,0) (make_other _ l n (toX d x) t u w)
 ·unfold z4f
  rw [if_pos]
  have e1 : mayQ t.1 t.2 = true:=c3
  have e2 : mayQ u.1 u.2 = true:=c4
  simp [e1,e2]
end Go.Proofs.YtockinpjfhhkoaaGreatDoor
