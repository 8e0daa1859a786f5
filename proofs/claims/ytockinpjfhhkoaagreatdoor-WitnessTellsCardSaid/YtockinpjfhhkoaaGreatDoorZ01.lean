/- Formulas, expressions and names in memory. -/
import Derived.Test.YtockinpjfhhkoaaGreatDoorZ00
set_option maxRecDepth 100000
set_option maxHeartbeats 16000000
open List renaming getElem?_cons_zero → J7, getElem?_toArray → J9
open Go.Lib renaming cell_of_heap → Jc, frozen_of_heap → Jf, hid → Jh
namespace Go.Proofs.YtockinpjfhhkoaaGreatDoor
open Go.RowKit
def RowR (w : World) (B C : Nat) {α : Type} (R : α → Value → Prop) (a : Option Addr) (l : List α) : Prop :=
 l.length ≤ 9223372036854775807 ∧ (l = [] ∨ ∃ b off,a = some ⟨b,off,none⟩ ∧ b < B ∧
  ∀ i (h : i < l.length),∃ vs : List Value,vs.length = C ∧ (∀ j,j < C → w.cell? ⟨b,off + i * C + j,none⟩ = vs[j]?) ∧ R l[i] (.agg vs.toArray))
theorem RowR.up {w w' : World} {B B' C : Nat} {α : Type} {R R' : α → Value → Prop} {a : Option Addr} {l : List α} (hb : Below B w w') (hB : B ≤ B') (hR : ∀ x ∈ l,∀ v,R x v → R' x v) (h : RowR w B C R a l) : RowR w' B' C R' a l:=by
 obtain ⟨hm,h⟩:=h
 refine ⟨hm,?_⟩
 rcases h with h | ⟨b,off,ha,hlt,hc⟩
 ·exact .inl h
 ·refine .inr ⟨b,off,ha,by omega,fun i hi => ?_⟩
  obtain ⟨vs,h1,h2,h3⟩:=hc i hi
  exact ⟨vs,h1,fun j hj => (hb.cell (p:=⟨b,_,none⟩) hlt).trans (h2 j hj),hR _ (List.getElem_mem _) _ h3⟩
def FRep (w : World) (B : Nat) : (n : Nat) → FT n → Value → Prop
 | 0,_,_ => False
 | n + 1,t,v => ∃ a cap,v = .agg #[.int .u8 t.1,.string t.2.1,.slice a t.2.2.length cap] ∧ RowR w B 3 (FRep w B n) a t.2.2
abbrev FRow (w : World) (B n : Nat) (a : Option Addr) (l : List (FT n)) : Prop:=RowR w B 3 (FRep w B n) a l
theorem FRep.up {w w' : World} {B B' : Nat} (hb : Below B w w') (hB : B ≤ B') : ∀ {n : Nat} {t : FT n} {v : Value},FRep w B n t v → FRep w' B' n t v
 | 0,_,_,h => h.elim
 | _ + 1,_,_,⟨a,cap,hv,h⟩ => ⟨a,cap,hv,h.up hb hB fun _ _ _ hx => FRep.up hb hB hx⟩
theorem FRow.up {w w' : World} {B B' n : Nat} {a : Option Addr} {l : List (FT n)} (h : FRow w B n a l) (hb : Below B w w') (hB : B ≤ B') : FRow w' B' n a l :=
 RowR.up hb hB (fun _ _ _ hx => FRep.up hb hB hx) h
theorem FRep.shape {w : World} {B n : Nat} {t : FT n} {v : Value} (h : FRep w B n t v) : ∃ k s a l c,v = .agg #[.int .u8 k,.string s,.slice a l c]:=by
 cases n with
 | zero => exact h.elim
 | succ n => obtain ⟨a,c,hv,_⟩:=h; exact ⟨_,_,a,_,c,hv⟩
theorem FRow.at {w : World} {B n : Nat} {a : Option Addr} {l : List (FT n)} (h : FRow w B n a l) (j : Nat) (hj : j < l.length) :
 ∃ b off k s sa sl sc,a = some ⟨b,off,none⟩ ∧ b < B ∧ w.cell? ⟨b,off + j * 3,none⟩ = some (.int .u8 k) ∧ w.cell? ⟨b,off + j * 3 + 1,none⟩ = some (.string s) ∧
  w.cell? ⟨b,off + j * 3 + 2,none⟩ = some (.slice sa sl sc) ∧ FRep w B n l[j] (.agg #[.int .u8 k,.string s,.slice sa sl sc]):=by
 obtain ⟨_,h | ⟨b,off,ha,hb,hc⟩⟩:=h
 ·rw [h] at hj; exact absurd hj (by simp)
 ·obtain ⟨vs,h1,h2,h3⟩:=hc j hj
  obtain ⟨k,s,sa,sl,sc,hv⟩:=h3.shape
  match vs,h1 with
  | [x,y,z],_ =>
   have hv' : x = .int .u8 k ∧ y = .string s ∧ z = .slice sa sl sc:=by simpa using hv
   obtain ⟨rfl,rfl,rfl⟩:=hv'
   exact ⟨b,off,k,s,sa,sl,sc,ha,hb,by have:=h2 0 (by omega); simpa using this,by have:=h2 1 (by omega); simpa using this,by have:=h2 2 (by omega); simpa using this,h3⟩
def Spn.cells (i : Spn) : List Value:=[.int .i64 i.low,.bool i.ls,.int .i64 i.high,.bool i.hs,.bool i.op]
def XRep (w : World) (B m : Nat) : (n : Nat) → XT m n → Value → Prop
 | 0,_,_ => False
 | n
  + 1,t,v => ∃ a1 c1 a2 c2,v = .agg #[.int .u8 t.1,.slice a1 t.2.1.length c1,.slice a2 t.2.2.1.length c2,.int .i64 t.2.2.2.low,.bool t.2.2.2.ls,.int .i64 t.2.2.2.high,.bool t.2.2.2.hs,.bool t.2.2.2.op] ∧
  FRow w B m a1 t.2.1 ∧ RowR w B 8 (XRep w B m n) a2 t.2.2.1
abbrev XRow (w : World) (B m n : Nat) (a : Option Addr) (l : List (XT m n)) : Prop:=RowR w B 8 (XRep w B m n) a l
theorem XRep.up {w w' : World} {B B' m : Nat} (hb : Below B w w') (hB : B ≤ B') : ∀ {n : Nat} {t : XT m n} {v : Value},XRep w B m n t v → XRep w' B' m n t v
 | 0,_,_,h => h.elim
 | _ + 1,_,_,⟨a1,c1,a2,c2,hv,h1,h2⟩ => ⟨a1,c1,a2,c2,hv,h1.up hb hB,h2.up hb hB fun _ _ _ hx => XRep.up hb hB hx⟩
theorem XRow.up {w w' : World} {B B' m n : Nat} {a : Option Addr} {l : List (XT m n)} (h : XRow w B m n a l) (hb : Below B w w') (hB : B ≤ B') : XRow w' B' m n a l :=
 RowR.up hb hB (fun _ _ _ hx => XRep.up hb hB hx) h
theorem XRep.shape {w : World} {B m n : Nat} {t : XT m n} {v : Value} (h : XRep w B m n t v) :
 ∃ k a1 l1 c1 a2 l2 c2 lo ls hi hs op,v = .agg #[.int .u8 k,.slice a1 l1 c1,.slice a2 l2 c2,.int .i64 lo,.bool ls,.int .i64 hi,.bool hs,.bool op]:=by
 cases n with
 | zero => exact h.elim
 | succ n => obtain ⟨a1,c1,a2,c2,hv,_⟩:=h; exact ⟨_,a1,_,c1,a2,_,c2,_,_,_,_,_,hv⟩
theorem XRow.at {w : World} {B m n : Nat} {a : Option Addr} {l : List (XT m n)} (h : XRow w B m n a l) (j : Nat) (hj : j < l.length) :
 ∃ b off k a1 l1 c1 a2 l2 c2 lo ls hi hs op,a = some ⟨b,off,none⟩ ∧ b < B ∧ w.cell? ⟨b,off + j * 8,none⟩ = some (.int .u8 k) ∧ w.cell? ⟨b,off + j * 8 + 1,none⟩ = some (.slice a1 l1 c1) ∧
  w.cell? ⟨b,off + j * 8 + 2,none⟩ = some (.slice a2 l2 c2) ∧ w.cell? ⟨b,off + j * 8 + 3,none⟩ = some (.int .i64 lo) ∧ w.cell? ⟨b,off + j * 8 + 4,none⟩ = some (.bool ls) ∧
  w.cell? ⟨b,off + j * 8 + 5,none⟩ = some (.int .i64 hi) ∧ w.cell? ⟨b,off + j * 8 + 6,none⟩ = some (.bool hs) ∧ w.cell? ⟨b,off + j * 8 + 7,none⟩ = some (.bool op) ∧
  XRep w B m n l[j] (.agg #[.int .u8 k,.slice a1 l1 c1,.slice a2 l2 c2,.int .i64 lo,.bool ls,.int .i64 hi,.bool hs,.bool op]):=by
 obtain ⟨_,h | ⟨b,off,ha,hb,hc⟩⟩:=h
 ·rw [h] at hj; exact absurd hj (by simp)
 ·obtain ⟨vs,h1,h2,h3⟩:=hc j hj
  obtain ⟨k,a1,l1,c1,a2,l2,c2,lo,ls,hi,hs,op,hv⟩:=h3.shape
  match vs,h1 with
  | [v0,v1,v2,v3,v4,v5,v6,v7],_ =>
   have hv' : v0 = .int .u8 k ∧ v1 = .slice a1 l1 c1 ∧ v2 = .slice a2 l2 c2 ∧ v3 = .int .i64 lo ∧ v4 = .bool ls ∧ v5 = .int .i64 hi ∧ v6 = .bool hs ∧ v7 = .bool op:=by simpa using hv
   obtain ⟨rfl,rfl,rfl,rfl,rfl,rfl,rfl,rfl⟩:=hv'
   refine ⟨b,off,k,a1,l1,c1,a2,l2,c2,lo,ls,hi,hs,op,ha,hb,?_,?_,?_,?_,?_,?_,?_,?_,h3⟩
   ·have:=h2 0 (by omega); simpa using this
   ·have:=h2 1 (by omega); simpa using this
   ·have:=h2 2 (by omega); simpa using this
   ·have:=h2 3 (by omega); simpa using this
   ·have:=h2 4 (by omega); simpa using this
   ·have:=h2 5 (by omega); simpa using this
   ·have:=h2 6 (by omega); simpa using this
   ·have:=h2 7 (by omega); simpa using this
def NRep (w : World) (B : Nat) (v : Value) (l : List ByteArray) : Prop :=
 ∃ a cap,v = .slice a l.length cap ∧ l.length ≤ 9223372036854775807 ∧ (l = [] ∨ ∃ b off,a = some ⟨b,off,none⟩ ∧ b < B ∧ ∀ i (h : i < l.length),w.cell? ⟨b,off + i,none⟩ = some (.string l[i]))
theorem NRep.up {w w' : World} {B B' : Nat} {v : Value} {l : List ByteArray} (h : NRep w B v l) (hb : Below B w w') (hB : B ≤ B') : NRep w' B' v l:=by
 obtain ⟨a,cap,hv,hm,h⟩:=h
 refine ⟨a,cap,hv,hm,?_⟩
 rcases h with h | ⟨b,off,ha,hlt,hc⟩
 ·exact .inl h
 ·exact .inr ⟨b,off,ha,by omega,fun i hi => (hb.cell (p:=⟨b,_,none⟩) hlt).trans (hc i hi)⟩
open Go.RowKit
theorem cc3 {w : World} {g : Nat} {x0 x1 x2 : Value} {t : TypeId} {z : Nat × Nat} (h : w.heap[g]? = some (.cells #[x0,x1,x2] t z)) : w.cell? ⟨g,0,none⟩ = some x0 ∧ w.cell? ⟨g,1,none⟩ = some x1 ∧ w.cell? ⟨g,2,none⟩ = some x2:=⟨Jc h 0,Jc h 1,Jc h 2⟩
theorem cf3 {w : World} {g : Nat} {x0 x1 x2 : Value} {t : TypeId} (h : w.heap[g]? = some (.cells #[x0,x1,x2] t (0,0))) : w.cell? ⟨g,0,none⟩ = some x0 ∧ w.cell? ⟨g,1,none⟩ = some x1 ∧ w.cell? ⟨g,2,none⟩ = some x2 ∧ w.frozen? ⟨g,0,none⟩ = false ∧ w.frozen? ⟨g,1,none⟩ = false ∧ w.frozen? ⟨g,2,none⟩ = false:=⟨Jc h 0,Jc h 1,Jc h 2,Jf h 0,Jf h 1,Jf h 2⟩
theorem cc5 {w : World} {g : Nat} {x0 x1 x2 x3 x4 : Value} {t : TypeId} {z : Nat × Nat} (h : w.heap[g]? = some (.cells #[x0,x1,x2,x3,x4] t z)) : w.cell? ⟨g,0,none⟩ = some x0 ∧ w.cell? ⟨g,1,none⟩ = some x1 ∧ w.cell? ⟨g,2,none⟩ = some x2 ∧ w.cell? ⟨g,3,none⟩ = some x3 ∧ w.cell? ⟨g,4,none⟩ = some x4:=⟨Jc h 0,Jc h 1,Jc h 2,Jc h 3,Jc h 4⟩
theorem cf5 {w : World} {g : Nat} {x0 x1 x2 x3 x4 : Value} {t : TypeId} (h : w.heap[g]? = some (.cells #[x0,x1,x2,x3,x4] t (0,0))) : w.cell? ⟨g,0,none⟩ = some x0 ∧ w.cell? ⟨g,1,none⟩ = some x1 ∧ w.cell? ⟨g,2,none⟩ = some x2 ∧ w.cell? ⟨g,3,none⟩ = some x3 ∧ w.cell? ⟨g,4,none⟩ = some x4 ∧ w.frozen? ⟨g,0,none⟩ = false ∧ w.frozen? ⟨g,1,none⟩ = false ∧ w.frozen? ⟨g,2,none⟩ = false ∧ w.frozen? ⟨g,3,none⟩ = false ∧ w.frozen? ⟨g,4,none⟩ = false:=⟨Jc h 0,Jc h 1,Jc h 2,Jc h 3,Jc h 4,Jf h 0,Jf h 1,Jf h 2,Jf h 3,Jf h 4⟩
theorem cc8 {w : World} {g : Nat} {x0 x1 x2 x3 x4 x5 x6 x7 : Value} {t : TypeId} {z : Nat × Nat} (h : w.heap[g]? = some (.cells #[x0,x1,x2,x3,x4,x5,x6,x7] t z)) : w.cell? ⟨g,0,none⟩ = some x0 ∧ w.cell? ⟨g,1,none⟩ = some x1 ∧ w.cell? ⟨g,2,none⟩ = some x2 ∧ w.cell? ⟨g,3,none⟩ = some x3 ∧ w.cell? ⟨g,4,none⟩ = some x4 ∧ w.cell? ⟨g,5,none⟩ = some x5 ∧ w.cell? ⟨g,6,none⟩ = some x6 ∧ w.cell? ⟨g,7,none⟩ = some x7:=⟨Jc h 0,Jc h 1,Jc h 2,Jc h 3,Jc h 4,Jc h 5,Jc h 6,Jc h 7⟩
theorem cf8 {w : World} {g : Nat} {x0 x1 x2 x3 x4 x5 x6 x7 : Value} {t : TypeId} (h : w.heap[g]? = some (.cells #[x0,x1,x2,x3,x4,x5,x6,x7] t (0,0))) : w.cell? ⟨g,0,none⟩ = some x0 ∧ w.cell? ⟨g,1,none⟩ = some x1 ∧ w.cell? ⟨g,2,none⟩ = some x2 ∧ w.cell? ⟨g,3,none⟩ = some x3 ∧ w.cell? ⟨g,4,none⟩ = some x4 ∧ w.cell? ⟨g,5,none⟩ = some x5 ∧ w.cell? ⟨g,6,none⟩ = some x6 ∧ w.cell? ⟨g,7,none⟩ = some x7 ∧ w.frozen? ⟨g,0,none⟩ = false ∧ w.frozen? ⟨g,1,none⟩ = false ∧ w.frozen? ⟨g,2,none⟩ = false ∧ w.frozen? ⟨g,3,none⟩ = false ∧ w.frozen? ⟨g,4,none⟩ = false ∧ w.frozen? ⟨g,5,none⟩ = false ∧ w.frozen? ⟨g,6,none⟩ = false ∧ w.frozen? ⟨g,7,none⟩ = false:=⟨Jc h 0,Jc h 1,Jc h 2,Jc h 3,Jc h 4,Jc h 5,Jc h 6,Jc h 7,Jf h 0,Jf h 1,Jf h 2,Jf h 3,Jf h 4,Jf h 5,Jf h 6,Jf h 7⟩
theorem z3c (k : Int) (s : ByteArray) (a : Option Addr) (l c : Nat) (w : World) :
 Calls Tryz.prog 132 #[.agg #[.int .u8 k,.string s,.slice a l c]] w fun e w' => e = .returned (.slice a l c) ∧ Below w.heap.size w w':=by
 go_enter Tryz.func132,Tryz.ntmps132
 go_wp2_with fail
 all_goals go_ret
 all_goals exact ⟨rfl,(Below.refl _ _).alloc (Nat.le_refl _) _⟩
def Ent (K : Nat) : Prop:=∀ (args : Array Value) (W : World),(callFunc K args).run Tryz.prog W = .ok (.enter K args) W
theorem z2g {K : Nat} {fn : Func} (hf : Tryz.prog.funcs[K]? = some fn) (hn : (fn.name == "runtime.NumGoroutine") = false) (hb : fn.body.isNone = false) : Ent K:=by
 intro args W
 have h1 : fn.name ≠ "runtime.NumGoroutine":=by simpa using hn
 have h3 : ¬ fn.body = none:=by intro h; simp [h] at hb
 simp [callFunc,hf,h1,Sem.run,program,h3]
def FnF (w : World) (n : Nat) (K : Nat) (caps : Array Value) (g : FT n → Bool) : Prop :=
 Ent K ∧ ∀ (t : FT n) (v : Value) (w' : World),Below w.heap.size w w' → FRep w' w'.heap.size n t v → Calls Tryz.prog K (#[v] ++ caps) w' fun e w'' => e = .returned (.bool (g t)) ∧ Below w'.heap.size w' w''
theorem FnF.up {w w1 : World} {n K : Nat} {caps : Array Value} {g : FT n → Bool} (h : FnF w n K caps g) (hb : Below w.heap.size w w1) : FnF w1 n K caps g :=
 ⟨h.1,fun t v w' hb' hr => h.2 t v w' (hb.trans (hb'.mono hb.size)) hr⟩
theorem any_take {α : Type} (g : α → Bool) (l : List α) (k : Nat) (h : k < l.length) (h0 : (l.take k).any g = false) : (l.take (k + 1)).any g = g l[k]:=by
 rw [List.take_succ_eq_append_getElem h,List.any_append,h0]; simp
theorem any_of_at {α : Type} (g : α → Bool) (l : List α) (k : Nat) (h : k < l.length) (h0 : g l[k] = true) : l.any g = true:=List.any_eq_true.2 ⟨_,List.getElem_mem h,h0⟩
theorem index56_any (n : Nat) (l : List (FT n)) (a : Option Addr) (c K : Nat) (caps : Array Value) (g : FT n → Bool) (w : World) (hR : FRow w w.heap.size n a l) (hG : FnF w n K caps g) :
 Calls Tryz.prog 141 #[.slice a l.length c,.func (.func K) #[] caps] w fun e w' => (∃ r : Int,e = .returned (.int .i64 r) ∧ Hid (decide (0 ≤ r) = l.any g)) ∧ Below w.heap.size w w':=by
 have hK:=hG.1
 unfold Ent at hK
 have HG:=Jh hG
 have HR:=Jh hR
 have hm:=hR.1
 clear hG hR
 go_enter Tryz.func141,Tryz.ntmps141
 go_wp2_with fail
 go_loopw [8] (fun i wr => ∃ j : Nat,j ≤ l.length ∧ i = .int .i64 j ∧ Hid ((l.take j).any g = false) ∧ Below w.heap.size w wr) (fun i _ => l.length - (intOf i).toNat)
 case atStart => exact ⟨0,Nat.zero_le _,rfl,by simp [Hid],Below.refl _ _⟩
 case round =>
  obtain ⟨j,hj,rfl,HT,hbw⟩:=hrel
  have HB:=Jh hbw
  by_cases hlt : j < l.length
  ·obtain ⟨b,off,k,s,sa,sl,sc,rfl,hbl,c0,c1,c2,hr⟩:=(HR.out.up hbw (Nat.le_refl _)).at j hlt
   have hz:=hbw.size
   have hbl' : b < wr.heap.size:=by omega
   have HC:=Jh (HG.out.2 l[j] _ wr hbw (hr.up (Below.refl _ _) hz))
   have HS:=Jh (any_take g l j hlt HT.out)
   have HA:=Jh (any_of_at g l j hlt)
   clear hr hbw
   go_wp2_with fail
   refine HC.out.mono ?_
   rintro e w1 ⟨rfl,hb1⟩
   have hbz:=Jh (HB.out.trans (hb1.mono hz))
   clear hb1
   cases hg : g l[j] with
   | true =>
    have HG1:=Jh hg
    clear hg
    go_wp2_with fail
    all_goals go_ret
    all_goals exact ⟨⟨_,rfl,by rw [Hid,HA.out HG1.out]; simp⟩,hbz.out⟩
   | false =>
    have HG1:=Jh hg
    clear hg
    go_wp2_with fail
    go_roundw
    case rel => exact ⟨j + 1,by omega,by go_num,by rw [Hid,HS.out,HG1.out],hbz.out⟩
    case measure => simp [intOf]; omega
  ·have hje : j = l.length:=by omega
   have HE : Hid (l.any g = false):=by rw [Hid]; have:=HT.out; rw [hje,List.take_length] at this; exact this
   clear HT
   go_wp2_with fail
   all_goals go_ret
   all_goals exact ⟨⟨_,rfl,by rw [Hid,HE.out]; rfl⟩,HB.out⟩
theorem z3v (n : Nat) (l : List (FT n)) (a : Option Addr) (c K : Nat) (caps : Array Value) (g : FT n → Bool) (w : World) (hR : FRow w w.heap.size n a l) (hG : FnF w n K caps g) :
 Calls Tryz.prog 73 #[.slice a l.length c,.func (.func K) #[] caps] w fun e w' => e = .returned (.bool (l.any g)) ∧ Below w.heap.size w w':=by
 have HI:=Jh (index56_any n l a c K caps g w hR hG)
 clear hR hG
 go_enter Tryz.func73,Tryz.ntmps73
 go_wp2_with fail
 refine HI.out.mono ?_
 rintro e w1 ⟨⟨r,rfl,hr⟩,hb1⟩
 go_wp2_with fail
 all_goals go_ret
 all_goals exact ⟨z01 (by rw [← hr.out]),hb1⟩
def SoF (w : World) (K : Nat) (caps : Array Value) (so : Int → ByteArray → Nat → Bool) : Prop:=∀ n,FnF w (n + 1) K caps fun t => so t.1 t.2.1 t.2.2.length
theorem SoF.up {w w1 : World} {K : Nat} {caps : Array Value} {so : Int → ByteArray → Nat → Bool} (h : SoF w K caps so) (hb : Below w.heap.size w w1) : SoF w1 K caps so:=fun n => (h n).up hb
theorem blocks3 {w w1 : World} {C1 C2 C3 : Array Value} {t1 t2 t3 : TypeId} (hb : Below (((w.alloc (.cells C1 t1)).alloc (.cells C2 t2)).alloc (.cells C3 t3)).heap.size (((w.alloc (.cells C1 t1)).alloc (.cells C2 t2)).alloc (.cells C3 t3)) w1) :
 w1.heap[w.heap.size]? = some (.cells C1 t1 (0,0)) ∧ w1.heap[w.heap.size + 1]? = some (.cells C2 t2 (0,0)) ∧ w1.heap[w.heap.size + 2]? = some (.cells C3 t3 (0,0)) ∧ Below w.heap.size w w1 ∧ w.heap.size + 3 ≤ w1.heap.size:=by
 have hz : (((w.alloc (.cells C1 t1)).alloc (.cells C2 t2)).alloc (.cells C3 t3)).heap.size = w.heap.size + 3:=by simp
 refine ⟨?_,?_,?_,?_,?_⟩
 ·rw [hb.block _ (by omega)]; simp only [World.alloc,Array.getElem?_push,Array.size_push]
  rw [if_neg (by omega),if_neg (by omega),if_pos trivial]
 ·rw [hb.block _ (by omega)]; simp only [World.alloc,Array.getElem?_push,Array.size_push]
  rw [if_neg (by omega),if_pos trivial]
 ·rw [hb.block _ (by omega)]; simp only [World.alloc,Array.getElem?_push,Array.size_push]
  rw [if_pos trivial]
 ·exact ((((Below.refl _ w).alloc (Nat.le_refl _) _).alloc (by simp) _).alloc (by simp; omega) _).trans (hb.mono (by omega))
 ·have:=hb.size; omega
theorem z70 (so : Int → ByteArray → Nat → Bool) (n : Nat) (k : Int) (s : ByteArray) (of : List (FT n)) : allF so (n + 1) (k,s,of) = (so k s of.length && of.all (allF so n)):=rfl
def
 AllF (so : Int → ByteArray → Nat → Bool) (K : Nat) (caps : Array Value) (n : Nat) : Prop:=∀ (t : FT n) (v : Value) (w : World),FRep w w.heap.size n t v → SoF w K caps so →
 Calls Tryz.prog 131 #[v,.func (.func 132) #[] #[],.func (.func K) #[] caps] w fun e w' => e = .returned (.bool (allF so n t)) ∧ Below w.heap.size w w'
theorem clo59_any (so : Int → ByteArray → Nat → Bool) (K : Nat) (caps : Array Value) (n : Nat) (ih : AllF so K caps n) (b1 b2 : Nat) (t : FT n) (v : Value) (w : World) (h : FRep w w.heap.size n t v) (hs : SoF w K caps so)
 (h1 : b1 < w.heap.size) (h2 : b2 < w.heap.size) (c1 : w.cell? ⟨b1,0,none⟩ = some (.func (.func 132) #[] #[])) (c2 : w.cell? ⟨b2,0,none⟩ = some (.func (.func K) #[] caps)) :
 Calls Tryz.prog 203 #[v,.pointer (some ⟨b1,0,none⟩),.pointer (some ⟨b2,0,none⟩)] w fun e w' => e = .returned (.bool (!allF so n t)) ∧ Below w.heap.size w w':=by
 obtain ⟨k,s,a,l,c,rfl⟩:=h.shape
 have hb : Below w.heap.size w (w.alloc (.cells #[.int .u8 k,.string s,.slice a l c] 25)):=(Below.refl _ w).alloc (Nat.le_refl _) _
 have HI:=Jh (ih t _ (w.alloc (.cells #[.int .u8 k,.string s,.slice a l c] 25)) (h.up hb (by simp)) (hs.up hb))
 have HB:=Jh hb
 clear h hs ih hb
 go_enter Tryz.func203,Tryz.ntmps203
 go_wp2_with fail
 refine HI.out.mono ?_
 rintro e w1 ⟨rfl,hb1⟩
 have HB1:=Jh (HB.out.trans (hb1.mono (by simp)))
 clear hb1
 go_wp2_with fail
 all_goals go_ret
 all_goals exact ⟨rfl,HB1.out⟩
theorem z4t (so : Int → ByteArray → Nat → Bool) (K : Nat) (caps : Array Value) (n : Nat) : AllF so K caps n:=by
 induction n with
 | zero => intro t v w h; exact h.elim
 | succ n ih =>
  intro t v w h hs
  obtain ⟨k,s,of⟩:=t
  have hfr:=h
  obtain ⟨a,c,rfl,hR⟩:=h
  dsimp only at hR hfr ⊢
  have hmf : ∀ (fn : Fn) (first cap : Array Value) (w : World),(Instr.makeFunc fn first cap).run Tryz.prog w = .ok (.func fn first cap) w:=fun _ _ _ _ => rfl
  have hb3 : Below w.heap.size w (((w.alloc (.cells #[.int .u8 k,.string s,.slice a of.length c] 25)).alloc (.cells #[.func (.func 132) #[] #[]] 200)).alloc (.cells #[.func (.func K) #[] caps] 30)) :=
   (((Below.refl _ w).alloc (Nat.le_refl _) _).alloc (by simp) _).alloc (by simp; omega) _
  have hK:=(hs n).1
  unfold Ent at hK
  have HSO:=Jh ((hs n).2 ⟨k,s,of⟩ (.agg #[.int .u8 k,.string s,.slice a of.length c]) _ hb3 (hfr.up hb3 (by simp; omega)))
  have HS:=Jh hs
  have HR:=Jh hR
  have IH:=Jh ih
  have HB3 : Hid (∀ w1,Below (((w.alloc (.cells #[.int .u8 k,.string s,.slice a of.length c] 25)).alloc (.cells #[.func (.func 132) #[] #[]] 200)).alloc (.cells #[.func (.func K) #[] caps] 30)).heap.size (((w.alloc (.cells #[.int .u8 k,.string s,.slice a of.length c] 25)).alloc (.cells #[.func (.func 132) #[] #[]] 200)).alloc (.cells #[.func (.func K) #[] caps] 30)) w1 → _):=fun w1 hb => blocks3 hb
  clear hs hfr hR hb3 ih
  cases hso : so k s of.length with
  | false =>
   have HO : Hid (allF so (n + 1) (k,s,of) = false):=by rw [Hid,z70,hso]; rfl
   simp only [hso] at HSO
   clear hso
   go_enter Tryz.func131,Tryz.ntmps131
   go_wp2_with fail
   refine HSO.out.mono ?_
   rintro e w1 ⟨rfl,hb1⟩
   obtain ⟨d1,d2,d3,hbw,hsz⟩:=HB3.out w1 hb1
   have HBW:=Jh hbw
   clear hbw hb1
   go_wp2_with fail
   all_goals go_ret
   all_goals exact ⟨z01 (by rw [HO.out]),HBW.out⟩
  | true =>
   have HO : Hid (allF so (n + 1) (k,s,of) = !(of.any fun x => !allF so n x)):=by
    rw [Hid,z70,hso,Bool.true_and,List.all_eq_not_any_not]
   simp only [hso] at HSO
   clear hso
   go_enter Tryz.func131,Tryz.ntmps131
   go_wp2_with fail
   refine HSO.out.mono ?_
   rintro e w1 ⟨rfl,hb1⟩
   obtain ⟨d1,d2,d3,hbw,hsz⟩:=HB3.out w1 hb1
   have HBW:=Jh hbw
   clear hbw hb1
   obtain ⟨x1,x2,x3⟩:=cc3 d1
   have x4:=Jc d2 0
   have x5:=Jc d3 0
   simp only [J9,J7] at x4 x5
   go_wp2_with fail
   refine (z3c k s a of.length c w1).mono ?_
   rintro e w2 ⟨rfl,hb2⟩
   have hbw2 : Below w.heap.size w w2:=HBW.out.trans (hb2.mono (by omega))
   have HCON:=Jh (z3v n of a c 203 #[.pointer (some ⟨w.heap.size + 1,0,none⟩),.pointer (some ⟨w.heap.size + 2,0,none⟩)] (fun x => !allF so n x) w2 (FRow.up HR.out hbw2 hbw2.size)
    ⟨z2g Tryz.func203 (by kernel_rfl) (by kernel_rfl),fun t v w' hb' hr => by
     have hz2:=hb2.size
     have hz':=hb'.size
     refine clo59_any so K caps n IH.out (w.heap.size + 1) (w.heap.size + 2) t v w' hr (SoF.up HS.out (hbw2.trans (hb'.mono hbw2.size))) (by omega) (by omega) ?_ ?_
     ·exact (hb'.cell (p:=⟨w.heap.size + 1,0,none⟩) (by show w.heap.size + 1 < _; omega)).trans ((hb2.cell (p:=⟨w.heap.size + 1,0,none⟩) (by show w.heap.size + 1 < _; omega)).trans (Jc d2 0))
     ·exact (hb'.cell (p:=⟨w.heap.size + 2,0,none⟩) (by show w.heap.size + 2 < _; omega)).trans ((hb2.cell (p:=⟨w.heap.size + 2,0,none⟩) (by show w.heap.size + 2 < _; omega)).trans (Jc d3 0))⟩)
   have HBW2:=Jh hbw2
   clear hbw2 hb2
   go_wp2_with fail
   refine HCON.out.mono ?_
   rintro e w3 ⟨rfl,hb3⟩
   have HBW3:=Jh (HBW2.out.trans (hb3.mono HBW2.out.size))
   clear hb3
   go_wp2_with fail
   all_goals go_ret
   all_goals exact ⟨z01 (by rw [HO.out]),HBW3.out⟩
end Go.Proofs.YtockinpjfhhkoaaGreatDoor
