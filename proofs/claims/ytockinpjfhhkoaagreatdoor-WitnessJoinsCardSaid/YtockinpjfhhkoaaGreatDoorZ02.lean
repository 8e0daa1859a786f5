/- Layer 16 on formulas, walked: whether something holds of a formula and of all its parts, whatever the function value is that is asked. -/
import Derived.Test.YtockinpjfhhkoaaGreatDoorZ01
set_option maxRecDepth 100000
set_option maxHeartbeats 16000000
open List renaming getElem?_cons_zero → J7, getElem?_toArray → J9
open Go.Lib renaming cell_of_heap → Jc, frozen_of_heap → Jf, hid → Jh
namespace Go.Proofs.YtockinpjfhhkoaaGreatDoor
open Go.RowKit
theorem cc3 {w : World} {g : Nat} {x0 x1 x2 : Value} {t : TypeId} {z : Nat × Nat} (h : w.heap[g]? = some (.cells #[x0,x1,x2] t z)) : w.cell? ⟨g,0,none⟩ = some x0 ∧ w.cell? ⟨g,1,none⟩ = some x1 ∧ w.cell? ⟨g,2,none⟩ = some x2:=⟨Jc h 0,Jc h 1,Jc h 2⟩
theorem cf3 {w : World} {g : Nat} {x0 x1 x2 : Value} {t : TypeId} (h : w.heap[g]? = some (.cells #[x0,x1,x2] t (0,0))) : w.cell? ⟨g,0,none⟩ = some x0 ∧ w.cell? ⟨g,1,none⟩ = some x1 ∧ w.cell? ⟨g,2,none⟩ = some x2 ∧ w.frozen? ⟨g,0,none⟩ = false ∧ w.frozen? ⟨g,1,none⟩ = false ∧ w.frozen? ⟨g,2,none⟩ = false:=⟨Jc h 0,Jc h 1,Jc h 2,Jf h 0,Jf h 1,Jf h 2⟩
theorem cc5 {w : World} {g : Nat} {x0 x1 x2 x3 x4 : Value} {t : TypeId} {z : Nat × Nat} (h : w.heap[g]? = some (.cells #[x0,x1,x2,x3,x4] t z)) : w.cell? ⟨g,0,none⟩ = some x0 ∧ w.cell? ⟨g,1,none⟩ = some x1 ∧ w.cell? ⟨g,2,none⟩ = some x2 ∧ w.cell? ⟨g,3,none⟩ = some x3 ∧ w.cell? ⟨g,4,none⟩ = some x4:=⟨Jc h 0,Jc h 1,Jc h 2,Jc h 3,Jc h 4⟩
theorem cf5 {w : World} {g : Nat} {x0 x1 x2 x3 x4 : Value} {t : TypeId} (h : w.heap[g]? = some (.cells #[x0,x1,x2,x3,x4] t (0,0))) : w.cell? ⟨g,0,none⟩ = some x0 ∧ w.cell? ⟨g,1,none⟩ = some x1 ∧ w.cell? ⟨g,2,none⟩ = some x2 ∧ w.cell? ⟨g,3,none⟩ = some x3 ∧ w.cell? ⟨g,4,none⟩ = some x4 ∧ w.frozen? ⟨g,0,none⟩ = false ∧ w.frozen? ⟨g,1,none⟩ = false ∧ w.frozen? ⟨g,2,none⟩ = false ∧ w.frozen? ⟨g,3,none⟩ = false ∧ w.frozen? ⟨g,4,none⟩ = false:=⟨Jc h 0,Jc h 1,Jc h 2,Jc h 3,Jc h 4,Jf h 0,Jf h 1,Jf h 2,Jf h 3,Jf h 4⟩
theorem cc8 {w : World} {g : Nat} {x0 x1 x2 x3 x4 x5 x6 x7 : Value} {t : TypeId} {z : Nat × Nat} (h : w.heap[g]? = some (.cells #[x0,x1,x2,x3,x4,x5,x6,x7] t z)) : w.cell? ⟨g,0,none⟩ = some x0 ∧ w.cell? ⟨g,1,none⟩ = some x1 ∧ w.cell? ⟨g,2,none⟩ = some x2 ∧ w.cell? ⟨g,3,none⟩ = some x3 ∧ w.cell? ⟨g,4,none⟩ = some x4 ∧ w.cell? ⟨g,5,none⟩ = some x5 ∧ w.cell? ⟨g,6,none⟩ = some x6 ∧ w.cell? ⟨g,7,none⟩ = some x7:=⟨Jc h 0,Jc h 1,Jc h 2,Jc h 3,Jc h 4,Jc h 5,Jc h 6,Jc h 7⟩
theorem cf8 {w : World} {g : Nat} {x0 x1 x2 x3 x4 x5 x6 x7 : Value} {t : TypeId} (h : w.heap[g]? = some (.cells #[x0,x1,x2,x3,x4,x5,x6,x7] t (0,0))) : w.cell? ⟨g,0,none⟩ = some x0 ∧ w.cell? ⟨g,1,none⟩ = some x1 ∧ w.cell? ⟨g,2,none⟩ = some x2 ∧ w.cell? ⟨g,3,none⟩ = some x3 ∧ w.cell? ⟨g,4,none⟩ = some x4 ∧ w.cell? ⟨g,5,none⟩ = some x5 ∧ w.cell? ⟨g,6,none⟩ = some x6 ∧ w.cell? ⟨g,7,none⟩ = some x7 ∧ w.frozen? ⟨g,0,none⟩ = false ∧ w.frozen? ⟨g,1,none⟩ = false ∧ w.frozen? ⟨g,2,none⟩ = false ∧ w.frozen? ⟨g,3,none⟩ = false ∧ w.frozen? ⟨g,4,none⟩ = false ∧ w.frozen? ⟨g,5,none⟩ = false ∧ w.frozen? ⟨g,6,none⟩ = false ∧ w.frozen? ⟨g,7,none⟩ = false:=⟨Jc h 0,Jc h 1,Jc h 2,Jc h 3,Jc h 4,Jc h 5,Jc h 6,Jc h 7,Jf h 0,Jf h 1,Jf h 2,Jf h 3,Jf h 4,Jf h 5,Jf h 6,Jf h 7⟩
theorem z5l (k : Int) (s : ByteArray) (a : Option Addr) (l c : Nat) (w : World) :
 Calls Tryz.prog 132 #[.agg #[.int .u8 k,.string s,.slice a l c]] w fun e w' => e = .returned (.slice a l c) ∧ Below w.heap.size w w':=by
 go_enter Tryz.func132,Tryz.ntmps132
 go_wp2_with fail
 all_goals go_ret
 all_goals exact ⟨rfl,(Below.refl _ _).alloc (Nat.le_refl _) _⟩
def Ent (K : Nat) : Prop:=∀ (args : Array Value) (W : World),(callFunc K args).run Tryz.prog W = .ok (.enter K args) W
theorem z1r {K : Nat} {fn : Func} (hf : Tryz.prog.funcs[K]? = some fn) (hn : (fn.name == "runtime.NumGoroutine") = false) (hb : fn.body.isNone = false) : Ent K:=by
 intro args W
 have h1 : fn.name ≠ "runtime.NumGoroutine":=by simpa using hn
 have h3 : ¬ fn.body = none:=by intro h; simp [h] at hb
 simp [callFunc,hf,h1,Sem.run,program,h3]
def FnF (w : World) (n : Nat) (K : Nat) (caps : Array Value) (g : FT n → Bool) : Prop :=
 Ent K ∧ ∀ (t : FT n) (v : Value) (w' : World),Below w.heap.size w w' → FRep w' w'.heap.size n t v → Calls Tryz.prog K (#[v] ++ caps) w' fun e w'' => e = .returned (.bool (g t)) ∧ Below w'.heap.size w' w''
theorem FnF.up {w w1 : World} {n K : Nat} {caps : Array Value} {g : FT n → Bool} (h : FnF w n K caps g) (hb : Below w.heap.size w w1) : FnF w1 n K caps g :=
 ⟨h.1,fun t v w' hb' hr => h.2 t v w' (hb.trans (hb'.mono hb.size)) hr⟩
theorem any_take {α : Type} (g : α → Bool) (l : List α) (k : Nat) (h : k < l.length) (h0 : (l.take k).any g = false) : (l.take (k + 1)).any g = g l[k]:=by
 rw [List.take_succ_eq_append_getElem h,List.any_append,h0]; simp
theorem any_of_at {α : Type} (g : α → Bool) (l : List α) (k : Nat) (h : k < l.length) (h0 : g l[k] = true) : l.any g = true:=List.any_eq_true.2 ⟨_,List.getElem_mem h,h0⟩
theorem index56_any (n : Nat) (l : List (FT n)) (a : Option Addr) (c K : Nat) (caps : Array Value) (g : FT n → Bool) (w : World) (hR : FRow w w.heap.size n a l) (hG : FnF w n K caps g) :
 Calls Tryz.prog 141 #[.slice a l.length c,.func (.func K) #[] caps] w fun e w' => (∃ r : Int,e = .returned (.int .i64 r) ∧ Hid (decide (0 ≤ r) = l.any g)) ∧ Below w.heap.size w w':=by
 have hK:=hG.1
 unfold Ent at hK
 have HG:=Jh hG
 have HR:=Jh hR
 have hm:=hR.1
 clear hG hR
 go_enter Tryz.func141,Tryz.ntmps141
 go_wp2_with fail
 go_loopw [8] (fun i wr => ∃ j : Nat,j ≤ l.length ∧ i = .int .i64 j ∧ Hid ((l.take j).any g = false) ∧ Below w.heap.size w wr) (fun i _ => l.length - (intOf i).toNat)
 case atStart => exact ⟨0,Nat.zero_le _,rfl,by simp [Hid],Below.refl _ _⟩
 case round =>
  obtain ⟨j,hj,rfl,HT,hbw⟩:=hrel
  have HB:=Jh hbw
  by_cases hlt : j < l.length
  ·obtain ⟨b,off,k,s,sa,sl,sc,rfl,hbl,c0,c1,c2,hr⟩:=(HR.out.up hbw (Nat.le_refl _)).at j hlt
   have hz:=hbw.size
   have hbl' : b < wr.heap.size:=by omega
   have HC:=Jh (HG.out.2 l[j] _ wr hbw (hr.up (Below.refl _ _) hz))
   have HS:=Jh (any_take g l j hlt HT.out)
   have HA:=Jh (any_of_at g l j hlt)
   clear hr hbw
   go_wp2_with fail
   refine HC.out.mono ?_
   rintro e w1 ⟨rfl,hb1⟩
   have hbz:=Jh (HB.out.trans (hb1.mono hz))
   clear hb1
   cases hg : g l[j] with
   | true =>
    have HG1:=Jh hg
    clear hg
    go_wp2_with fail
    all_goals go_ret
    all_goals exact ⟨⟨_,rfl,by rw [Hid,HA.out HG1.out]; simp⟩,hbz.out⟩
   | false =>
    have HG1:=Jh hg
    clear hg
    go_wp2_with fail
    go_roundw
    case rel => exact ⟨j + 1,by omega,by go_num,by rw [Hid,HS.out,HG1.out],hbz.out⟩
    case measure => simp [intOf]; omega
  ·have hje : j = l.length:=by omega
   have HE : Hid (l.any g = false):=by rw [Hid]; have:=HT.out; rw [hje,List.take_length] at this; exact this
   clear HT
   go_wp2_with fail
   all_goals go_ret
   all_goals exact ⟨⟨_,rfl,by rw [Hid,HE.out]; rfl⟩,HB.out⟩
theorem z6l (n : Nat) (l : List (FT n)) (a : Option Addr) (c K : Nat) (caps : Array Value) (g : FT n → Bool) (w : World) (hR : FRow w w.heap.size n a l) (hG : FnF w n K caps g) :
 Calls Tryz.prog 73 #[.slice a l.length c,.func (.func K) #[] caps] w fun e w' => e = .returned (.bool (l.any g)) ∧ Below w.heap.size w w':=by
 have HI:=Jh (index56_any n l a c K caps g w hR hG)
 clear hR hG
 go_enter Tryz.func73,Tryz.ntmps73
 go_wp2_with fail
 refine HI.out.mono ?_
 rintro e w1 ⟨⟨r,rfl,hr⟩,hb1⟩
 go_wp2_with fail
 all_goals go_ret
 all_goals exact ⟨z02 (by rw [← hr.out]),hb1⟩
def SoF (w : World) (K : Nat) (caps : Array Value) (so : Int → ByteArray → Nat → Bool) : Prop:=∀ n,FnF w (n + 1) K caps fun t => so t.1 t.2.1 t.2.2.length
theorem SoF.up {w w1 : World} {K : Nat} {caps : Array Value} {so : Int → ByteArray → Nat → Bool} (h : SoF w K caps so) (hb : Below w.heap.size w w1) : SoF w1 K caps so:=fun n => (h n).up hb
theorem blocks3 {w w1 : World} {C1 C2 C3 : Array Value} {t1 t2 t3 : TypeId} (hb : Below (((w.alloc (.cells C1 t1)).alloc (.cells C2 t2)).alloc (.cells C3 t3)).heap.size (((w.alloc (.cells C1 t1)).alloc (.cells C2 t2)).alloc (.cells C3 t3)) w1) :
 w1.heap[w.heap.size]? = some (.cells C1 t1 (0,0)) ∧ w1.heap[w.heap.size + 1]? = some (.cells C2 t2 (0,0)) ∧ w1.heap[w.heap.size + 2]? = some (.cells C3 t3 (0,0)) ∧ Below w.heap.size w w1 ∧ w.heap.size + 3 ≤ w1.heap.size:=by
 have hz : (((w.alloc (.cells C1 t1)).alloc (.cells C2 t2)).alloc (.cells C3 t3)).heap.size = w.heap.size + 3:=by simp
 refine ⟨?_,?_,?_,?_,?_⟩
 ·rw [hb.block _ (by omega)]; simp only [World.alloc,Array.getElem?_push,Array.size_push]
  rw [if_neg (by omega),if_neg (by omega),if_pos trivial]
 ·rw [hb.block _ (by omega)]; simp only [World.alloc,Array.getElem?_push,Array.size_push]
  rw [if_neg (by omega),if_pos trivial]
 ·rw [hb.block _ (by omega)]; simp only [World.alloc,Array.getElem?_push,Array.size_push]
  rw [if_pos trivial]
 ·exact ((((Below.refl _ w).alloc (Nat.le_refl _) _).alloc (by simp) _).alloc (by simp; omega) _).trans (hb.mono (by omega))
 ·have:=hb.size; omega
theorem zb0 (so : Int → ByteArray → Nat → Bool) (n : Nat) (k : Int) (s : ByteArray) (of : List (FT n)) : allF so (n + 1) (k,s,of) = (so k s of.length && of.all (allF so n)):=rfl
def
 AllF (so : Int → ByteArray → Nat → Bool) (K : Nat) (caps : Array Value) (n : Nat) : Prop:=∀ (t : FT n) (v : Value) (w : World),FRep w w.heap.size n t v → SoF w K caps so →
 Calls Tryz.prog 131 #[v,.func (.func 132) #[] #[],.func (.func K) #[] caps] w fun e w' => e = .returned (.bool (allF so n t)) ∧ Below w.heap.size w w'
theorem clo59_any (so : Int → ByteArray → Nat → Bool) (K : Nat) (caps : Array Value) (n : Nat) (ih : AllF so K caps n) (b1 b2 : Nat) (t : FT n) (v : Value) (w : World) (h : FRep w w.heap.size n t v) (hs : SoF w K caps so)
 (h1 : b1 < w.heap.size) (h2 : b2 < w.heap.size) (c1 : w.cell? ⟨b1,0,none⟩ = some (.func (.func 132) #[] #[])) (c2 : w.cell? ⟨b2,0,none⟩ = some (.func (.func K) #[] caps)) :
 Calls Tryz.prog 203 #[v,.pointer (some ⟨b1,0,none⟩),.pointer (some ⟨b2,0,none⟩)] w fun e w' => e = .returned (.bool (!allF so n t)) ∧ Below w.heap.size w w':=by
 obtain ⟨k,s,a,l,c,rfl⟩:=h.shape
 have hb : Below w.heap.size w (w.alloc (.cells #[.int .u8 k,.string s,.slice a l c] 25)):=(Below.refl _ w).alloc (Nat.le_refl _) _
 have HI:=Jh (ih t _ (w.alloc (.cells #[.int .u8 k,.string s,.slice a l c] 25)) (h.up hb (by simp)) (hs.up hb))
 have HB:=Jh hb
 clear h hs ih hb
 go_enter Tryz.func203,Tryz.ntmps203
 go_wp2_with fail
 refine HI.out.mono ?_
 rintro e w1 ⟨rfl,hb1⟩
 have HB1:=Jh (HB.out.trans (hb1.mono (by simp)))
 clear hb1
 go_wp2_with fail
 all_goals go_ret
 all_goals exact ⟨rfl,HB1.out⟩
theorem z88 (so : Int → ByteArray → Nat → Bool) (K : Nat) (caps : Array Value) (n : Nat) : AllF so K caps n:=by
 induction n with
 | zero => intro t v w h; exact h.elim
 | succ n ih =>
  intro t v w h hs
  obtain ⟨k,s,of⟩:=t
  have hfr:=h
  obtain ⟨a,c,rfl,hR⟩:=h
  dsimp only at hR hfr ⊢
  have hmf : ∀ (fn : Fn) (first cap : Array Value) (w : World),(Instr.makeFunc fn first cap).run Tryz.prog w = .ok (.func fn first cap) w:=fun _ _ _ _ => rfl
  have hb3 : Below w.heap.size w (((w.alloc (.cells #[.int .u8 k,.string s,.slice a of.length c] 25)).alloc (.cells #[.func (.func 132) #[] #[]] 200)).alloc (.cells #[.func (.func K) #[] caps] 30)) :=
   (((Below.refl _ w).alloc (Nat.le_refl _) _).alloc (by simp) _).alloc (by simp; omega) _
  have hK:=(hs n).1
  unfold Ent at hK
  have HSO:=Jh ((hs n).2 ⟨k,s,of⟩ (.agg #[.int .u8 k,.string s,.slice a of.length c]) _ hb3 (hfr.up hb3 (by simp; omega)))
  have HS:=Jh hs
  have HR:=Jh hR
  have IH:=Jh ih
  have HB3 : Hid (∀ w1,Below (((w.alloc (.cells #[.int .u8 k,.string s,.slice a of.length c] 25)).alloc (.cells #[.func (.func 132) #[] #[]] 200)).alloc (.cells #[.func (.func K) #[] caps] 30)).heap.size (((w.alloc (.cells #[.int .u8 k,.string s,.slice a of.length c] 25)).alloc (.cells #[.func (.func 132) #[] #[]] 200)).alloc (.cells #[.func (.func K) #[] caps] 30)) w1 → _):=fun w1 hb => blocks3 hb
  clear hs hfr hR hb3 ih
  cases hso : so k s of.length with
  | false =>
   have HO : Hid (allF so (n + 1) (k,s,of) = false):=by rw [Hid,zb0,hso]; rfl
   simp only [hso] at HSO
   clear hso
   go_enter Tryz.func131,Tryz.ntmps131
   go_wp2_with fail
   refine HSO.out.mono ?_
   rintro e w1 ⟨rfl,hb1⟩
   obtain ⟨d1,d2,d3,hbw,hsz⟩:=HB3.out w1 hb1
   have HBW:=Jh hbw
   clear hbw hb1
   go_wp2_with fail
   all_goals go_ret
   all_goals exact ⟨z02 (by rw [HO.out]),HBW.out⟩
  | true =>
   have HO : Hid (allF so (n + 1) (k,s,of) = !(of.any fun x => !allF so n x)):=by
    rw [Hid,zb0,hso,Bool.true_and,List.all_eq_not_any_not]
   simp only [hso] at HSO
   clear hso
   go_enter Tryz.func131,Tryz.ntmps131
   go_wp2_with fail
   refine HSO.out.mono ?_
   rintro e w1 ⟨rfl,hb1⟩
   obtain ⟨d1,d2,d3,hbw,hsz⟩:=HB3.out w1 hb1
   have HBW:=Jh hbw
   clear hbw hb1
   obtain ⟨x1,x2,x3⟩:=cc3 d1
   have x4:=Jc d2 0
   have x5:=Jc d3 0
   simp only [J9,J7] at x4 x5
   go_wp2_with fail
   refine (z5l k s a of.length c w1).mono ?_
   rintro e w2 ⟨rfl,hb2⟩
   have hbw2 : Below w.heap.size w w2:=HBW.out.trans (hb2.mono (by omega))
   have HCON:=Jh (z6l n of a c 203 #[.pointer (some ⟨w.heap.size + 1,0,none⟩),.pointer (some ⟨w.heap.size + 2,0,none⟩)] (fun x => !allF so n x) w2 (FRow.up HR.out hbw2 hbw2.size)
    ⟨z1r Tryz.func203 (by kernel_rfl) (by kernel_rfl),fun t v w' hb' hr => by
     have hz2:=hb2.size
     have hz':=hb'.size
     refine clo59_any so K caps n IH.out (w.heap.size + 1) (w.heap.size + 2) t v w' hr (SoF.up HS.out (hbw2.trans (hb'.mono hbw2.size))) (by omega) (by omega) ?_ ?_
     ·exact (hb'.cell (p:=⟨w.heap.size + 1,0,none⟩) (by show w.heap.size + 1 < _; omega)).trans ((hb2.cell (p:=⟨w.heap.size + 1,0,none⟩) (by show w.heap.size + 1 < _; omega)).trans (Jc d2 0))
     ·exact (hb'.cell (p:=⟨w.heap.size + 2,0,none⟩) (by show w.heap.size + 2 < _; omega)).trans ((hb2.cell (p:=⟨w.heap.size + 2,0,none⟩) (by show w.heap.size + 2 < _; omega)).trans (Jc d3 0))⟩)
   have HBW2:=Jh hbw2
   clear hbw2 hb2
   go_wp2_with fail
   refine HCON.out.mono ?_
   rintro e w3 ⟨rfl,hb3⟩
   have HBW3:=Jh (HBW2.out.trans (hb3.mono HBW2.out.size))
   clear hb3
   go_wp2_with fail
   all_goals go_ret
   all_goals exact ⟨z02 (by rw [HO.out]),HBW3.out⟩
open Go.RowKit
theorem zaa (k : Int) (a1 : Option Addr) (l1 c1 : Nat) (a : Option Addr) (l c : Nat) (lo hi : Int) (ls hs op : Bool) (w : World) :
 Calls Tryz.prog 70 #[.agg #[.int .u8 k,.slice a1 l1 c1,.slice a l c,.int .i64 lo,.bool ls,.int .i64 hi,.bool hs,.bool op]] w fun e w' => e = .returned (.slice a l c) ∧ Below w.heap.size w w':=by
 go_enter Tryz.func70,Tryz.ntmps70
 go_wp2_with fail
 all_goals go_ret
 all_goals exact ⟨rfl,(Below.refl _ _).alloc (Nat.le_refl _) _⟩
def FnX {m : Nat} (w : World) (n : Nat) (K : Nat) (caps : Array Value) (g : XT m n → Bool) : Prop :=
 Ent K ∧ ∀ (t : XT m n) (v : Value) (w' : World),Below w.heap.size w w' → XRep w' w'.heap.size m n t v → Calls Tryz.prog K (#[v] ++ caps) w' fun e w'' => e = .returned (.bool (g t)) ∧ Below w'.heap.size w' w''
theorem FnX.up {m : Nat} {w w1 : World} {n K : Nat} {caps : Array Value} {g : XT m n → Bool} (h : FnX w n K caps g) (hb : Below w.heap.size w w1) : FnX w1 n K caps g :=
 ⟨h.1,fun t v w' hb' hr => h.2 t v w' (hb.trans (hb'.mono hb.size)) hr⟩
theorem index69_any {m : Nat} (n : Nat) (l : List (XT m n)) (a : Option Addr) (c K : Nat) (caps : Array Value) (g : XT m n → Bool) (w : World) (hR : XRow w w.heap.size m n a l) (hG : FnX w n K caps g) :
 Calls Tryz.prog 207 #[.slice a l.length c,.func (.func K) #[] caps] w fun e w' => (∃ r : Int,e = .returned (.int .i64 r) ∧ Hid (decide (0 ≤ r) = l.any g)) ∧ Below w.heap.size w w':=by
 have hK:=hG.1
 unfold Ent at hK
 have HG:=Jh hG
 have HR:=Jh hR
 have hm:=hR.1
 clear hG hR
 go_enter Tryz.func207,Tryz.ntmps207
 go_wp2_with fail
 go_loopw [8] (fun i wr => ∃ j : Nat,j ≤ l.length ∧ i = .int .i64 j ∧ Hid ((l.take j).any g = false) ∧ Below w.heap.size w wr) (fun i _ => l.length - (intOf i).toNat)
 case atStart => exact ⟨0,Nat.zero_le _,rfl,by simp [Hid],Below.refl _ _⟩
 case round =>
  obtain ⟨j,hj,rfl,HT,hbw⟩:=hrel
  have HB:=Jh hbw
  by_cases hlt : j < l.length
  ·obtain ⟨b,off,k,a1,l1,cc1,a2,l2,cc2,lo,ls,hi,hs,op,rfl,hbl,c0,c1,c2,c3,c4,c5,c6,c7,hr⟩:=(HR.out.up hbw (Nat.le_refl _)).at j hlt
   have hz:=hbw.size
   have hbl' : b < wr.heap.size:=by omega
   have HC:=Jh (HG.out.2 l[j] _ wr hbw (hr.up (Below.refl _ _) hz))
   have HS:=Jh (any_take g l j hlt HT.out)
   have HA:=Jh (any_of_at g l j hlt)
   clear hr hbw
   go_wp2_with fail
   refine HC.out.mono ?_
   rintro e w1 ⟨rfl,hb1⟩
   have hbz:=Jh (HB.out.trans (hb1.mono hz))
   clear hb1
   cases hg : g l[j] with
   | true =>
    have HG1:=Jh hg
    clear hg
    go_wp2_with fail
    all_goals go_ret
    all_goals exact ⟨⟨_,rfl,by rw [Hid,HA.out HG1.out]; simp⟩,hbz.out⟩
   | false =>
    have HG1:=Jh hg
    clear hg
    go_wp2_with fail
    go_roundw
    case rel => exact ⟨j + 1,by omega,by go_num,by rw [Hid,HS.out,HG1.out],hbz.out⟩
    case measure => simp [intOf]; omega
  ·have hje : j = l.length:=by omega
   have HE : Hid (l.any g = false):=by rw [Hid]; have:=HT.out; rw [hje,List.take_length] at this; exact this
   clear HT
   go_wp2_with fail
   all_goals go_ret
   all_goals exact ⟨⟨_,rfl,by rw [Hid,HE.out]; rfl⟩,HB.out⟩
theorem contains54_any {m : Nat} (n : Nat) (l : List (XT m n)) (a : Option Addr) (c K : Nat) (caps : Array Value) (g : XT m n → Bool) (w : World) (hR : XRow w w.heap.size m n a l) (hG : FnX w n K caps g) :
 Calls Tryz.prog 138 #[.slice a l.length c,.func (.func K) #[] caps] w fun e w' => e = .returned (.bool (l.any g)) ∧ Below w.heap.size w w':=by
 have HI:=Jh (index69_any n l a c K caps g w hR hG)
 clear hR hG
 go_enter Tryz.func138,Tryz.ntmps138
 go_wp2_with fail
 refine HI.out.mono ?_
 rintro e w1 ⟨⟨r,rfl,hr⟩,hb1⟩
 go_wp2_with fail
 all_goals go_ret
 all_goals exact ⟨z02 (by rw [← hr.out]),hb1⟩
def SoX {m : Nat} (w : World) (K : Nat) (caps : Array Value) (so : Int → List (FT m) → Nat → Spn → Bool) : Prop:=∀ n,FnX w (n + 1) K caps fun t => so t.1 t.2.1 t.2.2.1.length t.2.2.2
theorem SoX.up {m : Nat} {w w1 : World} {K : Nat} {caps : Array Value} {so : Int → List (FT m) → Nat → Spn → Bool} (h : SoX w K caps so) (hb : Below w.heap.size w w1) : SoX w1 K caps so:=fun n => (h n).up hb
theorem allX_succ {m : Nat} (so : Int → List (FT m) → Nat → Spn → Bool) (n : Nat) (k : Int) (is : List (FT m)) (of : List (XT m n)) (lo : Int) (ls : Bool) (hi : Int) (hs op : Bool) : allX so (n + 1) (k,is,of,⟨lo,ls,hi,hs,op⟩) = (so k is of.length ⟨lo,ls,hi,hs,op⟩ && of.all (allX so n)):=rfl
def
 AllX {m : Nat} (so : Int → List (FT m) → Nat → Spn → Bool) (K : Nat) (caps : Array Value) (n : Nat) : Prop:=∀ (t : XT m n) (v : Value) (w : World),XRep w w.heap.size m n t v → SoX w K caps so →
 Calls Tryz.prog 69 #[v,.func (.func 70) #[] #[],.func (.func K) #[] caps] w fun e w' => e = .returned (.bool (allX so n t)) ∧ Below w.heap.size w w'
theorem clo55_any {m : Nat} (so : Int → List (FT m) → Nat → Spn → Bool) (K : Nat) (caps : Array Value) (n : Nat) (ih : AllX so K caps n) (b1 b2 : Nat) (t : XT m n) (v : Value) (w : World) (h : XRep w w.heap.size m n t v) (hso' : SoX w K caps so)
 (h1 : b1 < w.heap.size) (h2 : b2 < w.heap.size) (c1 : w.cell? ⟨b1,0,none⟩ = some (.func (.func 70) #[] #[])) (c2 : w.cell? ⟨b2,0,none⟩ = some (.func (.func K) #[] caps)) :
 Calls Tryz.prog 139 #[v,.pointer (some ⟨b1,0,none⟩),.pointer (some ⟨b2,0,none⟩)] w fun e w' => e = .returned (.bool (!allX so n t)) ∧ Below w.heap.size w w':=by
 obtain ⟨k,a1,l1,c1,a,l,c,lo,ls,hi,hs,op,rfl⟩:=h.shape
 have hb : Below w.heap.size w (w.alloc (.cells #[.int .u8 k,.slice a1 l1 c1,.slice a l c,.int .i64 lo,.bool ls,.int .i64 hi,.bool hs,.bool op] 47)):=(Below.refl _ w).alloc (Nat.le_refl _) _
 have HI:=Jh (ih t _ (w.alloc (.cells #[.int .u8 k,.slice a1 l1 c1,.slice a l c,.int .i64 lo,.bool ls,.int .i64 hi,.bool hs,.bool op] 47)) (h.up hb (by simp)) (hso'.up hb))
 have HB:=Jh hb
 clear h hso' ih hb
 go_enter Tryz.func139,Tryz.ntmps139
 go_wp2_with fail
 refine HI.out.mono ?_
 rintro e w1 ⟨rfl,hb1⟩
 have HB1:=Jh (HB.out.trans (hb1.mono (by simp)))
 clear hb1
 go_wp2_with fail
 all_goals go_ret
 all_goals exact ⟨rfl,HB1.out⟩
theorem zb2 {m : Nat} (so : Int → List (FT m) → Nat → Spn → Bool) (K : Nat) (caps : Array Value) (n : Nat) : AllX so K caps n:=by
 induction n with
 | zero => intro t v w h; exact h.elim
 | succ n ih =>
  intro t v w h hso'
  obtain ⟨k,is,of,lo,ls,hi,hs,op⟩:=t
  have hfr:=h
  obtain ⟨a1,c1,a,c,rfl,hR1,hR⟩:=h
  dsimp only at hR hfr ⊢
  clear hR1
  have hmf : ∀ (fn : Fn) (first cap : Array Value) (w : World),(Instr.makeFunc fn first cap).run Tryz.prog w = .ok (.func fn first cap) w:=fun _ _ _ _ => rfl
  have hb3 : Below w.heap.size w (((w.alloc (.cells #[.int .u8 k,.slice a1 is.length c1,.slice a of.length c,.int .i64 lo,.bool ls,.int .i64 hi,.bool hs,.bool op] 47)).alloc (.cells #[.func (.func 70) #[] #[]] 129)).alloc (.cells #[.func (.func K) #[] caps] 57)) :=
   (((Below.refl _ w).alloc (Nat.le_refl _) _).alloc (by simp) _).alloc (by simp; omega) _
  have hK:=(hso' n).1
  unfold Ent at hK
  have HSO:=Jh ((hso' n).2 ⟨k,is,of,lo,ls,hi,hs,op⟩ (.agg #[.int .u8 k,.slice a1 is.length c1,.slice a of.length c,.int .i64 lo,.bool ls,.int .i64 hi,.bool hs,.bool op]) _ hb3 (hfr.up hb3 (by simp; omega)))
  have HS:=Jh hso'
  have HR:=Jh hR
  have IH:=Jh ih
  have HB3 : Hid (∀ w1,Below (((w.alloc (.cells #[.int .u8 k,.slice a1 is.length c1,.slice a of.length c,.int .i64 lo,.bool ls,.int .i64 hi,.bool hs,.bool op] 47)).alloc (.cells #[.func (.func 70) #[] #[]] 129)).alloc (.cells #[.func (.func K) #[] caps] 57)).heap.size (((w.alloc (.cells #[.int .u8 k,.slice a1 is.length c1,.slice a of.length c,.int .i64 lo,.bool ls,.int .i64 hi,.bool hs,.bool op] 47)).alloc (.cells #[.func (.func 70) #[] #[]] 129)).alloc (.cells #[.func (.func K) #[] caps] 57)) w1 → _):=fun w1 hb => blocks3 hb
  clear hso' hfr hR hb3 ih
  cases hso : so k is of.length ⟨lo,ls,hi,hs,op⟩ with
  | false =>
   have HO : Hid (allX so (n + 1) (k,is,of,⟨lo,ls,hi,hs,op⟩) = false):=by rw [Hid,allX_succ,hso]; rfl
   simp only [hso] at HSO
   clear hso
   go_enter Tryz.func69,Tryz.ntmps69
   go_wp2_with fail
   refine HSO.out.mono ?_
   rintro e w1 ⟨rfl,hb1⟩
   obtain ⟨d1,d2,d3,hbw,hsz⟩:=HB3.out w1 hb1
   have HBW:=Jh hbw
   clear hbw hb1
   go_wp2_with fail
   all_goals go_ret
   all_goals exact ⟨z02 (by rw [HO.out]),HBW.out⟩
  | true =>
   have HO : Hid (allX so (n + 1) (k,is,of,⟨lo,ls,hi,hs,op⟩) = !(of.any fun x => !allX so n x)):=by
    rw [Hid,allX_succ,hso,Bool.true_and,List.all_eq_not_any_not]
   simp only [hso] at HSO
   clear hso
   go_enter Tryz.func69,Tryz.ntmps69
   go_wp2_with fail
   refine HSO.out.mono ?_
   rintro e w1 ⟨rfl,hb1⟩
   obtain ⟨d1,d2,d3,hbw,hsz⟩:=HB3.out w1 hb1
   have HBW:=Jh hbw
   clear hbw hb1
   obtain ⟨x1,x2,x3,y3,y4,y5,y6,y7⟩:=cc8 d1
   have x4:=Jc d2 0
   have x5:=Jc d3 0
   simp only [J9,J7] at x4 x5
   go_wp2_with fail
   refine (zaa k a1 is.length c1 a of.length c lo hi ls hs op w1).mono ?_
   rintro e w2 ⟨rfl,hb2⟩
   have hbw2 : Below w.heap.size w w2:=HBW.out.trans (hb2.mono (by omega))
   have HCON:=Jh (contains54_any n of a c 139 #[.pointer (some ⟨w.heap.size + 1,0,none⟩),.pointer (some ⟨w.heap.size + 2,0,none⟩)] (fun x => !allX so n x) w2 (XRow.up HR.out hbw2 hbw2.size)
    ⟨z1r Tryz.func139 (by kernel_rfl) (by kernel_rfl),fun t v w' hb' hr => by
     have hz2:=hb2.size
     have hz':=hb'.size
     refine clo55_any so K caps n IH.out (w.heap.size + 1) (w.heap.size + 2) t v w' hr (SoX.up HS.out (hbw2.trans (hb'.mono hbw2.size))) (by omega) (by omega) ?_ ?_
     ·exact (hb'.cell (p:=⟨w.heap.size + 1,0,none⟩) (by show w.heap.size + 1 < _; omega)).trans ((hb2.cell (p:=⟨w.heap.size + 1,0,none⟩) (by show w.heap.size + 1 < _; omega)).trans (Jc d2 0))
     ·exact (hb'.cell (p:=⟨w.heap.size + 2,0,none⟩) (by show w.heap.size + 2 < _; omega)).trans ((hb2.cell (p:=⟨w.heap.size + 2,0,none⟩) (by show w.heap.size + 2 < _; omega)).trans (Jc d3 0))⟩)
   have HBW2:=Jh hbw2
   clear hbw2 hb2
   go_wp2_with fail
   refine HCON.out.mono ?_
   rintro e w3 ⟨rfl,hb3⟩
   have HBW3:=Jh (HBW2.out.trans (hb3.mono HBW2.out.size))
   clear hb3
   go_wp2_with fail
   all_goals go_ret
   all_goals exact ⟨z02 (by rw [HO.out]),HBW3.out⟩
end Go.Proofs.YtockinpjfhhkoaaGreatDoor
