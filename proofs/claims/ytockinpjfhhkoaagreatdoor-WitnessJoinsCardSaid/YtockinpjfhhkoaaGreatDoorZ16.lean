/- Signals (slices of segments) in memory, and the iterator signal.begins over them. -/
import Derived.RangeFuncNested
import Derived.RangeFuncBound
import Derived.RangeFuncCalls
import Derived.RangeFuncLeaves
import Derived.Shelf.Abstract
import Derived.Shelf.RegionOpen
import Derived.WalkKit
import Derived.WalkSpells
import Derived.WalkLawsBesides
import Derived.OwnWalkIn
import Derived.TacticsInMore
import Derived.LoopNIn
import Derived.LoopIn
import Derived.Lib.Hide
import Derived.Test.YtockinpjfhhkoaaGreatDoorProg
import Derived.Test.YtockinpjfhhkoaaGreatDoorZ14
set_option maxRecDepth 100000
set_option maxHeartbeats 16000000
open Go.Lib renaming hid → Jh
open Go.RowKit.Below renaming heap_alloc → Jb
namespace Go.Proofs.YtockinpjfhhkoaaGreatDoor
open Go.RowKit Go.Shelf
attribute [local go_sem] Oper.semAt_some
def SegC (w : World) (b off : Nat) (l : List (Int × Int)) : Prop :=
 ∀ i,i < l.length → w.cell? ⟨b,off + i * 2,none⟩ = some (.int .i64 (l[i]?.getD (0,0)).1) ∧ w.cell? ⟨b,off + i * 2 + 1,none⟩ = some (.int .u8 (l[i]?.getD (0,0)).2)
theorem SegC.below {w w' : World} {B b off : Nat} {l : List (Int × Int)} (hb : Below B w w') (hlt : b < B) (h : SegC w b off l) : SegC w' b off l :=
 fun i hi => ⟨(hb.cell (p:=⟨b,_,none⟩) hlt).trans (h i hi).1,(hb.cell (p:=⟨b,_,none⟩) hlt).trans (h i hi).2⟩
def atOf (l : List (Int × Int)) : Nat → Int
 | 0 => 0
 | j + 1 => wrap64 (atOf l j + (l[j]?.getD (0,0)).1)
def z2z (l : List (Int × Int)) (j : Nat) : Int × Int × Int:=(atOf l j,(l[j]?.getD (0,0)).1,(l[j]?.getD (0,0)).2)
def z1a (l : List (Int × Int)) (k : Nat) : List (Int × Int × Int):=(List.range k).map (z2z l)
theorem z4c (l : List (Int × Int)) (k : Nat) : z1a l (k + 1) = z1a l k ++ [z2z l k]:=by simp [z1a,List.range_succ]
theorem z6i (l : List (Int × Int)) (k : Nat) : (z1a l k).length = k:=by simp [z1a]
def z4j (x : Int × Int × Int) : Array Value:=#[.int .i64 x.1,.agg #[.int .i64 x.2.1,.int .u8 x.2.2]]
def KpD (n₀ D : Nat) (W W' : World) : Prop:=Below n₀ W W' ∧ ∀ (k : Nat) (o : Obj),D ≤ k → W.heap[k]? = some o → o.isCells = true → W'.heap[k]? = some o
theorem kpD_t {n₀ D : Nat} {A B C : World} (h : KpD n₀ D A B) (k : KpD n₀ D B C) : KpD n₀ D A C :=
 ⟨h.1.trans k.1,fun i o hi ho hc => k.2 i o hi (h.2 i o hi ho hc) hc⟩
theorem kpD_b {n₀ D : Nat} {w : World} (hn : n₀ ≤ w.heap.size) (W : World) (l : Nat) (o o' : Obj) (hl : w.heap.size ≤ l) (h : W.heap[l]? = some o) (hc : o.isCells = false) (hw : o.isWalk = false) : KpD n₀ D W (W.putObj l o') :=
 ⟨belowK_b hn W l o o' hl h hc hw,fun k o2 _ h2 hc2 => by
  by_cases e : k = l
  ·subst e; rw [h] at h2; cases h2; rw [hc] at hc2; cases hc2
  ·exact (World.putObj_heap_other e).trans h2⟩
theorem begins1_in (F : Fence) (n : Nat) (h40 : F.fn 150) (hro : F.round = none) (hn : 1 ≤ n) (l Bs n₀ D b off cap : Nat) (zs : List (Int × Int)) (hm : zs.length ≤ 9223372036854775807) (hb : b < n₀) (J Jx : List (Int × Int × Int) → World → Prop)
 (W : World) (hD : D ≤ W.heap.size) (hn0 : n₀ ≤ W.heap.size) (hJ : AbidesFrom W.heap.size J)
 (hY : ∀ pre x W1,J pre W1 → pre.length < zs.length → YieldAt F (n - 1) Tryz.prog l (z4j x) W1 fun e W' =>
  (e = .returned (.bool true) ∧ J (pre ++ [x]) W' ∧ KpD n₀ D W1 W') ∨ (e = .returned (.bool false) ∧ Jx (pre ++ [x]) W'))
 (hBs : W.cell? ⟨Bs,0,none⟩ = some (.slice (some ⟨b,off,none⟩) zs.length cap)) (hc : SegC W b off zs) (h0 : J [] W) :
 CallsIn F n Tryz.prog 150 #[.func (.yield l) #[] #[],.pointer (some ⟨Bs,0,none⟩)] W fun e W' => (∃ v,e = .returned v) ∧
  ((∃ ys,ys = z1a zs zs.length ∧ J ys W') ∨ (∃ pre,(∃ k,k ≤ zs.length ∧ pre = z1a zs k) ∧ Jx pre W')):=by
 refine callsIn_of_wp Tryz.func150 rfl h40 ?_ hro
 simp only [Tryz.ntmps150,List.size_toArray,List.length_cons,List.length_nil,Nat.reduceAdd,Nat.reduceSub,Array.replicate_succ,Array.replicate_zero,List.push_toArray,List.append_toArray,List.nil_append,List.cons_append]
 gi_wp2
 gi_loopw [3,8] (fun t i wr => ∃ k : Nat,k ≤ zs.length ∧ i = .int .i64 k ∧ t = .int .i64 (atOf zs k) ∧ J (z1a zs k) wr ∧ Below n₀ W wr ∧ D ≤ wr.heap.size ∧ W.heap.size ≤ wr.heap.size)
  (fun _ i _ => zs.length - (intOf i).toNat)
 case atStart => exact ⟨0,Nat.zero_le _,rfl,rfl,h0,Below.refl _ _,hD,Nat.le_refl _⟩
 case round =>
  obtain ⟨k,hk,rfl,rfl,hJs,hnx,hDr,hWr⟩:=hrel
  by_cases hlt : k < zs.length
  ·obtain ⟨c1,c2⟩:=(hc.below hnx hb) k hlt
   obtain ⟨p,q,hpq⟩ : ∃ p q,zs[k]?.getD (0,0) = (p,q):=⟨_,_,rfl⟩
   rw [hpq] at c1 c2
   dsimp only at c1 c2
   have hJ1 : J (z1a zs k) (wr.alloc (.cells #[.int .i64 p,.int .u8 q] 29)):=hJ _ _ _ none hJs (World.grownBy_alloc _ _ _) (by intro r e; cases e)
   obtain ⟨fn,tmps,assign,body,hy,hR⟩:=hY _ (z2z zs k) _ hJ1 (by rw [z6i]; exact hlt)
   simp only [z4j,z2z,hpq] at hy
   have HR:=Jh hR
   have HC:=Jh hc
   have HP:=Jh hpq
   have HA : Hid (atOf zs (k + 1) = wrap64 (atOf zs k + p)):=by show wrap64 _ = _; rw [hpq]
   clear hR hc hY hpq
   gi_wp2
   refine HR.out.mono ?_
   rintro e W3 (⟨rfl,hJ3,hk3⟩ | ⟨rfl,hJx3⟩)
   ·have hbox : W3.heap[wr.heap.size]? = some (.cells #[.int .i64 p,.int .u8 q] 29):=hk3.2 _ _ hDr (World.alloc_heap_new wr _) rfl
    have g1 : W3.cell? ⟨wr.heap.size,0,none⟩ = some (.int .i64 p):=by simp [World.cell?,hbox]
    have hb3 : Below n₀ W W3:=(hnx.trans ((Below.refl n₀ wr).alloc (by omega) _)).trans hk3.1
    have hz:=hk3.1.size
    simp only [World.size_alloc] at hz
    clear hbox
    gi_wp2
    go_roundw
    case rel => exact ⟨k + 1,by omega,by go_num,by rw [HA.out],by rw [z4c]; exact hJ3,hb3,by omega,by omega⟩
    case measure => simp [intOf]; omega
   ·gi_wp2
    refine bodyPost_ret (results_none rfl _ _ _) rfl ?_
    exact ⟨⟨_,rfl⟩,.inr ⟨_,⟨k + 1,by omega,(z4c _ _).symm⟩,hJx3⟩⟩
  ·obtain rfl : k = zs.length:=by omega
   gi_wp2
   go_end0
   exact ⟨⟨_,rfl⟩,.inl ⟨_,rfl,hJs⟩⟩
open Go.RowKit Go.Shelf
def badB (p : Int) (s : Int × Int) : Bool:=decide (s.1 < 1) || decide (2 ^ p.toNat ≤ s.2)
theorem check1_any (a q p : Int) (Bp : Nat) (w : World) (hp0 : 0 ≤ p) (hp8 : p ≤ 8) (hq0 : 0 ≤ q) (hq : q ≤ 255) (hc : w.cell? ⟨Bp,0,none⟩ = some (.int .i64 p)) (hB : Bp < w.heap.size) :
 Calls Tryz.prog 98 #[.agg #[.int .i64 a,.int .u8 q],.pointer (some ⟨Bp,0,none⟩)] w fun e w' => e = .returned (.bool (badB p (a,q))) ∧ Below w.heap.size w w':=by
 by_cases ha : a < 1
 ·have hb : Hid (badB p (a,q) = true):=by show (_ || _) = true; simp [ha]
  go_enter Tryz.func98,Tryz.ntmps98
  go_wp2_with fail
  go_ret
  exact ⟨by rw [hb.out]; rfl,(Below.refl _ _).alloc (Nat.le_refl _) _⟩
 ·have hb : Hid (badB p (a,q) = decide (0 < q / 2 ^ p.toNat)):=by
   show (_ || _) = _
   have hc : (0 : Int) < 2 ^ p.toNat:=Int.pow_pos (by omega)
   simp only [ha,decide_false,Bool.false_or,decide_eq_decide]
   have:=Int.le_ediv_iff_mul_le (a:=1) (b:=q) hc
   rw [Int.one_mul] at this
   omega
  go_enter Tryz.func98,Tryz.ntmps98
  go_wp2_with fail
  go_ret
  exact ⟨by rw [hb.out]; rfl,(Below.refl _ _).alloc (Nat.le_refl _) _⟩
def idxF {α : Type} (f : α → Bool) : List α → Int → Int
 | [],_ => -1
 | x :: r,k => if f x then k else idxF f r (k + 1)
theorem idxF_any {α : Type} (f : α → Bool) : ∀ (l : List α) (k : Int),0 ≤ k → decide (0 ≤ idxF f l k) = l.any f
 | [],_,_ => rfl
 | x :: r,k,h => by
  rw [idxF,List.any_cons]
  cases f x
  ·simpa using idxF_any f r (k + 1) (by omega)
  ·simpa using h
theorem idxF_drop {α : Type} (f : α → Bool) (l : List α) (j : Nat) (h : j < l.length) : idxF f (l.drop j) j = if f l[j] then (j : Int) else idxF f (l.drop (j + 1)) ((j + 1 : Nat) : Int):=by
 rw [List.drop_eq_getElem_cons h,idxF]
 rfl
def Segs (w : World) (B : Nat) (v : Value) (l : List (Int × Int)) : Prop :=
 ∃ a cap,v = .slice a l.length cap ∧ l.length ≤ 9223372036854775807 ∧ (l = [] ∨ ∃ b off,a = some ⟨b,off,none⟩ ∧ b < B ∧ SegC w b off l) ∧
  ∀ s ∈ l,-9223372036854775808 ≤ s.1 ∧ s.1 ≤ 9223372036854775807 ∧ 0 ≤ s.2 ∧ s.2 ≤ 255
theorem Segs.below {w w' : World} {B : Nat} {v : Value} {l : List (Int × Int)} (hb : Below B w w') (h : Segs w B v l) : Segs w' B v l:=by
 obtain ⟨a,cap,hv,hm,h,hr⟩:=h
 refine ⟨a,cap,hv,hm,?_,hr⟩
 rcases h with h | ⟨b,off,ha,hlt,hc⟩
 ·exact .inl h
 ·exact .inr ⟨b,off,ha,hlt,hc.below hb hlt⟩
theorem Segs.mono {w : World} {B B' : Nat} {v : Value} {l : List (Int × Int)} (hB : B ≤ B') (h : Segs w B v l) : Segs w B' v l:=by
 obtain ⟨a,cap,hv,hm,h,hr⟩:=h
 refine ⟨a,cap,hv,hm,?_,hr⟩
 rcases h with h | ⟨b,off,ha,hlt,hc⟩
 ·exact .inl h
 ·exact .inr ⟨b,off,ha,by omega,hc⟩
theorem getD_eq (l : List (Int × Int)) (j : Nat) (h : j < l.length) : l[j]?.getD (0,0) = l[j]:=by simp [h]
theorem indexFunc_any (v : Value) (l : List (Int × Int)) (p : Int) (Bp : Nat) (w : World) (hs : Segs w w.heap.size v l) (hp0 : 0 ≤ p) (hp8 : p ≤ 8) (hc : w.cell? ⟨Bp,0,none⟩ = some (.int .i64 p)) (hB : Bp < w.heap.size) :
 Calls Tryz.prog 170 #[v,.func (.func 98) #[] #[.pointer (some ⟨Bp,0,none⟩)]] w fun e w' => e = .returned (.int .i64 (idxF (badB p) l 0)) ∧ Below w.heap.size w w':=by
 obtain ⟨a,cap,rfl,hm,h,hr⟩:=hs
 have HR:=Jh hr
 have HBp:=Jh hc
 clear hr hc
 have H0 : Hid (idxF (badB p) l 0 = idxF (badB p) (l.drop 0) ((0 : Nat) : Int)):=rfl
 go_enter Tryz.func170,Tryz.ntmps170
 go_wp2_with fail
 go_loopw [8] (fun i wr => ∃ j : Nat,j ≤ l.length ∧ i = .int .i64 j ∧ Hid (idxF (badB p) l 0 = idxF (badB p) (l.drop j) (j : Int)) ∧ Below w.heap.size w wr) (fun i _ => l.length - (intOf i).toNat)
 case atStart => exact ⟨0,Nat.zero_le _,rfl,H0,Below.refl _ _⟩
 case round =>
  obtain ⟨j,hj,rfl,hI,hbw⟩:=hrel
  by_cases hlt : j < l.length
  ·rcases h with h | ⟨b,off,rfl,hbl,hc⟩
   ·rw [h] at hlt; exact absurd hlt (by simp)
   ·obtain ⟨c1,c2⟩:=(hc.below hbw hbl) j hlt
    obtain ⟨x,y,hxy⟩ : ∃ x y,l[j] = (x,y):=⟨_,_,rfl⟩
    rw [getD_eq l j hlt,hxy] at c1 c2
    dsimp only at c1 c2
    have hD:=idxF_drop (badB p) l j hlt
    have hrg:=HR.out _ (List.getElem_mem hlt)
    rw [hxy] at hD hrg
    obtain ⟨_,_,hy0,hy1⟩:=hrg
    have HD:=Jh hD
    have HX:=Jh hxy
    have HC:=Jh hc
    have hcp:=(hbw.cell (p:=⟨Bp,0,none⟩) hB).trans HBp.out
    have hsw:=hbw.size
    clear hxy hc hD
    dsimp only at hy0 hy1
    cases hb : badB p (x,y)
    ·have HB:=Jh hb
     clear hb
     go_wp2_with fail
     refine (check1_any x y p Bp wr hp0 hp8 hy0 hy1 hcp (by omega)).mono ?_
     rintro e w1 ⟨rfl,hb1⟩
     rw [HB.out]
     clear c1 c2 hcp
     go_wp2_with fail
     go_roundw
     case rel => exact ⟨j + 1,by omega,by go_num,by rw [hI.out,HD.out,HB.out]; rfl,hbw.trans (hb1.mono hsw)⟩
     case measure => simp [intOf]; omega
    ·have HB:=Jh hb
     clear hb
     go_wp2_with fail
     refine (check1_any x y p Bp wr hp0 hp8 hy0 hy1 hcp (by omega)).mono ?_
     rintro e w1 ⟨rfl,hb1⟩
     rw [HB.out]
     clear c1 c2 hcp
     go_wp2_with fail
     go_ret
     exact ⟨z4x (by rw [hI.out,HD.out,HB.out]; rfl),hbw.trans (hb1.mono hsw)⟩
  ·have hE : Hid (idxF (badB p) (l.drop j) (j : Int) = -1):=by rw [show j = l.length by omega,List.drop_length]; rfl
   clear h
   go_wp2_with fail
   go_ret
   exact ⟨z4x (by rw [hI.out,hE.out]),hbw⟩
theorem z5f (v : Value) (l : List (Int × Int)) (p : Int) (Bp : Nat) (w : World) (hs : Segs w w.heap.size v l) (hp0 : 0 ≤ p) (hp8 : p ≤ 8) (hc : w.cell? ⟨Bp,0,none⟩ = some (.int .i64 p)) (hB : Bp < w.heap.size) :
 Calls Tryz.prog 97 #[v,.func (.func 98) #[] #[.pointer (some ⟨Bp,0,none⟩)]] w fun e w' => e = .returned (.bool (l.any (badB p))) ∧ Below w.heap.size w w':=by
 have H:=Jh (indexFunc_any v l p Bp w hs hp0 hp8 hc hB)
 have HA:=Jh (idxF_any (badB p) l 0 (by omega))
 clear hs hc
 go_enter Tryz.func97,Tryz.ntmps97
 go_wp2_with fail
 refine H.out.mono ?_
 rintro e w1 ⟨rfl,hb1⟩
 go_wp2_with fail
 go_ret
 exact ⟨by rw [← HA.out]; rfl,hb1⟩
open Go.RowKit Go.Shelf
attribute [local go_sem] Oper.semAt_some
theorem z6m (F : Fence) (n : Nat) (h40 : F.fn 150) (hro : F.round = none) (l Bs : Nat) (a : Option Addr) (cap : Nat) (J : List (Int × Int × Int) → World → Prop) (W : World) (hBs : W.cell? ⟨Bs,0,none⟩ = some (.slice a 0 cap)) (h0 : J [] W) :
 CallsIn F n Tryz.prog 150 #[.func (.yield l) #[] #[],.pointer (some ⟨Bs,0,none⟩)] W fun e W' => (∃ v,e = .returned v) ∧ J [] W':=by
 refine callsIn_of_wp Tryz.func150 rfl h40 ?_ hro
 simp only [Tryz.ntmps150,List.size_toArray,List.length_cons,List.length_nil,Nat.reduceAdd,Nat.reduceSub,Array.replicate_succ,Array.replicate_zero,List.push_toArray,List.append_toArray,List.nil_append,List.cons_append]
 gi_wp2
 gi_loopw [3,8] (fun t i wr => t = .int .i64 0 ∧ i = .int .i64 0 ∧ J [] wr) (fun _ _ _ => 0)
 case atStart => exact ⟨rfl,rfl,h0⟩
 case round =>
  obtain ⟨rfl,rfl,hJs⟩:=hrel
  gi_wp2
  go_end0
  exact ⟨⟨_,rfl⟩,hJs⟩
theorem zaw (F : Fence) (n : Nat) (h34 : F.fn 82) (hro : F.round = none) (a : Option Addr) (len cap : Nat) (w : World) :
 CallsIn F n Tryz.prog 82 #[.slice a len cap] w fun e w' => e = .returned (.func (.func 150) #[] #[.pointer (some ⟨w.heap.size,0,none⟩)]) ∧ w' = w.alloc (.cells #[.slice a len cap] 48):=by
 refine callsIn_of_wp Tryz.func82 rfl h34 ?_ hro
 simp only [Tryz.ntmps82,List.size_toArray,List.length_cons,List.length_nil,Nat.reduceAdd,Nat.reduceSub,Array.replicate_succ,Array.replicate_zero,List.push_toArray,List.append_toArray,List.nil_append,List.cons_append]
 gi_wp2
 go_ret
 exact ⟨rfl,rfl⟩
theorem z9l (F : Fence) (n : Nat) (h40 : F.fn 150) (hro : F.round = none) (hn : 1 ≤ n) (Bs n₀ D : Nat) (sv : Value) (zs : List (Int × Int)) (w : World) (hBs : Bs < w.heap.size) (hn₀ : n₀ ≤ w.heap.size) (hD : D ≤ w.heap.size)
 (hc : w.cell? ⟨Bs,0,none⟩ = some sv) (hI : Segs w n₀ sv zs) :
 SeqStopsK F n Tryz.prog 150 #[.pointer (some ⟨Bs,0,none⟩)] z4j (KpD n₀ D) (fun ys => ys = z1a zs zs.length)
  (fun pre => ∃ k,k ≤ zs.length ∧ pre = z1a zs k) zs.length w:=fun l J Jx W hW hJ _ hY h0 => by
 have hc':=(hW.cell (p:=⟨Bs,0,none⟩) hBs).trans hc
 obtain ⟨a,cap,rfl,hm,h,_⟩:=hI.below (hW.mono hn₀)
 rcases h with rfl | ⟨b,off,rfl,hb,hcs⟩
 ·exact (z6m F n h40 hro l Bs a cap J W hc' h0).mono fun e W' ⟨he,hj⟩ => ⟨he,.inl ⟨_,rfl,hj⟩⟩
 ·exact begins1_in F n h40 hro hn l Bs n₀ D b off cap zs hm hb J Jx W (Nat.le_trans hD hW.size) (Nat.le_trans hn₀ hW.size) hJ hY hc' hcs h0
theorem z29 {fn : Func} {q : Tmp} {ty : TypeId} (h : fn.results = #[.cell q ty]) {tmps : Array Value} {P : Program} {w : World} {a : Addr} {v : Value} (hp : tmps.getD q undef = .pointer (some a)) (hagg : (isAgg ty).run P w = .ok false w)
 (hc : w.cell? a = some v) : (results fn tmps).run P w = .ok v w:=by
 have hp' : tmps[q]?.getD undef = .pointer (some a):=by simpa using hp
 simp only [results,h]
 simp [Sem.run_bind,Result.andThen,hp',asAddr,loadVar,hagg,hc,go_sem]
theorem z27 {W : World} {B D : Nat} {t : TypeId} {v : Value} {o : Obj} (h : Boxed W B t v) (hD : W.heap[D]? = some o) (ho : o.isCells = false) (o' : Obj) : Boxed (W.putObj D o') B t v :=
 h.kept (grownBy_putObj' W D o') (fun e => by
  cases e
  have hB : W.heap[B]? = some (.cells #[v] t (0,0)):=h
  rw [hB] at hD; cases hD; cases ho)
def Seg1 (W : World) (B : Nat) (x y : Int) : Prop:=W.heap[B]? = some (.cells #[.int .i64 x,.int .u8 y] 29)
theorem Seg1.c0 {W : World} {B : Nat} {x y : Int} (h : Seg1 W B x y) : W.cell? ⟨B,0,none⟩ = some (.int .i64 x):=by simp [World.cell?,show W.heap[B]? = _ from h]
theorem Seg1.c1 {W : World} {B : Nat} {x y : Int} (h : Seg1 W B x y) : W.cell? ⟨B,1,none⟩ = some (.int .u8 y):=by simp [World.cell?,show W.heap[B]? = _ from h]
theorem Seg1.own {B : Nat} {x y : Int} (B' : Nat) : OwnFrom B' (fun (_ : Unit) W => Seg1 W B x y):=fun _ X Y row hs hg hr => by
 have hX : X.heap[B]? = _:=hs
 refine (hg.block B (Array.getElem?_eq_some_iff.1 hX).1 (fun e => ?_)).trans hX
 obtain ⟨_,o,ho,hc⟩:=hr B e.symm
 rw [hX] at ho; cases ho; cases hc
theorem kpD_alloc {n₀ D : Nat} (W : World) (o : Obj) (hn : n₀ ≤ W.heap.size) : KpD n₀ D W (W.alloc o) :=
 ⟨(Below.refl n₀ W).alloc hn o,fun k _ _ h2 _ => (Jb W o k (Array.getElem?_eq_some_iff.1 h2).1).trans h2⟩
theorem kpD_setCell {n₀ D : Nat} (W : World) (a : Addr) (u : Value) (hn : n₀ ≤ a.block) (hD : a.block < D) : KpD n₀ D W (W.setCell a u) :=
 ⟨(Below.refl n₀ W).setCell hn u,fun k _ hk h2 _ => (Below.heap_setCell W a u k (by omega)).trans h2⟩
theorem kpD_refl {n₀ D : Nat} (W : World) : KpD n₀ D W W:=⟨Below.refl _ _,fun _ _ _ h _ => h⟩
theorem itemsTo_any {l : List (Int × Int)} {f : Int × Int × Int → Bool} {k : Nat} (hk : k ≤ l.length) (h : (z1a l k).any f = true) : (z1a l l.length).any f = true:=by
 rw [List.any_eq_true] at h ⊢
 obtain ⟨x,hx,hf⟩:=h
 refine ⟨x,?_,hf⟩
 simp only [z1a,List.mem_map,List.mem_range] at hx ⊢
 obtain ⟨j,hj,e⟩:=hx
 exact ⟨j,by omega,e⟩
theorem z5k {β : Type} (B m : Nat) : OwnFrom B (fun (_ : β) W => m ≤ W.heap.size):=fun _ _ _ _ hs hg _ => Nat.le_trans hs hg.size
def farI (x : Int × Int × Int) : Bool:=decide (wrap64 (288230376151711744 - x.1) ≤ x.2.1)
def farE (l : List (Int × Int)) : Int:=if (z1a l l.length).any farI then 220 else 0
def z0k (p : Int) (l : List (Int × Int)) : Int :=
 if p < 0 ∨ 8 < p then 2 else if 1024 < l.length then 4 else if l.any (badB p) then 8 else farE l
theorem check_far_in (F : Fence) (n : Nat) (h25 : F.fn 51) (h34 : F.fn 82) (h38 : F.fn 97) (h40 : F.fn 150) (hw : F = Fence.wide) (hro : F.round = none) (hn : 3 ≤ n) (p : Int) (v : Value) (l : List (Int × Int)) (w : World) (hs : Segs w w.heap.size v l)
 (hp0 : 0 ≤ p) (hp8 : p ≤ 8) (hlen : l.length ≤ 1024) (hany : l.any (badB p) = false) :
 CallsIn F n Tryz.prog 51 #[.int .i64 p,v] w fun e W' => e = .returned (.int .i64 (farE l)) ∧ Below w.heap.size w W':=by
 subst hw
 have h1 : 1 ≤ n:=by omega
 obtain ⟨W0,hW0⟩ : ∃ W0 : World,(w.alloc (.cells #[.int .i64 p] 3)).alloc (.cells #[.int .i64 0] 33) = W0:=⟨_,rfl⟩
 have b0 : Below w.heap.size w W0:=by rw [← hW0]; exact ((Below.refl _ _).alloc (Nat.le_refl _) _).alloc (by simp) _
 have hS0 : Hid (Segs W0 W0.heap.size v l):=(hs.below b0).mono b0.size
 obtain ⟨a,cap,rfl,hm,h,hr⟩:=hs
 have HL:=Jh hlen
 have HA:=Jh hany
 have HH:=Jh h
 have HR:=Jh hr
 clear hany h hr
 have d1 : decide (p < 0) = false:=by simp; omega
 have d2 : decide (8 < p) = false:=by simp; omega
 have d3 : decide (1024 < (l.length : Int)) = false:=by simp; omega
 have hbe : Boxed W0 (w.heap.size + 1) 33 (.int .i64 0):=by rw [← hW0]; have:=Boxed.new (w.alloc (.cells #[.int .i64 p] 3)) 33 (.int .i64 0); rwa [World.size_alloc] at this
 have hz0 : W0.heap.size = w.heap.size + 2:=by rw [← hW0]; simp
 have HBE:=Jh hbe
 clear hbe
 have hcp : W0.cell? ⟨w.heap.size,0,none⟩ = some (.int .i64 p):=by rw [← hW0]; simp [World.cell?_alloc_past,World.cell?_alloc_at]
 refine callsIn_of_wp_marks Tryz.func51 rfl h25 ?_ hro
 simp only [Tryz.ntmps51,List.size_toArray,List.length_cons,List.length_nil,Nat.reduceAdd,Nat.reduceSub,Array.replicate_succ,Array.replicate_zero,List.push_toArray,List.append_toArray,List.nil_append,List.cons_append]
 gi_wp2_with fail
 refine (callsIn_wide.2 (z5f _ l p w.heap.size W0 hS0.out hp0 hp8 hcp (by rw [← hW0]; simp; omega))).mono ?_
 rintro e w1 ⟨rfl,hb1⟩
 rw [HA.out]
 clear hW0 hcp
 gi_wp2_with fail
 refine (zaw Fence.wide (n - 1) h34 hro _ _ _ _).mono ?_
 rintro e w2 ⟨rfl,rfl⟩
 gi_wp2_with fail
 have hbe1 : Boxed w1 (w.heap.size + 1) 33 (.int .i64 0):=(hb1.block _ (by omega)).trans HBE.out
 obtain ⟨X,hX⟩ : ∃ X : World,w1.alloc (.cells #[.slice a l.length cap] 48) = X:=⟨_,rfl⟩
 have hz1 : W0.heap.size ≤ w1.heap.size:=hb1.size
 have zX : X.heap.size = w1.heap.size + 1:=by rw [← hX]; simp
 have bX : Below w.heap.size w X:=by rw [← hX]; exact (b0.trans (hb1.mono (by omega))).alloc (by omega) _
 have beX : Boxed X (w.heap.size + 1) 33 (.int .i64 0):=by rw [← hX]; exact hbe1.alloc _
 have bsX : X.cell? ⟨w1.heap.size,0,none⟩ = some (.slice a l.length cap):=by rw [← hX]; simp [World.cell?_alloc_at]
 have SX : Segs X w.heap.size (.slice a l.length cap) l:=⟨a,cap,rfl,hm,by
  rcases HH.out with h | ⟨b,off,ha,hlt,hc⟩
  ·exact .inl h
  ·exact .inr ⟨b,off,ha,hlt,hc.below bX hlt⟩,HR.out⟩
 rw [hX]
 have HX:=Jh hX
 clear hX
 refine wpIn_rangeFunc_ownH hro h1 (gf:=150) (lb:=#[.pointer (some ⟨w1.heap.size,0,none⟩)]) rfl h40 (enters_of Tryz.func150 (by kernel_rfl) rfl)
  (z9l Fence.wide (n - 1) h40 hro (by omega) w1.heap.size w.heap.size X.heap.size _ l X (by omega) (by omega) (Nat.le_refl _) bsX SX)
  kpD_t (kpD_b (by omega)) (Below.refl _ _) (fun _ => rfl)
  (fun pre W => Boxed W (w.heap.size + 1) 33 (.int .i64 0) ∧ pre.any farI = false ∧ Below w.heap.size w W ∧ X.heap.size ≤ W.heap.size)
  (fun c pre W => c = .ret ∧ Boxed W (w.heap.size + 1) 33 (.int .i64 220) ∧ pre.any farI = true ∧ Below w.heap.size w W)
  (OwnFrom.and (Own.from (boxed_own _ _ _) _) (OwnFrom.and (ownFrom_pure _ _) (OwnFrom.and (ownFrom_below (Nat.le_refl _) (by omega)) (z5k _ _))))
  (fun c => OwnFrom.and (ownFrom_pure _ _) (OwnFrom.and (Own.from (boxed_own _ _ _) _) (OwnFrom.and (ownFrom_pure _ _) (ownFrom_below (Nat.le_refl _) (by omega)))))
  ⟨beX,rfl,bX,Nat.le_refl _⟩
  (fun x a' W => ∃ Bx,X.heap.size ≤ Bx ∧ Seg1 W Bx x.2.1 x.2.2 ∧ a' = { tmps:=#[Value.int .i64 p,Value.slice a l.length cap,Value.pointer (some ⟨w.heap.size,0,none⟩),undef,Value.pointer (some ⟨w.heap.size + 1,0,none⟩),Value.int .i64 x.1,Value.pointer (some ⟨Bx,0,none⟩),Value.bool false,Value.int .i64 p,Value.bool false,Value.bool false,Value.int .i64 p,Value.bool false,Value.bool false,Value.bool false,Value.slice a l.length cap,Value.int .i64 ↑l.length,Value.bool false,Value.bool false,Value.slice a l.length cap,Value.func (Fn.func 98) #[] #[Value.pointer (some ⟨w.heap.size,0,none⟩)],Value.bool false,Value.slice a l.length cap,Value.func (Fn.func 150) #[] #[Value.pointer (some ⟨w1.heap.size,0,none⟩)],Value.int .i64 x.1,Value.agg #[Value.int .i64 x.2.1,Value.int .u8 x.2.2],undef,undef,undef,undef,undef],defers:=[] })
  ?hAx ?assign ?body ?done ?stop
 case hAx =>
  intro x a' _ A B row ⟨Bx,hBx,hs,ha⟩ hg hr
  exact ⟨Bx,hBx,Seg1.own X.heap.size () A B row hs hg hr,ha⟩
 case assign =>
  rintro l' pre x W K ⟨hi1,hi2,hi3,hi4⟩ hK
  simp only [z4j]
  gi_wp2
  have hzW:=hi3.size
  refine hK _ _ ((KeepsOthers.alloc _ _).from _) (kpD_alloc W _ hzW) ⟨hi1.alloc _,hi2,hi3.alloc hzW _,by simp; omega⟩ ⟨W.heap.size,hi4,World.alloc_heap_new W _,rfl⟩
 case body =>
  rintro l' pre x a' W hl ⟨r,hr⟩ ⟨hbx,hpre,hB,hX4⟩ ⟨Bx,hBx,bx,rfl⟩ hlt
  have g0:=bx.c0
  have e1:=hbx.cell
  have e2:=hbx.frozen
  cases hf : farI x
  ·have HF : Hid (farI x = false):=hf
   have hlt : decide (wrap64 (288230376151711744 - x.1) ≤ x.2.1) = false:=hf
   clear hf
   gi_wp2
   exact ⟨KeepsFrom.refl _ _,kpD_refl _,hbx,by rw [List.any_append,hpre]; simp [HF.out],hB,hX4⟩
  ·have HF : Hid (farI x = true):=hf
   have hlt : decide (wrap64 (288230376151711744 - x.1) ≤ x.2.1) = true:=hf
   clear hf
   gi_wp2
   exact ⟨(KeepsOthers.setCell _ _ _).from _,rfl,hbx.set _,by rw [List.any_append]; simp [HF.out],hB.setCell (p:=⟨w.heap.size + 1,0,none⟩) (by simp) _⟩
 case done =>
  rintro D' xs W hD' rfl ⟨hbx,hpre,hB,_⟩ hK
  have e1:=hbx.cell
  have e2:=hbx.frozen
  gi_wp2
  have hK2:=(KeepsOthers.setCell W ⟨w.heap.size + 1,0,none⟩ (.int .i64 0)).same D' _ hK rfl
  refine ⟨by simp,.inl ⟨_,_,rfl,run_takeDeferred hK2,?_⟩⟩
  refine ⟨_,z29 rfl rfl (Tryz.isAgg33 _) (z27 (hbx.set (.int .i64 0)) hK2 rfl _).cell,?_,?_⟩
  ·have : Hid (farE l = 0):=by unfold farE; rw [hpre]; rfl
   rw [this.out]
  ·exact (hB.setCell (p:=⟨w.heap.size + 1,0,none⟩) (by simp) _).trans (belowK_b (w:=w) (Nat.le_refl _) _ D' _ _ (by omega) hK2 rfl rfl)
 case stop =>
  rintro D' c pre W hD' ⟨k,hk,rfl⟩ ⟨rfl,hbx,hpre,hB⟩ hK
  have e1:=hbx.cell
  have e2:=hbx.frozen
  gi_wp2
  refine ⟨by simp,.inl ⟨_,_,rfl,run_takeDeferred hK,?_⟩⟩
  refine ⟨_,z29 rfl rfl (Tryz.isAgg33 _) (z27 hbx hK rfl _).cell,?_,?_⟩
  ·have : Hid (farE l = 220):=by unfold farE; rw [itemsTo_any hk hpre]; rfl
   rw [this.out]
  ·exact hB.trans (belowK_b (w:=w) (Nat.le_refl _) _ D' _ _ (by omega) hK rfl rfl)
theorem z95 {p : Int} {l : List (Int × Int)} (h : p < 0 ∨ 8 < p) : z0k p l = 2:=by rw [z0k,if_pos h]
theorem checkP_many {p : Int} {l : List (Int × Int)} (h : ¬(p < 0 ∨ 8 < p)) (h2 : 1024 < l.length) : z0k p l = 4:=by rw [z0k,if_neg h,if_pos h2]
theorem checkP_bad {p : Int} {l : List (Int × Int)} (h : ¬(p < 0 ∨ 8 < p)) (h2 : ¬1024 < l.length) (h3 : l.any (badB p) = true) : z0k p l = 8:=by rw [z0k,if_neg h,if_neg h2,if_pos h3]
theorem checkP_far {p : Int} {l : List (Int × Int)} (h : ¬(p < 0 ∨ 8 < p)) (h2 : ¬1024 < l.length) (h3 : l.any (badB p) = false) : z0k p l = farE l:=by rw [z0k,if_neg h,if_neg h2,h3]; rfl
theorem zav (w : World) (o o' : Obj) : Below w.heap.size w ((w.alloc o).alloc o'):=((Below.refl _ _).alloc (Nat.le_refl _) o).alloc (by simp) o'
theorem z82 (p : Int) (v : Value) (l : List (Int × Int)) (w : World) (hs : Segs w w.heap.size v l) :
 Calls Tryz.prog 51 #[.int .i64 p,v] w fun e W' => e = .returned (.int .i64 (z0k p l)) ∧ Below w.heap.size w W':=by
 by_cases hp : p < 0 ∨ 8 < p
 ·have HE:=Jh (z95 (l:=l) hp)
  rw [HE.out]
  obtain ⟨a,cap,rfl,hm,h,hr⟩:=hs
  clear h hr
  by_cases hp0 : p < 0
  ·have d1 : decide (p < 0) = true:=by simpa using hp0
   clear hp
   go_enter Tryz.func51,Tryz.ntmps51
   go_wp2_with fail
   exact bodyPost_ret (v:=.int .i64 2) (z29 rfl rfl (Tryz.isAgg33 _) (by simp [World.cell?_alloc_at])) rfl ⟨rfl,zav _ _ _⟩
  ·have d1 : decide (p < 0) = false:=by simpa using hp0
   have d2 : decide (8 < p) = true:=by simp; omega
   clear hp
   go_enter Tryz.func51,Tryz.ntmps51
   go_wp2_with fail
   exact bodyPost_ret (v:=.int .i64 2) (z29 rfl rfl (Tryz.isAgg33 _) (by simp [World.cell?_alloc_at])) rfl ⟨rfl,zav _ _ _⟩
 ·have d1 : decide (p < 0) = false:=by simp; omega
  have d2 : decide (8 < p) = false:=by simp; omega
  by_cases hlen : 1024 < l.length
  ·have HE:=Jh (checkP_many hp hlen)
   rw [HE.out]
   obtain ⟨a,cap,rfl,hm,h,hr⟩:=hs
   clear h hr hp
   have d3 : decide (1024 < (l.length : Int)) = true:=by simp; omega
   go_enter Tryz.func51,Tryz.ntmps51
   go_wp2_with fail
   exact bodyPost_ret (v:=.int .i64 4) (z29 rfl rfl (Tryz.isAgg33 _) (by simp [World.cell?_alloc_at])) rfl ⟨rfl,zav _ _ _⟩
  ·cases hany : l.any (badB p)
   ·refine (callsIn_wide (n:=3)).1 ((check_far_in Fence.wide 3 trivial trivial trivial trivial rfl rfl (by omega) p v l w hs (by omega) (by omega) (by omega) hany).mono ?_)
    rintro e W' ⟨he,hb⟩
    exact ⟨by rw [he,checkP_far hp hlen hany],hb⟩
   ·have HE:=Jh (checkP_bad hp hlen hany)
    rw [HE.out]
    obtain ⟨W0,hW0⟩ : ∃ W0 : World,(w.alloc (.cells #[.int .i64 p] 3)).alloc (.cells #[.int .i64 0] 33) = W0:=⟨_,rfl⟩
    have b0 : Below w.heap.size w W0:=by rw [← hW0]; exact zav _ _ _
    have hS0 : Hid (Segs W0 W0.heap.size v l):=(hs.below b0).mono b0.size
    obtain ⟨a,cap,rfl,hm,h,hr⟩:=hs
    have d3 : decide (1024 < (l.length : Int)) = false:=by simp; omega
    have HA:=Jh hany
    have hcp : W0.cell? ⟨w.heap.size,0,none⟩ = some (.int .i64 p):=by rw [← hW0]; simp [World.cell?_alloc_past,World.cell?_alloc_at]
    have hbe : Boxed W0 (w.heap.size + 1) 33 (.int .i64 0):=by rw [← hW0]; have:=Boxed.new (w.alloc (.cells #[.int .i64 p] 3)) 33 (.int .i64 0); rwa [World.size_alloc] at this
    have hz0 : W0.heap.size = w.heap.size + 2:=by rw [← hW0]; simp
    have HBE:=Jh hbe
    have hp0 : 0 ≤ p:=by omega
    have hp8 : p ≤ 8:=by omega
    clear h hr hp hany hlen hbe
    go_enter Tryz.func51,Tryz.ntmps51
    go_wp2_with fail
    refine (z5f _ l p w.heap.size W0 hS0.out hp0 hp8 hcp (by omega)).mono ?_
    rintro e w1 ⟨rfl,hb1⟩
    rw [HA.out]
    have hbe1 : Boxed w1 (w.heap.size + 1) 33 (.int .i64 0):=(hb1.block _ (by omega)).trans HBE.out
    have e1:=hbe1.cell
    have e2:=hbe1.frozen
    clear hW0 hcp
    go_wp2_with fail
    exact bodyPost_ret (v:=.int .i64 8) (z29 rfl rfl (Tryz.isAgg33 _) (hbe1.set (.int .i64 8)).cell) rfl ⟨rfl,(b0.trans (hb1.mono (by omega))).setCell (p:=⟨w.heap.size + 1,0,none⟩) (by simp) _⟩
end Go.Proofs.YtockinpjfhhkoaaGreatDoor
