/- signal.begins and signal.Check. -/
import Derived.Test.YtockinpjfhhkoaaGreatDoorZ06
import Derived.Deep.QuietTactic
import Derived.BigQuiet
import Derived.StillTailTactics
import Derived.Deep.RegionHeld3
import Derived.Deep.DrawnRows
import Derived.Maps.AppendAt
import Derived.WalkSmall
set_option maxRecDepth 100000
set_option maxHeartbeats 16000000
open Go.Lib renaming hid → Jh
open Go.RowKit.Below renaming heap_alloc → Jb
namespace Go.Proofs.YtockinpjfhhkoaaGreatDoor
open Go.RowKit Go.Shelf
attribute [local go_sem] Oper.semAt_some
theorem begins1_nil_in (F : Fence) (n : Nat) (h40 : F.fn 150) (hro : F.round = none) (l Bs : Nat) (a : Option Addr) (cap : Nat) (J : List (Int × Int × Int) → World → Prop) (W : World) (hBs : W.cell? ⟨Bs,0,none⟩ = some (.slice a 0 cap)) (h0 : J [] W) :
 CallsIn F n Tryz.prog 150 #[.func (.yield l) #[] #[],.pointer (some ⟨Bs,0,none⟩)] W fun e W' => (∃ v,e = .returned v) ∧ J [] W':=by
 refine callsIn_of_wp Tryz.func150 rfl h40 ?_ hro
 simp only [Tryz.ntmps150,List.size_toArray,List.length_cons,List.length_nil,Nat.reduceAdd,Nat.reduceSub,Array.replicate_succ,Array.replicate_zero,List.push_toArray,List.append_toArray,List.nil_append,List.cons_append]
 gi_wp2
 gi_loopw [3,8] (fun t i wr => t = .int .i64 0 ∧ i = .int .i64 0 ∧ J [] wr) (fun _ _ _ => 0)
 case atStart => exact ⟨rfl,rfl,h0⟩
 case round =>
  obtain ⟨rfl,rfl,hJs⟩:=hrel
  gi_wp2
  go_end0
  exact ⟨⟨_,rfl⟩,hJs⟩
theorem begins_in (F : Fence) (n : Nat) (h34 : F.fn 82) (hro : F.round = none) (a : Option Addr) (len cap : Nat) (w : World) :
 CallsIn F n Tryz.prog 82 #[.slice a len cap] w fun e w' => e = .returned (.func (.func 150) #[] #[.pointer (some ⟨w.heap.size,0,none⟩)]) ∧ w' = w.alloc (.cells #[.slice a len cap] 48):=by
 refine callsIn_of_wp Tryz.func82 rfl h34 ?_ hro
 simp only [Tryz.ntmps82,List.size_toArray,List.length_cons,List.length_nil,Nat.reduceAdd,Nat.reduceSub,Array.replicate_succ,Array.replicate_zero,List.push_toArray,List.append_toArray,List.nil_append,List.cons_append]
 gi_wp2
 go_ret
 exact ⟨rfl,rfl⟩
theorem begins_stops (F : Fence) (n : Nat) (h40 : F.fn 150) (hro : F.round = none) (hn : 1 ≤ n) (Bs n₀ D : Nat) (sv : Value) (zs : List (Int × Int)) (w : World) (hBs : Bs < w.heap.size) (hn₀ : n₀ ≤ w.heap.size) (hD : D ≤ w.heap.size)
 (hc : w.cell? ⟨Bs,0,none⟩ = some sv) (hI : Segs w n₀ sv zs) :
 SeqStopsK F n Tryz.prog 150 #[.pointer (some ⟨Bs,0,none⟩)] encItem (KpD n₀ D) (fun ys => ys = z17 zs zs.length)
  (fun pre => ∃ k,k ≤ zs.length ∧ pre = z17 zs k) zs.length w:=fun l J Jx W hW hJ _ hY h0 => by
 have hc':=(hW.cell (p:=⟨Bs,0,none⟩) hBs).trans hc
 obtain ⟨a,cap,rfl,hm,h,_⟩:=hI.below (hW.mono hn₀)
 rcases h with rfl | ⟨b,off,rfl,hb,hcs⟩
 ·exact (begins1_nil_in F n h40 hro l Bs a cap J W hc' h0).mono fun e W' ⟨he,hj⟩ => ⟨he,.inl ⟨_,rfl,hj⟩⟩
 ·exact begins1_in F n h40 hro hn l Bs n₀ D b off cap zs hm hb J Jx W (Nat.le_trans hD hW.size) (Nat.le_trans hn₀ hW.size) hJ hY hc' hcs h0
theorem z19 {fn : Func} {q : Tmp} {ty : TypeId} (h : fn.results = #[.cell q ty]) {tmps : Array Value} {P : Program} {w : World} {a : Addr} {v : Value} (hp : tmps.getD q undef = .pointer (some a)) (hagg : (isAgg ty).run P w = .ok false w)
 (hc : w.cell? a = some v) : (results fn tmps).run P w = .ok v w:=by
 have hp' : tmps[q]?.getD undef = .pointer (some a):=by simpa using hp
 simp only [results,h]
 simp [Sem.run_bind,Result.andThen,hp',asAddr,loadVar,hagg,hc,go_sem]
theorem z5s {W : World} {B D : Nat} {t : TypeId} {v : Value} {o : Obj} (h : Boxed W B t v) (hD : W.heap[D]? = some o) (ho : o.isCells = false) (o' : Obj) : Boxed (W.putObj D o') B t v :=
 h.kept (grownBy_putObj' W D o') (fun e => by
  cases e
  have hB : W.heap[B]? = some (.cells #[v] t (0,0)):=h
  rw [hB] at hD; cases hD; cases ho)
def Seg1 (W : World) (B : Nat) (x y : Int) : Prop:=W.heap[B]? = some (.cells #[.int .i64 x,.int .u8 y] 29)
theorem Seg1.c0 {W : World} {B : Nat} {x y : Int} (h : Seg1 W B x y) : W.cell? ⟨B,0,none⟩ = some (.int .i64 x):=by simp [World.cell?,show W.heap[B]? = _ from h]
theorem Seg1.own {B : Nat} {x y : Int} (B' : Nat) : OwnFrom B' (fun (_ : Unit) W => Seg1 W B x y):=fun _ X Y row hs hg hr => by
 have hX : X.heap[B]? = _:=hs
 refine (hg.block B (Array.getElem?_eq_some_iff.1 hX).1 (fun e => ?_)).trans hX
 obtain ⟨_,o,ho,hc⟩:=hr B e.symm
 rw [hX] at ho; cases ho; cases hc
theorem kpD_alloc {n₀ D : Nat} (W : World) (o : Obj) (hn : n₀ ≤ W.heap.size) : KpD n₀ D W (W.alloc o) :=
 ⟨(Below.refl n₀ W).alloc hn o,fun k _ _ h2 _ => (Jb W o k (Array.getElem?_eq_some_iff.1 h2).1).trans h2⟩
theorem kpD_refl {n₀ D : Nat} (W : World) : KpD n₀ D W W:=⟨Below.refl _ _,fun _ _ _ h _ => h⟩
theorem itemsTo_any {l : List (Int × Int)} {f : Int × Int × Int → Bool} {k : Nat} (hk : k ≤ l.length) (h : (z17 l k).any f = true) : (z17 l l.length).any f = true:=by
 rw [List.any_eq_true] at h ⊢
 obtain ⟨x,hx,hf⟩:=h
 refine ⟨x,?_,hf⟩
 simp only [z17,List.mem_map,List.mem_range] at hx ⊢
 obtain ⟨j,hj,e⟩:=hx
 exact ⟨j,by omega,e⟩
theorem ownFrom_size {β : Type} (B m : Nat) : OwnFrom B (fun (_ : β) W => m ≤ W.heap.size):=fun _ _ _ _ hs hg _ => Nat.le_trans hs hg.size
def farI (x : Int × Int × Int) : Bool:=decide (wrap64 (288230376151711744 - x.1) ≤ x.2.1)
def farE (l : List (Int × Int)) : Int:=if (z17 l l.length).any farI then 220 else 0
def z0p (p : Int) (l : List (Int × Int)) : Int :=
 if p < 0 ∨ 8 < p then 2 else if 1024 < l.length then 4 else if l.any (badB p) then 8 else farE l
theorem check_far_in (F : Fence) (n : Nat) (h25 : F.fn 51) (h34 : F.fn 82) (h38 : F.fn 97) (h40 : F.fn 150) (hw : F = Fence.wide) (hro : F.round = none) (hn : 3 ≤ n) (p : Int) (v : Value) (l : List (Int × Int)) (w : World) (hs : Segs w w.heap.size v l)
 (hp0 : 0 ≤ p) (hp8 : p ≤ 8) (hlen : l.length ≤ 1024) (hany : l.any (badB p) = false) :
 CallsIn F n Tryz.prog 51 #[.int .i64 p,v] w fun e W' => e = .returned (.int .i64 (farE l)) ∧ Below w.heap.size w W':=by
 subst hw
 have h1 : 1 ≤ n:=by omega
 obtain ⟨W0,hW0⟩ : ∃ W0 : World,(w.alloc (.cells #[.int .i64 p] 3)).alloc (.cells #[.int .i64 0] 33) = W0:=⟨_,rfl⟩
 have b0 : Below w.heap.size w W0:=by rw [← hW0]; exact ((Below.refl _ _).alloc (Nat.le_refl _) _).alloc (by simp) _
 have hS0 : Hid (Segs W0 W0.heap.size v l):=(hs.below b0).mono b0.size
 obtain ⟨a,cap,rfl,hm,h,hr⟩:=hs
 have HL:=Jh hlen
 have HA:=Jh hany
 have HH:=Jh h
 have HR:=Jh hr
 clear hany h hr
 have d1 : decide (p < 0) = false:=by simp; omega
 have d2 : decide (8 < p) = false:=by simp; omega
 have d3 : decide (1024 < (l.length : Int)) = false:=by simp; omega
 have hbe : Boxed W0 (w.heap.size + 1) 33 (.int .i64 0):=by rw [← hW0]; have:=Boxed.new (w.alloc (.cells #[.int .i64 p] 3)) 33 (.int .i64 0); rwa [World.size_alloc] at this
 have hz0 : W0.heap.size = w.heap.size + 2:=by rw [← hW0]; simp
 have HBE:=Jh hbe
 clear hbe
 have hcp : W0.cell? ⟨w.heap.size,0,none⟩ = some (.int .i64 p):=by rw [← hW0]; simp [World.cell?_alloc_past,World.cell?_alloc_at]
 refine callsIn_of_wp_marks Tryz.func51 rfl h25 ?_ hro
 simp only [Tryz.ntmps51,List.size_toArray,List.length_cons,List.length_nil,Nat.reduceAdd,Nat.reduceSub,Array.replicate_succ,Array.replicate_zero,List.push_toArray,List.append_toArray,List.nil_append,List.cons_append]
 gi_wp2_with fail
 refine (callsIn_wide.2 (z31 _ l p w.heap.size W0 hS0.out hp0 hp8 hcp (by rw [← hW0]; simp; omega))).mono ?_
 rintro e w1 ⟨rfl,hb1⟩
 rw [HA.out]
 clear hW0 hcp
 gi_wp2_with fail
 refine (begins_in Fence.wide (n - 1) h34 hro _ _ _ _).mono ?_
 rintro e w2 ⟨rfl,rfl⟩
 gi_wp2_with fail
 have hbe1 : Boxed w1 (w.heap.size + 1) 33 (.int .i64 0):=(hb1.block _ (by omega)).trans HBE.out
 obtain ⟨X,hX⟩ : ∃ X : World,w1.alloc (.cells #[.slice a l.length cap] 48) = X:=⟨_,rfl⟩
 have hz1 : W0.heap.size ≤ w1.heap.size:=hb1.size
 have zX : X.heap.size = w1.heap.size + 1:=by rw [← hX]; simp
 have bX : Below w.heap.size w X:=by rw [← hX]; exact (b0.trans (hb1.mono (by omega))).alloc (by omega) _
 have beX : Boxed X (w.heap.size + 1) 33 (.int .i64 0):=by rw [← hX]; exact hbe1.alloc _
 have bsX : X.cell? ⟨w1.heap.size,0,none⟩ = some (.slice a l.length cap):=by rw [← hX]; simp [World.cell?_alloc_at]
 have SX : Segs X w.heap.size (.slice a l.length cap) l:=⟨a,cap,rfl,hm,by
  rcases HH.out with h | ⟨b,off,ha,hlt,hc⟩
  ·exact .inl h
  ·exact .inr ⟨b,off,ha,hlt,hc.below bX hlt⟩,HR.out⟩
 rw [hX]
 have HX:=Jh hX
 clear hX
 refine wpIn_rangeFunc_ownH hro h1 (gf:=150) (lb:=#[.pointer (some ⟨w1.heap.size,0,none⟩)]) rfl h40 (enters_of Tryz.func150 (by kernel_rfl) rfl)
  (begins_stops Fence.wide (n - 1) h40 hro (by omega) w1.heap.size w.heap.size X.heap.size _ l X (by omega) (by omega) (Nat.le_refl _) bsX SX)
  kpD_t (kpD_b (by omega)) (Below.refl _ _) (fun _ => rfl)
  (fun pre W => Boxed W (w.heap.size + 1) 33 (.int .i64 0) ∧ pre.any farI = false ∧ Below w.heap.size w W ∧ X.heap.size ≤ W.heap.size)
  (fun c pre W => c = .ret ∧ Boxed W (w.heap.size + 1) 33 (.int .i64 220) ∧ pre.any farI = true ∧ Below w.heap.size w W)
  (OwnFrom.and (Own.from (boxed_own _ _ _) _) (OwnFrom.and (ownFrom_pure _ _) (OwnFrom.and (ownFrom_below (Nat.le_refl _) (by omega)) (ownFrom_size _ _))))
  (fun c => OwnFrom.and (ownFrom_pure _ _) (OwnFrom.and (Own.from (boxed_own _ _ _) _) (OwnFrom.and (ownFrom_pure _ _) (ownFrom_below (Nat.le_refl _) (by omega)))))
  ⟨beX,rfl,bX,Nat.le_refl _⟩
  (fun x a' W => ∃ Bx,X.heap.size ≤ Bx ∧ Seg1 W Bx x.2.1 x.2.2 ∧ a' = { tmps:=#[Value.int .i64 p,Value.slice a l.length cap,Value.pointer (some ⟨w.heap.size,0,none⟩),undef,Value.pointer (some ⟨w.heap.size + 1,0,none⟩),Value.int .i64 x.1,Value.pointer (some ⟨Bx,0,none⟩),Value.bool false,Value.int .i64 p,Value.bool false,Value.bool false,Value.int .i64 p,Value.bool false,Value.bool false,Value.bool false,Value.slice a l.length cap,Value.int .i64 ↑l.length,Value.bool false,Value.bool false,Value.slice a l.length cap,Value.func (Fn.func 98) #[] #[Value.pointer (some ⟨w.heap.size,0,none⟩)],Value.bool false,Value.slice a l.length cap,Value.func (Fn.func 150) #[] #[Value.pointer (some ⟨w1.heap.size,0,none⟩)],Value.int .i64 x.1,Value.agg #[Value.int .i64 x.2.1,Value.int .u8 x.2.2],undef,undef,undef,undef,undef],defers:=[] })
  ?hAx ?assign ?body ?done ?stop
 case hAx =>
  intro x a' _ A B row ⟨Bx,hBx,hs,ha⟩ hg hr
  exact ⟨Bx,hBx,Seg1.own X.heap.size () A B row hs hg hr,ha⟩
 case assign =>
  rintro l' pre x W K ⟨hi1,hi2,hi3,hi4⟩ hK
  simp only [encItem]
  gi_wp2
  have hzW:=hi3.size
  refine hK _ _ ((KeepsOthers.alloc _ _).from _) (kpD_alloc W _ hzW) ⟨hi1.alloc _,hi2,hi3.alloc hzW _,by simp; omega⟩ ⟨W.heap.size,hi4,World.alloc_heap_new W _,rfl⟩
 case body =>
  rintro l' pre x a' W hl ⟨r,hr⟩ ⟨hbx,hpre,hB,hX4⟩ ⟨Bx,hBx,bx,rfl⟩ hlt
  have g0:=bx.c0
  have e1:=hbx.cell
  have e2:=hbx.frozen
  cases hf : farI x
  ·have HF : Hid (farI x = false):=hf
   have hlt : decide (wrap64 (288230376151711744 - x.1) ≤ x.2.1) = false:=hf
   clear hf
   gi_wp2
   exact ⟨KeepsFrom.refl _ _,kpD_refl _,hbx,by rw [List.any_append,hpre]; simp [HF.out],hB,hX4⟩
  ·have HF : Hid (farI x = true):=hf
   have hlt : decide (wrap64 (288230376151711744 - x.1) ≤ x.2.1) = true:=hf
   clear hf
   gi_wp2
   exact ⟨(KeepsOthers.setCell _ _ _).from _,rfl,hbx.set _,by rw [List.any_append]; simp [HF.out],hB.setCell (p:=⟨w.heap.size + 1,0,none⟩) (by simp) _⟩
 case done =>
  rintro D' xs W hD' rfl ⟨hbx,hpre,hB,_⟩ hK
  have e1:=hbx.cell
  have e2:=hbx.frozen
  gi_wp2
  have hK2:=(KeepsOthers.setCell W ⟨w.heap.size + 1,0,none⟩ (.int .i64 0)).same D' _ hK rfl
  refine ⟨by simp,.inl ⟨_,_,rfl,run_takeDeferred hK2,?_⟩⟩
  refine ⟨_,z19 rfl rfl (Tryz.isAgg33 _) (z5s (hbx.set (.int .i64 0)) hK2 rfl _).cell,?_,?_⟩
  ·have : Hid (farE l = 0):=by unfold farE; rw [hpre]; rfl
   rw [this.out]
  ·exact (hB.setCell (p:=⟨w.heap.size + 1,0,none⟩) (by simp) _).trans (belowK_b (w:=w) (Nat.le_refl _) _ D' _ _ (by omega) hK2 rfl rfl)
 case stop =>
  rintro D' c pre W hD' ⟨k,hk,rfl⟩ ⟨rfl,hbx,hpre,hB⟩ hK
  have e1:=hbx.cell
  have e2:=hbx.frozen
  gi_wp2
  refine ⟨by simp,.inl ⟨_,_,rfl,run_takeDeferred hK,?_⟩⟩
  refine ⟨_,z19 rfl rfl (Tryz.isAgg33 _) (z5s hbx hK rfl _).cell,?_,?_⟩
  ·have : Hid (farE l = 220):=by unfold farE; rw [itemsTo_any hk hpre]; rfl
   rw [this.out]
  ·exact hB.trans (belowK_b (w:=w) (Nat.le_refl _) _ D' _ _ (by omega) hK rfl rfl)
theorem z5e {p : Int} {l : List (Int × Int)} (h : p < 0 ∨ 8 < p) : z0p p l = 2:=by rw [z0p,if_pos h]
theorem checkP_many {p : Int} {l : List (Int × Int)} (h : ¬(p < 0 ∨ 8 < p)) (h2 : 1024 < l.length) : z0p p l = 4:=by rw [z0p,if_neg h,if_pos h2]
theorem checkP_bad {p : Int} {l : List (Int × Int)} (h : ¬(p < 0 ∨ 8 < p)) (h2 : ¬1024 < l.length) (h3 : l.any (badB p) = true) : z0p p l = 8:=by rw [z0p,if_neg h,if_neg h2,if_pos h3]
theorem checkP_far {p : Int} {l : List (Int × Int)} (h : ¬(p < 0 ∨ 8 < p)) (h2 : ¬1024 < l.length) (h3 : l.any (badB p) = false) : z0p p l = farE l:=by rw [z0p,if_neg h,if_neg h2,h3]; rfl
theorem below2' (w : World) (o o' : Obj) : Below w.heap.size w ((w.alloc o).alloc o'):=((Below.refl _ _).alloc (Nat.le_refl _) o).alloc (by simp) o'
theorem check_any (p : Int) (v : Value) (l : List (Int × Int)) (w : World) (hs : Segs w w.heap.size v l) :
 Calls Tryz.prog 51 #[.int .i64 p,v] w fun e W' => e = .returned (.int .i64 (z0p p l)) ∧ Below w.heap.size w W':=by
 by_cases hp : p < 0 ∨ 8 < p
 ·have HE:=Jh (z5e (l:=l) hp)
  rw [HE.out]
  obtain ⟨a,cap,rfl,hm,h,hr⟩:=hs
  clear h hr
  by_cases hp0 : p < 0
  ·have d1 : decide (p < 0) = true:=by simpa using hp0
   clear hp
   go_enter Tryz.func51,Tryz.ntmps51
   go_wp2_with fail
   exact bodyPost_ret (v:=.int .i64 2) (z19 rfl rfl (Tryz.isAgg33 _) (by simp [World.cell?_alloc_at])) rfl ⟨rfl,below2' _ _ _⟩
  ·have d1 : decide (p < 0) = false:=by simpa using hp0
   have d2 : decide (8 < p) = true:=by simp; omega
   clear hp
   go_enter Tryz.func51,Tryz.ntmps51
   go_wp2_with fail
   exact bodyPost_ret (v:=.int .i64 2) (z19 rfl rfl (Tryz.isAgg33 _) (by simp [World.cell?_alloc_at])) rfl ⟨rfl,below2' _ _ _⟩
 ·have d1 : decide (p < 0) = false:=by simp; omega
  have d2 : decide (8 < p) = false:=by simp; omega
  by_cases hlen : 1024 < l.length
  ·have HE:=Jh (checkP_many hp hlen)
   rw [HE.out]
   obtain ⟨a,cap,rfl,hm,h,hr⟩:=hs
   clear h hr hp
   have d3 : decide (1024 < (l.length : Int)) = true:=by simp; omega
   go_enter Tryz.func51,Tryz.ntmps51
   go_wp2_with fail
   exact bodyPost_ret (v:=.int .i64 4) (z19 rfl rfl (Tryz.isAgg33 _) (by simp [World.cell?_alloc_at])) rfl ⟨rfl,below2' _ _ _⟩
  ·cases hany : l.any (badB p)
   ·refine (callsIn_wide (n:=3)).1 ((check_far_in Fence.wide 3 trivial trivial trivial trivial rfl rfl (by omega) p v l w hs (by omega) (by omega) (by omega) hany).mono ?_)
    rintro e W' ⟨he,hb⟩
    exact ⟨by rw [he,checkP_far hp hlen hany],hb⟩
   ·have HE:=Jh (checkP_bad hp hlen hany)
    rw [HE.out]
    obtain ⟨W0,hW0⟩ : ∃ W0 : World,(w.alloc (.cells #[.int .i64 p] 3)).alloc (.cells #[.int .i64 0] 33) = W0:=⟨_,rfl⟩
    have b0 : Below w.heap.size w W0:=by rw [← hW0]; exact below2' _ _ _
    have hS0 : Hid (Segs W0 W0.heap.size v l):=(hs.below b0).mono b0.size
    obtain ⟨a,cap,rfl,hm,h,hr⟩:=hs
    have d3 : decide (1024 < (l.length : Int)) = false:=by simp; omega
    have HA:=Jh hany
    have hcp : W0.cell? ⟨w.heap.size,0,none⟩ = some (.int .i64 p):=by rw [← hW0]; simp [World.cell?_alloc_past,World.cell?_alloc_at]
    have hbe : Boxed W0 (w.heap.size + 1) 33 (.int .i64 0):=by rw [← hW0]; have:=Boxed.new (w.alloc (.cells #[.int .i64 p] 3)) 33 (.int .i64 0); rwa [World.size_alloc] at this
    have hz0 : W0.heap.size = w.heap.size + 2:=by rw [← hW0]; simp
    have HBE:=Jh hbe
    have hp0 : 0 ≤ p:=by omega
    have hp8 : p ≤ 8:=by omega
    clear h hr hp hany hlen hbe
    go_enter Tryz.func51,Tryz.ntmps51
    go_wp2_with fail
    refine (z31 _ l p w.heap.size W0 hS0.out hp0 hp8 hcp (by omega)).mono ?_
    rintro e w1 ⟨rfl,hb1⟩
    rw [HA.out]
    have hbe1 : Boxed w1 (w.heap.size + 1) 33 (.int .i64 0):=(hb1.block _ (by omega)).trans HBE.out
    have e1:=hbe1.cell
    have e2:=hbe1.frozen
    clear hW0 hcp
    go_wp2_with fail
    exact bodyPost_ret (v:=.int .i64 8) (z19 rfl rfl (Tryz.isAgg33 _) (hbe1.set (.int .i64 8)).cell) rfl ⟨rfl,(b0.trans (hb1.mono (by omega))).setCell (p:=⟨w.heap.size + 1,0,none⟩) (by simp) _⟩
open Go.RowKit Go.Shelf
attribute [local go_sem] Oper.semAt_some
open Go.RowKit Go.Shelf
attribute [local go_sem ↓] Go.wp_at_zero Go.wp_at_succ
open Go.RowKit Go.Shelf
attribute [local go_sem ↓] Go.wp_at_zero Go.wp_at_succ
open Go.RowKit Go.Shelf
attribute [local go_sem ↓] Go.wp_at_zero Go.wp_at_succ
def totF : List (Int × Int) → Int → Int
 | [],n => n
 | x :: r,n => if n < 288230376151711744 then totF r (wrap64 (n + x.1)) else n
theorem totF_drop (l : List (Int × Int)) (k : Nat) (n : Int) (h : k < l.length) (hn : n < 288230376151711744) : totF (l.drop k) n = totF (l.drop (k+1)) (wrap64 (n + l[k].1)):=by
 rw [List.drop_eq_getElem_cons h,totF,if_pos hn]
theorem totF_stop (l : List (Int × Int)) (k : Nat) (n : Int) (hn : ¬ n < 288230376151711744) : totF (l.drop k) n = n:=by
 cases h : l.drop k with
 | nil => rfl
 | cons x r => rw [totF,if_neg hn]
def z2e (l : List (Int × Int)) : Int:=if 288230376151711744 < totF l 0 then 288230376151711744 else totF l 0
theorem total22_any (v : Value) (l : List (Int × Int)) (w : World) (hs : Segs w w.heap.size v l) :
 Calls Tryz.prog 108 #[v] w fun e w' => e = .returned (.int .i64 (z2e l)) ∧ w = w':=by
 obtain ⟨a,cap,rfl,hm,h,hr⟩:=hs
 clear hr
 go_enter Tryz.func108,Tryz.ntmps108
 go_wp2
 go_loop [3,4] (fun n i => ∃ (k : Nat) (m : Int),k ≤ l.length ∧ i = .int .i64 k ∧ n = .int .i64 m ∧ Hid (totF l 0 = totF (l.drop k) m)) (fun _ i => l.length - (intOf i).toNat)
 case atStart => exact ⟨0,0,Nat.zero_le _,rfl,rfl,rfl⟩
 case round =>
  obtain ⟨k,m,hk,rfl,rfl,hH⟩:=hrel
  by_cases hlt : k < l.length
  ·by_cases hm : m < 288230376151711744
   ·rcases h with h | ⟨b,off,rfl,hbl,hc⟩
    ·rw [h] at hlt; exact absurd hlt (by simp)
    obtain ⟨x,y,hxy⟩ : ∃ x y,l[k] = (x,y):=⟨_,_,rfl⟩
    obtain ⟨c1,c2⟩:=hc k hlt
    rw [getD_eq l k hlt,hxy] at c1 c2
    dsimp only at c1 c2
    have hD0:=totF_drop l k m hlt hm
    rw [hxy] at hD0
    have hD:=Jh hD0
    clear hc hD0 hxy
    go_wp2
    go_round
    case rel => exact ⟨k + 1,_,by omega,by go_num,rfl,hH.out.trans hD.out⟩
    case measure => simp [intOf]; omega
   ·have hD:=Jh (totF_stop l k m hm)
    clear h
    by_cases hq : 288230376151711744 < m
    ·go_wp2
     go_ret
     exact ⟨z1f (by rw [z2e,hH.out,hD.out,if_pos hq]),rfl⟩
    ·go_wp2
     go_ret
     exact ⟨z1f (by rw [z2e,hH.out,hD.out,if_neg (by omega)]),rfl⟩
  ·have hke : k = l.length:=by omega
   have hD : Hid (totF (l.drop k) m = m):=by rw [hke,List.drop_length]; rfl
   clear h
   by_cases hq : 288230376151711744 < m
   ·go_wp2
    go_ret
    exact ⟨z1f (by rw [z2e,hH.out,hD.out,if_pos hq]),rfl⟩
   ·go_wp2
    go_ret
    exact ⟨z1f (by rw [z2e,hH.out,hD.out,if_neg (by omega)]),rfl⟩
@[local go_sem] theorem eq39 (a b c d : Int) (w : World) : (Op.equalIn 10000 29 (.agg #[.int .i64 a,.int .u8 b]) (.agg #[.int .i64 c,.int .u8 d])).run Tryz.prog w = .ok (a == c && b == d) w:=by
 have u3:=Tryz.underlying3
 have a3:=Tryz.isAgg3
 have z3:=Tryz.sizeOf3
 have u5:=Tryz.underlying5
 have a5:=Tryz.isAgg5
 have z5:=Tryz.sizeOf5
 have hS : Tryz.prog.underlying 29 = some (.struct (Tryz.prog.fieldsOf 29)):=by kernel_rfl
 have hp : Tryz.prog.stoodInHeld 29 = false:=by kernel_rfl
 rw [show (10000 : Nat) = 9999 + 1 from rfl,run_equalIn_agg w 9999 29 _ _ hS hp]
 simp only [Program.fieldsOf,Tryz.underlying29]
 go_simp
 by_cases h1 : a = c <;> by_cases h2 : b = d <;> simp [h1,h2]
open Go.RowKit Go.Shelf
attribute [local go_sem ↓] Go.wp_at_zero Go.wp_at_succ
attribute [local go_sem] eq39
def farB (s : Int × Int) : Bool:=decide (288230376151711744 ≤ s.1)
def z0t (p : Int) (l : List (Int × Int)) : Int :=
 if p < 0 ∨ 8 < p then 2 else if 1024 < l.length then 4 else if l.any (badB p) then 8 else if l.any farB then 220 else if 288230376151711744 ≤ z2e l then 220 else 0
theorem z5g {l : List (Int × Int)} {f : Int × Int → Bool} {j : Nat} (h : j < l.length) (hf : f l[j] = true) : l.any f = true:=by
 simp only [List.any_eq_true]
 exact ⟨_,List.getElem_mem h,hf⟩
theorem z4s {l : List (Int × Int)} {f : Int × Int → Bool} {j : Nat} (h : j < l.length) (ht : (l.take j).any f = false) (hf : f l[j] = false) : (l.take (j + 1)).any f = false:=by
 rw [List.take_succ_eq_append_getElem h,List.any_append,ht]; simp [hf]
theorem check22_any (p : Int) (v : Value) (l : List (Int × Int)) (w : World) (hs : Segs w w.heap.size v l) :
 Calls Tryz.prog 55 #[.int .i64 p,v] w fun e w' => e = .returned (.int .i64 (z0t p l)) ∧ Below w.heap.size w w':=by
 by_cases hp : p < 0 ∨ 8 < p
 ·have HE : Hid (z0t p l = 2):=by rw [Hid,z0t,if_pos hp]
  rw [HE.out]
  obtain ⟨a,cap,rfl,hm,h,hr⟩:=hs
  clear h hr
  by_cases hp0 : p < 0
  ·have d1 : decide (p < 0) = true:=by simpa using hp0
   clear hp
   go_enter Tryz.func55,Tryz.ntmps55
   go_wp2_with fail
   go_ret
   exact ⟨rfl,Below.refl _ _⟩
  ·have d1 : decide (p < 0) = false:=by simpa using hp0
   have d2 : decide (8 < p) = true:=by simp; omega
   clear hp
   go_enter Tryz.func55,Tryz.ntmps55
   go_wp2_with fail
   go_ret
   exact ⟨rfl,Below.refl _ _⟩
 have d1 : decide (p < 0) = false:=by simp; omega
 have d2 : decide (8 < p) = false:=by simp; omega
 have hp0 : 0 ≤ p:=by omega
 have hp8 : p ≤ 8:=by omega
 by_cases hlen : 1024 < l.length
 ·have HE : Hid (z0t p l = 4):=by rw [Hid,z0t,if_neg hp,if_pos hlen]
  rw [HE.out]
  obtain ⟨a,cap,rfl,hm,h,hr⟩:=hs
  clear h hr hp
  have d3 : decide (1024 < (l.length : Int)) = true:=by simp; omega
  go_enter Tryz.func55,Tryz.ntmps55
  go_wp2_with fail
  go_ret
  exact ⟨rfl,Below.refl _ _⟩
 have HP:=Jh hp
 have HS:=Jh hs
 obtain ⟨a,cap,rfl,hm,h,hr⟩:=hs
 have d3 : decide (1024 < (l.length : Int)) = false:=by simp; omega
 clear hp
 go_enter Tryz.func55,Tryz.ntmps55
 go_wp2_with fail
 go_loopw [5] (fun i wr => ∃ (k : Nat),k ≤ l.length ∧ i = .int .i64 k ∧ (l.take k).any (badB p) = false ∧ Below w.heap.size w wr) (fun i _ => l.length - (intOf i).toNat)
 case atStart => exact ⟨0,Nat.zero_le _,rfl,rfl,Below.refl _ _⟩
 case round =>
  obtain ⟨k,hk,rfl,ht,hbw⟩:=hrel
  have HT:=Jh ht
  clear ht
  by_cases hlt : k < l.length
  ·rcases h with h | ⟨b,off,rfl,hbl,hc⟩
   ·rw [h] at hlt; exact absurd hlt (by simp)
   obtain ⟨x,y,hxy⟩ : ∃ x y,l[k] = (x,y):=⟨_,_,rfl⟩
   obtain ⟨c1,c2⟩:=(hc.below hbw hbl) k hlt
   rw [getD_eq l k hlt,hxy] at c1 c2
   have hrr:=hr l[k] (List.getElem_mem hlt)
   rw [hxy] at hrr
   dsimp only at c1 c2 hrr
   obtain ⟨_,_,hy0,hy1⟩:=hrr
   have HC:=Jh hc
   have HR:=Jh hr
   have hwy : IntKind.i64.wrap y = y:=IntWalk.i64_in _ (by omega)
   clear hc hr
   by_cases hx : x < 1
   ·have dx : decide (x < 1) = true:=by simpa using hx
    have HE : Hid (z0t p l = 8):=by
     rw [Hid,z0t,if_neg HP.out,if_neg hlen,if_pos (z5g hlt (by rw [hxy]; simp [badB,hx]))]
    clear hxy hx
    go_wp2_with fail
    go_quiet (fail)
    go_wp2_with fail
    go_ret
    exact ⟨by rw [HE.out]; rfl,below_drewN hbw _⟩
   ·have dx : decide (x < 1) = false:=by simpa using hx
    have hq8 : (2 : Int) ^ p.toNat ≤ 2 ^ 8:=by
     have:=Nat.pow_le_pow_right (n:=2) (by omega) (show p.toNat ≤ 8 by omega)
     exact_mod_cast this
    have hq0 : (0 : Int) < 2 ^ p.toNat:=Int.pow_pos (by omega)
    have hw2 : wrap64 (2 ^ p.toNat) = 2 ^ p.toNat:=IntWalk.wrap64_in _ (by omega)
    have HXY:=Jh hxy
    clear hxy hq8 hq0
    by_cases hy : 2 ^ p.toNat ≤ y
    ·have dy : decide (2 ^ p.toNat ≤ y) = true:=by simpa using hy
     have HE : Hid (z0t p l = 8):=by
      rw [Hid,z0t,if_neg HP.out,if_neg hlen,if_pos (z5g hlt (by rw [HXY.out]; simp [badB,hy]))]
     clear hx hy
     go_wp2_with fail
     go_quiet (fail)
     go_wp2_with fail
     go_ret
     exact ⟨by rw [HE.out]; rfl,below_drewN hbw _⟩
    ·have dy : decide (2 ^ p.toNat ≤ y) = false:=by simpa using hy
     have HE : Hid ((l.take (k + 1)).any (badB p) = false):=z4s hlt HT.out (by rw [HXY.out]; simp [badB,hy,hx])
     clear hx hy
     go_wp2_with fail
     go_quiet (fail)
     go_wp2_with fail
     refine ⟨⟨k + 1,by omega,by push_cast; rfl,HE.out,below_drewN hbw _⟩,?_⟩
     simp [intOf]; omega
  ·have hke : k = l.length:=by omega
   subst hke
   have HA : Hid (l.any (badB p) = false):=by have:=HT.out; rwa [List.take_length] at this
   have HH:=Jh h
   have HR:=Jh hr
   clear HT hlt hk hr h
   go_wp2_with fail
   go_loopw [6] (fun i wr => ∃ (k : Nat),k ≤ l.length ∧ i = .int .i64 k ∧ (l.take k).any farB = false ∧ Below w.heap.size w wr) (fun i _ => l.length - (intOf i).toNat)
   case atStart => exact ⟨0,Nat.zero_le _,rfl,rfl,hbw⟩
   case round =>
    obtain ⟨k,hk,rfl,ht,hbw'⟩:=hrel
    have HT:=Jh ht
    clear ht
    by_cases hlt : k < l.length
    ·have h:=HH.out
     rcases h with h | ⟨b,off,rfl,hbl,hc⟩
     ·rw [h] at hlt; exact absurd hlt (by simp)
     obtain ⟨x,y,hxy⟩ : ∃ x y,l[k] = (x,y):=⟨_,_,rfl⟩
     obtain ⟨c1,c2⟩:=(hc.below hbw' hbl) k hlt
     rw [getD_eq l k hlt,hxy] at c1 c2
     dsimp only at c1 c2
     have HXY:=Jh hxy
     clear hxy hc
     by_cases hy : 288230376151711744 ≤ x
     ·have dy : decide (288230376151711744 ≤ x) = true:=by simpa using hy
      have HE : Hid (z0t p l = 220):=by
       rw [Hid,z0t,if_neg HP.out,if_neg hlen,HA.out,if_neg (by simp),if_pos (z5g hlt (by rw [HXY.out]; simp [farB,hy]))]
      clear hy
      go_wp2_with fail
      go_ret
      exact ⟨by rw [HE.out]; rfl,hbw'⟩
     ·have dy : decide (288230376151711744 ≤ x) = false:=by simpa using hy
      have HE : Hid ((l.take (k + 1)).any farB = false):=z4s hlt HT.out (by rw [HXY.out]; simp [farB]; omega)
      clear hy
      go_wp2_with fail
      refine ⟨⟨k + 1,by omega,by push_cast; rfl,HE.out,hbw'⟩,?_⟩
      simp [intOf]; omega
    ·have hke : k = l.length:=by omega
     subst hke
     have HF : Hid (l.any farB = false):=by have:=HT.out; rwa [List.take_length] at this
     have hS:=HS.out.below hbw'
     have HC:=total22_any _ l _ (hS.mono hbw'.size)
     clear HT hlt hk hS hbw
     go_wp2_with fail
     refine HC.mono ?_
     rintro e w1 ⟨rfl,rfl⟩
     clear HC
     by_cases hy : 288230376151711744 ≤ z2e l
     ·have dy : decide (288230376151711744 ≤ z2e l) = true:=by simpa using hy
      have HE : Hid (z0t p l = 220):=by
       rw [Hid,z0t,if_neg HP.out,if_neg hlen,HA.out,if_neg (by simp),HF.out,if_neg (by simp),if_pos hy]
      clear hy
      go_wp2_with fail
      go_ret
      exact ⟨by rw [HE.out]; rfl,hbw'⟩
     ·have dy : decide (288230376151711744 ≤ z2e l) = false:=by simpa using hy
      have HE : Hid (z0t p l = 0):=by
       rw [Hid,z0t,if_neg HP.out,if_neg hlen,HA.out,if_neg (by simp),HF.out,if_neg (by simp),if_neg hy]
      clear hy
      go_wp2_with fail
      go_ret
      exact ⟨by rw [HE.out]; rfl,hbw'⟩
end Go.Proofs.YtockinpjfhhkoaaGreatDoor
