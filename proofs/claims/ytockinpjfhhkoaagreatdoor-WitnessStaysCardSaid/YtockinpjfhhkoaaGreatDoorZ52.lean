/- A loop over begins(l) that is never left, whose body may write blocks of its own. -/
import Derived.Test.YtockinpjfhhkoaaGreatDoorZ33
import Derived.Maps.OwnIn
set_option maxRecDepth 100000
set_option maxHeartbeats 16000000
open Go.Lib renaming hid → Jh
open Go.RowKit.Below renaming heap_alloc → Jb
namespace Go.Proofs.YtockinpjfhhkoaaGreatDoor
open Go.RowKit Go.Shelf
def z7e (zs : List (Int × Int)) (k : Nat) : Obj:=.cells #[.int .i64 (z2z zs k).2.1,.int .u8 (z2z zs k).2.2] 29
theorem begins1_free (F : Fence) (n : Nat) (h40 : F.fn 150) (hro : F.round = none) (hn : 1 ≤ n) (l Bs n₀ b off cap : Nat) (zs : List (Int × Int)) (hm : zs.length ≤ 9223372036854775807) (hb : b < n₀) (J : Nat → World → Prop)
 (W : World) (_hn0 : n₀ ≤ W.heap.size)
 (hY : ∀ k wr,k < zs.length → J k wr → Below n₀ W wr → W.heap.size ≤ wr.heap.size → YieldAt F (n - 1) Tryz.prog l (z4j (z2z zs k)) (wr.alloc (z7e zs k)) fun e W' =>
  e = .returned (.bool true) ∧ J (k + 1) W' ∧ Below n₀ wr W' ∧ W'.heap[wr.heap.size]? = some (z7e zs k))
 (hBs : W.cell? ⟨Bs,0,none⟩ = some (.slice (some ⟨b,off,none⟩) zs.length cap)) (hc : SegC W b off zs) (h0 : J 0 W) :
 CallsIn F n Tryz.prog 150 #[.func (.yield l) #[] #[],.pointer (some ⟨Bs,0,none⟩)] W fun e W' => (∃ v,e = .returned v) ∧ J zs.length W':=by
 refine callsIn_of_wp Tryz.func150 rfl h40 ?_ hro
 simp only [Tryz.ntmps150,List.size_toArray,List.length_cons,List.length_nil,Nat.reduceAdd,Nat.reduceSub,Array.replicate_succ,Array.replicate_zero,List.push_toArray,List.append_toArray,List.nil_append,List.cons_append]
 gi_wp2
 gi_loopw [3,8] (fun t i wr => ∃ k : Nat,k ≤ zs.length ∧ i = .int .i64 k ∧ t = .int .i64 (atOf zs k) ∧ J k wr ∧ Below n₀ W wr ∧ W.heap.size ≤ wr.heap.size)
  (fun _ i _ => zs.length - (intOf i).toNat)
 case atStart => exact ⟨0,Nat.zero_le _,rfl,rfl,h0,Below.refl _ _,Nat.le_refl _⟩
 case round =>
  obtain ⟨k,hk,rfl,rfl,hJs,hnx,hWr⟩:=hrel
  by_cases hlt : k < zs.length
  ·obtain ⟨c1,c2⟩:=(hc.below hnx hb) k hlt
   obtain ⟨p,q,hpq⟩ : ∃ p q,zs[k]?.getD (0,0) = (p,q):=⟨_,_,rfl⟩
   rw [hpq] at c1 c2
   dsimp only at c1 c2
   obtain ⟨fn,tmps,assign,body,hy,hR⟩:=hY k wr hlt hJs hnx hWr
   simp only [z4j,z2z,hpq,z7e] at hy hR
   have HR:=Jh hR
   have HC:=Jh hc
   have HP:=Jh hpq
   have HA : Hid (atOf zs (k + 1) = wrap64 (atOf zs k + p)):=by show wrap64 _ = _; rw [hpq]
   clear hR hc hY hpq
   gi_wp2
   refine HR.out.mono ?_
   rintro e W3 ⟨rfl,hJ3,hk3,hbox⟩
   have hb3 : Below n₀ W W3:=hnx.trans hk3
   have g1 : W3.cell? ⟨wr.heap.size,0,none⟩ = some (.int .i64 p):=by simp [World.cell?,hbox]
   have hz : wr.heap.size < W3.heap.size:=(Array.getElem?_eq_some_iff.1 hbox).1
   clear hbox
   gi_wp2
   go_roundw
   case rel => exact ⟨k + 1,by omega,by go_num,by rw [HA.out],hJ3,hb3,by omega⟩
   case measure => simp [intOf]; omega
  ·obtain rfl : k = zs.length:=by omega
   gi_wp2
   go_end0
   exact ⟨⟨_,rfl⟩,hJs⟩
theorem rangeBegins {F : Fence} {n : Nat} {g : Operand} {ps : Array Tmp} {assign body : Code} {Q : Exit → Act → World → Prop} {a : Act} {w : World} (h40 : F.fn 150) (hro : F.round = none) (h1 : 2 ≤ n)
 (Bs n₀ : Nat) (sv : Value) (zs : List (Int × Int)) (hg : a.eval g = .func (.func 150) #[] #[.pointer (some ⟨Bs,0,none⟩)]) (hps : ps.size = 2) (hBs : w.cell? ⟨Bs,0,none⟩ = some sv) (hBl : Bs < w.heap.size) (hS : Segs w n₀ sv zs) (hn₀ : n₀ ≤ w.heap.size)
 (I : Nat → World → Prop) (hI : OwnFrom w.heap.size I) (h0 : I 0 w)
 (hround : ∀ (l k : Nat) (wr : World),w.heap.size < l → k < zs.length → I k wr → l < wr.heap.size →
  assign.wpIn (F.inRound l) (n - 1 - 1) Tryz.prog (Exit.then (fun a' W2 => KeepsFrom w.heap.size (wr.alloc (z7e zs k)) W2 ∧ ∀ r o',W2.heap[l]? = some (.loop r) → body.wpIn (F.inRound l) (n - 1 - 1) Tryz.prog
   (fun e _ W4 => e = .normal ∧ KeepsFrom w.heap.size (W2.putObj l (.loop o')) W4 ∧ I (k + 1) W4 ∧ Below n₀ wr W4 ∧ W4.heap[wr.heap.size]? = some (z7e zs k)) a' (W2.putObj l (.loop o'))) (fun _ _ _ => False))
   { tmps:=(ps.zip (z4j (z2z zs k))).foldl (fun t (p,v) => t.setIfInBounds p v) a.tmps,defers:=[] } (wr.alloc (z7e zs k)))
 (hdone : ∀ (D : Nat) (W : World),w.heap.size ≤ D → I zs.length W → W.heap[D]? = some (.deferred (some [])) → Q .normal { a with defers:={ target:=.collected D,args:=#[] } :: a.defers } W) :
 (Code.rangeFunc g ps assign body).wpIn F n Tryz.prog Q a w:=by
 refine wpIn_rangeFunc fun fn hfn => ?_
 rw [hro]
 obtain ⟨rec,hrec⟩ : ∃ rec : LoopState → Loop,rec = fun st => { state:=st,pending:=none,fn,tmps:=a.tmps,params:=ps,assign,body,defers:=w.heap.size }:=⟨_,rfl⟩
 obtain ⟨W1,hW1⟩ : ∃ W1,(w.alloc (.deferred (some []))).alloc (.loop (rec .ready)) = W1:=⟨_,rfl⟩
 have hz1 : W1.heap.size = w.heap.size + 2:=by rw [← hW1]; simp
 have hL1 : W1.heap[w.heap.size + 1]? = some (.loop (rec .ready)):=by
  rw [← hW1]; simpa using World.alloc_heap_new (w.alloc (.deferred (some []))) (.loop (rec .ready))
 have hK1 : W1.heap[w.heap.size]? = some (.deferred (some [])):=by
  rw [← hW1,Jb _ _ _ (by simp)]; exact World.alloc_heap_new w _
 have hI1 : I 0 W1:=by rw [← hW1]; exact hI.alloc _ (hI.alloc _ h0)
 have hb1 : Below w.heap.size w W1:=by
  rw [← hW1]; exact ((Below.refl _ w).alloc (Nat.le_refl _) _).alloc (by simp) _
 refine ⟨w.heap.size + 1,[{ target:=.collected w.heap.size,args:=#[] }],W1,{ target:=.fn (.func 150) #[.pointer (some ⟨Bs,0,none⟩)],args:=#[.func (.yield (w.heap.size + 1)) #[] #[]] },W1,150,
  #[.func (.yield (w.heap.size + 1)) #[] #[]] ++ #[.pointer (some ⟨Bs,0,none⟩)],W1,?_,?_,?_,?_,fun _ => (by omega),?_⟩
 ·rw [← hW1,hrec]; exact run_enterLoop_outer _ _ _ _ _
 ·simp only [resolve,hg]
  simp [go_sem]
 ·intro f' hf'; simp [Target.leads] at hf'; subst hf'; exact h40
 ·simp [invoke,go_sem]
 ·have hBs1:=(hb1.cell (p:=⟨Bs,0,none⟩) hBl).trans hBs
  obtain ⟨sa,cap,rfl,hm,h,_⟩:=(hS.below (hb1.mono hn₀))
  have key : CallsIn F (n - 1) Tryz.prog 150 #[.func (.yield (w.heap.size + 1)) #[] #[],.pointer (some ⟨Bs,0,none⟩)] W1 fun e W' => (∃ v,e = .returned v) ∧
   I zs.length W' ∧ W'.heap[w.heap.size + 1]? = some (.loop (rec .ready)) ∧ W'.heap[w.heap.size]? = some (.deferred (some [])):=by
   rcases h with rfl | ⟨b,off,rfl,hb,hcs⟩
   ·exact z6m F (n - 1) h40 hro (w.heap.size + 1) Bs sa cap (fun _ W => I 0 W ∧ W.heap[w.heap.size + 1]? = some (.loop (rec .ready)) ∧ W.heap[w.heap.size]? = some (.deferred (some []))) W1 hBs1 ⟨hI1,hL1,hK1⟩
   ·refine begins1_free F (n - 1) h40 hro (by omega) (w.heap.size + 1) Bs n₀ b off cap zs hm hb (fun k W => I k W ∧ W.heap[w.heap.size + 1]? = some (.loop (rec .ready)) ∧ W.heap[w.heap.size]? = some (.deferred (some [])))
     W1 (by omega) ?_ hBs1 hcs ⟨hI1,hL1,hK1⟩
    rintro k wr hk ⟨hi,hl,hd⟩ hnx hWr
    have hl' : (wr.alloc (z7e zs k)).heap[w.heap.size + 1]? = some (.loop (rec .ready)):=(Jb _ _ _ (by omega)).trans hl
    have hd' : (wr.alloc (z7e zs k)).heap[w.heap.size]? = some (.deferred (some [])):=(Jb _ _ _ (by omega)).trans hd
    have hy:=run_yield (P:=Tryz.prog) (args:=z4j (z2z zs k)) hl' (by rw [hrec,hps]; rfl)
    rw [hrec] at hy
    refine ⟨fn,_,assign,body,hy,roundIn_of_wpIn hfn (wpIn_mono (hround (w.heap.size + 1) k wr (by omega) hk hi (by omega)) ?_)⟩
    rintro e a' W2 hp
    cases e with
    | normal =>
     obtain ⟨hkf,hbody⟩:=hp
     have hl2:=hkf.same _ _ (by omega) hl' rfl
     have hd2:=hkf.same _ _ (Nat.le_refl _) hd' rfl
     refine ⟨_,run_beginRound hl2 (by rw [hrec]),wpIn_mono (hbody _ _ hl2) ?_⟩
     rintro e a4 W4 ⟨rfl,hk4,hi4,hb4,hx4⟩
     have hl3:=hk4.same (w.heap.size + 1) _ (by omega) (World.putObj_heap_same (Array.getElem?_eq_some_iff.1 hl2).1) rfl
     have hd3:=hk4.same w.heap.size _ (Nat.le_refl _) ((World.putObj_heap_other (by omega)).trans hd2) rfl
     have hr:=run_endRound (P:=Tryz.prog) none hl3
     have hlt3 : w.heap.size + 1 < W4.heap.size:=(Array.getElem?_eq_some_iff.1 hl3).1
     refine ⟨_,_,hr,rfl,⟨hI.putObj _ hi4 (by omega) hl3 rfl,?_,(World.putObj_heap_other (by omega)).trans hd3⟩,?_,(World.putObj_heap_other (by omega)).trans hx4⟩
     ·rw [World.putObj_heap_same hlt3,hrec]; rfl
     ·exact hb4.trans (belowK_b (w:=w) hn₀ _ _ _ _ (by omega) hl3 rfl rfl)
    | ret => exact hp.elim
    | exit id => exact hp.elim
    | goto t => exact hp.elim
    | panic ch => exact hp.elim
    | outgrown => exact hp.elim
  refine key.mono ?_
  rintro e W2 ⟨⟨v,rfl⟩,hi,hl,hd⟩
  have:=run_endLoop (P:=Tryz.prog) hl (by rw [hrec]; simp)
  rw [hrec] at this
  exact ⟨none,_,this,hdone _ _ (Nat.le_refl _) (hI.putObj _ hi (by omega) hl rfl) ((World.putObj_heap_other (by omega)).trans hd)⟩
open Go.RowKit Go.Shelf
attribute [local go_sem] Oper.semAt_some
theorem z9y (p : Int) (v : Value) (l : List (Int × Int)) (w : World) (hs : Segs w w.heap.size v l) :
 Calls Tryz.prog 35 #[.int .i64 p,v] w fun e W' => e = .returned (.tuple #[.int .i64 (z6h (z0k p l) l),.int .i64 (z0k p l)]) ∧ Below w.heap.size w W':=by
 by_cases hc : z0k p l = 0
 ·rw [hc,z6h,if_pos rfl,← long_eq (hs.choose_spec.choose_spec.2.2.2) hc]
  exact long_ok p v l w hs hc
 ·rw [z6h,if_neg hc]
  exact long_err p v l w hs hc
def z5w (m : Int) (out : List (Int × Int)) (x : Int × Int × Int) : List (Int × Int) :=
 if x.1 < m ∧ m < wrap64 (x.1 + x.2.1) then out ++ [(wrap64 (m - x.1),x.2.2)] ++ [(wrap64 (x.2.1 - wrap64 (m - x.1)),x.2.2)] else out ++ [(x.2.1,x.2.2)]
def z2c (m : Int) (l : List (Int × Int)) (k : Nat) : List (Int × Int):=(z1a l k).foldl (z5w m) []
theorem z4p (m : Int) (l : List (Int × Int)) (k : Nat) : z2c m l (k + 1) = z5w m (z2c m l k) (z2z l k):=by
 rw [z2c,z4c,List.foldl_append]; rfl
theorem z5v (m : Int) (l : List (Int × Int)) : ∀ k,(z2c m l k).length ≤ 2 * k
 | 0 => by simp [z2c,z1a]
 | k + 1 => by
  have:=z5v m l k
  rw [z4p,z5w]
  split <;> simp <;> omega
def zat (l : List (Int × Int)) (m : Int) : List (Int × Int) × Int :=
 if m < 0 ∨ z3h l < m then ([],2) else if 1024 < (z2c m l l.length).length then ([],4) else (z2c m l l.length,0)
theorem below2c (w : World) (m : Int) : Below w.heap.size w ((w.alloc (.cells #[.int .i64 m] 3)).alloc (.cells #[.slice none 0 0] 48)):=zav w _ _
theorem cut_err (p m : Int) (v : Value) (l : List (Int × Int)) (w : World) (hs : Segs w w.heap.size v l) (hck : z0k p l ≠ 0) :
 Calls Tryz.prog 38 #[.int .i64 p,v,.int .i64 m] w fun e W' => e = .returned (.tuple #[.slice none 0 0,.int .i64 (z0k p l)]) ∧ Below w.heap.size w W':=by
 obtain ⟨W0,hW0⟩ : ∃ W0 : World,(w.alloc (.cells #[.int .i64 m] 3)).alloc (.cells #[.slice none 0 0] 48) = W0:=⟨_,rfl⟩
 have b0 : Below w.heap.size w W0:=by rw [← hW0]; exact below2c w m
 have hz0 : W0.heap.size = w.heap.size + 2:=by rw [← hW0]; simp
 have hS0 : Hid (Segs W0 W0.heap.size v l):=(hs.below b0).mono b0.size
 have hbe : Hid (Boxed W0 (w.heap.size + 1) 48 (.slice none 0 0)):=by rw [← hW0]; have:=Boxed.new (w.alloc (.cells #[.int .i64 m] 3)) 48 (.slice none 0 0); rwa [World.size_alloc] at this
 have HC:=z9y p v l W0 hS0.out
 have hne : (z0k p l != 0) = true:=by simpa using hck
 obtain ⟨c,hc⟩ : ∃ c,z0k p l = c:=⟨_,rfl⟩
 rw [hc] at HC hne ⊢
 obtain ⟨a,cap,rfl,hm,h,hr⟩:=hs
 clear h hr hck hc
 go_enter Tryz.func38,Tryz.ntmps38
 go_wp2_with fail
 refine HC.mono ?_
 rintro e w1 ⟨rfl,hb1⟩
 clear HC
 have hbe1 : Boxed w1 (w.heap.size + 1) 48 (.slice none 0 0):=(hb1.block _ (by omega)).trans hbe.out
 have e1:=hbe1.cell
 have e2:=hbe1.frozen
 clear hW0
 go_wp2_with fail
 exact bodyPost_ret (v:=.tuple #[.slice none 0 0,.int .i64 c]) (z11 rfl rfl rfl (Tryz.isAgg48 _) (hbe1.set _).cell) rfl ⟨rfl,(b0.trans (hb1.mono (by omega))).setCell (p:=⟨w.heap.size + 1,0,none⟩) (by simp) _⟩
theorem cut_arg (p m : Int) (v : Value) (l : List (Int × Int)) (w : World) (hs : Segs w w.heap.size v l) (hck : z0k p l = 0) (hm0 : m < 0 ∨ z3h l < m) :
 Calls Tryz.prog 38 #[.int .i64 p,v,.int .i64 m] w fun e W' => e = .returned (.tuple #[.slice none 0 0,.int .i64 2]) ∧ Below w.heap.size w W':=by
 obtain ⟨W0,hW0⟩ : ∃ W0 : World,(w.alloc (.cells #[.int .i64 m] 3)).alloc (.cells #[.slice none 0 0] 48) = W0:=⟨_,rfl⟩
 have b0 : Below w.heap.size w W0:=by rw [← hW0]; exact below2c w m
 have hz0 : W0.heap.size = w.heap.size + 2:=by rw [← hW0]; simp
 have hS0 : Hid (Segs W0 W0.heap.size v l):=(hs.below b0).mono b0.size
 have hba : Hid (Boxed W0 w.heap.size 3 (.int .i64 m)):=by rw [← hW0]; exact (Boxed.new w 3 (.int .i64 m)).alloc _
 have hbe : Hid (Boxed W0 (w.heap.size + 1) 48 (.slice none 0 0)):=by rw [← hW0]; have:=Boxed.new (w.alloc (.cells #[.int .i64 m] 3)) 48 (.slice none 0 0); rwa [World.size_alloc] at this
 have HC:=z9y p v l W0 hS0.out
 rw [hck,z6h,if_pos rfl] at HC
 obtain ⟨n,hn⟩ : ∃ n,z3h l = n:=⟨_,rfl⟩
 rw [hn] at HC hm0
 obtain ⟨a,cap,rfl,hm,h,hr⟩:=hs
 clear h hr hck hn
 by_cases hx : m < 0
 ·have d1 : decide (m < 0) = true:=by simpa using hx
  clear hx hm0
  go_enter Tryz.func38,Tryz.ntmps38
  go_wp2_with fail
  refine HC.mono ?_
  rintro e w1 ⟨rfl,hb1⟩
  clear HC
  have hba1 : Boxed w1 w.heap.size 3 (.int .i64 m):=(hb1.block _ (by omega)).trans hba.out
  have hbe1 : Boxed w1 (w.heap.size + 1) 48 (.slice none 0 0):=(hb1.block _ (by omega)).trans hbe.out
  have e0:=hba1.cell
  have e1:=hbe1.cell
  have e2:=hbe1.frozen
  clear hW0
  go_wp2_with fail
  exact bodyPost_ret (v:=.tuple #[.slice none 0 0,.int .i64 2]) (z11 rfl rfl rfl (Tryz.isAgg48 _) (hbe1.set _).cell) rfl ⟨rfl,(b0.trans (hb1.mono (by omega))).setCell (p:=⟨w.heap.size + 1,0,none⟩) (by simp) _⟩
 ·have d1 : decide (m < 0) = false:=by simpa using hx
  have d2 : decide (n < m) = true:=by simp; omega
  clear hx hm0
  go_enter Tryz.func38,Tryz.ntmps38
  go_wp2_with fail
  refine HC.mono ?_
  rintro e w1 ⟨rfl,hb1⟩
  clear HC
  have hba1 : Boxed w1 w.heap.size 3 (.int .i64 m):=(hb1.block _ (by omega)).trans hba.out
  have hbe1 : Boxed w1 (w.heap.size + 1) 48 (.slice none 0 0):=(hb1.block _ (by omega)).trans hbe.out
  have e0:=hba1.cell
  have e1:=hbe1.cell
  have e2:=hbe1.frozen
  clear hW0
  go_wp2_with fail
  exact bodyPost_ret (v:=.tuple #[.slice none 0 0,.int .i64 2]) (z11 rfl rfl rfl (Tryz.isAgg48 _) (hbe1.set _).cell) rfl ⟨rfl,(b0.trans (hb1.mono (by omega))).setCell (p:=⟨w.heap.size + 1,0,none⟩) (by simp) _⟩
theorem segs_intro {w : World} {n₀ : Nat} {a : Option Addr} {cap : Nat} {l : List (Int × Int)} {X : World} (hm : l.length ≤ 9223372036854775807) (h : l = [] ∨ ∃ b off,a = some ⟨b,off,none⟩ ∧ b < n₀ ∧ SegC w b off l)
 (hr : ∀ s ∈ l,InR s) (hb : Below n₀ w X) : Segs X n₀ (.slice a l.length cap) l :=
 ⟨a,cap,rfl,hm,by
  rcases h with h | ⟨b,off,ha,hlt,hc⟩
  ·exact .inl h
  ·exact .inr ⟨b,off,ha,hlt,hc.below hb hlt⟩,hr⟩
theorem Seg1.frz {W : World} {B : Nat} {x y : Int} (h : Seg1 W B x y) : W.frozen? ⟨B,0,none⟩ = false:=by simp [World.frozen?,show W.heap[B]? = _ from h]
structure St (B kb : Nat) (bo : Obj) (wr W3 : World) (D : Nat) (m : Int) (W : World) (v : Value) (out : List (Int × Int)) (x y : Int) : Prop where
 b5 : Boxed W B 3 (.int .i64 m)
 b6 : Boxed W (B + 1) 48 v
 own : W.ownsRow B 29 2 v out.length (z3k out)
 box : W.heap[kb]? = some bo
 bx : Seg1 W (kb + 1) x y
 blk : ∀ g,v.ownBlock = some g → g ≠ kb ∧ g ≠ kb + 1
 sz : kb + 2 ≤ W.heap.size
 hB : B + 1 < kb
 below : Below B wr W
 keeps : KeepsFrom D W3 W
theorem St.append {B kb : Nat} {bo : Obj} {wr W3 : World} {D : Nat} {m : Int} {W : World} {v : Value} {out : List (Int × Int)} {x y : Int} (h : St B kb bo wr W3 D m W v out x y) {tmp : Obj} {w1 : World} {v' : Value} {s : Int × Int}
 (hown' : w1.ownsRow B 29 2 v' (out.length + 1) (z3k out ++ [.int .i64 s.1,.int .u8 s.2])) (hgrow : (W.alloc tmp).grownBy w1 v.ownBlock) (hat : v'.ownBlock = v.ownBlock ∨ v'.ownBlock = some (W.alloc tmp).heap.size) :
 Boxed w1 (B + 1) 48 v ∧ St B kb bo wr W3 D m (w1.setCell ⟨B + 1,0,none⟩ v') v' (out ++ [s]) x y:=by
 have hown2 : w1.ownsRow B 29 2 v' (out ++ [s]).length (z3k (out ++ [s])):=by
  rw [z1m,List.length_append]; exact hown'
 have hBW : B ≤ W.heap.size:=by have:=h.sz; have:=h.hB; omega
 obtain ⟨k1,k2,k3,k4,k5⟩:=h.b6.appended (by decide) h.own hBW (Nat.le_succ B) hown2 hgrow
 have hkb : ∀ j,(∀ g,v.ownBlock = some g → g ≠ j) → j ≠ B + 1 → j < W.heap.size → (w1.setCell ⟨B + 1,0,none⟩ v').heap[j]? = W.heap[j]?:=fun j hj hj1 hlt => by
  rw [Below.heap_setCell _ _ _ _ hj1,hgrow.block j (by simp; omega) (fun e => hj j e.symm rfl)]
  exact Jb _ _ _ hlt
 refine ⟨k1,⟨?_,k2,k3,?_,?_,?_,?_,h.hB,h.below.trans k5,h.keeps.trans (k4.from _)⟩⟩
 ·refine (hkb B (fun g hg e => ?_) (by omega) (by have:=h.sz; have:=h.hB; omega)).trans h.b5
  subst e
  exact h.b5.not_row (by decide) h.own hg.symm
 ·exact (hkb kb (fun g hg => (h.blk g hg).1) (by have:=h.hB; omega) (by have:=h.sz; omega)).trans h.box
 ·exact (hkb (kb + 1) (fun g hg => (h.blk g hg).2) (by have:=h.hB; omega) (by have:=h.sz; omega)).trans h.bx
 ·intro g hg
  rcases hat with e | e
  ·exact h.blk g (by rw [← e]; exact hg)
  ·rw [e] at hg
   have:=h.sz
   simp only [World.size_alloc,Option.some.injEq] at hg
   omega
 ·have:=k5.size; have:=h.sz; omega
theorem St.setX {B kb : Nat} {bo : Obj} {wr W3 : World} {D : Nat} {m : Int} {W : World} {v : Value} {out : List (Int × Int)} {x y : Int} (h : St B kb bo wr W3 D m W v out x y) (x' : Int) :
 St B kb bo wr W3 D m (W.setCell ⟨kb + 1,0,none⟩ (.int .i64 x')) v out x' y:=by
 have ho : ∀ j,j ≠ kb + 1 → (W.setCell ⟨kb + 1,0,none⟩ (.int .i64 x')).heap[j]? = W.heap[j]?:=fun j hj => Below.heap_setCell _ _ _ _ hj
 have hz : (W.setCell ⟨kb + 1,0,none⟩ (.int .i64 x')).heap.size = W.heap.size:=World.size_setCell _ _ _
 have:=h.hB
 refine ⟨(ho B (by omega)).trans h.b5,(ho (B + 1) (by omega)).trans h.b6,?_,(ho kb (by omega)).trans h.box,?_,h.blk,by rw [hz]; exact h.sz,h.hB,h.below.setCell (p:=⟨kb + 1,0,none⟩) (by show B ≤ kb + 1; omega) _,h.keeps.trans ((KeepsOthers.setCell _ _ _).from _)⟩
 ·exact h.own.kept (grownBy_setCell' W (kb + 1) _) (by
   cases hv : v.ownBlock with
   | none => exact .inl rfl
   | some g => exact .inr fun e => (h.blk g hv).2 (by injection e))
 ·obtain ⟨hlt,hk⟩:=Array.getElem?_eq_some_iff.1 h.bx
  show (W.heap.modify (kb + 1) _)[kb + 1]? = _
  rw [Array.getElem?_eq_getElem (by rw [Array.size_modify]; exact hlt),Array.getElem_modify_self,hk]
  rfl
theorem cut_ok (p m : Int) (v : Value) (l : List (Int × Int)) (w : World) (hs : Segs w w.heap.size v l) (hck : z0k p l = 0) (hm0 : ¬(m < 0 ∨ z3h l < m)) :
 Calls Tryz.prog 38 #[.int .i64 p,v,.int .i64 m] w fun e W' => (∃ v',e = .returned (.tuple #[v',.int .i64 (zat l m).2]) ∧ OwnS W' w.heap.size v' (zat l m).1) ∧ Below w.heap.size w W':=by
 have h34 : Fence.wide.fn 82:=trivial
 have h19 : Fence.wide.fn 35:=trivial
 refine (callsIn_wide (n:=4)).1 ?_
 obtain ⟨i0,hi,hzz0,hzz1,hzz2⟩:=info_parts Tryz.info29
 obtain ⟨W0,hW0⟩ : ∃ W0 : World,(w.alloc (.cells #[.int .i64 m] 3)).alloc (.cells #[.slice none 0 0] 48) = W0:=⟨_,rfl⟩
 have b0 : Below w.heap.size w W0:=by rw [← hW0]; exact below2c w m
 have hz0 : W0.heap.size = w.heap.size + 2:=by rw [← hW0]; simp
 have hS0 : Hid (Segs W0 W0.heap.size v l):=(hs.below b0).mono b0.size
 have hba : Hid (Boxed W0 w.heap.size 3 (.int .i64 m)):=by rw [← hW0]; exact (Boxed.new w 3 (.int .i64 m)).alloc _
 have hbe : Hid (Boxed W0 (w.heap.size + 1) 48 (.slice none 0 0)):=by rw [← hW0]; have:=Boxed.new (w.alloc (.cells #[.int .i64 m] 3)) 48 (.slice none 0 0); rwa [World.size_alloc] at this
 have HC0:=z9y p v l W0 hS0.out
 rw [hck,z6h,if_pos rfl] at HC0
 have hl4:=z4d hck
 obtain ⟨n,hn⟩ : ∃ n,z3h l = n:=⟨_,rfl⟩
 rw [hn] at HC0 hm0
 have HC:=Jh HC0
 obtain ⟨a,cap,rfl,hm,h,hr⟩:=hs
 have HH:=Jh h
 have HR:=Jh hr
 have HN:=Jh hn
 clear h hr hck hn HC0
 have d1 : decide (m < 0) = false:=by simp; omega
 have d2 : decide (n < m) = false:=by simp; omega
 have HM0:=Jh hm0
 clear hm0
 refine callsIn_of_wp_marks Tryz.func38 rfl trivial ?_ rfl
 simp only [Tryz.ntmps38,List.size_toArray,List.length_cons,List.length_nil,Nat.reduceAdd,Nat.reduceSub,Array.replicate_succ,Array.replicate_zero,List.push_toArray,List.append_toArray,List.nil_append,List.cons_append]
 gi_wp2_with fail
 refine (callsIn_wide.2 HC.out).mono ?_
 rintro e w1 ⟨rfl,hb1⟩
 have hba1 : Boxed w1 w.heap.size 3 (.int .i64 m):=(hb1.block _ (by omega)).trans hba.out
 have hbe1 : Boxed w1 (w.heap.size + 1) 48 (.slice none 0 0):=(hb1.block _ (by omega)).trans hbe.out
 have e0:=hba1.cell
 have HW0:=Jh hW0
 clear hW0
 gi_wp2_with fail
 refine (zaw Fence.wide 3 trivial rfl _ _ _ _).mono ?_
 rintro e w2 ⟨rfl,rfl⟩
 gi_wp2_with fail
 obtain ⟨X,hX⟩ : ∃ X : World,w1.alloc (.cells #[.slice a l.length cap] 48) = X:=⟨_,rfl⟩
 have hz1 : W0.heap.size ≤ w1.heap.size:=hb1.size
 have zX : X.heap.size = w1.heap.size + 1:=by rw [← hX]; simp
 have bX : Below w.heap.size w X:=by rw [← hX]; exact (b0.trans (hb1.mono (by omega))).alloc (by omega) _
 have x5 : Boxed X w.heap.size 3 (.int .i64 m):=by rw [← hX]; exact hba1.alloc _
 have x6 : Boxed X (w.heap.size + 1) 48 (.slice none 0 0):=by rw [← hX]; exact hbe1.alloc _
 have bsX : X.cell? ⟨w1.heap.size,0,none⟩ = some (.slice a l.length cap):=by rw [← hX]; simp [World.cell?_alloc_at]
 have SX : Segs X w.heap.size (.slice a l.length cap) l:=segs_intro hm HH.out HR.out bX
 rw [hX]
 have HX:=Jh hX
 clear hX e0
 refine rangeBegins trivial rfl (by omega) w1.heap.size w.heap.size _ l rfl rfl bsX (by omega) SX (by omega)
  (fun k W => Boxed W w.heap.size 3 (.int .i64 m) ∧ (∃ v,Boxed W (w.heap.size + 1) 48 v ∧ W.ownsRow w.heap.size 29 2 v (z2c m l k).length (z3k (z2c m l k)) ∧ True) ∧ Below w.heap.size w W ∧ X.heap.size ≤ W.heap.size)
  (OwnFrom.and (Own.from (boxed_own _ _ _) _) (OwnFrom.and (Own.from (holdsRow_own _ _ _ _ _ _ _ _) _) (OwnFrom.and (ownFrom_below (Nat.le_refl _) (by omega)) (z5k _ _))))
  ⟨x5,⟨_,x6,World.ownsRow_nil _ _ _ _,trivial⟩,bX,Nat.le_refl _⟩ ?round ?done
 case round =>
  rintro lp k wr hlp hk ⟨h5,⟨v,h6,hown,_⟩,hB,hsz⟩ hlw
  have hT:=z4p m l k
  obtain ⟨x,hx⟩ : ∃ x,z2z l k = x:=⟨_,rfl⟩
  obtain ⟨ax,yx,zx⟩:=x
  simp only [z7e,hx,z4j]
  rw [hx] at hT
  have HT:=Jh hT
  clear hT hx
  gi_wp2
  refine ⟨(KeepsOthers.alloc _ _).from _,?_⟩
  intro r o' hl
  obtain ⟨W3,hW3⟩ : ∃ W3 : World,((wr.alloc (.cells #[.int .i64 yx,.int .u8 zx] 29)).alloc (.cells #[.int .i64 yx,.int .u8 zx] 29)).putObj lp (.loop o') = W3:=⟨_,rfl⟩
  have hz3 : wr.heap.size + 2 ≤ W3.heap.size:=by
   have:=((Below.refl 0 wr).alloc (Nat.zero_le _) (.cells #[.int .i64 yx,.int .u8 zx] 29)).alloc (Nat.zero_le _) (.cells #[.int .i64 yx,.int .u8 zx] 29)
   have h2:=(belowK_b (w:=X) (n₀:=0) (Nat.zero_le _) _ lp _ (.loop o') (by omega) hl rfl rfl).size
   rw [hW3] at h2
   simpa using h2
  have hS : St w.heap.size wr.heap.size (.cells #[.int .i64 yx,.int .u8 zx] 29) wr W3 X.heap.size m W3 v (z2c m l k) yx zx:=by
   refine ⟨?_,?_,?_,?_,?_,?_,hz3,by omega,?_,KeepsFrom.refl _ _⟩
   ·rw [← hW3]; exact z27 ((h5.alloc _).alloc _) hl rfl _
   ·rw [← hW3]; exact z27 ((h6.alloc _).alloc _) hl rfl _
   ·rw [← hW3]; exact ownsRow_putObj ((hown.alloc _).alloc _) _ hl rfl
   ·rw [← hW3]
    refine (World.putObj_heap_other (by omega)).trans ((Jb _ _ _ (by simp)).trans (World.alloc_heap_new wr _))
   ·rw [← hW3]
    refine (World.putObj_heap_other (by omega)).trans ?_
    simpa using World.alloc_heap_new (wr.alloc (.cells #[.int .i64 yx,.int .u8 zx] 29)) (.cells #[.int .i64 yx,.int .u8 zx] 29)
   ·intro g hg
    have:=(World.ownsRow.lt hown g hg).2
    omega
   ·rw [← hW3]
    exact (((Below.refl _ wr).alloc (by omega) _).alloc (by simp; omega) _).trans (belowK_b (w:=X) (by omega) _ lp _ _ (by omega) hl rfl rfl)
  rw [hW3]
  have hol:=z5v m l k
  have HS:=Jh hS
  have e5:=hS.b5.cell
  have e6:=hS.b6.cell
  have e7:=hS.b6.frozen
  have g0:=hS.bx.c0
  have g1:=hS.bx.c1
  clear hW3 hl hS h5 h6 hown
  by_cases hcut : ax < m ∧ m < wrap64 (ax + yx)
  ·have HE : Hid (z2c m l (k + 1) = z2c m l k ++ [(wrap64 (m - ax),zx)] ++ [(wrap64 (yx - wrap64 (m - ax)),zx)]):=by rw [Hid,HT.out,z5w,if_pos hcut]
   have d3 : decide (ax < m) = true:=by simpa using hcut.1
   have d4 : decide (m < wrap64 (ax + yx)) = true:=by simpa using hcut.2
   clear hcut
   have tokA : Hid (0 = 0):=rfl
   gi_wp2_with (first | (gi_at_builtin; have _t:=tokA; refine wpListIn_append_own_at _ rfl _ _ 48 rfl w.heap.size 29 i0 _ 2 16 Tryz.underlying48 hi hzz0 hzz1 hzz2 rfl (by decide) _ _ _ rfl (World.ownsRow.alloc HS.out.own _) _ 1 1 [.int .i64 (wrap64 (m - ax)),.int .u8 zx] rfl rfl (z2a _ _ _ _) (by intro u hu; simp at hu; rcases hu with rfl | rfl <;> rfl) (by simp only [maxLen]; omega) (by omega) (by have:=HS.out.sz; have:=HS.out.hB; simp; omega) ?_; intro v' w4 hown' hgrow hnil hat; obtain ⟨g',cap',rfl⟩:=ownsRow_succ hown'; obtain ⟨hv1,hS4⟩:=HS.out.append (s:=(wrap64 (m - ax),zx)) hown' hgrow hat; have q1:=hv1.cell; have q2:=hv1.frozen; obtain ⟨W5,hW5⟩ : ∃ W5 : World,w4.setCell ⟨w.heap.size + 1,0,none⟩ (.slice (some ⟨g',0,none⟩) ((z2c m l k).length + 1) cap') = W5:=⟨_,rfl⟩; rw [hW5] at hS4; obtain ⟨W6,hW6⟩ : ∃ W6 : World,W5.setCell ⟨wr.heap.size + 1,0,none⟩ (.int .i64 (wrap64 (yx - wrap64 (m - ax)))) = W6:=⟨_,rfl⟩; have hS6:=hS4.setX (wrap64 (yx - wrap64 (m - ax))); rw [hW6] at hS6; have r5:=hS4.b5.cell; have r0:=hS4.bx.c0; have r1:=hS4.bx.c1; have r2:=Seg1.frz hS4.bx; have s6:=hS6.b6.cell; have s7:=hS6.b6.frozen; have s0:=hS6.bx.c0; have s1:=hS6.bx.c1; have HS6:=Jh hS6; have tokB : Hid (0 = 0):=rfl; clear tokA hS4 hS6 hv1 hown' hgrow hnil hat) | (gi_at_builtin; have _t:=tokB; refine wpListIn_append_own_at _ rfl _ _ 48 rfl w.heap.size 29 i0 _ 2 16 Tryz.underlying48 hi hzz0 hzz1 hzz2 rfl (by decide) _ _ _ rfl (World.ownsRow.alloc HS6.out.own _) _ 1 1 [.int .i64 (wrap64 (yx - wrap64 (m - ax))),.int .u8 zx] rfl rfl (z2a _ _ _ _) (by intro u hu; simp at hu; rcases hu with rfl | rfl <;> rfl) (by simp only [maxLen,List.length_append,List.length_cons,List.length_nil]; omega) (by simp only [List.length_append,List.length_cons,List.length_nil]; omega) (by have:=HS6.out.sz; have:=HS6.out.hB; simp; omega) ?_; intro v'' w7 hown' hgrow hnil hat; obtain ⟨g'',cap'',rfl⟩:=ownsRow_succ hown'; obtain ⟨hv1,hS4⟩:=HS6.out.append (s:=(wrap64 (yx - wrap64 (m - ax)),zx)) hown' hgrow hat; have q1:=hv1.cell; have q2:=hv1.frozen; have HS4:=Jh hS4; clear tokB hS4 hv1 hown' hgrow hnil hat))
   have hd:=HS4.out
   have hlen : (z2c m l k ++ [(wrap64 (m - ax),zx)]).length = (z2c m l k).length + 1:=by simp
   rw [hlen] at hd
   refine ⟨by rw [← zX]; exact hd.keeps,⟨hd.b5,⟨_,hd.b6,by rw [HE.out]; exact hd.own⟩,hB.trans hd.below,by have:=hd.sz; simp at this ⊢; omega⟩,hd.below,hd.box⟩
  ·have HE : Hid (z2c m l (k + 1) = z2c m l k ++ [(yx,zx)]):=by rw [Hid,HT.out,z5w,if_neg hcut]
   by_cases c1 : ax < m
   ·have d3 : decide (ax < m) = true:=by simpa using c1
    have d4 : decide (m < wrap64 (ax + yx)) = false:=by simp; omega
    clear hcut c1
    gi_wp2_with (gi_at_builtin; refine wpListIn_append_own_at _ rfl _ _ 48 rfl w.heap.size 29 i0 _ 2 16 Tryz.underlying48 hi hzz0 hzz1 hzz2 rfl (by decide) _ _ _ rfl (World.ownsRow.alloc HS.out.own _) _ 1 1 [.int .i64 (yx),.int .u8 zx] rfl rfl (z2a _ _ _ _) (by intro u hu; simp at hu; rcases hu with rfl | rfl <;> rfl) (by simp only [maxLen]; omega) (by omega) (by have:=HS.out.sz; have:=HS.out.hB; simp; omega) ?_; intro v' w4 hown' hgrow hnil hat; obtain ⟨g',cap',rfl⟩:=ownsRow_succ hown'; obtain ⟨hv1,hS4⟩:=HS.out.append (s:=(yx,zx)) hown' hgrow hat; have q1:=hv1.cell; have q2:=hv1.frozen; have HS4:=Jh hS4; clear hS4 hv1 hown' hgrow hnil hat)
    have hd:=HS4.out
    refine ⟨by rw [← zX]; exact hd.keeps,⟨hd.b5,⟨_,hd.b6,by rw [HE.out]; exact hd.own⟩,hB.trans hd.below,by have:=hd.sz; simp at this ⊢; omega⟩,hd.below,hd.box⟩
   ·have d3 : decide (ax < m) = false:=by simpa using c1
    clear hcut c1
    gi_wp2_with (gi_at_builtin; refine wpListIn_append_own_at _ rfl _ _ 48 rfl w.heap.size 29 i0 _ 2 16 Tryz.underlying48 hi hzz0 hzz1 hzz2 rfl (by decide) _ _ _ rfl (World.ownsRow.alloc HS.out.own _) _ 1 1 [.int .i64 (yx),.int .u8 zx] rfl rfl (z2a _ _ _ _) (by intro u hu; simp at hu; rcases hu with rfl | rfl <;> rfl) (by simp only [maxLen]; omega) (by omega) (by have:=HS.out.sz; have:=HS.out.hB; simp; omega) ?_; intro v' w4 hown' hgrow hnil hat; obtain ⟨g',cap',rfl⟩:=ownsRow_succ hown'; obtain ⟨hv1,hS4⟩:=HS.out.append (s:=(yx,zx)) hown' hgrow hat; have q1:=hv1.cell; have q2:=hv1.frozen; have HS4:=Jh hS4; clear hS4 hv1 hown' hgrow hnil hat)
    have hd:=HS4.out
    refine ⟨by rw [← zX]; exact hd.keeps,⟨hd.b5,⟨_,hd.b6,by rw [HE.out]; exact hd.own⟩,hB.trans hd.below,by have:=hd.sz; simp at this ⊢; omega⟩,hd.below,hd.box⟩
 case done =>
  rintro D W hD ⟨h5,⟨v,h6,hown,_⟩,hB,hsz⟩ hK
  have hvs : ∃ va vc,v = .slice va (z2c m l l.length).length vc:=OwnS.shape hown
  obtain ⟨va,vc,rfl⟩:=hvs
  have e6:=h6.cell
  have e7:=h6.frozen
  have hne : some (w.heap.size + 1) ≠ (Value.slice va (z2c m l l.length).length vc).ownBlock:=h6.not_row (by decide) hown
  by_cases hlong : 1024 < (z2c m l l.length).length
  ·have d3 : decide (1024 < ((z2c m l l.length).length : Int)) = true:=by simp; omega
   have HE : Hid (zat l m = ([],4)):=by rw [Hid,zat,HN.out,if_neg HM0.out,if_pos hlong]
   clear hlong
   gi_wp2
   have hK2:=(KeepsOthers.setCell W ⟨w.heap.size + 1,0,none⟩ (.slice none 0 0)).same D _ hK rfl
   refine ⟨by simp,.inl ⟨_,_,rfl,run_takeDeferred hK2,?_⟩⟩
   refine ⟨_,z11 rfl rfl rfl (Tryz.isAgg48 _) (z27 (h6.set (.slice none 0 0)) hK2 rfl _).cell,⟨_,by rw [HE.out]; rfl,?_⟩,?_⟩
   ·rw [HE.out]; exact World.ownsRow_nil _ _ _ _
   ·exact (hB.setCell (p:=⟨w.heap.size + 1,0,none⟩) (by simp) _).trans (belowK_b (w:=w) (Nat.le_refl _) _ D _ _ (by omega) hK2 rfl rfl)
  ·have d3 : decide (1024 < ((z2c m l l.length).length : Int)) = false:=by simp; omega
   have HE : Hid (zat l m = (z2c m l l.length,0)):=by rw [Hid,zat,HN.out,if_neg HM0.out,if_neg hlong]
   clear hlong
   gi_wp2
   have hK2:=(KeepsOthers.setCell W ⟨w.heap.size + 1,0,none⟩ (.slice va (z2c m l l.length).length vc)).same D _ hK rfl
   refine ⟨by simp,.inl ⟨_,_,rfl,run_takeDeferred hK2,?_⟩⟩
   refine ⟨_,z11 rfl rfl rfl (Tryz.isAgg48 _) (z27 (h6.set (.slice va (z2c m l l.length).length vc)) hK2 rfl _).cell,⟨_,by rw [HE.out]; rfl,?_⟩,?_⟩
   ·rw [HE.out]
    exact ownsRow_putObj (hown.kept (grownBy_setCell' W (w.heap.size + 1) _) (.inr hne.symm)) _ hK2 rfl
   ·exact (hB.setCell (p:=⟨w.heap.size + 1,0,none⟩) (by simp) _).trans (belowK_b (w:=w) (Nat.le_refl _) _ D _ _ (by omega) hK2 rfl rfl)
def cutA (c : Int) (l : List (Int × Int)) (m : Int) : List (Int × Int) × Int:=if c = 0 then zat l m else ([],c)
theorem cut_any (p m : Int) (v : Value) (l : List (Int × Int)) (w : World) (hs : Segs w w.heap.size v l) :
 Calls Tryz.prog 38 #[.int .i64 p,v,.int .i64 m] w fun e W' => (∃ v',e = .returned (.tuple #[v',.int .i64 (cutA (z0k p l) l m).2]) ∧ OwnS W' w.heap.size v' (cutA (z0k p l) l m).1) ∧ Below w.heap.size w W':=by
 by_cases hc : z0k p l = 0
 ·rw [cutA,if_pos hc]
  by_cases hm0 : m < 0 ∨ z3h l < m
  ·refine (cut_arg p m v l w hs hc hm0).mono ?_
   rintro e W' ⟨he,hb⟩
   rw [zat,if_pos hm0]
   exact ⟨⟨_,he,World.ownsRow_nil _ _ _ _⟩,hb⟩
  ·exact cut_ok p m v l w hs hc hm0
 ·refine (cut_err p m v l w hs hc).mono ?_
  rintro e W' ⟨he,hb⟩
  rw [cutA,if_neg hc]
  exact ⟨⟨_,he,World.ownsRow_nil _ _ _ _⟩,hb⟩
end Go.Proofs.YtockinpjfhhkoaaGreatDoor
